/- append of a whole slice of elements of several cells. Plain laws, over any program. No statement is proved here. -/
import Derived.Test.YteeodeooicoekaaOwnK
namespace Go.Proofs.Yteeodeooicoekaa.App
open Go.RowKit Go.Proofs.Yteeodeooicoekaa.Mem Go.Proofs.Yteeodeooicoekaa.Open Go.Proofs.Yteeodeooicoekaa.Kind
set_option linter.unusedVariables false
section
variable {α : Type} {k : Kd α} {P : Program} {w w' : World} {S : Nat → Prop} {B : Nat} {E : TypeId} {v : Value} {xs ys : List α} {A : Option Addr} {n m c : Nat}
theorem rw_rows (h : Rw k w S A n xs) (hpos : 0 < k.sz) : ∃ rows : List (List Value), rows.length = xs.length ∧ (∀ (i : Nat) (x : α), xs[i]? = some x → ∃ cs, rows[i]? = some cs ∧ k.K w S x cs) ∧
    ∀ g o, A = some ⟨g, o, none⟩ → ∀ (j : Nat) (u : Value), rows.flatten[j]? = some u → w.cell? ⟨g, o + j, none⟩ = some u := by
  have hn := h.1
  rcases h.2.2 with h0 | ⟨g, o, hA, _, _, hc⟩
  · have : xs = [] := List.eq_nil_of_length_eq_zero (by omega)
    subst this
    exact ⟨[], rfl, fun i x hx => by simp at hx, fun _ _ _ j u hu => by simp at hu⟩
  · have hex : ∀ i : Nat, ∃ cs, ∀ x, xs[i]? = some x → k.K w S x cs ∧ ∀ j v, cs[j]? = some v → w.cell? ⟨g, o + i * k.sz + j, none⟩ = some v := fun i => by
      cases hx : xs[i]? with
      | none => exact ⟨[], fun x h => by cases h⟩
      | some x =>
        obtain ⟨cs, h1, h2⟩ := hc i x hx
        exact ⟨cs, fun y hy => by injection hy with hy; subst hy; exact ⟨h1, h2⟩⟩
    have hrow : ∀ i x, xs[i]? = some x → ((List.range xs.length).map fun i => Classical.choose (hex i))[i]? = some (Classical.choose (hex i)) := fun i x hx => by
      have hi := (List.getElem?_eq_some_iff.1 hx).1
      rw [List.getElem?_map, List.getElem?_range hi]
      rfl
    have hsz : ∀ r ∈ (List.range xs.length).map fun i => Classical.choose (hex i), r.length = k.sz := fun r hr => by
      obtain ⟨i, hi, rfl⟩ := List.mem_map.1 hr
      rw [List.mem_range] at hi
      exact k.len (Classical.choose_spec (hex i) _ (List.getElem?_eq_getElem hi)).1
    refine ⟨(List.range xs.length).map fun i => Classical.choose (hex i), by simp, fun i x hx => ⟨_, hrow i x hx, (Classical.choose_spec (hex i) x hx).1⟩, fun g' o' hA' j u hu => ?_⟩
    rw [hA] at hA'
    injection hA' with hA'; injection hA' with e1 e2; subst e1 e2
    have hlen : ((List.range xs.length).map fun i => Classical.choose (hex i)).flatten.length = xs.length * k.sz := by
      generalize hq : ((List.range xs.length).map fun i => Classical.choose (hex i)) = rows at hsz
      have hl : rows.length = xs.length := by rw [← hq]; simp
      rw [← hl]
      clear hq hl hu hrow
      induction rows with
      | nil => simp
      | cons r rows ih => rw [List.flatten_cons, List.length_append, ih (fun r' h' => hsz r' (List.mem_cons_of_mem _ h')), hsz r List.mem_cons_self, List.length_cons, Nat.succ_mul, Nat.add_comm]
    have hj := (List.getElem?_eq_some_iff.1 hu).1
    rw [hlen] at hj
    have hdm := Nat.div_add_mod j k.sz
    have hi : j / k.sz < xs.length := Nat.div_lt_of_lt_mul (by rw [Nat.mul_comm]; exact hj)
    have hr : j % k.sz < k.sz := Nat.mod_lt _ hpos
    obtain ⟨s1, s2⟩ := Classical.choose_spec (hex (j / k.sz)) _ (List.getElem?_eq_getElem hi)
    obtain ⟨z, hz⟩ : ∃ z, (Classical.choose (hex (j / k.sz)))[j % k.sz]? = some z := ⟨_, List.getElem?_eq_getElem (by rw [k.len s1]; exact hr)⟩
    have hfg := flat_get hsz (j / k.sz) _ (j % k.sz) z (hrow _ _ (List.getElem?_eq_getElem hi)) hz
    have hjj : j / k.sz * k.sz + j % k.sz = j := by rw [Nat.mul_comm]; exact hdm
    rw [hjj, hu] at hfg
    injection hfg with hfg
    subst hfg
    have := s2 _ _ hz
    rwa [show o + j / k.sz * k.sz + j % k.sz = o + j from by omega] at this
theorem flat_len {rows : List (List Value)} {sz : Nat} (h : ∀ r ∈ rows, r.length = sz) : rows.flatten.length = rows.length * sz := by
  induction rows with
  | nil => simp
  | cons r rows ih => rw [List.flatten_cons, List.length_append, ih (fun r' h' => h r' (List.mem_cons_of_mem _ h')), h r List.mem_cons_self, List.length_cons, Nat.succ_mul, Nat.add_comm]
theorem run_appKs (t ty : TypeId) (z : Value) (bytes : Nat) (ht : P.underlying t = some (.slice E)) (hi : (P.info? E).map (fun i => (i.zero, i.size, i.bytes)) = some (some z, k.sz, bytes)) (hzs : z.cells.size = k.sz) (hsz : 0 < k.sz)
    (hown : OwnK k w B E v xs) (g o c : Nat) (hys : Rw k w (fun b => some b ≠ v.ownBlock ∧ b < w.heap.size) (some ⟨g, o, none⟩) ys.length ys)
    (hbytes : (xs.length + ys.length) * bytes ≤ 140737488355328) (h63 : xs.length + ys.length ≤ 9223372036854775807) (hB : B ≤ w.heap.size) :
    ∃ v' w', (Builtin.append_ #[t, t] ty #[v, .slice (some ⟨g, o, none⟩) ys.length c]).run P w = .ok v' w' ∧ OwnK k w' B E v' (xs ++ ys) ∧ w.grownBy w' v.ownBlock ∧ (v'.ownBlock = v.ownBlock ∨ v'.ownBlock = some w.heap.size) := by
  obtain ⟨i0, hi, hz, hz1, hz2⟩ := info_parts hi
  obtain ⟨rows, h1, h2, h3⟩ := hown
  obtain ⟨rs, r1, r2, r3⟩ := rw_rows hys hsz
  have hrs := OwnK.rows_len r1 r2
  obtain ⟨v', w', hr, q2, q3, _, q5⟩ := run_append_own_at (P := P) w B t ty E i0 z k.sz bytes ht hi hz hz1 hz2 hzs hsz v xs.length rows.flatten h3 ⟨g, o, none⟩ ys.length c rs.flatten (by rw [flat_len hrs, r1])
    (fun j u hu => by rw [addr_add]; exact r3 g o rfl j u hu) (fun u hu => by
      obtain ⟨r, hr, hur⟩ := List.mem_flatten.1 hu
      obtain ⟨i, hi, rfl⟩ := List.mem_iff_getElem.1 hr
      obtain ⟨cs, c1, c2⟩ := r2 i ys[i] (List.getElem?_eq_getElem (by omega))
      rw [List.getElem?_eq_getElem hi] at c1
      injection c1 with c1
      exact k.one c2 u (by rw [← c1]; exact hur)) (by simp only [maxLen]; omega) hbytes hB
  have conv : ∀ (y : α) (ds : List Value), k.K w (fun b => some b ≠ v.ownBlock ∧ b < w.heap.size) y ds → k.K w' (fun b => some b ≠ v'.ownBlock ∧ b < w'.heap.size) y ds := fun y ds hd =>
    k.mono (fun b hb => ⟨(by rcases q5 with e | e <;> rw [e] <;> first | exact hb.1 | (simp; omega)), Nat.lt_of_lt_of_le hb.2 q3.size⟩) (k.stay (fun b hb => q3.block b hb.2 hb.1) hd)
  refine ⟨v', w', hr, ⟨rows ++ rs, by simp [h1, r1], fun i y hy => ?_, ?_⟩, q3, q5⟩
  · by_cases hi : i < xs.length
    · rw [List.getElem?_append_left hi] at hy
      obtain ⟨ds, d1, d2⟩ := h2 i y hy
      exact ⟨ds, by rw [List.getElem?_append_left (by omega)]; exact d1, conv y ds d2⟩
    · rw [List.getElem?_append_right (by omega)] at hy
      obtain ⟨ds, d1, d2⟩ := r2 _ y hy
      exact ⟨ds, by rw [List.getElem?_append_right (by omega), h1]; exact d1, conv y ds d2⟩
  · rw [List.flatten_append, List.length_append]
    exact q2
theorem wp_appKs {o : Oper} {a : Act} {K : Act → World → Prop} {Q : Exit → Act → World → Prop} (s x : Operand) (t : TypeId) (ho : o.op = .call { callee := .builtin .append, args := #[s, x], argTypes := #[t, t] })
    (z : Value) (bytes : Nat) (ht : P.underlying t = some (.slice E)) (hi : (P.info? E).map (fun i => (i.zero, i.size, i.bytes)) = some (some z, k.sz, bytes)) (hzs : z.cells.size = k.sz) (hsz : 0 < k.sz)
    (hs : a.eval s = v) (g q c : Nat) (hxv : a.eval x = .slice (some ⟨g, q, none⟩) ys.length c) (hown : OwnK k w B E v xs) (hys : Rw k w (fun b => some b ≠ v.ownBlock ∧ b < w.heap.size) (some ⟨g, q, none⟩) ys.length ys)
    (hbytes : (xs.length + ys.length) * bytes ≤ 140737488355328) (h63 : xs.length + ys.length ≤ 9223372036854775807) (hB : B ≤ w.heap.size)
    (h : ∀ v' w', OwnK k w' B E v' (xs ++ ys) → w.grownBy w' v.ownBlock → (v'.ownBlock = v.ownBlock ∨ v'.ownBlock = some w.heap.size) → K (a.put o.dst v') w') : o.wp P a w K Q := by
  obtain ⟨v', w', hrun, h2, h3, h4⟩ := run_appKs (P := P) t o.type z bytes ht hi hzs hsz hown g q c hys hbytes h63 hB
  unfold Oper.wp execOp
  simp only [ho, resolve, invoke, builtin, Sem.run_bind, Sem.run_pure, Result.andThen_ok, List.map_toArray, List.map_cons, List.map_nil, hs, hxv, hrun]
  exact h v' w' h2 h3 h4
theorem wpList_appKs {ops : Array Oper} {rest : List Oper} {o : Oper} {a : Act} {Q : Exit → Act → World → Prop} (hgd : o.guard = none) (s x : Operand) (t : TypeId) (ho : o.op = .call { callee := .builtin .append, args := #[s, x], argTypes := #[t, t] })
    (z : Value) (bytes : Nat) (ht : P.underlying t = some (.slice E)) (hi : (P.info? E).map (fun i => (i.zero, i.size, i.bytes)) = some (some z, k.sz, bytes)) (hzs : z.cells.size = k.sz) (hsz : 0 < k.sz)
    (hs : a.eval s = v) (g q c : Nat) (hxv : a.eval x = .slice (some ⟨g, q, none⟩) ys.length c) (hown : OwnK k w B E v xs) (hys : Rw k w (fun b => some b ≠ v.ownBlock ∧ b < w.heap.size) (some ⟨g, q, none⟩) ys.length ys)
    (hbytes : (xs.length + ys.length) * bytes ≤ 140737488355328) (h63 : xs.length + ys.length ≤ 9223372036854775807) (hB : B ≤ w.heap.size)
    (h : ∀ v' w', OwnK k w' B E v' (xs ++ ys) → w.grownBy w' v.ownBlock → (v'.ownBlock = v.ownBlock ∨ v'.ownBlock = some w.heap.size) → wpList P ops Q rest (a.put o.dst v') w') : wpList P ops Q (o :: rest) a w :=
  wpList_plain hgd fun _ hK => wp_appKs s x t ho z bytes ht hi hzs hsz hs g q c hxv hown hys hbytes h63 hB fun v' w' h2 h3 h4 => hK _ _ (h v' w' h2 h3 h4)
theorem ownK_empty (k : Kd α) (hB : B ≤ w.heap.size) : OwnK k (w.alloc (.cells #[] E)) B E (.slice (some ⟨w.heap.size, 0, none⟩) 0 0) ([] : List α) :=
  ⟨[], rfl, fun i x h => by simp at h, by simp, .inr ⟨w.heap.size, 0, #[], rfl, hB, heap_alloc_new w _, by simp, by simp, by simp, by simp⟩⟩
end
end Go.Proofs.Yteeodeooicoekaa.App
