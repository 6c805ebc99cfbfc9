/- Laws and contracts of several chapters, laid in one text. No statement is proved here. -/
import Derived.Test.YtbamhiegabeicaaGreatOwnK
import Derived.Great.BuildSlice
import Derived.ArgAppend
/- append of a whole slice of elements of several cells. Plain laws, over any program. No statement is proved here. -/
namespace Go.Proofs.YtbamhiegabeicaaGreat.App
open Go.RowKit Go.Proofs.YtbamhiegabeicaaGreat.Mem Go.Proofs.YtbamhiegabeicaaGreat.Open Go.Proofs.YtbamhiegabeicaaGreat.Kind
set_option linter.unusedVariables false
section
variable {α : Type} {k : Kd α} {P : Program} {w w' : World} {S : Nat → Prop} {B : Nat} {E : TypeId} {v : Value} {xs ys : List α} {A : Option Addr} {n m c : Nat}
theorem rw_rows (h : Rw k w S A n xs) (hpos : 0 < k.sz) : ∃ rows : List (List Value), rows.length = xs.length ∧ (∀ (i : Nat) (x : α), xs[i]? = some x → ∃ cs, rows[i]? = some cs ∧ k.K w S x cs) ∧
    ∀ g o, A = some ⟨g, o, none⟩ → ∀ (j : Nat) (u : Value), rows.flatten[j]? = some u → w.cell? ⟨g, o + j, none⟩ = some u := by
  have hn := h.1
  rcases h.2.2 with h0 | ⟨g, o, hA, _, _, hc⟩
  · have : xs = [] := List.eq_nil_of_length_eq_zero (by omega)
    subst this
    exact ⟨[], rfl, fun i x hx => by simp at hx, fun _ _ _ j u hu => by simp at hu⟩
  · have hex : ∀ i : Nat, ∃ cs, ∀ x, xs[i]? = some x → k.K w S x cs ∧ ∀ j v, cs[j]? = some v → w.cell? ⟨g, o + i * k.sz + j, none⟩ = some v := fun i => by
      cases hx : xs[i]? with
      | none => exact ⟨[], fun x h => by cases h⟩
      | some x =>
        obtain ⟨cs, h1, h2⟩ := hc i x hx
        exact ⟨cs, fun y hy => by injection hy with hy; subst hy; exact ⟨h1, h2⟩⟩
    have hrow : ∀ i x, xs[i]? = some x → ((List.range xs.length).map fun i => Classical.choose (hex i))[i]? = some (Classical.choose (hex i)) := fun i x hx => by
      have hi := (List.getElem?_eq_some_iff.1 hx).1
      rw [List.getElem?_map, List.getElem?_range hi]
      rfl
    have hsz : ∀ r ∈ (List.range xs.length).map fun i => Classical.choose (hex i), r.length = k.sz := fun r hr => by
      obtain ⟨i, hi, rfl⟩ := List.mem_map.1 hr
      rw [List.mem_range] at hi
      exact k.len (Classical.choose_spec (hex i) _ (List.getElem?_eq_getElem hi)).1
    refine ⟨(List.range xs.length).map fun i => Classical.choose (hex i), by simp, fun i x hx => ⟨_, hrow i x hx, (Classical.choose_spec (hex i) x hx).1⟩, fun g' o' hA' j u hu => ?_⟩
    rw [hA] at hA'
    injection hA' with hA'; injection hA' with e1 e2; subst e1 e2
    have hlen : ((List.range xs.length).map fun i => Classical.choose (hex i)).flatten.length = xs.length * k.sz := by
      generalize hq : ((List.range xs.length).map fun i => Classical.choose (hex i)) = rows at hsz
      have hl : rows.length = xs.length := by rw [← hq]; simp
      rw [← hl]
      clear hq hl hu hrow
      induction rows with
      | nil => simp
      | cons r rows ih => rw [List.flatten_cons, List.length_append, ih (fun r' h' => hsz r' (List.mem_cons_of_mem _ h')), hsz r List.mem_cons_self, List.length_cons, Nat.succ_mul, Nat.add_comm]
    have hj := (List.getElem?_eq_some_iff.1 hu).1
    rw [hlen] at hj
    have hdm := Nat.div_add_mod j k.sz
    have hi : j / k.sz < xs.length := Nat.div_lt_of_lt_mul (by rw [Nat.mul_comm]; exact hj)
    have hr : j % k.sz < k.sz := Nat.mod_lt _ hpos
    obtain ⟨s1, s2⟩ := Classical.choose_spec (hex (j / k.sz)) _ (List.getElem?_eq_getElem hi)
    obtain ⟨z, hz⟩ : ∃ z, (Classical.choose (hex (j / k.sz)))[j % k.sz]? = some z := ⟨_, List.getElem?_eq_getElem (by rw [k.len s1]; exact hr)⟩
    have hfg := flat_get hsz (j / k.sz) _ (j % k.sz) z (hrow _ _ (List.getElem?_eq_getElem hi)) hz
    have hjj : j / k.sz * k.sz + j % k.sz = j := by rw [Nat.mul_comm]; exact hdm
    rw [hjj, hu] at hfg
    injection hfg with hfg
    subst hfg
    have := s2 _ _ hz
    rwa [show o + j / k.sz * k.sz + j % k.sz = o + j from by omega] at this
theorem flat_len {rows : List (List Value)} {sz : Nat} (h : ∀ r ∈ rows, r.length = sz) : rows.flatten.length = rows.length * sz := by
  induction rows with
  | nil => simp
  | cons r rows ih => rw [List.flatten_cons, List.length_append, ih (fun r' h' => h r' (List.mem_cons_of_mem _ h')), h r List.mem_cons_self, List.length_cons, Nat.succ_mul, Nat.add_comm]
theorem run_appKs (t ty : TypeId) (z : Value) (bytes : Nat) (ht : P.underlying t = some (.slice E)) (hi : (P.info? E).map (fun i => (i.zero, i.size, i.bytes)) = some (some z, k.sz, bytes)) (hzs : z.cells.size = k.sz) (hsz : 0 < k.sz)
    (hown : OwnK k w B E v xs) (g o c : Nat) (hys : Rw k w (fun b => some b ≠ v.ownBlock ∧ b < w.heap.size) (some ⟨g, o, none⟩) ys.length ys)
    (hbytes : (xs.length + ys.length) * bytes ≤ 140737488355328) (h63 : xs.length + ys.length ≤ 9223372036854775807) (hB : B ≤ w.heap.size) :
    ∃ v' w', (Builtin.append_ #[t, t] ty #[v, .slice (some ⟨g, o, none⟩) ys.length c]).run P w = .ok v' w' ∧ OwnK k w' B E v' (xs ++ ys) ∧ w.grownBy w' v.ownBlock ∧ (v'.ownBlock = v.ownBlock ∨ v'.ownBlock = some w.heap.size) := by
  obtain ⟨i0, hi, hz, hz1, hz2⟩ := info_parts hi
  obtain ⟨rows, h1, h2, h3⟩ := hown
  obtain ⟨rs, r1, r2, r3⟩ := rw_rows hys hsz
  have hrs := OwnK.rows_len r1 r2
  obtain ⟨v', w', hr, q2, q3, _, q5⟩ := run_append_own_at (P := P) w B t ty E i0 z k.sz bytes ht hi hz hz1 hz2 hzs hsz v xs.length rows.flatten h3 ⟨g, o, none⟩ ys.length c rs.flatten (by rw [flat_len hrs, r1])
    (fun j u hu => by rw [addr_add]; exact r3 g o rfl j u hu) (fun u hu => by
      obtain ⟨r, hr, hur⟩ := List.mem_flatten.1 hu
      obtain ⟨i, hi, rfl⟩ := List.mem_iff_getElem.1 hr
      obtain ⟨cs, c1, c2⟩ := r2 i ys[i] (List.getElem?_eq_getElem (by omega))
      rw [List.getElem?_eq_getElem hi] at c1
      injection c1 with c1
      exact k.one c2 u (by rw [← c1]; exact hur)) (by simp only [maxLen]; omega) hbytes hB
  have conv : ∀ (y : α) (ds : List Value), k.K w (fun b => some b ≠ v.ownBlock ∧ b < w.heap.size) y ds → k.K w' (fun b => some b ≠ v'.ownBlock ∧ b < w'.heap.size) y ds := fun y ds hd =>
    k.mono (fun b hb => ⟨(by rcases q5 with e | e <;> rw [e] <;> first | exact hb.1 | (simp; omega)), Nat.lt_of_lt_of_le hb.2 q3.size⟩) (k.stay (fun b hb => q3.block b hb.2 hb.1) hd)
  refine ⟨v', w', hr, ⟨rows ++ rs, by simp [h1, r1], fun i y hy => ?_, ?_⟩, q3, q5⟩
  · by_cases hi : i < xs.length
    · rw [List.getElem?_append_left hi] at hy
      obtain ⟨ds, d1, d2⟩ := h2 i y hy
      exact ⟨ds, by rw [List.getElem?_append_left (by omega)]; exact d1, conv y ds d2⟩
    · rw [List.getElem?_append_right (by omega)] at hy
      obtain ⟨ds, d1, d2⟩ := r2 _ y hy
      exact ⟨ds, by rw [List.getElem?_append_right (by omega), h1]; exact d1, conv y ds d2⟩
  · rw [List.flatten_append, List.length_append]
    exact q2
theorem wp_appKs {o : Oper} {a : Act} {K : Act → World → Prop} {Q : Exit → Act → World → Prop} (s x : Operand) (t : TypeId) (ho : o.op = .call { callee := .builtin .append, args := #[s, x], argTypes := #[t, t] })
    (z : Value) (bytes : Nat) (ht : P.underlying t = some (.slice E)) (hi : (P.info? E).map (fun i => (i.zero, i.size, i.bytes)) = some (some z, k.sz, bytes)) (hzs : z.cells.size = k.sz) (hsz : 0 < k.sz)
    (hs : a.eval s = v) (g q c : Nat) (hxv : a.eval x = .slice (some ⟨g, q, none⟩) ys.length c) (hown : OwnK k w B E v xs) (hys : Rw k w (fun b => some b ≠ v.ownBlock ∧ b < w.heap.size) (some ⟨g, q, none⟩) ys.length ys)
    (hbytes : (xs.length + ys.length) * bytes ≤ 140737488355328) (h63 : xs.length + ys.length ≤ 9223372036854775807) (hB : B ≤ w.heap.size)
    (h : ∀ v' w', OwnK k w' B E v' (xs ++ ys) → w.grownBy w' v.ownBlock → (v'.ownBlock = v.ownBlock ∨ v'.ownBlock = some w.heap.size) → K (a.put o.dst v') w') : o.wp P a w K Q := by
  obtain ⟨v', w', hrun, h2, h3, h4⟩ := run_appKs (P := P) t o.type z bytes ht hi hzs hsz hown g q c hys hbytes h63 hB
  unfold Oper.wp execOp
  simp only [ho, resolve, invoke, builtin, Sem.run_bind, Sem.run_pure, Result.andThen_ok, List.map_toArray, List.map_cons, List.map_nil, hs, hxv, hrun]
  exact h v' w' h2 h3 h4
theorem wpList_appKs {ops : Array Oper} {rest : List Oper} {o : Oper} {a : Act} {Q : Exit → Act → World → Prop} (hgd : o.guard = none) (s x : Operand) (t : TypeId) (ho : o.op = .call { callee := .builtin .append, args := #[s, x], argTypes := #[t, t] })
    (z : Value) (bytes : Nat) (ht : P.underlying t = some (.slice E)) (hi : (P.info? E).map (fun i => (i.zero, i.size, i.bytes)) = some (some z, k.sz, bytes)) (hzs : z.cells.size = k.sz) (hsz : 0 < k.sz)
    (hs : a.eval s = v) (g q c : Nat) (hxv : a.eval x = .slice (some ⟨g, q, none⟩) ys.length c) (hown : OwnK k w B E v xs) (hys : Rw k w (fun b => some b ≠ v.ownBlock ∧ b < w.heap.size) (some ⟨g, q, none⟩) ys.length ys)
    (hbytes : (xs.length + ys.length) * bytes ≤ 140737488355328) (h63 : xs.length + ys.length ≤ 9223372036854775807) (hB : B ≤ w.heap.size)
    (h : ∀ v' w', OwnK k w' B E v' (xs ++ ys) → w.grownBy w' v.ownBlock → (v'.ownBlock = v.ownBlock ∨ v'.ownBlock = some w.heap.size) → wpList P ops Q rest (a.put o.dst v') w') : wpList P ops Q (o :: rest) a w :=
  wpList_plain hgd fun _ hK => wp_appKs s x t ho z bytes ht hi hzs hsz hs g q c hxv hown hys hbytes h63 hB fun v' w' h2 h3 h4 => hK _ _ (h v' w' h2 h3 h4)
theorem ownK_empty (k : Kd α) (hB : B ≤ w.heap.size) : OwnK k (w.alloc (.cells #[] E)) B E (.slice (some ⟨w.heap.size, 0, none⟩) 0 0) ([] : List α) :=
  ⟨[], rfl, fun i x h => by simp at h, by simp, .inr ⟨w.heap.size, 0, #[], rfl, hB, heap_alloc_new w _, by simp, by simp, by simp, by simp⟩⟩
end
end Go.Proofs.YtbamhiegabeicaaGreat.App

/- A slice literal that is empty, or of one element; append onto an empty one. Plain laws, over any program. No statement is proved here. -/
namespace Go.Proofs.YtbamhiegabeicaaGreat.App
open Go.RowKit Go.Proofs.YtbamhiegabeicaaGreat.Mem Go.Proofs.YtbamhiegabeicaaGreat.Open Go.Proofs.YtbamhiegabeicaaGreat.Kind
set_option linter.unusedVariables false
/-- Elements that lie from a block on. -/
structure Fr {α : Type} (k : Kd α) (w : World) (B : Nat) (A : Option Addr) (xs : List α) : Prop where
  out : Rw k w (fun b => B ≤ b ∧ b < w.heap.size) A xs.length xs
section
variable {α : Type} {k : Kd α} {P : Program} {w w' : World} {B B' : Nat} {E : TypeId} {xs ys : List α} {A : Option Addr} {m c : Nat}
theorem Fr.below (h : Fr k w B A xs) (hb : Below w.heap.size w w') : Fr k w' B A xs := ⟨(h.out.stay fun b hb' => hb.block b hb'.2).mono fun b hb' => ⟨hb'.1, Nat.lt_of_lt_of_le hb'.2 hb.size⟩⟩
theorem Fr.mono (h : Fr k w B A xs) (hB : B' ≤ B) : Fr k w B' A xs := ⟨h.out.mono fun b hb => ⟨Nat.le_trans hB hb.1, hb.2⟩⟩
theorem Fr.all (h : Fr k w B A xs) : Rw k w (All w) A xs.length xs := h.out.mono fun b hb => hb.2
/-- Whatever a kind's elements lead to: nothing. -/
def Flat (k : Kd α) : Prop := ∀ (w w' : World) (S S' : Nat → Prop) (x : α) (cs : List Value), k.K w S x cs → k.K w' S' x cs
theorem run_copy0 (hf : Flat k) (t ty : TypeId) (z : Value) (bytes : Nat) (ht : P.underlying t = some (.slice E)) (hi : (P.info? E).map (fun i => (i.zero, i.size, i.bytes)) = some (some z, k.sz, bytes)) (hzs : z.cells.size = k.sz) (hsz : 0 < k.sz)
    (g : Nat) (hys : Rw k w (All w) A ys.length ys) (hA : A = none → c = 0) (hbytes : ys.length * bytes ≤ 140737488355328) (h63 : ys.length ≤ 9223372036854775807) :
    ∃ A' c' w', (Builtin.append_ #[t, t] ty #[.slice (some ⟨g, 0, none⟩) 0 0, .slice A ys.length c]).run P w = .ok (.slice A' ys.length c') w' ∧ ys.length ≤ c' ∧ c' ≤ M63 ∧ (A' = none → c' = 0) ∧ Fr k w' w.heap.size A' ys ∧ Below w.heap.size w w' := by
  obtain ⟨i0, hi, hz, hz1, hz2⟩ := info_parts hi
  rcases Nat.eq_zero_or_pos ys.length with h0 | h0
  · have : ys = [] := List.eq_nil_of_length_eq_zero h0
    subst this
    refine ⟨some ⟨g, 0, none⟩, 0, w, ?_, by simp, by simp, fun h => (by cases h), ⟨Rw.nil _ _ _ _⟩, Below.refl _ _⟩
    have hl0 : ∀ (q : Addr), (loadCells q 0).run P w = .ok #[] w := fun q => by first | rfl | (simp [loadCells]; done) | (unfold loadCells; rfl)
    cases A <;> simp [Builtin.append_, run_underlying ht, sizeOf, typeInfo, hi, Builtin.lenOf, Builtin.firstCells, storeCells, hl0]
  · obtain ⟨g2, o2, cs0, rfl, _, _, _, _⟩ := hys.at_ h0
    obtain ⟨rs, r1, r2, r3⟩ := rw_rows hys hsz
    have hrs := OwnK.rows_len r1 r2
    obtain ⟨v', w', hr, q2, q3⟩ := run_append_arg_grows (P := P) w t ty E i0 z k.sz bytes ht hi hz hz1 hz2 hzs hsz ⟨g, 0, none⟩ 0 0 [] (by simp) (fun j u hu => by simp at hu) ⟨g2, o2, none⟩ ys.length c rs.flatten (by rw [flat_len hrs, r1])
      (fun j u hu => by rw [addr_add]; exact r3 g2 o2 rfl j u hu) (by omega) (by simp only [maxLen]; omega) (by rw [Nat.zero_add]; exact hbytes)
    rw [List.nil_append, Nat.zero_add] at q2
    have hb : Below w.heap.size w w' := gb_Below q3
    have hk : OwnK k w' w.heap.size E v' ys := ⟨rs, r1, fun i x hx => by obtain ⟨cs, c1, c2⟩ := r2 i x hx; exact ⟨cs, c1, hf _ _ _ _ _ _ c2⟩, q2⟩
    rcases q2.2 with ⟨_, h0'⟩ | ⟨g', cap, cur, rfl, hg, hh, n1, n2, n3⟩
    · omega
    · simp only [maxLen] at n2
      refine ⟨_, cap, w', hr, n1, n2, fun h => (by cases h), ⟨?_⟩, hb⟩
      obtain ⟨A2, c2, e, _, _, _, hrw⟩ := hk.rw_
      injection e with e1 e2 e3
      subst e1
      refine ⟨hrw.1, hrw.2.1, ?_⟩
      rcases hrw.2.2 with h0' | ⟨g3, o3, hA3, hg3, hl3, hc3⟩
      · omega
      · injection hA3 with hA3
        injection hA3 with a1 a2
        subst a1 a2
        exact .inr ⟨_, _, rfl, ⟨hg, hl3⟩, hl3, fun i x hx => by obtain ⟨cs, c1, c2⟩ := hc3 i x hx; exact ⟨cs, hf _ _ _ _ _ _ c1, c2⟩⟩
theorem wp_copy0 (hf : Flat k) {o : Oper} {a : Act} {K : Act → World → Prop} {Q : Exit → Act → World → Prop} (s x : Operand) (t : TypeId) (ho : o.op = .call { callee := .builtin .append, args := #[s, x], argTypes := #[t, t] })
    (z : Value) (bytes : Nat) (ht : P.underlying t = some (.slice E)) (hi : (P.info? E).map (fun i => (i.zero, i.size, i.bytes)) = some (some z, k.sz, bytes)) (hzs : z.cells.size = k.sz) (hsz : 0 < k.sz)
    (g : Nat) (hs : a.eval s = .slice (some ⟨g, 0, none⟩) 0 0) (hx : a.eval x = .slice A ys.length c) (hys : Rw k w (All w) A ys.length ys) (hA : A = none → c = 0) (hbytes : ys.length * bytes ≤ 140737488355328) (h63 : ys.length ≤ 9223372036854775807)
    (h : ∀ A' c' w', ys.length ≤ c' → c' ≤ M63 → (A' = none → c' = 0) → Fr k w' w.heap.size A' ys → Below w.heap.size w w' → K (a.put o.dst (.slice A' ys.length c')) w') : o.wp P a w K Q := by
  obtain ⟨A', c', w', hrun, h1, h2, h3, h4, h5⟩ := run_copy0 (P := P) hf t o.type z bytes ht hi hzs hsz g hys hA hbytes h63
  unfold Oper.wp execOp
  simp only [ho, resolve, invoke, builtin, Sem.run_bind, Sem.run_pure, Result.andThen_ok, List.map_toArray, List.map_cons, List.map_nil, hs, hx, hrun]
  exact h A' c' w' h1 h2 h3 h4 h5
theorem wpList_copy0 (hf : Flat k) {ops : Array Oper} {rest : List Oper} {o : Oper} {a : Act} {Q : Exit → Act → World → Prop} (hgd : o.guard = none) (s x : Operand) (t : TypeId) (ho : o.op = .call { callee := .builtin .append, args := #[s, x], argTypes := #[t, t] })
    (z : Value) (bytes : Nat) (ht : P.underlying t = some (.slice E)) (hi : (P.info? E).map (fun i => (i.zero, i.size, i.bytes)) = some (some z, k.sz, bytes)) (hzs : z.cells.size = k.sz) (hsz : 0 < k.sz)
    (g : Nat) (hs : a.eval s = .slice (some ⟨g, 0, none⟩) 0 0) (hx : a.eval x = .slice A ys.length c) (hys : Rw k w (All w) A ys.length ys) (hA : A = none → c = 0) (hbytes : ys.length * bytes ≤ 140737488355328) (h63 : ys.length ≤ 9223372036854775807)
    (h : ∀ A' c' w', ys.length ≤ c' → c' ≤ M63 → (A' = none → c' = 0) → Fr k w' w.heap.size A' ys → Below w.heap.size w w' → wpList P ops Q rest (a.put o.dst (.slice A' ys.length c')) w') : wpList P ops Q (o :: rest) a w :=
  wpList_plain hgd fun _ hK => wp_copy0 hf s x t ho z bytes ht hi hzs hsz g hs hx hys hA hbytes h63 fun A' c' w' h1 h2 h3 h4 h5 => hK _ _ (h A' c' w' h1 h2 h3 h4 h5)
/-- A literal of one element of several cells, at an operation of any region. -/
theorem wp_build1 {o : Oper} {a : Act} {K : Act → World → Prop} {Q : Exit → Act → World → Prop} (t e : TypeId) (x : Operand) (ho : o.op = .buildSlice t 1 #[(0, x)])
    (n bytes : Nat) (z : Value) (cs : Array Value) (hx : a.eval x = .agg cs) (hs : cs.size = n) (hpos : 0 < n) (hn : n ≤ 2 ^ 24) (hu : P.underlying t = some (.slice e)) (hi : (P.info? e).map (fun i => (i.zero, i.size, i.bytes)) = some (some z, n, bytes))
    (h : ∀ g w', Row w' g e cs → Below w.heap.size w w' → w.heap.size ≤ g → K (a.put o.dst (.slice (some ⟨g, 0, none⟩) 1 1)) w') : o.wp P a w K Q := by
  obtain ⟨ie, hie, hz, h1, h2⟩ := info_parts hi
  refine wp_buildSlice t e 1 _ ho cs ie z hu hie hz (by rw [h1]; omega) (by rw [h1]; omega) ?_ (h _ _ (Row.new _ _ _) ((Below.refl _ _).alloc (Nat.le_refl _) _) (Nat.le_refl _))
  have hf := Great.fill_whole (s := n) hpos [.agg cs] ((Array.range (1 * n)).map (z.cells[· % z.cells.size]!)) (by simp [Value.cells, hs]) (by simp)
  rw [h1]
  simp only [List.map_toArray, List.map_cons, List.map_nil, hx]
  simpa [Value.cells] using hf
end
theorem flat_int (q : IntKind) : Flat (kInt q) := fun _ _ _ _ _ _ h => h
theorem flat_byte : Flat kByte := fun _ _ _ _ _ _ h => h
end Go.Proofs.YtbamhiegabeicaaGreat.App


