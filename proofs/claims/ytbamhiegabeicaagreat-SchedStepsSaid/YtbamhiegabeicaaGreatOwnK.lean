/- Rows of the call's own whose elements are of several cells, and lead on. Plain laws, over any program. No statement is proved here. -/
import Derived.Test.YtbamhiegabeicaaGreatApp
namespace Go.Proofs.YtbamhiegabeicaaGreat.App
open Go.RowKit Go.Proofs.YtbamhiegabeicaaGreat.Mem Go.Proofs.YtbamhiegabeicaaGreat.Open Go.Proofs.YtbamhiegabeicaaGreat.Kind
theorem grown_setRow (w : World) (g : Nat) (cs : Array Value) : w.grownBy (w.setRow g cs) (some g) :=
  ⟨rfl, rfl, rfl, by simp, fun k hk hx => setRow_other _ _ _ _ (fun e => hx (by rw [e]))⟩
theorem own_grown {α : Type} {w w' : World} {B : Nat} {E : TypeId} {V : α → Value} {v : Value} {xs : List α} {row : Option Nat} (h : Own w B E V v xs) (hg : w.grownBy w' row) (hne : ∀ q, v.ownBlock = some q → some q ≠ row) : Own w' B E V v xs := by
  refine World.ownsRow.kept (row := row) h hg ?_
  cases hv : v.ownBlock with
  | none => simp
  | some q => exact .inr (hne q hv)
theorem flat_get {rows : List (List Value)} {sz : Nat} (h : ∀ r ∈ rows, r.length = sz) : ∀ (i : Nat) (cs : List Value) (j : Nat) (v : Value), rows[i]? = some cs → cs[j]? = some v → rows.flatten[i * sz + j]? = some v := by
  induction rows with
  | nil => intro i cs j v hi; simp at hi
  | cons r rows ih =>
    intro i cs j v hi hj
    have hr := h r List.mem_cons_self
    rw [List.flatten_cons]
    cases i with
    | zero =>
      simp at hi
      subst hi
      rw [Nat.zero_mul, Nat.zero_add, List.getElem?_append_left (List.getElem?_eq_some_iff.1 hj).1]
      exact hj
    | succ i =>
      rw [List.getElem?_append_right (by rw [hr, Nat.succ_mul]; omega), hr, show (i + 1) * sz + j - sz = i * sz + j from by rw [Nat.succ_mul]; omega]
      exact ih (fun r hr => h r (List.mem_cons_of_mem _ hr)) i cs j v (by simpa using hi) hj
/-- A row of the call's own, from block B on; what its elements lead to lies in other blocks. -/
def OwnK {α : Type} (k : Kd α) (w : World) (B : Nat) (E : TypeId) (v : Value) (xs : List α) : Prop :=
  ∃ rows : List (List Value), rows.length = xs.length ∧ (∀ (i : Nat) (x : α), xs[i]? = some x → ∃ cs, rows[i]? = some cs ∧ k.K w (fun b => some b ≠ v.ownBlock ∧ b < w.heap.size) x cs) ∧ w.ownsRow B E k.sz v xs.length rows.flatten
section
variable {α : Type} {k : Kd α} {w w' : World} {B B' : Nat} {E : TypeId} {v : Value} {xs : List α}
theorem OwnK.nil (k : Kd α) (w : World) (B : Nat) (E : TypeId) : OwnK k w B E (.slice none 0 0) ([] : List α) := ⟨[], rfl, fun i x h => by simp at h, World.ownsRow_nil w B E k.sz⟩
theorem OwnK.below (h : OwnK k w B E v xs) (hb : Below w.heap.size w w') : OwnK k w' B E v xs := by
  obtain ⟨rows, h1, h2, h3⟩ := h
  refine ⟨rows, h1, fun i x hx => ?_, World.ownsRow.kept (row := none) h3 ⟨hb.os, hb.tape, hb.output, hb.size, fun i hi _ => hb.block i hi⟩ (by cases v.ownBlock <;> simp)⟩
  obtain ⟨cs, c1, c2⟩ := h2 i x hx
  exact ⟨cs, c1, k.mono (fun b hb' => ⟨hb'.1, Nat.lt_of_lt_of_le hb'.2 hb.size⟩) (k.stay (fun b hb' => hb.block b hb'.2) c2)⟩
theorem OwnK.drew (h : OwnK k w B E v xs) : OwnK k w.drew B E v xs := OwnK.below h (Below.refl _ _).drew
theorem OwnK.drewN (h : OwnK k w B E v xs) (n : Nat) : OwnK k (w.drewN n) B E v xs := OwnK.below h (bdrewN (Below.refl _ _) n)
theorem OwnK.alloc (h : OwnK k w B E v xs) (o : Obj) : OwnK k (w.alloc o) B E v xs := h.below ((Below.refl _ _).alloc (Nat.le_refl _) o)
theorem OwnK.mono (h : OwnK k w B E v xs) (hB : B' ≤ B) : OwnK k w B' E v xs := by
  obtain ⟨rows, h1, h2, h3, h4⟩ := h
  refine ⟨rows, h1, h2, h3, ?_⟩
  rcases h4 with h0 | ⟨g, cap, cur, hv, hb, r⟩
  · exact .inl h0
  · exact .inr ⟨g, cap, cur, hv, Nat.le_trans hB hb, r⟩
theorem OwnK.lt (h : OwnK k w B E v xs) : ∀ q, v.ownBlock = some q → B ≤ q ∧ q < w.heap.size := by
  obtain ⟨rows, h1, h2, h3⟩ := h
  exact World.ownsRow.lt h3
theorem OwnK.rows_len {rows : List (List Value)} {S : Nat → Prop} (h1 : rows.length = xs.length) (h2 : ∀ (i : Nat) (x : α), xs[i]? = some x → ∃ cs, rows[i]? = some cs ∧ k.K w S x cs) : ∀ r ∈ rows, r.length = k.sz := by
  intro r hr
  obtain ⟨i, hi, rfl⟩ := List.mem_iff_getElem.1 hr
  obtain ⟨cs, c1, c2⟩ := h2 i xs[i] (List.getElem?_eq_getElem (by omega))
  rw [List.getElem?_eq_getElem hi] at c1
  rw [Option.some.inj c1]
  exact k.len c2
/-- As it is read. -/
theorem OwnK.rw_ (h : OwnK k w B E v xs) : ∃ A c, v = .slice A xs.length c ∧ xs.length ≤ c ∧ c ≤ M63 ∧ (A = none → c = 0) ∧ Rw k w (All w) A xs.length xs := by
  obtain ⟨rows, h1, h2, h3⟩ := h
  have hl := OwnK.rows_len h1 h2
  rcases h3.2 with ⟨rfl, h0⟩ | ⟨g, cap, cur, rfl, hg, hh, n1, n2, n3⟩
  · have : xs = [] := List.eq_nil_of_length_eq_zero h0
    subst this
    exact ⟨none, 0, rfl, by simp, by simp, fun _ => rfl, Rw.nil _ _ _ _⟩
  · simp only [maxLen] at n2
    refine ⟨_, cap, rfl, n1, n2, fun h => (by cases h), rfl, by show xs.length ≤ 9223372036854775807; omega, .inr ⟨g, 0, rfl, row_lt hh, row_lt hh, fun i x hx => ?_⟩⟩
    obtain ⟨cs, c1, c2⟩ := h2 i x hx
    refine ⟨cs, k.mono (fun b hb => hb.2) c2, fun j u hu => ?_⟩
    have := World.ownsRow.cells h3 (g := g) rfl (i * k.sz + j) u (flat_get hl i cs j u c1 hu)
    rw [addr_add] at this
    rwa [show 0 + i * k.sz + j = 0 + (i * k.sz + j) from by omega]
end
section
variable {α : Type} {k : Kd α} {P : Program} {w : World} {B : Nat} {E : TypeId} {v : Value} {xs : List α}
theorem run_appK (t ty : TypeId) (z : Value) (bytes : Nat) (ht : P.underlying t = some (.slice E)) (hi : (P.info? E).map (fun i => (i.zero, i.size, i.bytes)) = some (some z, k.sz, bytes)) (hzs : z.cells.size = k.sz) (hsz : 0 < k.sz)
    (hown : OwnK k w B E v xs) (g c : Nat) (T : TypeId) (cs : List Value) (hr : Row w g T cs.toArray) (x : α) (S : Nat → Prop) (hx : k.K w S x cs) (hS : ∀ b, S b → some b ≠ v.ownBlock ∧ b < w.heap.size)
    (hbytes : (xs.length + 1) * bytes ≤ 140737488355328) (h63 : xs.length + 1 ≤ 9223372036854775807) (hB : B ≤ w.heap.size) :
    ∃ v' w', (Builtin.append_ #[t, t] ty #[v, .slice (some ⟨g, 0, none⟩) 1 c]).run P w = .ok v' w' ∧ OwnK k w' B E v' (xs ++ [x]) ∧ w.grownBy w' v.ownBlock ∧ (v'.ownBlock = v.ownBlock ∨ v'.ownBlock = some w.heap.size) := by
  obtain ⟨i0, hi, hz, hz1, hz2⟩ := info_parts hi
  obtain ⟨rows, h1, h2, h3⟩ := hown
  obtain ⟨v', w', hr, q2, q3, _, q5⟩ := run_append_own_at (P := P) w B t ty E i0 z k.sz bytes ht hi hz hz1 hz2 hzs hsz v xs.length rows.flatten h3 ⟨g, 0, none⟩ 1 c cs (by rw [k.len hx, Nat.one_mul])
    (fun j u hu => by rw [addr_add, Nat.zero_add]; exact hr.cell j (by simpa using hu)) (k.one hx) (by simp only [maxLen]; omega) hbytes hB
  have conv : ∀ (y : α) (ds : List Value), k.K w (fun b => some b ≠ v.ownBlock ∧ b < w.heap.size) y ds → k.K w' (fun b => some b ≠ v'.ownBlock ∧ b < w'.heap.size) y ds := fun y ds hd =>
    k.mono (fun b hb => ⟨(by rcases q5 with e | e <;> rw [e] <;> first | exact hb.1 | (simp; omega)), Nat.lt_of_lt_of_le hb.2 q3.size⟩) (k.stay (fun b hb => q3.block b hb.2 hb.1) hd)
  refine ⟨v', w', hr, ⟨rows ++ [cs], by simp [h1], fun i y hy => ?_, ?_⟩, q3, q5⟩
  · by_cases hi : i < xs.length
    · rw [List.getElem?_append_left hi] at hy
      obtain ⟨ds, d1, d2⟩ := h2 i y hy
      exact ⟨ds, by rw [List.getElem?_append_left (by omega)]; exact d1, conv y ds d2⟩
    · have hil := (List.getElem?_eq_some_iff.1 hy).1
      rw [List.length_append, List.length_singleton] at hil
      have : i = xs.length := by omega
      subst this
      rw [List.getElem?_append_right (Nat.le_refl _), Nat.sub_self, List.getElem?_cons_zero] at hy
      injection hy with hy
      subst hy
      exact ⟨cs, by rw [← h1, List.getElem?_append_right (Nat.le_refl _), Nat.sub_self, List.getElem?_cons_zero], conv x cs (k.mono hS hx)⟩
  · rw [List.flatten_append, List.length_append]
    simpa using q2
theorem wp_appK {o : Oper} {a : Act} {K : Act → World → Prop} {Q : Exit → Act → World → Prop} (s x : Operand) (t : TypeId) (ho : o.op = .call { callee := .builtin .append, args := #[s, x], argTypes := #[t, t] })
    (z : Value) (bytes : Nat) (ht : P.underlying t = some (.slice E)) (hi : (P.info? E).map (fun i => (i.zero, i.size, i.bytes)) = some (some z, k.sz, bytes)) (hzs : z.cells.size = k.sz) (hsz : 0 < k.sz)
    (hs : a.eval s = v) (g c : Nat) (hxv : a.eval x = .slice (some ⟨g, 0, none⟩) 1 c) (hown : OwnK k w B E v xs) (T : TypeId) (cs : List Value) (hr : Row w g T cs.toArray) (y : α) (S : Nat → Prop) (hx : k.K w S y cs) (hS : ∀ b, S b → some b ≠ v.ownBlock ∧ b < w.heap.size)
    (hbytes : (xs.length + 1) * bytes ≤ 140737488355328) (h63 : xs.length + 1 ≤ 9223372036854775807) (hB : B ≤ w.heap.size)
    (h : ∀ v' w', OwnK k w' B E v' (xs ++ [y]) → w.grownBy w' v.ownBlock → (v'.ownBlock = v.ownBlock ∨ v'.ownBlock = some w.heap.size) → K (a.put o.dst v') w') : o.wp P a w K Q := by
  obtain ⟨v', w', hrun, h2, h3, h4⟩ := run_appK (P := P) t o.type z bytes ht hi hzs hsz hown g c T cs hr y S hx hS hbytes h63 hB
  unfold Oper.wp execOp
  simp only [ho, resolve, invoke, builtin, Sem.run_bind, Sem.run_pure, Result.andThen_ok, List.map_toArray, List.map_cons, List.map_nil, hs, hxv, hrun]
  exact h v' w' h2 h3 h4
theorem wpList_appK {ops : Array Oper} {rest : List Oper} {o : Oper} {a : Act} {Q : Exit → Act → World → Prop} (hgd : o.guard = none) (s x : Operand) (t : TypeId) (ho : o.op = .call { callee := .builtin .append, args := #[s, x], argTypes := #[t, t] })
    (z : Value) (bytes : Nat) (ht : P.underlying t = some (.slice E)) (hi : (P.info? E).map (fun i => (i.zero, i.size, i.bytes)) = some (some z, k.sz, bytes)) (hzs : z.cells.size = k.sz) (hsz : 0 < k.sz)
    (hs : a.eval s = v) (g c : Nat) (hxv : a.eval x = .slice (some ⟨g, 0, none⟩) 1 c) (hown : OwnK k w B E v xs) (T : TypeId) (cs : List Value) (hr : Row w g T cs.toArray) (y : α) (S : Nat → Prop) (hx : k.K w S y cs) (hS : ∀ b, S b → some b ≠ v.ownBlock ∧ b < w.heap.size)
    (hbytes : (xs.length + 1) * bytes ≤ 140737488355328) (h63 : xs.length + 1 ≤ 9223372036854775807) (hB : B ≤ w.heap.size)
    (h : ∀ v' w', OwnK k w' B E v' (xs ++ [y]) → w.grownBy w' v.ownBlock → (v'.ownBlock = v.ownBlock ∨ v'.ownBlock = some w.heap.size) → wpList P ops Q rest (a.put o.dst v') w') : wpList P ops Q (o :: rest) a w :=
  wpList_plain hgd fun _ hK => wp_appK s x t ho z bytes ht hi hzs hsz hs g c hxv hown T cs hr y S hx hS hbytes h63 hB fun v' w' h2 h3 h4 => hK _ _ (h v' w' h2 h3 h4)
end
end Go.Proofs.YtbamhiegabeicaaGreat.App

