/- A whole array in memory: made, read, written. Plain laws on the model, over any program. No statement is proved here. -/
import Derived.Test.YtbamhiegabeicaaGreatOpen
import Derived.Laws.Rows
import Derived.Laws.Tables
import Derived.Deep.WholeRow
import Derived.Deep.MidRow
namespace Go.Proofs.YtbamhiegabeicaaGreat.Mem
open Go.RowKit
set_option linter.unusedVariables false
set_option linter.unusedSimpArgs false
section
variable {P : Program} {ops : Array Oper} {rest : List Oper} {o : Oper} {a : Act} {w : World} {Q : Exit → Act → World → Prop}

/-- A variable of type ty is made: a new block of its zero cells. -/
theorem wpList_alloc (hgd : o.guard = none) (ty : TypeId) (ho : o.op = .alloc ty) (z : Value) (hz : ∀ w, (zeroValue ty).run P w = .ok z w)
    (h : wpList P ops Q rest (a.put o.dst (.pointer (some ⟨w.heap.size, 0, none⟩))) (w.alloc (.cells z.cells ty))) : wpList P ops Q (o :: rest) a w :=
  wpList_plain hgd fun _ hK => by
    unfold Oper.wp execOp
    simp only [ho, Instr.alloc, newVar, newRow, Sem.run_bind, hz, Result.andThen_ok]
    exact hK _ _ h

theorem wpList_allocA (hgd : o.guard = none) (ty : TypeId) (ho : o.op = .alloc ty) (cs : Array Value) (hz : ∀ w, (zeroValue ty).run P w = .ok (.agg cs) w)
    (h : wpList P ops Q rest (a.put o.dst (.pointer (some ⟨w.heap.size, 0, none⟩))) (w.alloc (.cells cs ty))) : wpList P ops Q (o :: rest) a w :=
  wpList_alloc hgd ty ho (.agg cs) hz h

/-- A whole array out of its variable. -/
theorem wpList_load (hgd : o.guard = none) (ty : TypeId) (x : Operand) (ho : o.op = .load ty x) (g : Nat) (hx : a.eval x = .pointer (some ⟨g, 0, none⟩)) (t : TypeId) (cs : Array Value) (n : Nat) (e : TypeId)
    (hu : P.underlying ty = some (.array n e)) (hi : (P.info? ty).map (·.size) = some n) (hs : cs.size = n) (hg : w.heap[g]? = some (.cells cs t (0, 0)))
    (h : wpList P ops Q rest (a.put o.dst (.agg cs)) w) : wpList P ops Q (o :: rest) a w :=
  wpList_load_row hgd ty x ho g hx t cs (0, 0) _ hg hu rfl (by rw [hs]; exact hi) h

/-- A whole array into its variable. -/
theorem wpList_store (hgd : o.guard = none) (ty : TypeId) (x y : Operand) (ho : o.op = .store ty x y) (g : Nat) (hx : a.eval x = .pointer (some ⟨g, 0, none⟩)) (cs : Array Value) (hy : a.eval y = .agg cs) (old : Array Value) (t : TypeId) (n : Nat)
    (hi : (P.info? ty).map (·.size) = some n) (hs : cs.size = n) (ho' : old.size = n) (h1 : cs.all (·.oneCell') = true) (hg : w.heap[g]? = some (.cells old t (0, 0)))
    (h : wpList P ops Q rest (a.put o.dst undef) (w.setRow g cs)) : wpList P ops Q (o :: rest) a w :=
  wpList_plain hgd fun _ hK => by
    unfold Oper.wp execOp
    have hr := run_storeVar_row (P := P) w g t ty old cs hg (by rw [hs]; exact hi) (by omega) h1
    simp only [ho, hx, hy, Instr.storeAt, Instr.sureAddr, Sem.run_bind, Sem.run_pure, Result.andThen_ok, hr]
    exact hK _ _ h
end

/-! ### what stays below -/
theorem below_setRow {B g : Nat} {w0 w : World} (hb : Below B w0 w) (hBg : B ≤ g) (cs : Array Value) : Below B w0 (w.setRow g cs) :=
  hb.trans ⟨rfl, rfl, rfl, by simp, fun k hk => setRow_other w g k cs (by omega)⟩

/-! ### bytes as values -/
/-- One byte's cell. -/
def V8 (n : Nat) : Value := .int .u8 (n : Int)
/-- The cells of a block: whole numbers of one byte. -/
def blk (l : List Nat) : Array Value := (l.map fun n : Nat => Value.int .u8 (n : Int)).toArray
theorem blk_size (l : List Nat) : (blk l).size = l.length := by simp [blk]
theorem blk_one (l : List Nat) : (blk l).all (·.oneCell') = true := by
  rw [Array.all_eq_true]
  intro i hi
  simp [blk, Value.oneCell']
theorem blk_get (l : List Nat) (i : Nat) (hi : i < l.length) : (blk l)[i]? = some (.int .u8 (l[i] : Int)) := by
  simp [blk, List.getElem?_eq_getElem hi]
theorem blk_set (l : List Nat) (i n : Nat) : (blk l).setIfInBounds i (.int .u8 (n : Int)) = blk (l.set i n) := by
  apply Array.ext'
  simp [blk, List.map_set]

/-! ### arguments: bytes -/
section
open Go.ChangeShapes Go.WideShapes Go.ChangeAt
variable {H : Type} {enc : TypeId × Value → H} {P : Program} {w : World} {base : Nat} {spare : Nat → Bool} {held : Bool}
end
/-! ### a row of the call's own: elements of one cell -/
/-- From block B on: a row of the call's own, that reads as these. -/
def Own {α : Type} (w : World) (B : Nat) (E : TypeId) (V : α → Value) (v : Value) (xs : List α) : Prop := w.ownsRow B E 1 v xs.length (xs.map V)
section
variable {α : Type} {w w' : World} {B B' : Nat} {E : TypeId} {V : α → Value} {v : Value} {xs : List α}
theorem Own.nil (w : World) (B : Nat) (E : TypeId) (V : α → Value) : Own w B E V (.slice none 0 0) [] := World.ownsRow_nil w B E 1
theorem Own.alloc (h : Own w B E V v xs) (o : Obj) : Own (w.alloc o) B E V v xs := World.ownsRow.alloc h o
theorem Own.drew (h : Own w B E V v xs) : Own w.drew B E V v xs := h
theorem Own.drewN (h : Own w B E V v xs) (n : Nat) : Own (w.drewN n) B E V v xs := h
theorem Own.mono (h : Own w B E V v xs) (hB : B' ≤ B) : Own w B' E V v xs := by
  refine ⟨h.1, ?_⟩
  rcases h.2 with h0 | ⟨g, cap, cur, hv, hb, r⟩
  · exact .inl h0
  · exact .inr ⟨g, cap, cur, hv, Nat.le_trans hB hb, r⟩
theorem Own.lt (h : Own w B E V v xs) : ∀ k, v.ownBlock = some k → B ≤ k ∧ k < w.heap.size := World.ownsRow.lt h
/-- Nothing that stood has changed: it stands. -/
theorem Own.below (h : Own w B E V v xs) (hb : Below w.heap.size w w') : Own w' B E V v xs :=
  World.ownsRow.kept (row := none) h ⟨hb.os, hb.tape, hb.output, hb.size, fun i hi _ => hb.block i hi⟩ (by cases v.ownBlock <;> simp)
theorem Own.slice (h : Own w B E V v xs) : ∃ A c, v = .slice A xs.length c := by
  rcases h.2 with ⟨rfl, h0⟩ | ⟨g, cap, cur, rfl, _⟩
  · exact ⟨none, 0, by rw [h0]⟩
  · exact ⟨_, cap, rfl⟩
theorem Own.slice_pos (h : Own w B E V v xs) (hn : 0 < xs.length) : ∃ g c, v = .slice (some ⟨g, 0, none⟩) xs.length c := by
  rcases h.2 with ⟨rfl, h0⟩ | ⟨g, cap, cur, rfl, _⟩
  · omega
  · exact ⟨g, cap, rfl⟩
theorem Own.len (h : Own w B E V v xs) : xs.length ≤ 9223372036854775807 := by
  rcases h.2 with ⟨_, h0⟩ | ⟨g, cap, cur, _, _, _, h1, h2, _⟩
  · omega
  · simp only [maxLen] at h2; omega
theorem Own.sl {A : Option Addr} {n c : Nat} (h : Own w B E V (.slice A n c) xs) : n = xs.length ∧ Open.Sl w V A n xs := by
  have hl := h.len
  rcases h.2 with ⟨h0, h1⟩ | ⟨g, cap, cur, h0, hb, hh, hc⟩
  · injection h0 with hA hn hc
    subst hA hn
    refine ⟨h1.symm, ⟨by omega, by omega, fun i x hx => ?_⟩⟩
    have := (List.getElem?_eq_some_iff.1 hx).1
    omega
  · injection h0 with hA hn hc'
    subst hA hn
    refine ⟨rfl, rfl, hl, fun i x hx => ⟨⟨g, 0, none⟩, rfl, ?_, ?_⟩⟩
    · exact (Array.getElem?_eq_some_iff.1 hh).1
    · refine World.ownsRow.cells h (g := g) rfl i _ ?_
      rw [List.getElem?_map, hx]; rfl
theorem own_row_below {row : Option Nat} (hg : w.grownBy w' row) (hr : ∀ k, row = some k → B ≤ k) (hB : B ≤ w.heap.size) : Below B w w' :=
  ⟨hg.os, hg.tape, hg.output, hg.size, fun k hk => hg.block k (by omega) (fun e => by have := hr k e.symm; omega)⟩
end
section
variable {α : Type} {P : Program} {ops : Array Oper} {rest : List Oper} {o : Oper} {a : Act} {w : World} {Q : Exit → Act → World → Prop}
/-- One element more: out = append(out, x), behind the box of x. -/
theorem wpList_app1 (hgd : o.guard = none) (s x : Operand) (t : TypeId) (ho : o.op = .call { callee := .builtin .append, args := #[s, x], argTypes := #[t, t] })
    (B : Nat) (E : TypeId) (z : Value) (bytes : Nat) (V : α → Value) (ht : P.underlying t = some (.slice E)) (hi : (P.info? E).map (fun i => (i.zero, i.size, i.bytes)) = some (some z, 1, bytes)) (hzs : z.cells.size = 1)
    (v : Value) (xs : List α) (y : α) (hs : a.eval s = v) (c : Nat) (g : Nat) (hx : a.eval x = .slice (some ⟨g, 0, none⟩) 1 c) (hown : Own w B E V v xs) (hcell : w.cell? ⟨g, 0, none⟩ = some (V y)) (hone : (V y).oneCell' = true)
    (hbytes : (xs.length + 1) * bytes ≤ 140737488355328) (h63 : xs.length + 1 ≤ 9223372036854775807) (hB : B ≤ w.heap.size)
    (h : ∀ v' w', Own w' B E V v' (xs ++ [y]) → Below B w w' → w.grownBy w' v.ownBlock → wpList P ops Q rest (a.put o.dst v') w') : wpList P ops Q (o :: rest) a w := by
  obtain ⟨i0, hi, hz, hz1, hz2⟩ := info_parts hi
  refine wpList_append_own _ hgd s x t ho B E i0 z 1 bytes ht hi hz hz1 hz2 hzs (by decide) v xs.length (xs.map V) hs hown ⟨g, 0, none⟩ 1 c [V y] hx rfl ?_ ?_ (by simp only [maxLen]; omega) hbytes hB ?_
  · intro j u hj
    cases j with
    | zero =>
      simp at hj; subst hj
      rw [show (⟨g, 0, none⟩ : Addr).add 0 = ⟨g, 0, none⟩ from by unfold Addr.add; split <;> simp_all]
      exact hcell
    | succ j => simp at hj
  · intro u hu
    simp at hu; subst hu; exact hone
  · intro v' w' h1 h2 _
    refine h v' w' ?_ (own_row_below h2 (fun k hk => (hown.lt k hk).1) hB) h2
    unfold Own
    rw [List.map_append, List.length_append]
    exact h1
end
/-- make([]T, n): a row of n zeros. -/
theorem own_made {α : Type} {w : World} {B : Nat} {E : TypeId} {V : α → Value} {n : Nat} {y : α} {cs : Array Value} (hB : B ≤ w.heap.size) (hn : n ≤ 9223372036854775807) (hc : cs = (List.replicate n (V y)).toArray) :
    Own (w.alloc (.cells cs E)) B E V (.slice (some ⟨w.heap.size, 0, none⟩) n n) (List.replicate n y) := by
  subst hc
  refine ⟨by simp, .inr ⟨w.heap.size, n, _, by simp, hB, heap_alloc_new w _, by simp, by simp only [maxLen]; omega, by simp, ?_⟩⟩
  simp
theorem wpList_make {α : Type} {P : Program} {ops : Array Oper} {rest : List Oper} {o : Oper} {a : Act} {w : World} {Q : Exit → Act → World → Prop} (hgd : o.guard = none) (t : TypeId) (x y : Operand) (ho : o.op = .makeSlice t x y)
    (B : Nat) (E : TypeId) (V : α → Value) (y0 : α) (bytes : Nat) (ht : P.underlying t = some (.slice E)) (hi : (P.info? E).map (fun i => (i.zero, i.size, i.bytes)) = some (some (V y0), 1, bytes)) (hone : (V y0).cells = #[V y0])
    (n : Nat) (hx : a.eval x = .int .i64 n) (hy : a.eval y = .int .i64 n) (hbytes : bytes * n ≤ 281474976710656) (hn : n ≤ 9223372036854775807) (hB : B ≤ w.heap.size)
    (h : ∀ w', Own w' B E V (.slice (some ⟨w.heap.size, 0, none⟩) n n) (List.replicate n y0) → Below w.heap.size w w' → w.heap.size < w'.heap.size → wpList P ops Q rest (a.put o.dst (.slice (some ⟨w.heap.size, 0, none⟩) n n)) w') : wpList P ops Q (o :: rest) a w :=
  wpList_plain hgd fun _ hK => by
    obtain ⟨i0, hi, hz, hz1, hz2⟩ := info_parts hi
    have hb : (i0.bytes : Int) * (n : Int) ≤ 281474976710656 := by
      rw [hz2]
      have h2 : ((bytes * n : Nat) : Int) ≤ 281474976710656 := by omega
      rwa [Int.natCast_mul] at h2
    have hr := run_make (P := P) w t E i0 (V y0) ht hi hz .i64 .i64 n n (by omega) (by omega) hb (by omega)
    rw [hz1, Nat.mul_one, Int.toNat_natCast, hone] at hr
    unfold Oper.wp execOp
    simp only [ho, hx, hy, Sem.run_bind, hr, Result.andThen_ok]
    refine hK _ _ (h _ (own_made hB hn ?_) ((Below.refl _ _).alloc (Nat.le_refl _) _) (by simp))
    apply Array.ext'
    simp only [madeCells, Array.toList_map, List.toList_toArray]
    apply List.ext_getElem?
    intro i
    by_cases hi : i < n
    · simp [hi, Nat.mod_one]
    · simp [hi]
section
variable {α : Type} {w : World} {B g n c : Nat} {E : TypeId} {V : α → Value} {xs : List α}
theorem Own.cell (h : Own w B E V (.slice (some ⟨g, 0, none⟩) n c) xs) (i : Nat) (hi : i < xs.length) : w.cell? ⟨g, i, none⟩ = some (V xs[i]) := by
  have hl := h.sl.1
  subst hl
  unfold Own at h
  rw [World.ownsRow.cellAt h i (by omega)]
  simp [hi]
theorem Own.frozen (h : Own w B E V (.slice (some ⟨g, 0, none⟩) n c) xs) (i : Nat) : w.frozen? ⟨g, i, none⟩ = false := by
  have hl := h.sl.1
  subst hl
  exact World.ownsRow.frozenAt h i
theorem Own.stored (h : Own w B E V (.slice (some ⟨g, 0, none⟩) n c) xs) (i : Nat) (y : α) : Own (w.setCell ⟨g, i, none⟩ (V y)) B E V (.slice (some ⟨g, 0, none⟩) n c) (xs.set i y) := by
  have hl := h.sl.1
  subst hl
  have := (World.ownsRow.stored h i (V y)).1
  unfold Own
  rw [List.length_set, List.map_set]
  exact this
theorem Own.base (h : Own w B E V (.slice (some ⟨g, 0, none⟩) n c) xs) : B ≤ g ∧ g < w.heap.size := h.lt g rfl
end
/-! ### a block's variable -/
/-- Block g is a whole array of bytes. -/
def Box (w : World) (g : Nat) (T : TypeId) (l : List Nat) : Prop := w.heap[g]? = some (.cells (blk l) T (0, 0))
section
variable {w w' : World} {g : Nat} {T : TypeId} {l : List Nat}
theorem Box.new (w : World) (T : TypeId) (l : List Nat) : Box (w.alloc (.cells (blk l) T)) w.heap.size T l := heap_alloc_new w _
theorem Box.out (h : Box w g T l) : w.heap[g]? = some (.cells (blk l) T (0, 0)) := h
theorem Box.range (h : Box w g T l) : w.rangeAt g 0 (blk l).toList := fun j v hv => by
  rw [Nat.zero_add, cell_of_row _ _ _ _ _ _ h]
  simpa using hv
theorem Box.lt (h : Box w g T l) : g < w.heap.size := (Array.getElem?_eq_some_iff.1 h).1
theorem Box.alloc (h : Box w g T l) (o : Obj) : Box (w.alloc o) g T l := (Below.heap_alloc w o g h.lt).trans h
theorem Box.drew (h : Box w g T l) : Box w.drew g T l := h
theorem Box.drewN (h : Box w g T l) (n : Nat) : Box (w.drewN n) g T l := h
theorem Box.below {B : Nat} (h : Box w g T l) (hb : Below B w w') (hg : g < B) : Box w' g T l := (hb.block g hg).trans h
theorem Box.cell (h : Box w g T l) (i : Nat) (hi : i < l.length) : w.cell? ⟨g, i, none⟩ = some (.int .u8 (l[i] : Int)) := by rw [cell_of_row _ _ _ _ _ _ h, blk_get l i hi]
theorem Box.frozen (h : Box w g T l) (i : Nat) : w.frozen? ⟨g, i, none⟩ = false := frozen_of_row _ _ _ _ _ h
theorem Box.row (h : Box w g T l) (l' : List Nat) : Box (w.setRow g (blk l')) g T l' := setRow_heap _ _ _ _ _ _ h
theorem Box.far (h : Box w g T l) {k : Nat} (hk : g ≠ k) (cs : Array Value) : Box (w.setRow k cs) g T l := (setRow_other _ _ _ _ hk).trans h
end
end Go.Proofs.YtbamhiegabeicaaGreat.Mem

