/- Rows of whole numbers, and what a region that draws its order may lean on: all that stood when it began. No statement is proved here. -/
import Derived.Test.YtbamhiegabeicaaGreatMem
import Derived.BigQuiet
import Derived.Deep.RegionHeld3
namespace Go.Proofs.YtbamhiegabeicaaGreat.Mem
open Go.RowKit
theorem range_below {W w : World} {g o : Nat} {cs : List Value} (h : Below W.heap.size W w) (hg : g < W.heap.size) (hr : W.rangeAt g o cs) : w.rangeAt g o cs := fun j v hv => by
  rw [h.cell (p := ⟨g, o + j, none⟩) hg]
  exact hr j v hv
theorem row_range {W : World} {g : Nat} {cs : Array Value} {T : TypeId} (h : W.heap[g]? = some (.cells cs T (0, 0))) : W.rangeAt g 0 cs.toList := fun j v hv => by
  rw [Nat.zero_add, cell_of_row _ _ _ _ _ _ h]
  simpa using hv
theorem row_lt {W : World} {g : Nat} {o : Obj} (h : W.heap[g]? = some o) : g < W.heap.size := (Array.getElem?_eq_some_iff.1 h).1
theorem row_cell {w : World} {g : Nat} {cs : Array Value} {T : TypeId} (h : w.heap[g]? = some (.cells cs T (0, 0))) (i : Nat) (v : Value) (hv : cs[i]? = some v) : w.cell? ⟨g, i, none⟩ = some v := by
  rw [cell_of_row _ _ _ _ _ _ h, hv]
/-- A block all of whose cells are known. -/
def Row (w : World) (g : Nat) (T : TypeId) (cs : Array Value) : Prop := w.heap[g]? = some (.cells cs T (0, 0))
section
variable {w w' : World} {g : Nat} {T : TypeId} {cs : Array Value}
theorem Row.out (h : Row w g T cs) : w.heap[g]? = some (.cells cs T (0, 0)) := h
theorem Row.new (w : World) (T : TypeId) (cs : Array Value) : Row (w.alloc (.cells cs T)) w.heap.size T cs := heap_alloc_new w _
theorem Row.lt (h : Row w g T cs) : g < w.heap.size := row_lt h
theorem Row.alloc (h : Row w g T cs) (o : Obj) : Row (w.alloc o) g T cs := (Below.heap_alloc w o g h.lt).trans h
theorem Row.drew (h : Row w g T cs) : Row w.drew g T cs := h
theorem Row.drewN (h : Row w g T cs) (n : Nat) : Row (w.drewN n) g T cs := h
theorem Row.below (h : Row w g T cs) (hb : Below w.heap.size w w') : Row w' g T cs := (hb.block g h.lt).trans h
theorem Row.cell (h : Row w g T cs) (i : Nat) {v : Value} (hv : cs[i]? = some v) : w.cell? ⟨g, i, none⟩ = some v := row_cell h i v hv
theorem Row.frozen (h : Row w g T cs) (i : Nat) : w.frozen? ⟨g, i, none⟩ = false := frozen_of_row _ _ _ _ _ h
theorem Row.set (h : Row w g T cs) (cs' : Array Value) : Row (w.setRow g cs') g T cs' := setRow_heap _ _ _ _ _ _ h
theorem Row.far (h : Row w g T cs) {k : Nat} (hk : g ≠ k) (cs' : Array Value) : Row (w.setRow k cs') g T cs := (setRow_other _ _ _ _ hk).trans h
theorem Row.put (h : Row w g T cs) (i : Nat) (v : Value) : Row (w.setCell ⟨g, i, none⟩ v) g T (cs.setIfInBounds i v) := heap_setCell_same _ _ _ _ _ _ h
theorem Row.farCell (h : Row w g T cs) {a : Addr} (hk : g ≠ a.block) (v : Value) : Row (w.setCell a v) g T cs := (Below.heap_setCell w a v g hk).trans h
theorem Row.range (h : Row w g T cs) : w.rangeAt g 0 cs.toList := row_range h
end
/-- Whole numbers as cells. -/
def nums (l : List Int) : Array Value := (l.map (Value.int .i64)).toArray
theorem nums_get (l : List Int) (i : Nat) (hi : i < l.length) : (nums l)[i]? = some (.int .i64 l[i]) := by simp [nums, hi]
/-- A variable is made, at an operation of any region. -/
theorem wp_allocN {P : Program} {o : Oper} {a : Act} {w : World} {K : Act → World → Prop} {Q : Exit → Act → World → Prop} (ty : TypeId) (ho : o.op = .alloc ty) (cs : Array Value) (hz : ∀ w, (zeroValue ty).run P w = .ok (.agg cs) w)
    (h : ∀ g w', Row w' g ty cs → Below w.heap.size w w' → w.heap.size ≤ g → K (a.put o.dst (.pointer (some ⟨g, 0, none⟩))) w') : o.wp P a w K Q := by
  unfold Oper.wp execOp
  simp only [ho, Instr.alloc, newVar, newRow, Sem.run_bind, hz, Result.andThen_ok]
  exact h _ _ (Row.new w ty cs) ((Below.refl _ _).alloc (Nat.le_refl _) _) (Nat.le_refl _)
/-- A whole row into its block, at an operation of any region. -/
theorem wp_storeRow {P : Program} {o : Oper} {a : Act} {w : World} {K : Act → World → Prop} {Q : Exit → Act → World → Prop} (ty : TypeId) (x y : Operand) (ho : o.op = .store ty x y) (g : Nat) (hx : a.eval x = .pointer (some ⟨g, 0, none⟩)) (cs : Array Value) (hy : a.eval y = .agg cs) (old : Array Value) (t : TypeId) (n : Nat)
    (hi : (P.info? ty).map (·.size) = some n) (hs : cs.size = n) (ho' : old.size = n) (h1 : cs.all (·.oneCell') = true) (hg : Row w g t old)
    (h : K (a.put o.dst undef) (w.setRow g cs)) : o.wp P a w K Q := by
  unfold Oper.wp execOp
  have hr := run_storeVar_row (P := P) w g t ty old cs hg (by rw [hs]; exact hi) (by omega) h1
  simp only [ho, hx, hy, Instr.storeAt, Instr.sureAddr, Sem.run_bind, Sem.run_pure, Result.andThen_ok, hr]
  exact h
theorem wpList_storeRow {P : Program} {ops : Array Oper} {rest : List Oper} {o : Oper} {a : Act} {w : World} {Q : Exit → Act → World → Prop} (hgd : o.guard = none) (ty : TypeId) (x y : Operand) (ho : o.op = .store ty x y) (g : Nat) (hx : a.eval x = .pointer (some ⟨g, 0, none⟩)) (cs : Array Value) (hy : a.eval y = .agg cs) (old : Array Value) (t : TypeId) (n : Nat)
    (hi : (P.info? ty).map (·.size) = some n) (hs : cs.size = n) (ho' : old.size = n) (h1 : cs.all (·.oneCell') = true) (hg : Row w g t old)
    (h : wpList P ops Q rest (a.put o.dst undef) (w.setRow g cs)) : wpList P ops Q (o :: rest) a w :=
  wpList_plain hgd fun _ hK => wp_storeRow ty x y ho g hx cs hy old t n hi hs ho' h1 hg (hK _ _ h)
/-! ### all but one block is as it was when the region began -/
section
variable {W w w1 w2 : World} {X : Option Nat} {g : Nat} {T : TypeId} {cs : Array Value}
theorem bl_row {B : Nat} (h : Below B W w) (hr : Row W g T cs) (hg : g < B) : Row w g T cs := (h.block g hg).trans hr
theorem bl_cell {B : Nat} {p : Addr} {v : Value} (h : Below B W w) (hc : W.cell? p = some v) (hg : p.block < B) : w.cell? p = some v := (h.cell hg).trans hc
theorem bl_step {B : Nat} (h : Below B W w1) (hb : Below w1.heap.size w1 w2) (hB : B ≤ W.heap.size) : Below B W w2 := h.trans (hb.mono (Nat.le_trans hB h.size))
theorem gb_refl (w : World) (X : Option Nat) : w.grownBy w X := ⟨rfl, rfl, rfl, Nat.le_refl _, fun _ _ _ => rfl⟩
theorem gb_below (h : W.grownBy w1 X) (hb : Below w1.heap.size w1 w2) : W.grownBy w2 X :=
  ⟨hb.os.trans h.os, hb.tape.trans h.tape, hb.output.trans h.output, Nat.le_trans h.size hb.size, fun k hk hx => (hb.block k (Nat.lt_of_lt_of_le hk h.size)).trans (h.block k hk hx)⟩
theorem gb_drew (h : W.grownBy w1 X) : W.grownBy w1.drew X := ⟨h.os, h.tape, h.output, h.size, h.block⟩
theorem gb_setRow (h : W.grownBy w1 (some g)) (cs : Array Value) : W.grownBy (w1.setRow g cs) (some g) :=
  ⟨h.os, h.tape, h.output, by simpa using h.size, fun k hk hx => (setRow_other _ _ _ _ (fun e => hx (by rw [e]))).trans (h.block k hk hx)⟩
theorem gb_Below (h : W.grownBy w none) : Below W.heap.size W w := ⟨h.os, h.tape, h.output, h.size, fun k hk => h.block k hk (by simp)⟩
theorem gb_row (h : W.grownBy w X) (hr : Row W g T cs) (hx : some g ≠ X) : Row w g T cs := (h.block g hr.lt hx).trans hr
theorem gb_cell {p : Addr} {v : Value} (h : W.grownBy w X) (hc : W.cell? p = some v) (hx : some p.block ≠ X) : w.cell? p = some v := by
  have hlt := World.block_lt_of_cell? W p hc
  have e := h.block p.block hlt hx
  simp only [World.cell?, e] at hc ⊢
  exact hc
end
/-- An operation that changes nothing is taken first; the closed facts by the kernel. -/
theorem tkY {P : Program} {md : Region.Mode} {ops : Array Oper} {Q : Exit → Act → World → Prop} {S : World → Prop} (i : Nat) (v : Value) {oi : Oper} {fuel : Nat} {listed : Array Bool} {a : Act} {w : World} (hi : ops[i]? = some oi := by rfl)
    (hs : Region.noSelect ops = true := by kernel_rfl) (hf : Region.free md ops listed i = true := by kernel_rfl) (hr : (Region.ready md ops listed).contains i = true := by kernel_rfl)
    (hQ : ∀ c a w, Q (.panic c) (a.put oi.dst v) w → Q (.panic c) a w := by exact fun _ _ _ h => h) (hy : YieldsIf P ops S oi v a) (hS : S w)
    (h : wpAnyH P md ops Q S fuel (listed.setIfInBounds i true) (a.put oi.dst v) w) : wpAnyH P md ops Q S (fuel + 1) listed a w :=
  wpAnyH_take hi hs hf hr hQ hy hS h
/-- The same, short: an operation that is not wanted; one that yields. -/
theorem tkN {P : Program} {md : Region.Mode} {ops : Array Oper} {Q : Exit → Act → World → Prop} {S : World → Prop} (i : Nat) {oi : Oper} {fuel : Nat} {listed : Array Bool} {a : Act} {w : World} (h : wpAnyH P md ops Q S fuel (listed.setIfInBounds i true) (a.put oi.dst undef) w) (hi : ops[i]? = some oi := by rfl)
    (hs : Region.noSelect ops = true := by kernel_rfl) (hf : Region.free md ops listed i = true := by kernel_rfl) (hr : (Region.ready md ops listed).contains i = true := by kernel_rfl)
    (hQ : ∀ c a w, Q (.panic c) (a.put oi.dst undef) w → Q (.panic c) a w := by exact fun _ _ _ h => h) (hy : Region.wanted oi (yielded ops a.tmps) = false := by rfl) (hS : S w := by assumption) :
    wpAnyH P md ops Q S (fuel + 1) listed a w := wpAnyH_take hi hs hf hr hQ (Or.inr ⟨hy, rfl⟩) hS h
theorem tkV {P : Program} {md : Region.Mode} {ops : Array Oper} {Q : Exit → Act → World → Prop} {S : World → Prop} (i : Nat) (v : Value) {oi : Oper} {fuel : Nat} {listed : Array Bool} {a : Act} {w : World} (y : ∀ w, S w → (execOp a.eval oi).run P w = .ok (.value v) w) (h : wpAnyH P md ops Q S fuel (listed.setIfInBounds i true) (a.put oi.dst v) w) (hi : ops[i]? = some oi := by rfl)
    (hs : Region.noSelect ops = true := by kernel_rfl) (hf : Region.free md ops listed i = true := by kernel_rfl) (hr : (Region.ready md ops listed).contains i = true := by kernel_rfl)
    (hQ : ∀ c a w, Q (.panic c) (a.put oi.dst v) w → Q (.panic c) a w := by exact fun _ _ _ h => h) (hy : Region.wanted oi (yielded ops a.tmps) = true := by rfl) (hS : S w := by assumption) :
    wpAnyH P md ops Q S (fuel + 1) listed a w := wpAnyH_take hi hs hf hr hQ (Or.inl ⟨hy, y⟩) hS h
/-- What a list's cell is once another is put: names that are short. -/
theorem pa {α : Type} {xs : List α} {i : Nat} (h : i < xs.toArray.size) : xs.toArray[i]'h = xs[i]'(by simpa using h) := List.getElem_toArray h
theorem pb {α : Type} {a : α} {as : List α} {i : Nat} (h : i + 1 < (a :: as).length) : (a :: as)[i + 1]'h = as[i]'(Nat.lt_of_succ_lt_succ h) := List.getElem_cons_succ a as i h
theorem pc {α : Type} {a : α} {as : List α} (h : 0 < (a :: as).length) : (a :: as)[0]'h = a := rfl
theorem pd {α : Type} {xs : List α} {i : Nat} {a : α} : xs.toArray.setIfInBounds i a = (xs.set i a).toArray := List.setIfInBounds_toArray xs i a
theorem pe {α : Type} {x a : α} {xs : List α} : (x :: xs).set 0 a = a :: xs := rfl
theorem pf {α : Type} {x a : α} {xs : List α} {i : Nat} : (x :: xs).set (i + 1) a = x :: xs.set i a := rfl
end Go.Proofs.YtbamhiegabeicaaGreat.Mem

