/- Rows of whole numbers, and what a region that draws its order may lean on: all that stood when it began. No statement is proved here. -/
import Derived.Test.YtgcmgohknocfnaaMem
import Derived.BigQuiet
import Derived.Deep.RegionHeld3
namespace Go.Proofs.Ytgcmgohknocfnaa.Mem
open Go.RowKit
theorem range_below {W w : World} {g o : Nat} {cs : List Value} (h : Below W.heap.size W w) (hg : g < W.heap.size) (hr : W.rangeAt g o cs) : w.rangeAt g o cs := fun j v hv => by
  rw [h.cell (p := ⟨g, o + j, none⟩) hg]
  exact hr j v hv
theorem row_range {W : World} {g : Nat} {cs : Array Value} {T : TypeId} (h : W.heap[g]? = some (.cells cs T (0, 0))) : W.rangeAt g 0 cs.toList := fun j v hv => by
  rw [Nat.zero_add, cell_of_row _ _ _ _ _ _ h]
  simpa using hv
theorem row_lt {W : World} {g : Nat} {o : Obj} (h : W.heap[g]? = some o) : g < W.heap.size := (Array.getElem?_eq_some_iff.1 h).1
theorem row_cell {w : World} {g : Nat} {cs : Array Value} {T : TypeId} (h : w.heap[g]? = some (.cells cs T (0, 0))) (i : Nat) (v : Value) (hv : cs[i]? = some v) : w.cell? ⟨g, i, none⟩ = some v := by
  rw [cell_of_row _ _ _ _ _ _ h, hv]
/-- A block all of whose cells are known. -/
def Row (w : World) (g : Nat) (T : TypeId) (cs : Array Value) : Prop := w.heap[g]? = some (.cells cs T (0, 0))
section
variable {w w' : World} {g : Nat} {T : TypeId} {cs : Array Value}
theorem Row.out (h : Row w g T cs) : w.heap[g]? = some (.cells cs T (0, 0)) := h
theorem Row.new (w : World) (T : TypeId) (cs : Array Value) : Row (w.alloc (.cells cs T)) w.heap.size T cs := heap_alloc_new w _
theorem Row.lt (h : Row w g T cs) : g < w.heap.size := row_lt h
theorem Row.alloc (h : Row w g T cs) (o : Obj) : Row (w.alloc o) g T cs := (Below.heap_alloc w o g h.lt).trans h
theorem Row.drew (h : Row w g T cs) : Row w.drew g T cs := h
theorem Row.drewN (h : Row w g T cs) (n : Nat) : Row (w.drewN n) g T cs := h
theorem Row.below (h : Row w g T cs) (hb : Below w.heap.size w w') : Row w' g T cs := (hb.block g h.lt).trans h
theorem Row.cell (h : Row w g T cs) (i : Nat) {v : Value} (hv : cs[i]? = some v) : w.cell? ⟨g, i, none⟩ = some v := row_cell h i v hv
theorem Row.frozen (h : Row w g T cs) (i : Nat) : w.frozen? ⟨g, i, none⟩ = false := frozen_of_row _ _ _ _ _ h
theorem Row.set (h : Row w g T cs) (cs' : Array Value) : Row (w.setRow g cs') g T cs' := setRow_heap _ _ _ _ _ _ h
theorem Row.far (h : Row w g T cs) {k : Nat} (hk : g ≠ k) (cs' : Array Value) : Row (w.setRow k cs') g T cs := (setRow_other _ _ _ _ hk).trans h
theorem Row.put (h : Row w g T cs) (i : Nat) (v : Value) : Row (w.setCell ⟨g, i, none⟩ v) g T (cs.setIfInBounds i v) := heap_setCell_same _ _ _ _ _ _ h
theorem Row.farCell (h : Row w g T cs) {a : Addr} (hk : g ≠ a.block) (v : Value) : Row (w.setCell a v) g T cs := (Below.heap_setCell w a v g hk).trans h
theorem Row.range (h : Row w g T cs) : w.rangeAt g 0 cs.toList := row_range h
end
/-- Whole numbers as cells. -/
def nums (l : List Int) : Array Value := (l.map (Value.int .i64)).toArray
theorem nums_size (l : List Int) : (nums l).size = l.length := by simp [nums]
theorem nums_get (l : List Int) (i : Nat) (hi : i < l.length) : (nums l)[i]? = some (.int .i64 l[i]) := by simp [nums, hi]
theorem nums_set (l : List Int) (i : Nat) (n : Int) : (nums l).setIfInBounds i (.int .i64 n) = nums (l.set i n) := by
  apply Array.ext'
  simp [nums, List.map_set]
end Go.Proofs.Ytgcmgohknocfnaa.Mem
