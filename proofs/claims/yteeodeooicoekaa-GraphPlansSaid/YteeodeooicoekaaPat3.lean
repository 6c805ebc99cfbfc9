/- Patches, on: what lies there, whether two meet, are the same; the document's. -/
import Derived.Test.YteeodeooicoekaaPat2
import Derived.Test.YteeodeooicoekaaSame
namespace Go.Proofs.Yteeodeooicoekaa.Pat
open Go.RowKit Go.Proofs.Yteeodeooicoekaa.Mem Go.Proofs.Yteeodeooicoekaa.Open Go.Proofs.Yteeodeooicoekaa.Kind Go.Proofs.Yteeodeooicoekaa.Blk Go.Proofs.Yteeodeooicoekaa.App
set_option linter.unusedVariables false
set_option linter.unusedSimpArgs false
/-! ### plain -/
def layR (b : List Nat) (a : Nat) (d : List Nat) : List Nat := (List.range b.length).map fun i => if a ≤ i ∧ i - a < d.length then d.getD (i - a) 0 else b.getD i 0
theorem layR_length (b : List Nat) (a : Nat) (d : List Nat) : (layR b a d).length = b.length := by unfold layR; simp
theorem layR_get (b : List Nat) (a : Nat) (d : List Nat) (i : Nat) (hi : i < b.length) : (layR b a d)[i]? = some (if a ≤ i ∧ i - a < d.length then d.getD (i - a) 0 else b.getD i 0) := by
  unfold layR
  rw [List.getElem?_map, List.getElem?_range hi]; rfl
theorem layR_eq (b : List Nat) (a : Nat) (d : List Nat) (h : a + d.length ≤ b.length) : layR b a d = layK b a d d.length := by
  apply List.ext_getElem?
  intro j
  rw [layK_get _ _ _ _ _ h]
  by_cases hj : j < b.length
  · rw [layR_get _ _ _ _ hj]
    by_cases h2 : a ≤ j ∧ j - a < d.length
    · rw [if_pos h2, if_pos (by omega)]
    · rw [if_neg h2, if_neg (by omega), List.getD_eq_getElem?_getD, List.getElem?_eq_getElem hj]; rfl
  · rw [List.getElem?_eq_none (by rw [layR_length]; omega), if_neg (by omega), List.getElem?_eq_none (by omega)]
theorem getD_at (l : List Nat) (i : Nat) (hi : i < l.length) : l.getD i 0 = l[i] := by rw [List.getD_eq_getElem?_getD, List.getElem?_eq_getElem hi]; rfl
/-- What lies where a patch is laid. -/
def wasD (l : List Nat) (a : Int) (n : Nat) : List Nat := if rightN a n then (l.drop a.toNat).take n else []
def wasA (a : Int) (n : Nat) : Int := if rightN a n then a else 0
theorem wasD_byte (l : List Nat) (a : Int) (n : Nat) (hl : ∀ x ∈ l, x < 256) : ∀ x ∈ wasD l a n, x < 256 := by
  unfold wasD; split
  · intro x hx; exact hl x (List.mem_of_mem_drop (List.mem_of_mem_take hx))
  · intro x hx; cases hx
theorem wasD_length (l : List Nat) (a : Int) (n : Nat) (hl : l.length = 256) : (wasD l a n).length = if rightN a n then n else 0 := by
  unfold wasD; split
  · rename_i h; have := (right_iff _ _).1 h; rw [List.length_take, List.length_drop]; omega
  · rfl
def meetB (a : Int) (n : Nat) (b : Int) (m : Nat) : Bool := rightN a n && rightN b m && decide (a < b + m ∧ b < a + n)
theorem take_succ' {α : Type} (l : List α) (k : Nat) (x : α) (h : l[k]? = some x) : l.take (k + 1) = l.take k ++ [x] := by
  rw [List.take_add_one, h]; rfl

/-! ### Of, patch.Was -/
set_option maxHeartbeats 1000000 in
theorem of_any (a : Int) (A : Option Addr) (n c : Nat) (w : World) :
    Calls Try.prog 54 #[patV a A n c] w fun e w' => e = .returned (patV a A n c) ∧ Below w.heap.size w w' := by
  have hr1 : Row (w.alloc (.cells #[.int .i64 a, .slice A n c] 60)) w.heap.size 60 #[.int .i64 a, .slice A n c] := Row.new _ _ _
  have hr2 : Row ((w.alloc (.cells #[.int .i64 a, .slice A n c] 60)).alloc (.cells #[.int .i64 0, .slice none 0 0] 57)) (w.alloc (.cells #[.int .i64 a, .slice A n c] 60)).heap.size 57 #[.int .i64 0, .slice none 0 0] := Row.new _ _ _
  have e1 : (w.alloc (.cells #[.int .i64 a, .slice A n c] 60)).heap.size = w.heap.size + 1 := by simp
  rw [e1] at hr2
  have hbel := ((Below.refl w.heap.size w).alloc (Nat.le_refl _) (.cells #[.int .i64 a, .slice A n c] 60)).alloc (by simp) (.cells #[.int .i64 0, .slice none 0 0] 57)
  go_enter Try.func54, Try.ntmps54
  go_wp2_with (with_reducible refine wpList_storeRow rfl 57 _ _ rfl (w.heap.size + 1) rfl #[.int .i64 a, .slice A n c] rfl #[.int .i64 0, .slice none 0 0] 57 2 rpatSize rfl rfl (pat_one _ _ _ _) hr2 ?_)
  exact bodyPost_ret (v := patV a A n c) (results_cell_row rfl _ _ (w.heap.size + 1) 57 #[.int .i64 a, .slice A n c] (0, 0) _ rfl (hr2.set _) Try.underlying57 rfl rpatSize) rfl
    ⟨rfl, below_setRow hbel (by omega) _⟩
theorem two (w : World) (l : List Nat) (T T2 T3 : TypeId) (p q : Array Value) :
    Box (((w.alloc (.cells (blk l) T)).alloc (.cells p T2)).alloc (.cells q T3)) w.heap.size T l ∧ Row (((w.alloc (.cells (blk l) T)).alloc (.cells p T2)).alloc (.cells q T3)) (w.heap.size + 1) T2 p ∧
    Row (((w.alloc (.cells (blk l) T)).alloc (.cells p T2)).alloc (.cells q T3)) (w.heap.size + 1 + 1) T3 q ∧ Below w.heap.size w (((w.alloc (.cells (blk l) T)).alloc (.cells p T2)).alloc (.cells q T3)) := by
  have h1 : Row (w.alloc (.cells (blk l) T)) w.heap.size T (blk l) := Row.new _ _ _
  have h2 : Row ((w.alloc (.cells (blk l) T)).alloc (.cells p T2)) (w.alloc (.cells (blk l) T)).heap.size T2 p := Row.new _ _ _
  have h3 : Row (((w.alloc (.cells (blk l) T)).alloc (.cells p T2)).alloc (.cells q T3)) ((w.alloc (.cells (blk l) T)).alloc (.cells p T2)).heap.size T3 q := Row.new _ _ _
  have e1 : (w.alloc (.cells (blk l) T)).heap.size = w.heap.size + 1 := by simp
  have e2 : ((w.alloc (.cells (blk l) T)).alloc (.cells p T2)).heap.size = w.heap.size + 1 + 1 := by simp
  have h2a := h2.alloc (.cells q T3)
  rw [e1] at h2a
  rw [e2] at h3
  exact ⟨(h1.alloc _).alloc _, h2a, h3, (((Below.refl _ _).alloc (Nat.le_refl _) _).alloc (by simp) _).alloc (by simp; omega) _⟩
/-- A part of a block, read as bytes. -/
theorem box_part {w : World} {g : Nat} {T : TypeId} {l : List Nat} (h : Box w g T l) (a n : Nat) (hn : a + n ≤ l.length) (h256 : l.length = 256) : Sl w V8 (some ⟨g, a, none⟩) n ((l.drop a).take n) := by
  refine ⟨by rw [List.length_take, List.length_drop]; omega, by omega, fun i x hx => ⟨_, rfl, h.lt, ?_⟩⟩
  rw [addr_add]
  rw [List.getElem?_take] at hx
  split at hx
  · rw [List.getElem?_drop] at hx
    obtain ⟨hi, rfl⟩ := List.getElem?_eq_some_iff.1 hx
    exact h.cell (a + i) hi
  · cases hx
end Go.Proofs.Yteeodeooicoekaa.Pat
