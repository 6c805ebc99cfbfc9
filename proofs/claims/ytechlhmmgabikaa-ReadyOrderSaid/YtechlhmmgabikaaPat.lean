/- Patches: what they are, whether they may be, what they make of a block: patch.Check, patch.Lay, and the document's Right. -/
import Derived.Test.YtechlhmmgabikaaBlk
namespace Go.Proofs.Ytechlhmmgabikaa.Pat
open Go.RowKit Go.Proofs.Ytechlhmmgabikaa.Mem Go.Proofs.Ytechlhmmgabikaa.Open Go.Proofs.Ytechlhmmgabikaa.Kind Go.Proofs.Ytechlhmmgabikaa.Blk
set_option linter.unusedVariables false
set_option linter.unusedSimpArgs false
/-- May a patch of so many bytes be there? -/
def rightN (a : Int) (n : Nat) : Bool := decide (1 ≤ n ∧ n ≤ 256 ∧ 0 ≤ a ∧ a + n ≤ 256)
theorem right_iff (a : Int) (n : Nat) : rightN a n = true ↔ 1 ≤ n ∧ n ≤ 256 ∧ 0 ≤ a ∧ a + n ≤ 256 := by unfold rightN; exact decide_eq_true_iff
theorem right_not (a : Int) (n : Nat) : rightN a n = false ↔ ¬ (1 ≤ n ∧ n ≤ 256 ∧ 0 ≤ a ∧ a + n ≤ 256) := by unfold rightN; exact decide_eq_false_iff_not
/-- A block of which k bytes are laid. -/
def layK (l : List Nat) (a : Nat) (d : List Nat) : Nat → List Nat
  | 0 => l
  | k + 1 => (layK l a d k).set (a + k) (d.getD k 0)
theorem layK_length (l : List Nat) (a : Nat) (d : List Nat) (k : Nat) : (layK l a d k).length = l.length := by
  induction k with
  | zero => rfl
  | succ k ih => unfold layK; rw [List.length_set, ih]
theorem layK_get (l : List Nat) (a : Nat) (d : List Nat) (k j : Nat) (h : a + k ≤ l.length) : (layK l a d k)[j]? = if a ≤ j ∧ j < a + k then some (d.getD (j - a) 0) else l[j]? := by
  induction k with
  | zero => rw [if_neg (by omega)]; rfl
  | succ k ih =>
    unfold layK
    rw [List.getElem?_set, layK_length]
    by_cases e : a + k = j
    · subst e
      rw [if_pos rfl, if_pos (by omega), if_pos (by omega), show a + k - a = k from by omega]
    · rw [if_neg e, ih (by omega)]
      by_cases h2 : a ≤ j ∧ j < a + k
      · rw [if_pos h2, if_pos (by omega)]
      · rw [if_neg h2, if_neg (by omega)]
theorem layK_byte (l : List Nat) (a : Nat) (d : List Nat) (hl : ∀ x ∈ l, x < 256) (hd : ∀ x ∈ d, x < 256) (k : Nat) : ∀ x ∈ layK l a d k, x < 256 := by
  induction k with
  | zero => exact hl
  | succ k ih =>
    unfold layK
    intro x hx
    rcases List.mem_or_eq_of_mem_set hx with h | h
    · exact ih x h
    · subst h
      rw [List.getD_eq_getElem?_getD]
      by_cases hk : k < d.length
      · rw [List.getElem?_eq_getElem hk]; exact hd _ (List.getElem_mem hk)
      · rw [List.getElem?_eq_none (by omega)]; decide
/-- What a patch makes of a block. -/
def layL (l : List Nat) (a : Int) (d : List Nat) : List Nat := if rightN a d.length then layK l a.toNat d d.length else l
theorem layL_length (l : List Nat) (a : Int) (d : List Nat) : (layL l a d).length = l.length := by unfold layL; split <;> first | rfl | exact layK_length _ _ _ _
theorem layL_byte (l : List Nat) (a : Int) (d : List Nat) (hl : ∀ x ∈ l, x < 256) (hd : ∀ x ∈ d, x < 256) : ∀ x ∈ layL l a d, x < 256 := by
  unfold layL; split
  · exact layK_byte l _ d hl hd _
  · exact hl
theorem layL_get (l : List Nat) (a : Int) (d : List Nat) (hl : l.length = 256) (j : Nat) : (layL l a d)[j]? = if rightN a d.length = true ∧ a ≤ j ∧ (j : Int) < a + d.length then some (d.getD (j - a.toNat) 0) else l[j]? := by
  unfold layL
  cases h : rightN a d.length with
  | false => simp
  | true =>
    have := (right_iff _ _).1 h
    rw [if_pos rfl, layK_get _ _ _ _ _ (by omega)]
    by_cases h2 : a.toNat ≤ j ∧ j < a.toNat + d.length
    · rw [if_pos h2, if_pos ⟨rfl, by omega, by omega⟩]
    · rw [if_neg h2, if_neg (fun h3 => h2 (by omega))]
/-- A patch as a value. -/
abbrev patV (a : Int) (A : Option Addr) (n c : Nat) : Value := .agg #[.int .i64 a, .slice A n c]

/-! ### patch.Check, the document's Right -/
set_option maxHeartbeats 1000000 in
theorem check_yes (a : Int) (A : Option Addr) (n c : Nat) (w : World) (h : rightN a n = true) :
    Calls Try.prog 53 #[patV a A n c] w fun e w' => e = .returned (.int .i64 0) ∧ Below w.heap.size w w' := by
  obtain ⟨h1, h2, h3, h4⟩ := (right_iff _ _).1 h
  clear h
  go_enter Try.func53, Try.ntmps53
  go_wp2
  go_ret
  exact ⟨rfl, (Below.refl _ _).alloc (Nat.le_refl _) _⟩
set_option maxHeartbeats 1000000 in
theorem check_no (a : Int) (A : Option Addr) (n c : Nat) (w : World) (hn : n ≤ M63) (h : rightN a n = false) :
    Calls Try.prog 53 #[patV a A n c] w fun e w' => e = .returned (.int .i64 2) ∧ Below w.heap.size w w' := by
  have h := (right_not _ _).1 h
  unfold M63 at hn
  by_cases h1 : n < 1
  · clear h
    go_enter Try.func53, Try.ntmps53
    go_wp2
    go_ret
    exact ⟨rfl, (Below.refl _ _).alloc (Nat.le_refl _) _⟩
  by_cases h2 : 256 < n
  · clear h
    go_enter Try.func53, Try.ntmps53
    go_wp2
    go_ret
    exact ⟨rfl, (Below.refl _ _).alloc (Nat.le_refl _) _⟩
  by_cases h3 : a < 0
  · clear h
    go_enter Try.func53, Try.ntmps53
    go_wp2
    go_ret
    exact ⟨rfl, (Below.refl _ _).alloc (Nat.le_refl _) _⟩
  · have h4 : 256 - (n : Int) < a := by omega
    clear h
    go_enter Try.func53, Try.ntmps53
    go_wp2
    go_ret
    exact ⟨rfl, (Below.refl _ _).alloc (Nat.le_refl _) _⟩
theorem check_any (a : Int) (A : Option Addr) (n c : Nat) (w : World) (hn : n ≤ M63) :
    Calls Try.prog 53 #[patV a A n c] w fun e w' => e = .returned (.int .i64 (if rightN a n then 0 else 2)) ∧ Below w.heap.size w w' := by
  cases h : rightN a n
  · exact check_no a A n c w hn h
  · exact check_yes a A n c w h
set_option maxHeartbeats 1000000 in
theorem right_any (a : Int) (A : Option Addr) (n c : Nat) (w : World) (hn : n ≤ M63) :
    Calls Try.prog 55 #[patV a A n c] w fun e w' => e = .returned (.bool (rightN a n)) ∧ Below w.heap.size w w' := by
  unfold M63 at hn
  by_cases h1 : n < 1
  · have HR := Lib.hid ((right_not a n).2 (by omega))
    go_enter Try.func55, Try.ntmps55
    go_wp2
    go_ret
    exact ⟨ret_bool HR.out.symm, (Below.refl _ _).alloc (Nat.le_refl _) _⟩
  by_cases h2 : 256 < n
  · have HR := Lib.hid ((right_not a n).2 (by omega))
    go_enter Try.func55, Try.ntmps55
    go_wp2
    go_ret
    exact ⟨ret_bool HR.out.symm, (Below.refl _ _).alloc (Nat.le_refl _) _⟩
  by_cases h3 : a < 0
  · have HR := Lib.hid ((right_not a n).2 (by omega))
    go_enter Try.func55, Try.ntmps55
    go_wp2
    go_ret
    exact ⟨ret_bool HR.out.symm, (Below.refl _ _).alloc (Nat.le_refl _) _⟩
  by_cases h4 : 256 - (n : Int) < a
  · have HR := Lib.hid ((right_not a n).2 (by omega))
    have hd : decide (a ≤ 256 - (n : Int)) = false := decide_eq_false (by omega)
    go_enter Try.func55, Try.ntmps55
    go_wp2
    go_ret
    exact ⟨ret_bool HR.out.symm, (Below.refl _ _).alloc (Nat.le_refl _) _⟩
  · have HR := Lib.hid ((right_iff a n).2 (by omega))
    have hd : decide (a ≤ 256 - (n : Int)) = true := decide_eq_true (by omega)
    go_enter Try.func55, Try.ntmps55
    go_wp2
    go_ret
    exact ⟨ret_bool HR.out.symm, (Below.refl _ _).alloc (Nat.le_refl _) _⟩

/-! ### patch.Lay -/
theorem patSize : (Try.prog.info? 70).map (·.size) = some 2 := by kernel_rfl
theorem three (w : World) (l z : List Nat) (T T2 : TypeId) (p : Array Value) :
    Box (((w.alloc (.cells (blk l) T)).alloc (.cells p T2)).alloc (.cells (blk z) T)) w.heap.size T l ∧ Row (((w.alloc (.cells (blk l) T)).alloc (.cells p T2)).alloc (.cells (blk z) T)) (w.heap.size + 1) T2 p ∧
    Box (((w.alloc (.cells (blk l) T)).alloc (.cells p T2)).alloc (.cells (blk z) T)) (w.heap.size + 1 + 1) T z ∧ Below w.heap.size w (((w.alloc (.cells (blk l) T)).alloc (.cells p T2)).alloc (.cells (blk z) T)) := by
  have h1 : Row (w.alloc (.cells (blk l) T)) w.heap.size T (blk l) := Row.new _ _ _
  have h2 : Row ((w.alloc (.cells (blk l) T)).alloc (.cells p T2)) (w.alloc (.cells (blk l) T)).heap.size T2 p := Row.new _ _ _
  have h3 : Row (((w.alloc (.cells (blk l) T)).alloc (.cells p T2)).alloc (.cells (blk z) T)) ((w.alloc (.cells (blk l) T)).alloc (.cells p T2)).heap.size T (blk z) := Row.new _ _ _
  have e1 : (w.alloc (.cells (blk l) T)).heap.size = w.heap.size + 1 := by simp
  have e2 : ((w.alloc (.cells (blk l) T)).alloc (.cells p T2)).heap.size = w.heap.size + 1 + 1 := by simp
  have h2a := h2.alloc (.cells (blk z) T)
  rw [e1] at h2a
  rw [e2] at h3
  exact ⟨(h1.alloc _).alloc _, h2a, h3, (((Below.refl _ _).alloc (Nat.le_refl _) _).alloc (by simp) _).alloc (by simp; omega) _⟩
end Go.Proofs.Ytechlhmmgabikaa.Pat
