/- The changes of a block that are laid, in order. Plain laws. No statement is proved here. -/
import Derived.Test.YteeodeooicoekaaRd2
namespace Go.Proofs.Yteeodeooicoekaa.Rd
open Go.Proofs.Yteeodeooicoekaa.Pat
set_option linter.unusedVariables false
set_option linter.unusedSimpArgs false
def lay1 (B : List Nat) (x : Chg) : List Nat := layL B x.pa x.pd
theorem lay1_len (B : List Nat) (x : Chg) : (lay1 B x).length = B.length := layL_length _ _ _
/-- The changes of a block that are laid, in order. -/
def laidF (b : Int) (is : Int → Bool) : List Nat → List Chg → List Nat
  | B, [] => B
  | B, x :: r => laidF b is (if x.blk = b ∧ is x.id = true then lay1 B x else B) r
def layAll (B : List Nat) (l : List Chg) : List Nat := l.foldl lay1 B
theorem layAll_len : ∀ (l : List Chg) (B : List Nat), (layAll B l).length = B.length
  | [], B => rfl
  | x :: l, B => (layAll_len l (lay1 B x)).trans (lay1_len B x)
def inBlk (b : Int) (is : Int → Bool) (x : Chg) : Bool := decide (x.blk = b) && is x.id
theorem laidF_eq (b : Int) (is : Int → Bool) : ∀ (xs : List Chg) (B : List Nat), laidF b is B xs = layAll B (xs.filter (inBlk b is))
  | [], B => rfl
  | x :: r, B => by
    rw [laidF, laidF_eq b is r]
    by_cases h : x.blk = b ∧ is x.id = true
    · rw [if_pos h, List.filter_cons_of_pos (by unfold inBlk; rw [decide_eq_true h.1, h.2]; rfl)]; rfl
    · rw [if_neg h, List.filter_cons_of_neg (by unfold inBlk; simpa using h)]
theorem laidF_len (b : Int) (is : Int → Bool) (B : List Nat) (xs : List Chg) : (laidF b is B xs).length = B.length := by rw [laidF_eq]; exact layAll_len _ _
def viewF (B : List Nat) (xs : List Chg) (b : Int) : List Nat := if mayF 0 xs = true then laidF b (fun _ => true) B xs else B
theorem viewF_len (B : List Nat) (xs : List Chg) (b : Int) : (viewF B xs b).length = B.length := by unfold viewF; split; exact laidF_len _ _ _ _; rfl
end Go.Proofs.Yteeodeooicoekaa.Rd
