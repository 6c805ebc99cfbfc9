/- Calls: op.Name, op.Do. -/
import Derived.Test.YtgcmgohknocfnaaOp3b
import Derived.Test.YtgcmgohknocfnaaSame
namespace Go.Proofs.Ytgcmgohknocfnaa.Opk
open Go.RowKit Go.Proofs.Ytgcmgohknocfnaa.Mem Go.Proofs.Ytgcmgohknocfnaa.Open Go.Proofs.Ytgcmgohknocfnaa.Kind Go.Proofs.Ytgcmgohknocfnaa.Blk Go.Proofs.Ytgcmgohknocfnaa.App
set_option linter.unusedVariables false
set_option linter.unusedSimpArgs false
/-- The names of all calls. -/
def nms : List ByteArray := [⟨#[]⟩, "create".toUTF8, "mkdir".toUTF8, "link".toUTF8, "unlink".toUTF8, "rmdir".toUTF8, "rename".toUTF8, "write".toUTF8, "read".toUTF8, "truncate".toUTF8, "list".toUTF8, "stat".toUTF8, "fsync".toUTF8, "sync".toUTF8]
def nameT (d : Int) : ByteArray := if d < 0 then ⟨#[]⟩ else nms.getD d.toNat ⟨#[]⟩
theorem nameT_lo {d : Int} (h : d < 0) : nameT d = ⟨#[]⟩ := if_pos h
theorem nameT_hi {d : Int} (h : 14 ≤ d) : nameT d = ⟨#[]⟩ := by
  unfold nameT
  rw [if_neg (by omega), List.getD_eq_getElem?_getD, List.getElem?_eq_none (by show 14 ≤ d.toNat; omega)]
  rfl
theorem ret_str {a b : ByteArray} (h : a = b) : Ending.returned (.string a) = .returned (.string b) := by rw [h]
set_option maxHeartbeats 2000000 in
set_option maxRecDepth 100000 in
theorem name_any (d : Int) (w : World) :
    Calls Try.prog 41 #[.int .i64 d] w fun e w' => e = .returned (.string (nameT d)) ∧ Below w.heap.size w w' := by
  by_cases h0 : d < 0
  · have HF := Lib.hid (nameT_lo h0)
    go_enter Try.func41, Try.ntmps41
    go_wp2
    go_ret
    exact ⟨ret_str HF.out.symm, (Below.refl _ _).alloc (Nat.le_refl _) _⟩
  by_cases h1 : 14 ≤ d
  · have HF := Lib.hid (nameT_hi h1)
    go_enter Try.func41, Try.ntmps41
    go_wp2
    go_ret
    exact ⟨ret_str HF.out.symm, (Below.refl _ _).alloc (Nat.le_refl _) _⟩
  rcases (by omega : d = 0 ∨ d = 1 ∨ d = 2 ∨ d = 3 ∨ d = 4 ∨ d = 5 ∨ d = 6 ∨ d = 7 ∨ d = 8 ∨ d = 9 ∨ d = 10 ∨ d = 11 ∨ d = 12 ∨ d = 13) with rfl | rfl | rfl | rfl | rfl | rfl | rfl | rfl | rfl | rfl | rfl | rfl | rfl | rfl
  all_goals (
    go_enter Try.func41, Try.ntmps41
    go_wp2
    go_ret
    exact ⟨ret_str (by decide +kernel), (Below.refl _ _).alloc (Nat.le_refl _) _⟩)
end Go.Proofs.Ytgcmgohknocfnaa.Opk
