/- Calls: op.Do. -/
import Derived.Test.YtgcmgohknocfnaaOp4
namespace Go.Proofs.Ytgcmgohknocfnaa.Opk
open Go.RowKit Go.Proofs.Ytgcmgohknocfnaa.Mem Go.Proofs.Ytgcmgohknocfnaa.Open Go.Proofs.Ytgcmgohknocfnaa.Kind Go.Proofs.Ytgcmgohknocfnaa.Blk Go.Proofs.Ytgcmgohknocfnaa.App
set_option linter.unusedVariables false
set_option linter.unusedSimpArgs false
/-- The number of a name, or nought. -/
def IsDo (s : ByteArray) (r : Int) : Prop := (r = 0 ∧ ∀ j : Int, 1 ≤ j → j ≤ 13 → nameT j ≠ s) ∨ (1 ≤ r ∧ r ≤ 13 ∧ nameT r = s ∧ ∀ j : Int, 1 ≤ j → j < r → nameT j ≠ s)
set_option maxHeartbeats 1000000 in
set_option maxRecDepth 100000 in
theorem do_any (s : ByteArray) (w : World) :
    Calls Try.prog 42 #[.string s] w fun e w' => ∃ r : Int, e = .returned (.int .i64 r) ∧ IsDo s r ∧ Below w.heap.size w w' := by
  go_enter Try.func42, Try.ntmps42
  go_wp2
  go_loopw [3] (fun i wr => ∃ k : Int, i = .int .i64 k ∧ 1 ≤ k ∧ k ≤ 14 ∧ (∀ j : Int, 1 ≤ j → j < k → nameT j ≠ s) ∧ Below w.heap.size w wr) (fun i _ => 14 - (intOf i).toNat)
  case atStart => exact ⟨1, rfl, by omega, by omega, fun j h1 h2 => by omega, Below.refl _ _⟩
  case round =>
    obtain ⟨k, rfl, hk1, hk2, hall, hbel⟩ := hrel
    have HA := Lib.hid hall
    have hsz := hbel.size
    clear hall
    by_cases hlt : k ≤ 13
    · have CN := Lib.hid (fun w' => name_any k w')
      by_cases he : nameT k = s
      · have hc : ((nameT k).toList == s.toList) = true := by rw [Same.str_eq, decide_eq_true_eq]; exact he
        have HI : Hid (IsDo s k) := .inr ⟨hk1, hlt, he, HA.out⟩
        clear he
        generalize nameT k = t at *
        go_wp2_with fail
        refine (CN.out _).mono ?_
        rintro e w2 ⟨rfl, hb2⟩
        go_wp2
        go_ret
        exact ⟨k, rfl, HI.out, hbel.trans (hb2.mono hsz)⟩
      · have hc : ((nameT k).toList == s.toList) = false := by rw [Same.str_eq, decide_eq_false_iff_not]; exact he
        have HA2 : Hid (∀ j : Int, 1 ≤ j → j < k + 1 → nameT j ≠ s) := fun j h1 h2 => by
          by_cases e : j = k
          · rw [e]; exact he
          · exact HA.out j h1 (by omega)
        clear he
        generalize nameT k = t at *
        go_wp2_with fail
        refine (CN.out _).mono ?_
        rintro e w2 ⟨rfl, hb2⟩
        have hb3 := hbel.trans (hb2.mono hsz)
        go_wp2
        go_roundw
        case rel => exact ⟨k + 1, rfl, by omega, by omega, HA2.out, hb3⟩
        case measure => simp [intOf]; omega
    · have HI : Hid (IsDo s 0) := .inl ⟨rfl, fun j h1 h2 => HA.out j h1 (by omega)⟩
      go_wp2
      go_ret
      exact ⟨0, rfl, HI.out, hbel⟩
end Go.Proofs.Ytgcmgohknocfnaa.Opk
