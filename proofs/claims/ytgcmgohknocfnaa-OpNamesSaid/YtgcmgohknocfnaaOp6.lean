/- Calls: op.Alike of a call with itself; the page's examples. -/
import Derived.Test.YtgcmgohknocfnaaOp5
namespace Go.Proofs.Ytgcmgohknocfnaa.Opk
open Go.RowKit Go.Proofs.Ytgcmgohknocfnaa.Mem Go.Proofs.Ytgcmgohknocfnaa.Open Go.Proofs.Ytgcmgohknocfnaa.Kind Go.Proofs.Ytgcmgohknocfnaa.Blk Go.Proofs.Ytgcmgohknocfnaa.App
set_option linter.unusedVariables false
set_option linter.unusedSimpArgs false
set_option maxHeartbeats 1000000 in
set_option maxRecDepth 100000 in
theorem works_any (w : World) :
    Calls Try.prog 36 #[] w fun e w' => e = .returned (.bool true) ∧ Below w.heap.size w w' := by
  have hr : ∀ r : Int, IsDo "rename".toUTF8 r → r = 6 := fun r h => by
    have h6 : nameT 6 = "rename".toUTF8 := by decide +kernel
    rcases h with ⟨rfl, h⟩ | ⟨h1, h2, h3, h4⟩
    · exact absurd h6 (h 6 (by omega) (by omega))
    · by_cases hlt : 6 < r
      · exact absurd h6 (h4 6 (by omega) hlt)
      · rcases (by omega : r = 1 ∨ r = 2 ∨ r = 3 ∨ r = 4 ∨ r = 5 ∨ r = 6) with rfl | rfl | rfl | rfl | rfl | rfl
        all_goals first | rfl | (exfalso; revert h3; decide +kernel)
  have CD := Lib.hid (fun w' => do_any "rename".toUTF8 w')
  have HR := Lib.hid hr
  have CP := Lib.hid (fun w' => plain_0 ⟨#[47]⟩ ⟨#[]⟩ 0 5 none 0 0 w' 11 rfl rfl rfl rfl rfl rfl)
  have CC := Lib.hid (fun w' => check_any 0 ⟨#[]⟩ ⟨#[]⟩ 0 0 none 0 0 w' (by decide))
  have e1 : "rename".toUTF8 = ⟨#[114, 101, 110, 97, 109, 101]⟩ := by decide +kernel
  rw [e1] at CD HR
  rw [show opE 0 0 = 1 from by decide +kernel] at CC
  clear hr e1
  have hf4 : ∀ w, (Instr.field 64 (opV 11 ⟨#[47]⟩ ⟨#[]⟩ 0 0 none 0 0) 4).run Try.prog w = .ok (.int .i64 0) w := fun w => by kernel_rfl
  have hf1 : ∀ w, (Instr.field 64 (opV 11 ⟨#[47]⟩ ⟨#[]⟩ 0 0 none 0 0) 1).run Try.prog w = .ok (.string ⟨#[47]⟩) w := fun w => by kernel_rfl
  go_enter Try.func36, Try.ntmps36
  go_wp2_with fail
  refine (CD.out _).mono ?_
  rintro e w1 ⟨r, rfl, hi, hb1⟩
  have he := HR.out r hi
  subst he
  go_wp2_with fail
  refine (CP.out _).mono ?_
  rintro e w2 ⟨rfl, hb2⟩
  have hb12 := hb1.trans (hb2.mono hb1.size)
  go_wp2_with fail
  refine (CP.out _).mono ?_
  rintro e w3 ⟨rfl, hb3⟩
  have hb13 := hb12.trans (hb3.mono hb12.size)
  go_wp2_with fail
  refine (CC.out _).mono ?_
  rintro e w4 ⟨rfl, rfl⟩
  go_wp2
  go_ret
  exact ⟨rfl, hb13.alloc hb13.size _⟩
end Go.Proofs.Ytgcmgohknocfnaa.Opk
