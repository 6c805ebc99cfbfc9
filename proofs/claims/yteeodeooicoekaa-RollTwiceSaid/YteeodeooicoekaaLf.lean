/- The document's Image. No statement is proved here. -/
import Derived.Test.YteeodeooicoekaaLc
import Derived.Test.YteeodeooicoekaaLe
namespace Go.Proofs.Yteeodeooicoekaa.Rd
open Go.RowKit Go.Proofs.Yteeodeooicoekaa.Mem Go.Proofs.Yteeodeooicoekaa.Open Go.Proofs.Yteeodeooicoekaa.Kind Go.Proofs.Yteeodeooicoekaa.Blk Go.Proofs.Yteeodeooicoekaa.App Go.Proofs.Yteeodeooicoekaa.Pat
set_option linter.unusedVariables false
set_option linter.unusedSimpArgs false
set_option maxHeartbeats 2000000 in
set_option maxRecDepth 100000 in
theorem RImage_any (A : Option Addr) (c : Nat) (xs : List Chg) (bl : Int) (AB : Option Addr) (cB : Nat) (B : List Nat) (w : World) (hx : Chs w A xs) (hB : B.length = 256) (hB1 : 256 ≤ cB) (hB2 : cB ≤ M63) (hB3 : AB = none → cB = 0) (hby : By w AB B) (hn : xs.length ≤ 1000) :
    Calls Try.prog 18 #[.slice AB 256 cB, .slice A xs.length c, .int .i64 bl] w fun r w' => ∃ A' c', r = .returned (.slice A' 256 c') ∧ 256 ≤ c' ∧ c' ≤ M63 ∧ (A' = none → c' = 0) ∧ By w' A' (imgF B xs bl) ∧ Below w.heap.size w w' := by
  have CR := Lib.hid (RReady_any A c xs bl w hx hn)
  have hwf := ready_wf2 hx bl
  have HX := Lib.hid hx
  go_enter Try.func18, Try.ntmps18
  go_wp2_with fail
  refine CR.out.mono ?_
  rintro e w2 ⟨v2, rfl, hown2, hb2⟩
  obtain ⟨A2, c2, rfl, _, _, _, hi⟩ := own_is hown2 hwf
  have CL := Lib.hid (rlaid_in A c xs bl AB cB B A2 c2 (readyS xs bl) w2 (HX.out.below hb2) hB hB1 hB2 hB3 (hby.below hb2) hi hn)
  have HB2 := Lib.hid hb2
  clear hown2 hi CR hb2
  go_wp2_with fail
  refine CL.out.mono ?_
  rintro e w3 ⟨A3, c3, rfl, h1, h2, h3, h4, hb3⟩
  have H4 := Lib.hid h4
  have HB3 := Lib.hid (HB2.out.trans (hb3.mono HB2.out.size))
  clear h4 hb3 CL
  go_wp2
  go_ret
  exact ⟨A3, c3, rfl, h1, h2, h3, H4.out, HB3.out⟩
end Go.Proofs.Yteeodeooicoekaa.Rd
