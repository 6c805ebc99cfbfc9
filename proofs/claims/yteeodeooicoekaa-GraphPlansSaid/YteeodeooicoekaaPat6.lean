/- Patches: the document's Was and Same. -/
import Derived.Test.YteeodeooicoekaaPat5
namespace Go.Proofs.Yteeodeooicoekaa.Pat
open Go.RowKit Go.Proofs.Yteeodeooicoekaa.Mem Go.Proofs.Yteeodeooicoekaa.Open Go.Proofs.Yteeodeooicoekaa.Kind Go.Proofs.Yteeodeooicoekaa.Blk Go.Proofs.Yteeodeooicoekaa.App
set_option linter.unusedVariables false
set_option linter.unusedSimpArgs false
set_option maxHeartbeats 1000000 in
set_option maxRecDepth 100000 in
theorem rsame_any (a : Int) (A : Option Addr) (c : Nat) (d : List Nat) (b : Int) (A2 : Option Addr) (c2 : Nat) (f : List Nat) (w : World) (hd : By w A d) (hf : By w A2 f) :
    Calls Try.prog 61 #[patV a A d.length c, patV b A2 f.length c2] w fun e w' => e = .returned (.bool (psameB a d b f)) ∧ Below w.heap.size w w' := by
  obtain ⟨hp, hq, hbel⟩ := two_rows w 57 57 #[.int .i64 a, .slice A d.length c] #[.int .i64 b, .slice A2 f.length c2]
  by_cases hab : a = b
  · subst hab
    have HV : Hid (decide (d = f) = psameB a d a f) := by show _ = _; unfold psameB; simp
    have CS := Lib.hid (fun w' h1 h2 => Same.same_any A A2 d.length f.length c c2 d f w' h1 h2)
    go_enter Try.func61, Try.ntmps61
    go_wp2_with fail
    generalize (w.alloc (.cells #[.int .i64 a, .slice A d.length c] 57)).alloc (.cells #[.int .i64 a, .slice A2 f.length c2] 57) = w1 at *
    refine (CS.out _ (hd.below hbel).sl_byte (hf.below hbel).sl_byte).mono ?_
    rintro e w2 ⟨rfl, q, rfl⟩
    rw [HV.out]
    go_wp2
    go_ret
    exact ⟨rfl, bdrewN hbel q⟩
  · have HF : Hid (psameB a d b f = false) := by
      exact decide_eq_false fun h => hab h.1
    have hc : (a == b) = false := by rw [beq_eq_false_iff_ne]; exact hab
    clear hp hq hd hf hab
    go_enter Try.func61, Try.ntmps61
    go_wp2
    go_ret
    exact ⟨ret_bool HF.out.symm, hbel⟩
end Go.Proofs.Yteeodeooicoekaa.Pat
