/- The contracts of ready.Waits and ready.Ready. No statement is proved here. -/
import Derived.Test.YteeodeooicoekaaRp
namespace Go.Proofs.Yteeodeooicoekaa.Rd
open Go.RowKit Go.Proofs.Yteeodeooicoekaa.Mem Go.Proofs.Yteeodeooicoekaa.Open Go.Proofs.Yteeodeooicoekaa.Kind Go.Proofs.Yteeodeooicoekaa.Blk Go.Proofs.Yteeodeooicoekaa.App Go.Proofs.Yteeodeooicoekaa.Pat
set_option linter.unusedVariables false
set_option linter.unusedSimpArgs false
/-- Numbers that the call has laid. -/
abbrev Ns (w : World) (B : Nat) (v : Value) (xs : List Int) : Prop := Own w B 3 V64 v xs
theorem waits_any (A : Option Addr) (c : Nat) (xs : List Chg) (k : Nat) (hk : k < xs.length) (b m : Nat) (hmay : mayF 0 xs = true) (w : World) (hx : Chs w A xs) (hcap : xs.length ≤ c) (hcm : c ≤ M63) (hmp : Mp w b m (idxF xs 0 fun _ => 0)) (hn : xs.length ≤ 1000) (hs : Small xs) :
    Calls Try.prog 70 #[.slice A xs.length c, .int .i64 k, .map (some b)] w fun r w' => ∃ v, r = .returned v ∧ Ns w' w.heap.size v (waitK xs k xs[k]) ∧ Below w.heap.size w w' :=
  (waits_core A c xs k hk b m _ w hx hcap hcm hmp hn hs).mono fun e w' ⟨v, h1, h2, _, h3⟩ => ⟨v, h1, by rw [← waits_eq hmay hk]; exact h2, h3⟩
set_option maxHeartbeats 2000000 in
set_option maxRecDepth 100000 in
theorem Waits_any (A : Option Addr) (c : Nat) (xs : List Chg) (id : Int) (hid : WfI id) (w : World) (hx : Chs w A xs) (hcap : xs.length ≤ c) (hcm : c ≤ M63) (hn : xs.length ≤ 1000) (hs : Small xs) :
    Calls Try.prog 41 #[.slice A xs.length c, .int .i64 id] w fun r w' => ∃ v, r = .returned v ∧ Ns w' w.heap.size v (waitsS xs id) ∧ Below w.heap.size w w' := by
  have CI := Lib.hid (index_any A c xs w hx hn)
  have CC := Lib.hid (fun w' h => chk_any A c xs w' h)
  have CW := Lib.hid (fun k hk b m hmay w' h hmp => waits_any A c xs k hk b m hmay w' h hcap hcm hmp hn hs)
  cases hm : mayF 0 xs with
  | false =>
    rw [hm] at CC
    have HR := Lib.hid (waitsS_may (id := id) hm)
    clear hm
    go_enter Try.func41, Try.ntmps41
    go_wp2_with fail
    refine CI.out.mono ?_
    rintro e w1 ⟨b, rfl, hmp, hb, hb1⟩
    go_wp2_with fail
    refine (CC.out _ (hx.below hb1)).mono ?_
    rintro e w2 ⟨rfl, hb2⟩
    go_wp2
    go_ret
    exact ⟨_, rfl, by rw [HR.out]; exact Own.nil _ _ _ _, hb1.trans (hb2.mono hb1.size)⟩
  | true =>
    rw [hm] at CC
    rcases has_or (xs := xs) id with hno | ⟨k, hk, rfl⟩
    · have HR := Lib.hid (waitsS_not hno)
      have hf := idxF_not (k := 0) (f := fun _ => 0) hno
      go_enter Try.func41, Try.ntmps41
      go_wp2_with fail
      refine CI.out.mono ?_
      rintro e w1 ⟨b, rfl, hmp, hb, hb1⟩
      go_wp2_with fail
      refine (CC.out _ (hx.below hb1)).mono ?_
      rintro e w2 ⟨rfl, hb2⟩
      have hmp2 := hmp.below hb2
      have hr := hmp2.get hid Try.underlying82
      rw [hf] at hr
      go_wp2
      go_ret
      exact ⟨_, rfl, by rw [HR.out]; exact Own.nil _ _ _ _, hb1.trans (hb2.mono hb1.size)⟩
    · have HR := Lib.hid (waitsS_at hm hk)
      have hf := idxF_at (k := 0) (f := fun _ => 0) (mayF_iff.1 hm).1 hk
      rw [Nat.zero_add] at hf
      have hne : (((k : Nat) : Int) + 1 == 0) = false := beq_eq_false_iff_ne.2 (by omega)
      have HX : Hid True := Lib.hid trivial
      have CW1 := Lib.hid (fun b m w' h hmp => CW.out k hk b m hm w' h hmp)
      have HF := Lib.hid hf
      generalize hq : xs[k].id = id at *
      clear hq
      clear CW hm hf
      go_enter Try.func41, Try.ntmps41
      go_wp2_with fail
      refine CI.out.mono ?_
      rintro e w1 ⟨b, rfl, hmp, hb, hb1⟩
      go_wp2_with fail
      refine (CC.out _ (hx.below hb1)).mono ?_
      rintro e w2 ⟨rfl, hb2⟩
      have hmp2 := hmp.below hb2
      have hb12 := hb1.trans (hb2.mono hb1.size)
      have hr := hmp2.get hid Try.underlying82
      rw [HF.out] at hr
      go_wp2_with fail
      refine (CW1.out _ _ _ (hx.below hb12) hmp2).mono ?_
      rintro e w3 ⟨v3, rfl, hown3, hb3⟩
      go_wp2
      go_ret
      exact ⟨_, rfl, by rw [HR.out]; exact hown3.mono hb12.size, hb12.trans (hb3.mono hb12.size)⟩
end Go.Proofs.Yteeodeooicoekaa.Rd
