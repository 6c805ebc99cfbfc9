/- GraphTells. -/
import Derived.Test.YteeodeooicoekaaGh
import Derived.Test.YteeodeooicoekaaGj
namespace Go.Proofs.Yteeodeooicoekaa.Rd
open Go.RowKit Go.Proofs.Yteeodeooicoekaa.Mem Go.Proofs.Yteeodeooicoekaa.Open Go.Proofs.Yteeodeooicoekaa.Kind Go.Proofs.Yteeodeooicoekaa.Blk Go.Proofs.Yteeodeooicoekaa.App Go.Proofs.Yteeodeooicoekaa.Pat Go.Proofs.Yteeodeooicoekaa.Same
set_option linter.unusedVariables false
set_option linter.unusedSimpArgs false
set_option maxHeartbeats 4000000 in
set_option maxRecDepth 100000 in
theorem gtells_walk (A : Option Addr) (c : Nat) (xs : List Chg) (id : Int) (w : World) (hx : Chs w A xs) (hc : A = none → c = 0) (hwi : (Lit.int .i64 id).wf = true) :
    Calls Try.prog 7 #[.slice A xs.length c, .int .i64 id] w fun e w' => e = .returned (.bool true) ∧ Below w.heap.size w w' := by
  have CMu := Lib.hid (much_any A c xs 24 w hx (by omega))
  go_enter Try.func7, Try.ntmps7
  go_wp2_with fail
  cases hmu : muchC xs 24 with
  | true =>
    rw [hmu] at CMu
    refine CMu.out.mono ?_
    rintro e w1 ⟨rfl, hb1⟩
    clear CMu
    go_wp2_with fail
    refine (works11 _).mono ?_
    rintro e wB ⟨rfl, hbB⟩
    go_wp2
    go_ret
    exact ⟨rfl, hb1.trans (hbB.mono hb1.size)⟩
  | false =>
    rw [hmu] at CMu
    obtain ⟨hn, hs⟩ := muchC_no hmu
    clear hmu
    refine CMu.out.mono ?_
    rintro e w1 ⟨rfl, hb1⟩
    have hx1 := hx.below hb1
    have hwf := all_wf hx id
    clear CMu
    have CT := Lib.hid (to9_any A c xs w1 hx1 hs (by omega))
    have CA := Lib.hid (fun A' c' w' h k1 k2 => All_any A' c' xs id w' h k1 k2 (by omega) hs)
    have CRA := Lib.hid (fun w' h => RAll_any A c xs id w' h (by omega))
    have CD := Lib.hid (fun A' c' w' h k1 k2 => Depth_any A' c' xs id hwi w' h k1 k2 (by omega) hs)
    have CRD := Lib.hid (fun w' h => RDepth_any A c xs id w' h (by omega))
    generalize allS xs id = L at *
    generalize depS xs id = dd at *
    go_wp2_with fail
    refine CT.out.mono ?_
    rintro e w2 ⟨v2, rfl, hown2, hb2⟩
    obtain ⟨A7, c7, rfl, k1, k2, k3, hy2⟩ := hown2.rw_
    have HB2 := Lib.hid (hb1.trans (hb2.mono hb1.size))
    have HX2 := Lib.hid (hx1.below hb2)
    have HY2 := Lib.hid hy2
    have CA := Lib.hid (fun w' h => CA.out A7 c7 w' h k1 k2)
    have CD := Lib.hid (fun w' h => CD.out A7 c7 w' h k1 k2)
    clear hown2 hb2 hb1 hx1 hy2 k1 k2 k3 CT
    go_wp2_with fail
    refine (CA.out _ HY2.out).mono ?_
    rintro e w3 ⟨v3, rfl, ho3, hb3⟩
    obtain ⟨A3, c3, rfl, -, -, -, hi3⟩ := own_is ho3 hwf
    have HB3 := Lib.hid (HB2.out.trans (hb3.mono HB2.out.size))
    have HX3 := Lib.hid (HX2.out.below hb3)
    have HY3 := Lib.hid (HY2.out.below hb3)
    have HI3 := Lib.hid hi3
    clear ho3 hb3 hi3 HB2 HX2 HY2 CA
    go_wp2_with fail
    refine (CRA.out _ HX3.out).mono ?_
    rintro e w4 ⟨v4, rfl, ho4, hb4⟩
    obtain ⟨A4, c4, rfl, -, -, -, hi4⟩ := own_is ho4 hwf
    have HB4 := Lib.hid (HB3.out.trans (hb4.mono HB3.out.size))
    have HX4 := Lib.hid (HX3.out.below hb4)
    have HY4 := Lib.hid (HY3.out.below hb4)
    have CI := Lib.hid (ints_yes A3 A4 _ _ c3 c4 L _ (HI3.out.below hb4).sl_int hi4.sl_int)
    clear ho4 hb4 hi4 HB3 HX3 HY3 HI3 CRA
    go_wp2_with fail
    refine CI.out.mono ?_
    rintro e w5 ⟨rfl, hb5⟩
    have HB5 := Lib.hid (HB4.out.trans (hb5.mono HB4.out.size))
    have HX5 := Lib.hid (HX4.out.below hb5)
    have HY5 := Lib.hid (HY4.out.below hb5)
    clear hb5 HB4 HX4 HY4 CI
    go_wp2_with fail
    refine (CD.out _ HY5.out).mono ?_
    rintro e w6 ⟨rfl, hb6⟩
    have HB6 := Lib.hid (HB5.out.trans (hb6.mono HB5.out.size))
    have HX6 := Lib.hid (HX5.out.below hb6)
    clear hb6 HB5 HX5 HY5 CD
    go_wp2_with fail
    refine (CRD.out _ HX6.out).mono ?_
    rintro e w7 ⟨rfl, hb7⟩
    have HB7 := Lib.hid (HB6.out.trans (hb7.mono HB6.out.size))
    clear hb7 HB6 HX6 CRD
    go_wp2_with fail
    refine (works11 _).mono ?_
    rintro e wB ⟨rfl, hbB⟩
    go_wp2
    go_ret
    exact ⟨rfl, HB7.out.trans (hbB.mono HB7.out.size)⟩
end Go.Proofs.Yteeodeooicoekaa.Rd
