/- ReadyTells. -/
import Derived.Test.YtechlhmmgabikaaR9
namespace Go.Proofs.Ytechlhmmgabikaa.Rd
open Go.RowKit Go.Proofs.Ytechlhmmgabikaa.Mem Go.Proofs.Ytechlhmmgabikaa.Open Go.Proofs.Ytechlhmmgabikaa.Kind Go.Proofs.Ytechlhmmgabikaa.Blk Go.Proofs.Ytechlhmmgabikaa.App Go.Proofs.Ytechlhmmgabikaa.Pat Go.Proofs.Ytechlhmmgabikaa.Same
set_option linter.unusedVariables false
set_option linter.unusedSimpArgs false
set_option maxHeartbeats 2000000 in
set_option maxRecDepth 100000 in
theorem tells_walk (A : Option Addr) (c : Nat) (xs : List Chg) (bl id : Int) (w : World) (hx : Chs w A xs) (hc : A = none → c = 0) (hbl : (Lit.int .i64 bl).wf = true) (hid : (Lit.int .i64 id).wf = true) :
    Calls Try.prog 7 #[.slice A xs.length c, .int .i64 bl, .int .i64 id] w fun e w' => e = .returned (.bool true) ∧ Below w.heap.size w w' := by
  have CMu := Lib.hid (much_any A c xs 30 w hx (by omega))
  cases hmu : muchC xs 30 with
  | true =>
    rw [hmu] at CMu
    go_enter Try.func7, Try.ntmps7
    go_wp2_with fail
    refine CMu.out.mono ?_
    rintro e w1 ⟨rfl, hb1⟩
    go_wp2_with fail
    refine (works9 w1).mono ?_
    rintro e wB ⟨rfl, hbB⟩
    go_wp2
    go_ret
    exact ⟨rfl, hb1.trans (hbB.mono hb1.size)⟩
  | false =>
    rw [hmu] at CMu
    obtain ⟨hn, hs⟩ := muchC_no hmu
    clear hmu
    go_enter Try.func7, Try.ntmps7
    go_wp2_with fail
    refine CMu.out.mono ?_
    rintro e w1 ⟨rfl, hb1⟩
    go_wp2_with fail
    refine (to9_any A c xs w1 (hx.below hb1) hs (by omega)).mono ?_
    rintro e w2 ⟨v2, rfl, hown2, hb2⟩
    obtain ⟨A2, c2, rfl, h1, h2, h3, hx2⟩ := hown2.rw_
    have hb12 := hb1.trans (hb2.mono hb1.size)
    clear hown2 hb1 hb2 CMu
    have CC := Lib.hid (fun w' h => chk_any A2 c2 xs w' h)
    have CM := Lib.hid (fun w' h => may_any A c xs w' h)
    have CR := Lib.hid (fun w' h => Ready_any A2 c2 xs bl w' h h1 h2 (by omega) hs)
    have CS := Lib.hid (fun w' h => RReady_any A c xs bl w' h (by omega))
    have CW := Lib.hid (fun w' h => Waits_any A2 c2 xs id hid w' h h1 h2 (by omega) hs)
    have CV := Lib.hid (fun w' h => RWaits_any A c xs id w' h (by omega))
    cases hm : mayF 0 xs with
    | true =>
      rw [hm] at CC CM
      rw [show okN true = 0 from rfl] at CC
      clear hm
      go_wp2_with fail
      refine (CC.out w2 hx2).mono ?_
      rintro e w3 ⟨rfl, hb3⟩
      have hb13 := hb12.trans (hb3.mono hb12.size)
      go_wp2_with fail
      refine (CM.out w3 (hx.below hb13)).mono ?_
      rintro e w4 ⟨rfl, hb4⟩
      have hb14 := hb13.trans (hb4.mono hb13.size)
      have hx4 := (hx2.below hb3).below hb4
      clear CC CM hb12 hb3 hb13 hb4
      go_wp2_with fail
      refine (CR.out w4 hx4).mono ?_
      rintro e w5 ⟨v5, rfl, ho5, hb5⟩
      have hb15 := hb14.trans (hb5.mono hb14.size)
      go_wp2_with fail
      refine (CS.out w5 (hx.below hb15)).mono ?_
      rintro e w6 ⟨v6, rfl, ho6, hb6⟩
      have hb16 := hb15.trans (hb6.mono hb15.size)
      have hx6 := (hx4.below hb5).below hb6
      obtain ⟨A5, c5, rfl⟩ := ho5.slice
      obtain ⟨A6, c6, rfl⟩ := ho6.slice
      have I1 := Lib.hid (ints_any A5 A6 _ _ c5 c6 _ _ w6 (ho5.below hb6).sl.2 ho6.sl.2)
      clear ho5 ho6 hb14 hb5 hb15 hb6 CR CS hx4
      go_wp2_with fail
      refine I1.out.mono ?_
      rintro e w7 ⟨rfl, q7, hw7⟩
      have hb7 : Below w6.heap.size w6 w7 := by rw [hw7]; exact bdrewN (Below.refl _ _) q7
      have hb17 := hb16.trans (hb7.mono hb16.size)
      have hx7 := hx6.below hb7
      clear I1 hb16 hb7 hw7 hx6
      go_wp2_with fail
      refine (CW.out w7 hx7).mono ?_
      rintro e w8 ⟨v8, rfl, ho8, hb8⟩
      have hb18 := hb17.trans (hb8.mono hb17.size)
      go_wp2_with fail
      refine (CV.out w8 (hx.below hb18)).mono ?_
      rintro e w9 ⟨v9, rfl, ho9, hb9⟩
      have hb19 := hb18.trans (hb9.mono hb18.size)
      obtain ⟨A8, c8, rfl⟩ := ho8.slice
      obtain ⟨A9, c9, rfl⟩ := ho9.slice
      have I2 := Lib.hid (ints_any A8 A9 _ _ c8 c9 _ _ w9 (ho8.below hb9).sl.2 ho9.sl.2)
      clear ho8 ho9 hb17 hb8 hb18 hb9 CW CV hx7
      go_wp2_with fail
      refine I2.out.mono ?_
      rintro e wA ⟨rfl, qA, hwA⟩
      have hbA : Below w9.heap.size w9 wA := by rw [hwA]; exact bdrewN (Below.refl _ _) qA
      have hb1A := hb19.trans (hbA.mono hb19.size)
      clear I2 hb19 hbA hwA
      go_wp2_with fail
      refine (works9 wA).mono ?_
      rintro e wB ⟨rfl, hbB⟩
      go_wp2
      go_ret
      exact ⟨rfl, hb1A.trans (hbB.mono hb1A.size)⟩
    | false =>
      rw [hm] at CC CM
      rw [show okN false = 1 from rfl] at CC
      clear hm
      go_wp2_with fail
      refine (CC.out w2 hx2).mono ?_
      rintro e w3 ⟨rfl, hb3⟩
      have hb13 := hb12.trans (hb3.mono hb12.size)
      go_wp2_with fail
      refine (CM.out w3 (hx.below hb13)).mono ?_
      rintro e w4 ⟨rfl, hb4⟩
      have hb14 := hb13.trans (hb4.mono hb13.size)
      have hx4 := (hx2.below hb3).below hb4
      clear CC CM hb12 hb3 hb13 hb4
      go_wp2_with fail
      refine (CR.out w4 hx4).mono ?_
      rintro e w5 ⟨v5, rfl, ho5, hb5⟩
      have hb15 := hb14.trans (hb5.mono hb14.size)
      go_wp2_with fail
      refine (CS.out w5 (hx.below hb15)).mono ?_
      rintro e w6 ⟨v6, rfl, ho6, hb6⟩
      have hb16 := hb15.trans (hb6.mono hb15.size)
      have hx6 := (hx4.below hb5).below hb6
      obtain ⟨A5, c5, rfl⟩ := ho5.slice
      obtain ⟨A6, c6, rfl⟩ := ho6.slice
      have I1 := Lib.hid (ints_any A5 A6 _ _ c5 c6 _ _ w6 (ho5.below hb6).sl.2 ho6.sl.2)
      clear ho5 ho6 hb14 hb5 hb15 hb6 CR CS hx4
      go_wp2_with fail
      refine I1.out.mono ?_
      rintro e w7 ⟨rfl, q7, hw7⟩
      have hb7 : Below w6.heap.size w6 w7 := by rw [hw7]; exact bdrewN (Below.refl _ _) q7
      have hb17 := hb16.trans (hb7.mono hb16.size)
      have hx7 := hx6.below hb7
      clear I1 hb16 hb7 hw7 hx6
      go_wp2_with fail
      refine (CW.out w7 hx7).mono ?_
      rintro e w8 ⟨v8, rfl, ho8, hb8⟩
      have hb18 := hb17.trans (hb8.mono hb17.size)
      go_wp2_with fail
      refine (CV.out w8 (hx.below hb18)).mono ?_
      rintro e w9 ⟨v9, rfl, ho9, hb9⟩
      have hb19 := hb18.trans (hb9.mono hb18.size)
      obtain ⟨A8, c8, rfl⟩ := ho8.slice
      obtain ⟨A9, c9, rfl⟩ := ho9.slice
      have I2 := Lib.hid (ints_any A8 A9 _ _ c8 c9 _ _ w9 (ho8.below hb9).sl.2 ho9.sl.2)
      clear ho8 ho9 hb17 hb8 hb18 hb9 CW CV hx7
      go_wp2_with fail
      refine I2.out.mono ?_
      rintro e wA ⟨rfl, qA, hwA⟩
      have hbA : Below w9.heap.size w9 wA := by rw [hwA]; exact bdrewN (Below.refl _ _) qA
      have hb1A := hb19.trans (hbA.mono hb19.size)
      clear I2 hb19 hbA hwA
      go_wp2_with fail
      refine (works9 wA).mono ?_
      rintro e wB ⟨rfl, hbB⟩
      go_wp2
      go_ret
      exact ⟨rfl, hb1A.trans (hbB.mono hb1A.size)⟩
end Go.Proofs.Ytechlhmmgabikaa.Rd
