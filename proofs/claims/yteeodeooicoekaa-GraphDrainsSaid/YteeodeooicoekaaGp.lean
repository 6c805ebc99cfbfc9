/- GraphDrains. -/
import Derived.Test.YteeodeooicoekaaGh
import Derived.Test.YteeodeooicoekaaGn
import Derived.Test.YteeodeooicoekaaRh
namespace Go.Proofs.Yteeodeooicoekaa.Rd
open Go.RowKit Go.Proofs.Yteeodeooicoekaa.Mem Go.Proofs.Yteeodeooicoekaa.Open Go.Proofs.Yteeodeooicoekaa.Kind Go.Proofs.Yteeodeooicoekaa.Blk Go.Proofs.Yteeodeooicoekaa.App Go.Proofs.Yteeodeooicoekaa.Pat Go.Proofs.Yteeodeooicoekaa.Same
set_option linter.unusedVariables false
set_option linter.unusedSimpArgs false
theorem drain_gone : ∀ (n : Nat) (xs : List Chg), xs.length ≤ n → mayF 0 xs = true → afterS xs (drainS xs) = []
  | n, [], _, hm => rfl
  | 0, x :: r, h, _ => by simp at h
  | n + 1, x :: r, h, hm => by
    rw [drainS_cons hm, afterS]
    have := drain_less hm
    exact drain_gone n _ (by omega) (nx_may hm _)
theorem drainN_len : ∀ (n : Nat) (xs : List Chg), (drainN n xs).length ≤ n
  | 0, xs => Nat.le_refl _
  | n + 1, [] => Nat.zero_le _
  | n + 1, x :: r => by rw [drainN, List.length_cons]; exact Nat.succ_le_succ (drainN_len n _)
theorem drain_len (xs : List Chg) : (drainS xs).length ≤ xs.length := by
  unfold drainS
  split
  · exact drainN_len _ _
  · exact Nat.zero_le _
theorem drain_blk : ∀ (n : Nat) (xs : List Chg), xs.length ≤ n → mayF 0 xs = true → ∀ x ∈ xs, x.blk ∈ drainS xs
  | n, [], _, hm, x, hx => by cases hx
  | 0, y :: r, h, _, _, _ => by simp at h
  | n + 1, y :: r, h, hm, x, hx => by
    rw [drainS_cons hm]
    have hl := drain_less hm
    by_cases hr : x.id ∈ readyS (y :: r) y.blk
    · rw [ready_blk (mayF_iff.1 hm).1 hx hr]
      exact List.mem_cons_self
    · exact List.mem_cons_of_mem _ (drain_blk n _ (by omega) (nx_may hm _) x (mem_woS.2 ⟨hx, hr⟩))
theorem drain_more {xs : List Chg} (hm : mayF 0 xs = true) : (blkP xs []).length ≤ (drainS xs).length := by
  obtain ⟨h1, h2⟩ := blkP_spec (xs := xs) (out := []) .nil
  refine sub_len h1 fun b hb => ?_
  rcases (h2 b).1 hb with h | ⟨x, hx, rfl⟩
  · cases h
  · exact drain_blk _ _ (Nat.le_refl _) hm x hx
set_option maxHeartbeats 4000000 in
set_option maxRecDepth 100000 in
theorem drains_walk (A : Option Addr) (c : Nat) (xs : List Chg) (w : World) (hx : Chs w A xs) (hc : A = none → c = 0) :
    Calls Try.prog 11 #[.slice A xs.length c] w fun e w' => e = .returned (.bool true) ∧ Below w.heap.size w w' := by
  have CMu := Lib.hid (much_any A c xs 16 w hx (by omega))
  have CMy0 := fun w' h => may_any A c xs w' h
  go_enter Try.func11, Try.ntmps11
  go_wp2_with fail
  cases hmu : muchC xs 16 with
  | true =>
    rw [hmu] at CMu
    refine CMu.out.mono ?_
    rintro e w1 ⟨rfl, hb1⟩
    clear CMu CMy0
    go_wp2_with fail
    refine (works11 _).mono ?_
    rintro e wB ⟨rfl, hbB⟩
    go_wp2
    go_ret
    exact ⟨rfl, hb1.trans (hbB.mono hb1.size)⟩
  | false =>
    rw [hmu] at CMu
    obtain ⟨hn, hs⟩ := muchC_no hmu
    clear hmu
    refine CMu.out.mono ?_
    rintro e w1 ⟨rfl, hb1⟩
    clear CMu
    cases hm : mayF 0 xs with
    | false =>
      rw [hm] at CMy0
      have CMy := Lib.hid CMy0
      clear CMy0 hm
      go_wp2_with fail
      refine (CMy.out _ (hx.below hb1)).mono ?_
      rintro e w2 ⟨rfl, hb2⟩
      have hb12 := hb1.trans (hb2.mono hb1.size)
      clear CMy
      go_wp2_with fail
      refine (works11 _).mono ?_
      rintro e wB ⟨rfl, hbB⟩
      go_wp2
      go_ret
      exact ⟨rfl, hb12.trans (hbB.mono hb12.size)⟩
    | true =>
      rw [hm] at CMy0
      have CMy := Lib.hid CMy0
      have HGone := Lib.hid (drain_gone _ _ (Nat.le_refl _) hm)
      have hdl := drain_len xs
      have hdm := drain_more hm
      have hwd : ∀ n ∈ drainS xs, WfI n := drain_wf hx
      clear CMy0 hm
      go_wp2_with fail
      refine (CMy.out _ (hx.below hb1)).mono ?_
      rintro e w2 ⟨rfl, hb2⟩
      have hb12 := hb1.trans (hb2.mono hb1.size)
      have hx2 := hx.below hb12
      have CT := Lib.hid (to9_any A c xs w2 hx2 hs (by omega))
      have CDr := Lib.hid (fun A' c' w' h k1 k2 => Drain_any A' c' xs w' h k1 k2 (by omega) hs)
      have CAf := Lib.hid (fun A' c' AB cB w' h hb => After_any A' c' xs AB cB (drainS xs) w' h hb (by omega) hs)
      have CB := Lib.hid (fun w' h => RBlocks_any A c xs w' h (by omega))
      rw [HGone.out] at CAf
      generalize drainS xs = DR at *
      obtain ⟨BL, hBL⟩ : ∃ BL, blkP xs [] = BL := ⟨_, rfl⟩
      rw [hBL] at hdm CB
      clear hb2 CMy hb1 hBL
      go_wp2_with fail
      refine CT.out.mono ?_
      rintro e w3 ⟨v3, rfl, hown3, hb3⟩
      obtain ⟨A7, c7, rfl, k1, k2, k3, hy3⟩ := hown3.rw_
      have HB3 := Lib.hid (hb12.trans (hb3.mono hb12.size))
      have HX3 := Lib.hid (hx2.below hb3)
      have HY3 := Lib.hid hy3
      have CDr := Lib.hid (CDr.out A7 c7 w3 hy3 k1 k2)
      have CAf := Lib.hid (fun AB cB w' h hb => CAf.out A7 c7 AB cB w' h hb)
      clear hown3 hb3 hb12 hx2 hy3 k1 k2 k3 CT
      go_wp2_with fail
      refine CDr.out.mono ?_
      rintro e w4 ⟨v4, rfl, ho4, hb4⟩
      obtain ⟨A4, c4, rfl, -, -, -, hi4⟩ := own_is ho4 hwd
      have HB4 := Lib.hid (HB3.out.trans (hb4.mono HB3.out.size))
      have HX4 := Lib.hid (HX3.out.below hb4)
      have CAf := Lib.hid (CAf.out A4 c4 w4 (HY3.out.below hb4) hi4)
      clear ho4 hb4 hi4 HB3 HX3 HY3 CDr
      go_wp2_with fail
      refine CAf.out.mono ?_
      rintro e w5 ⟨A5, c5, rfl, -, -, -, hb5⟩
      have HB5 := Lib.hid (HB4.out.trans (hb5.mono HB4.out.size))
      have HX5 := Lib.hid (HX4.out.below hb5)
      have hle1 : (DR.length : Int) ≤ (xs.length : Int) := by omega
      have hd1 : decide ((DR.length : Int) ≤ (xs.length : Int)) = true := decide_eq_true hle1
      clear hb5 HB4 HX4 CAf
      go_wp2_with fail
      refine (CB.out _ HX5.out).mono ?_
      rintro e w6 ⟨v6, rfl, ho6, hb6⟩
      obtain ⟨A6, c6, rfl⟩ := ho6.slice
      have HB6 := Lib.hid (HB5.out.trans (hb6.mono HB5.out.size))
      have hle2 : (BL.length : Int) ≤ (DR.length : Int) := by omega
      have hd2 : decide ((BL.length : Int) ≤ (DR.length : Int)) = true := decide_eq_true hle2
      clear ho6 hb6 HB5 HX5 CB
      go_wp2_with fail
      refine (works11 _).mono ?_
      rintro e wB ⟨rfl, hbB⟩
      go_wp2
      go_ret
      exact ⟨rfl, HB6.out.trans (hbB.mono HB6.out.size)⟩
end Go.Proofs.Yteeodeooicoekaa.Rd
