/- The statement RouteBack. -/
import Derived.Test.YtoibdomcekainaaRtD
namespace Go.Proofs.Ytoibdomcekainaa.Rt
open Go.RowKit Go.Proofs.Ytoibdomcekainaa.Mem Go.Proofs.Ytoibdomcekainaa.Open Go.Proofs.Ytoibdomcekainaa.Same Go.Proofs.Ytoibdomcekainaa.Kind
set_option linter.unusedVariables false
set_option linter.unusedSimpArgs false
theorem joinT_size (xs : List ByteArray) : (joinT xs).size ≤ 200 := by
  by_cases h : joinE xs = 0
  · obtain ⟨h1, h2⟩ := joinE_zero h
    by_cases h3 : (joinS xs).size = 0
    · rw [(joinE_none h1 h3).2]; decide
    · rw [(joinE_ok h1 h2 h3).2]; omega
  · rw [joinT_bad h]; decide
set_option maxHeartbeats 2000000 in
set_option maxRecDepth 100000 in
theorem back_walk (s : ByteArray) (A : Option Addr) (n c : Nat) (xs : List ByteArray) (w : World) (hs : s.size ≤ 140737488351232) (hxs : Sl w Value.string A n xs) (hss : ∀ s ∈ xs, s.size ≤ 9223372036854775807) :
    Calls Try.prog 9 #[.string s, .slice A n c] w fun e w' => e = .returned (.bool true) ∧ Below w.heap.size w w' := by
  by_cases h4 : 400 < s.size
  · go_enter Try.func9, Try.ntmps9
    go_wp2_with (go_at_call 22; refine (works_any _).mono ?_; rintro e w' ⟨rfl, hbel2⟩)
    go_ret
    exact ⟨rfl, hbel2⟩
  have hn := hxs.1
  have L1 := Lib.hid (long_any A n c xs w hxs hss)
  have CS := Lib.hid (split_any s w (by omega))
  have J := Lib.hid (fun w' h => join_any A n c xs w' h hss)
  have hts := joinT_size xs
  have HA := Lib.hid (fun h => again_law (xs := xs) h)
  have HB := Lib.hid (fun h => joinT_bad (xs := xs) h)
  generalize joinT xs = t at *
  generalize joinE xs = x at *
  by_cases h0 : splitE s = 0
  · obtain ⟨b1, b2⟩ := back_law h0
    have JL := Lib.hid (fun A' n' c' w' h => join_any A' n' c' (splitL s) w' h (by
      intro p hp
      rcases splitL_in s with e | e
      · rw [e] at hp; simp at hp
      · rw [e] at hp; have := btw_size s 1 0 p hp; omega))
    rw [b1, b2] at JL
    rw [h0] at CS
    have hss2 : (s.toList != s.toList) = false := by simp
    clear b1 b2 h0
    go_enter Try.func9, Try.ntmps9
    go_wp2_with fail
    refine L1.out.mono ?_
    rintro e w' ⟨b1, rfl, hb1, rfl⟩
    cases b1 with
    | true =>
      go_wp2_with (go_at_call 22; refine (works_any _).mono ?_; rintro e w' ⟨rfl, hbel2⟩)
      go_ret
      exact ⟨rfl, hbel2⟩
    | false =>
    clear hb1 L1
    go_wp2_with fail
    refine CS.out.mono ?_
    rintro e w1 ⟨v1, rfl, hown1, hb⟩
    obtain ⟨A1, c1, rfl⟩ := hown1.slice
    obtain ⟨_, s1⟩ := hown1.sl
    generalize (splitL s).length = n1 at *
    go_wp2_with fail
    refine (JL.out A1 n1 c1 _ s1).mono ?_
    rintro e w' ⟨rfl, rfl⟩
    go_wp2_with fail
    refine (J.out _ (hxs.below hb)).mono ?_
    rintro e w' ⟨rfl, rfl⟩
    by_cases hg : x = 0
    · subst hg
      have SP := Lib.hid (HA.out rfl)
      have CS2 := Lib.hid (fun w' => split_any t w' (by omega))
      rw [SP.out.1, SP.out.2] at CS2
      clear SP
      go_wp2_with fail
      refine (CS2.out _).mono ?_
      rintro e w4 ⟨v4, rfl, hown4, hbel4⟩
      have hb4 := hb.trans (hbel4.mono hb.size)
      obtain ⟨A4, c4, rfl⟩ := hown4.slice
      obtain ⟨_, s4⟩ := hown4.sl
      have hxs4 := hxs.below hb4
      go_wp2_with fail
      refine (texts_yes A4 A n _ c4 c xs _ (hn ▸ s4) hxs4).mono ?_
      rintro e w5 ⟨rfl, hbel5⟩
      have hb5 := hb4.trans (hbel5.mono hb4.size)
      go_wp2_with (go_at_call 22; refine (works_any _).mono ?_; rintro e w6 ⟨rfl, hbel6⟩)
      go_ret
      exact ⟨rfl, hb5.trans (hbel6.mono hb5.size)⟩
    · have hxn : (x != 0) = true := by rw [bne_iff_ne]; exact hg
      have te := HB.out hg
      subst te
      go_wp2_with (go_at_call 22; refine (works_any _).mono ?_; rintro e w6 ⟨rfl, hbel6⟩)
      go_ret
      exact ⟨rfl, hb.trans (hbel6.mono hb.size)⟩
  · have h1 : (splitE s == 0) = false := by rw [beq_eq_false_iff_ne]; exact h0
    clear h0
    generalize splitE s = y at *
    go_enter Try.func9, Try.ntmps9
    go_wp2_with fail
    refine L1.out.mono ?_
    rintro e w' ⟨b1, rfl, hb1, rfl⟩
    cases b1 with
    | true =>
      go_wp2_with (go_at_call 22; refine (works_any _).mono ?_; rintro e w' ⟨rfl, hbel2⟩)
      go_ret
      exact ⟨rfl, hbel2⟩
    | false =>
    clear hb1 L1
    go_wp2_with fail
    refine CS.out.mono ?_
    rintro e w1 ⟨v1, rfl, hown1, hb⟩
    go_wp2_with fail
    refine (J.out _ (hxs.below hb)).mono ?_
    rintro e w' ⟨rfl, rfl⟩
    by_cases hg : x = 0
    · subst hg
      have SP := Lib.hid (HA.out rfl)
      have CS2 := Lib.hid (fun w' => split_any t w' (by omega))
      rw [SP.out.1, SP.out.2] at CS2
      clear SP
      go_wp2_with fail
      refine (CS2.out _).mono ?_
      rintro e w4 ⟨v4, rfl, hown4, hbel4⟩
      have hb4 := hb.trans (hbel4.mono hb.size)
      obtain ⟨A4, c4, rfl⟩ := hown4.slice
      obtain ⟨_, s4⟩ := hown4.sl
      have hxs4 := hxs.below hb4
      go_wp2_with fail
      refine (texts_yes A4 A n _ c4 c xs _ (hn ▸ s4) hxs4).mono ?_
      rintro e w5 ⟨rfl, hbel5⟩
      have hb5 := hb4.trans (hbel5.mono hb4.size)
      go_wp2_with (go_at_call 22; refine (works_any _).mono ?_; rintro e w6 ⟨rfl, hbel6⟩)
      go_ret
      exact ⟨rfl, hb5.trans (hbel6.mono hb5.size)⟩
    · have hxn : (x != 0) = true := by rw [bne_iff_ne]; exact hg
      have te := HB.out hg
      subst te
      go_wp2_with (go_at_call 22; refine (works_any _).mono ?_; rintro e w6 ⟨rfl, hbel6⟩)
      go_ret
      exact ⟨rfl, hb.trans (hbel6.mono hb.size)⟩
end Go.Proofs.Ytoibdomcekainaa.Rt
