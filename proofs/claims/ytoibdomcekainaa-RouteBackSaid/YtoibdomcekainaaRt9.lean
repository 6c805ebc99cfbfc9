/- The statement RouteSplits. -/
import Derived.Test.YtoibdomcekainaaRt8
namespace Go.Proofs.Ytoibdomcekainaa.Rt
open Go.RowKit Go.Proofs.Ytoibdomcekainaa.Mem Go.Proofs.Ytoibdomcekainaa.Open Go.Proofs.Ytoibdomcekainaa.Same
set_option linter.unusedVariables false
set_option linter.unusedSimpArgs false
theorem texts_yes (A B : Option Addr) (n m c d : Nat) (xs : List ByteArray) (w : World) (hx : Sl w Value.string A n xs) (hy : Sl w Value.string B m xs) :
    Calls Try.prog 26 #[.slice A n c, .slice B m d] w fun e w' => e = .returned (.bool true) ∧ Below w.heap.size w w' := by
  refine (texts_any A B n m c d xs xs w hx hy).mono ?_
  rintro e w' ⟨rfl, q, rfl⟩
  exact ⟨ret_bool (decide_eq_true rfl), bdrewN (Below.refl _ _) q⟩
theorem splitL_in (s : ByteArray) : splitL s = [] ∨ splitL s = btw s 1 0 := by
  unfold splitL
  by_cases h : splitE s = 0
  · rw [if_pos h]
    by_cases h2 : s = slash
    · rw [if_pos h2]; exact .inl rfl
    · rw [if_neg h2]; exact .inr rfl
  · rw [if_neg h]; exact .inl rfl
set_option maxHeartbeats 2000000 in
set_option maxRecDepth 100000 in
theorem splits_walk (s : ByteArray) (w : World) (hs : s.size ≤ 140737488351232) :
    Calls Try.prog 5 #[.string s] w fun e w' => e = .returned (.bool true) ∧ Below w.heap.size w w' := by
  by_cases h4 : 400 < s.size
  · go_enter Try.func5, Try.ntmps5
    go_wp2_with (go_at_call 22; refine (works_any _).mono ?_; rintro e w' ⟨rfl, hbel2⟩)
    go_ret
    exact ⟨rfl, hbel2⟩
  have CS := Lib.hid (split_any s w (by omega))
  have CR := Lib.hid (fun w' => rsplit_any s w' (by omega))
  cases hh : hasN s with
  | false =>
    have CU := Lib.hid (fun w' => up_no s w' (by omega) hh)
    by_cases h0 : splitE s = 0
    · have hl : splitL s = [] := by
        unfold hasN at hh
        rw [decide_eq_true h0, Bool.true_and] at hh
        simpa using hh
      have HU : upE s = 15 := by unfold upE; rw [if_pos h0]
      rw [h0, hl] at CS CR
      rw [HU] at CU
      clear HU hh h0 hl
      go_enter Try.func5, Try.ntmps5
      go_wp2_with fail
      refine CS.out.mono ?_
      rintro e w1 ⟨v1, rfl, hown1, hbel1⟩
      go_wp2_with fail
      refine (CR.out _).mono ?_
      rintro e w2 ⟨v2, rfl, hown2, hbel2⟩
      have hb2 := hbel1.trans (hbel2.mono hbel1.size)
      have hown1 := hown1.below hbel2
      go_wp2_with fail
      refine (CU.out _).mono ?_
      rintro e w3 ⟨rfl, hbel3⟩
      have hb3 := hb2.trans (hbel3.mono hb2.size)
      have hown1 := hown1.below hbel3
      have hown2 := hown2.below hbel3
      obtain ⟨A1, c1, rfl⟩ := hown1.slice
      obtain ⟨A2, c2, rfl⟩ := hown2.slice
      obtain ⟨_, s1⟩ := hown1.sl
      obtain ⟨_, s2⟩ := hown2.sl
      go_wp2_with fail
      refine (texts_yes A1 A2 _ _ c1 c2 _ _ s1 s2).mono ?_
      rintro e w4 ⟨rfl, hbel4⟩
      have hb4 := hb3.trans (hbel4.mono hb3.size)
      simp only [List.length_nil]
      go_wp2_with (go_at_call 22; refine (works_any _).mono ?_; rintro e w5 ⟨rfl, hbel5⟩)
      go_ret
      exact ⟨rfl, hb4.trans (hbel5.mono hb4.size)⟩
    · have HU : upE s = splitE s := by unfold upE; rw [if_neg h0]
      rw [HU] at CU
      have hx0 : (splitE s != 0) = true := by rw [bne_iff_ne]; exact h0
      have hx1 : (splitE s == 0) = false := by rw [beq_eq_false_iff_ne]; exact h0
      clear HU hh h0
      generalize splitE s = x at *
      go_enter Try.func5, Try.ntmps5
      go_wp2_with fail
      refine CS.out.mono ?_
      rintro e w1 ⟨v1, rfl, hown1, hbel1⟩
      go_wp2_with fail
      refine (CR.out _).mono ?_
      rintro e w2 ⟨v2, rfl, hown2, hbel2⟩
      have hb2 := hbel1.trans (hbel2.mono hbel1.size)
      have hown1 := hown1.below hbel2
      go_wp2_with fail
      refine (CU.out _).mono ?_
      rintro e w3 ⟨rfl, hbel3⟩
      have hb3 := hb2.trans (hbel3.mono hb2.size)
      have hown1 := hown1.below hbel3
      have hown2 := hown2.below hbel3
      obtain ⟨A1, c1, rfl⟩ := hown1.slice
      obtain ⟨A2, c2, rfl⟩ := hown2.slice
      obtain ⟨_, s1⟩ := hown1.sl
      obtain ⟨_, s2⟩ := hown2.sl
      generalize (splitL s).length = n at *
      go_wp2_with fail
      refine (texts_yes A1 A2 _ _ c1 c2 _ _ s1 s2).mono ?_
      rintro e w4 ⟨rfl, hbel4⟩
      have hb4 := hb3.trans (hbel4.mono hb3.size)
      go_wp2_with (go_at_call 22; refine (works_any _).mono ?_; rintro e w5 ⟨rfl, hbel5⟩)
      go_ret
      exact ⟨rfl, hb4.trans (hbel5.mono hb4.size)⟩
  | true =>
    unfold hasN at hh
    rw [Bool.and_eq_true, decide_eq_true_eq] at hh
    obtain ⟨h0, hnn⟩ := hh
    have hne : splitL s ≠ [] := by simpa using hnn
    obtain ⟨I, t, hI⟩ : ∃ I t, splitL s = I ++ [t] := ⟨_, _, (List.dropLast_concat_getLast hne).symm⟩
    have hlen : I.length ≤ 1000 := by
      have h1 : (splitL s).length ≤ 401 := by
        rcases splitL_in s with h | h <;> rw [h]
        · simp
        · have := btw_len s 1 0; omega
      rw [hI, List.length_append] at h1
      omega
    have CU := Lib.hid (fun w' => up_yes s I t w' (by omega) h0 hI hlen)
    rw [h0, hI] at CS CR
    clear hne hnn hI h0
    go_enter Try.func5, Try.ntmps5
    go_wp2_with fail
    refine CS.out.mono ?_
    rintro e w1 ⟨v1, rfl, hown1, hbel1⟩
    go_wp2_with fail
    refine (CR.out _).mono ?_
    rintro e w2 ⟨v2, rfl, hown2, hbel2⟩
    have hb2 := hbel1.trans (hbel2.mono hbel1.size)
    have hown1 := hown1.below hbel2
    have hll : (I ++ [t]).length = I.length + 1 := by rw [List.length_append, List.length_singleton]
    go_wp2_with fail
    refine (CU.out _).mono ?_
    rintro e w3 ⟨A3, c3, rfl, hsl3, hbel3⟩
    have hb3 := hb2.trans (hbel3.mono hb2.size)
    have hown1 := hown1.below hbel3
    have hown2 := hown2.below hbel3
    obtain ⟨g1, c1, rfl⟩ := hown1.slice_pos (by omega)
    obtain ⟨g2, c2, rfl⟩ := hown2.slice_pos (by omega)
    obtain ⟨_, s1⟩ := hown1.sl
    obtain ⟨_, s2⟩ := hown2.sl
    have hcap : I.length + 1 ≤ c2 := by
      rcases hown2.2 with ⟨h, _⟩ | ⟨_, _, _, h, _, _, h2, _⟩
      · cases h
      · injection h with h3 h4 h5; rw [hll] at h2; omega
    rw [hll] at s1 s2 ⊢
    go_wp2_with fail
    refine (texts_yes _ _ _ _ c1 c2 _ _ s1 s2).mono ?_
    rintro e w4 ⟨rfl, hbel4⟩
    have hb4 := hb3.trans (hbel4.mono hb3.size)
    have hsl4 := hsl3.below hbel4
    have s4 := s2.below hbel4
    have hcl := (hown2.below hbel4).cell I.length (by omega)
    rw [List.getElem_append_right (Nat.le_refl _)] at hcl
    simp only [Nat.sub_self, List.getElem_cons_zero] at hcl
    have hslI : Sl w4 Value.string (some ⟨g2, 0, none⟩) I.length I := ⟨rfl, by omega, fun i x hx => by
      obtain ⟨hi, rfl⟩ := List.getElem?_eq_some_iff.1 hx
      exact s4.2.2 i I[i] (by rw [List.getElem?_append_left hi, List.getElem?_eq_getElem hi])⟩
    have i1 : (0 : Int) ≤ (I.length : Int) := by omega
    have i2 : (I.length : Int) < (I.length : Int) + 1 := by omega
    have i3 : (I.length : Int) ≤ (c2 : Int) := by omega
    have i4 : IntKind.i64.wrap (I.length : Int) = (I.length : Int) := by
      unfold IntKind.wrap; simp [IntKind.signed, IntKind.bits]; omega
    have i5 : (((I.length + 1 : Nat) : Int) == 0) = false := by rw [beq_eq_false_iff_ne]; omega
    have i6 : (((I.length : Int) + 1) == 0) = false := by rw [beq_eq_false_iff_ne]; omega
    go_wp2_with fail
    refine (texts_yes A3 _ _ _ c3 c2 _ _ hsl4 hslI).mono ?_
    rintro e w5 ⟨rfl, hbel5⟩
    have hb5 := hb4.trans (hbel5.mono hb4.size)
    have hcl5 := (hbel5.cell (p := ⟨g2, I.length, none⟩) (World.block_lt_of_cell? w4 ⟨g2, I.length, none⟩ hcl)).trans hcl
    have ht : (t.toList == t.toList) = true := beq_self_eq_true _
    clear hcl
    go_wp2_with (go_at_call 22; refine (works_any _).mono ?_; rintro e w6 ⟨rfl, hbel6⟩)
    go_ret
    exact ⟨rfl, hb5.trans (hbel6.mono hb5.size)⟩
end Go.Proofs.Ytoibdomcekainaa.Rt
