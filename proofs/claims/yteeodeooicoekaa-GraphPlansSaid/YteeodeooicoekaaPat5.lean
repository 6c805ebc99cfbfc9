/- Patches, on: the document's Cut, Lay, In, Meet, Was, Same. -/
import Derived.Test.YteeodeooicoekaaPat4
namespace Go.Proofs.Yteeodeooicoekaa.Pat
open Go.RowKit Go.Proofs.Yteeodeooicoekaa.Mem Go.Proofs.Yteeodeooicoekaa.Open Go.Proofs.Yteeodeooicoekaa.Kind Go.Proofs.Yteeodeooicoekaa.Blk Go.Proofs.Yteeodeooicoekaa.App
set_option linter.unusedVariables false
set_option linter.unusedSimpArgs false
set_option maxHeartbeats 1000000 in
set_option maxRecDepth 100000 in
theorem rlay_any (A : Option Addr) (c : Nat) (b : List Nat) (a : Int) (A2 : Option Addr) (c2 : Nat) (d : List Nat) (w : World) (hb : By w A b) (hd : By w A2 d) (hb2 : b.length = 256) (hcc : b.length ≤ c) (hcm : c ≤ M63) (hc : A = none → c = 0) :
    Calls Try.prog 74 #[.slice A b.length c, patV a A2 d.length c2] w fun e w' => ∃ A' c', e = .returned (.slice A' b.length c') ∧ b.length ≤ c' ∧ c' ≤ M63 ∧ (A' = none → c' = 0) ∧ By w' A' (layL b a d) ∧ Below w.heap.size w w' := by
  have hr := Row.new w 57 #[.int .i64 a, .slice A2 d.length c2]
  have hbel := (Below.refl w.heap.size w).alloc (Nat.le_refl _) (.cells #[.int .i64 a, .slice A2 d.length c2] 57)
  have CR := Lib.hid (fun w' => right_any a A2 d.length c2 w' hd.2.1)
  have HB2 := Lib.hid hb2
  have hb3 : b.length ≤ 256 := by omega
  have hb4 : 256 ≤ b.length := by omega
  clear hb2
  cases h : rightN a d.length with
  | false =>
    have e : layL b a d = b := by unfold layL; rw [h]; rfl
    rw [e]
    rw [h] at CR
    clear h e
    go_enter Try.func74, Try.ntmps74
    go_wp2_with fail
    generalize w.alloc (.cells #[.int .i64 a, .slice A2 d.length c2] 57) = w1 at *
    refine (CR.out _).mono ?_
    rintro e w2 ⟨rfl, hbel2⟩
    have hbel3 := hbel.trans (hbel2.mono hbel.size)
    go_wp2
    go_ret
    exact ⟨A, c, rfl, hcc, hcm, hc, hb.below hbel3, hbel3⟩
  | true =>
    have e : layL b a d = layK b a.toNat d d.length := by unfold layL; rw [h]; rfl
    obtain ⟨h1, h2, h3, h4⟩ := (right_iff _ _).1 h
    obtain ⟨q, rfl⟩ := Int.eq_ofNat_of_zero_le h3
    rw [e, Int.toNat_natCast, ← layR_eq b q d (by omega)]
    rw [h] at CR
    clear h e
    go_enter Try.func74, Try.ntmps74
    go_wp2_with fail
    generalize w.alloc (.cells #[.int .i64 (q : Int), .slice A2 d.length c2] 57) = w1 at *
    refine (CR.out _).mono ?_
    rintro e w2 ⟨rfl, hbel2⟩
    have hr2 := hr.below hbel2
    have hbel3 := hbel.trans (hbel2.mono hbel.size)
    have c0 := hr2.cell 0 rfl
    have c1 := hr2.cell 1 rfl
    have CL := Lib.hid (rlay1_any A c b q A2 c2 d w2 (hb.below hbel3) (hd.below hbel3) (by omega) (by omega))
    clear hr hbel hbel2 hr2
    go_wp2_with fail
    refine CL.out.mono ?_
    rintro e w3 ⟨A', c', rfl, q1, q2, q3, q4, hbel4⟩
    go_wp2
    go_ret
    exact ⟨A', c', rfl, q1, q2, q3, q4.by_, hbel3.trans (hbel4.mono hbel3.size)⟩
/-- Is a byte of a block in a patch that may be? -/
def inB (a : Int) (n : Nat) (i : Nat) : Bool := rightN a n && decide (a ≤ i ∧ (i : Int) < a + n)
set_option maxHeartbeats 1000000 in
set_option maxRecDepth 100000 in
theorem in_any (a : Int) (A : Option Addr) (n c : Nat) (i : Nat) (w : World) (hn : n ≤ M63) (hi : i ≤ 1000) :
    Calls Try.prog 82 #[patV a A n c, .int .i64 (i : Int)] w fun e w' => e = .returned (.bool (inB a n i)) ∧ Below w.heap.size w w' := by
  have hr := Row.new w 57 #[.int .i64 a, .slice A n c]
  have hbel := (Below.refl w.heap.size w).alloc (Nat.le_refl _) (.cells #[.int .i64 a, .slice A n c] 57)
  have CR := Lib.hid (fun w' => right_any a A n c w' hn)
  cases h : rightN a n with
  | false =>
    have HV : Hid (inB a n i = false) := by unfold inB; rw [h]; rfl
    rw [h] at CR
    clear h
    go_enter Try.func82, Try.ntmps82
    go_wp2_with fail
    generalize w.alloc (.cells #[.int .i64 a, .slice A n c] 57) = w1 at *
    refine (CR.out _).mono ?_
    rintro e w2 ⟨rfl, hbel2⟩
    go_wp2
    go_ret
    exact ⟨ret_bool HV.out.symm, hbel.trans (hbel2.mono hbel.size)⟩
  | true =>
    obtain ⟨h1, h2, h3, h4⟩ := (right_iff _ _).1 h
    have HM : Hid (inB a n i = decide (a ≤ i ∧ (i : Int) < a + n)) := by unfold inB; rw [h]; rfl
    rw [h] at CR
    clear h
    by_cases g1 : a ≤ (i : Int)
    · have hg1 : decide (a ≤ (i : Int)) = true := decide_eq_true g1
      by_cases g2 : (i : Int) < a + n
      · have HV : Hid (inB a n i = true) := by rw [HM.out]; exact decide_eq_true ⟨g1, g2⟩
        have hg2 : decide ((i : Int) < a + n) = true := decide_eq_true g2
        go_enter Try.func82, Try.ntmps82
        go_wp2_with fail
        generalize w.alloc (.cells #[.int .i64 a, .slice A n c] 57) = w1 at *
        refine (CR.out _).mono ?_
        rintro e w2 ⟨rfl, hbel2⟩
        have c0 := (hr.below hbel2).cell 0 rfl
        have c1 := (hr.below hbel2).cell 1 rfl
        have hbel3 := hbel.trans (hbel2.mono hbel.size)
        clear hr hbel hbel2
        go_wp2
        go_ret
        exact ⟨ret_bool HV.out.symm, hbel3⟩
      · have HV : Hid (inB a n i = false) := by rw [HM.out]; exact decide_eq_false (fun h => g2 h.2)
        have hg2 : decide ((i : Int) < a + n) = false := decide_eq_false g2
        go_enter Try.func82, Try.ntmps82
        go_wp2_with fail
        generalize w.alloc (.cells #[.int .i64 a, .slice A n c] 57) = w1 at *
        refine (CR.out _).mono ?_
        rintro e w2 ⟨rfl, hbel2⟩
        have c0 := (hr.below hbel2).cell 0 rfl
        have c1 := (hr.below hbel2).cell 1 rfl
        have hbel3 := hbel.trans (hbel2.mono hbel.size)
        clear hr hbel hbel2
        go_wp2
        go_ret
        exact ⟨ret_bool HV.out.symm, hbel3⟩
    · have HV : Hid (inB a n i = false) := by rw [HM.out]; exact decide_eq_false (fun h => g1 h.1)
      have hg1 : decide (a ≤ (i : Int)) = false := decide_eq_false g1
      go_enter Try.func82, Try.ntmps82
      go_wp2_with fail
      generalize w.alloc (.cells #[.int .i64 a, .slice A n c] 57) = w1 at *
      refine (CR.out _).mono ?_
      rintro e w2 ⟨rfl, hbel2⟩
      have c0 := (hr.below hbel2).cell 0 rfl
      have c1 := (hr.below hbel2).cell 1 rfl
      have hbel3 := hbel.trans (hbel2.mono hbel.size)
      clear hr hbel hbel2
      go_wp2
      go_ret
      exact ⟨ret_bool HV.out.symm, hbel3⟩
/-! ### the document's Meet -/
theorem meet_iff (a : Int) (n : Nat) (b : Int) (m : Nat) : meetB a n b m = true ↔ ∃ i, i < 256 ∧ inB a n i = true ∧ inB b m i = true := by
  unfold meetB inB
  simp only [Bool.and_eq_true, decide_eq_true_eq]
  constructor
  · rintro ⟨⟨h1, h2⟩, h3, h4⟩
    have r1 := (right_iff _ _).1 h1
    have r2 := (right_iff _ _).1 h2
    refine ⟨(max a b).toNat, by omega, ⟨h1, by omega, by omega⟩, ⟨h2, by omega, by omega⟩⟩
  · rintro ⟨i, hi, ⟨h1, h3, h4⟩, ⟨h2, h5, h6⟩⟩
    exact ⟨⟨h1, h2⟩, by omega, by omega⟩
set_option maxHeartbeats 1000000 in
set_option maxRecDepth 100000 in
theorem rmeet_any (a : Int) (A : Option Addr) (n c : Nat) (b : Int) (A2 : Option Addr) (m c2 : Nat) (w : World) (hn : n ≤ M63) (hm : m ≤ M63) :
    Calls Try.prog 73 #[patV a A n c, patV b A2 m c2] w fun e w' => e = .returned (.bool (meetB a n b m)) ∧ Below w.heap.size w w' := by
  obtain ⟨hp, hq, hbel⟩ := two_rows w 57 57 #[.int .i64 a, .slice A n c] #[.int .i64 b, .slice A2 m c2]
  have CA := Lib.hid (fun i w' => in_any a A n c i w' hn)
  have CB := Lib.hid (fun i w' => in_any b A2 m c2 i w' hm)
  have HI := Lib.hid (meet_iff a n b m)
  go_enter Try.func73, Try.ntmps73
  go_wp2
  generalize (w.alloc (.cells #[.int .i64 a, .slice A n c] 57)).alloc (.cells #[.int .i64 b, .slice A2 m c2] 57) = w1 at *
  obtain ⟨g, hg⟩ : ∃ g, w.heap.size = g := ⟨_, rfl⟩
  have HGe := Lib.hid hg
  rw [hg] at hp hq hbel ⊢
  clear hg
  go_loopw [5] (fun i wr => ∃ k : Nat, k ≤ 256 ∧ i = .int .i64 k ∧ Row wr g 57 #[.int .i64 a, .slice A n c] ∧ Row wr (g + 1) 57 #[.int .i64 b, .slice A2 m c2] ∧ Below g w wr ∧ (∀ j, j < k → ¬ (inB a n j = true ∧ inB b m j = true))) (fun i _ => 256 - (intOf i).toNat)
  case atStart => exact ⟨0, by omega, rfl, hp, hq, hbel, fun j h => by omega⟩
  case round =>
    clear hp hq hbel
    obtain ⟨k, hk, rfl, hp, hq, hbel, hno⟩ := hrel
    have HN := Lib.hid hno
    clear hno
    have hgs : g ≤ wr.heap.size := by have := hp.lt; omega
    have c0 := hp.cell 0 rfl
    have c1 := hp.cell 1 rfl
    by_cases hlt : k < 256
    · have C1 := Lib.hid (fun w' => CA.out k w' (by omega))
      have C2 := Lib.hid (fun w' => CB.out k w' (by omega))
      cases h1 : inB a n k with
      | false =>
        have HN2 : Hid (∀ j, j < k + 1 → ¬ (inB a n j = true ∧ inB b m j = true)) := by
          intro j hj
          by_cases e : j = k
          · subst e; rw [h1]; exact fun h => Bool.noConfusion h.1
          · exact HN.out j (by omega)
        rw [h1] at C1
        clear h1
        go_wp2_with fail
        refine (C1.out _).mono ?_
        rintro e w2 ⟨rfl, hbel2⟩
        have hp2 := hp.below hbel2
        have hq2 := hq.below hbel2
        have hbel3 := hbel.trans (hbel2.mono hgs)
        clear hp hq hbel hbel2 c0 c1
        go_wp2
        go_roundw
        case rel => exact ⟨k + 1, by omega, by go_num, hp2, hq2, hbel3, HN2.out⟩
        case measure => simp [intOf]; omega
      | true =>
        rw [h1] at C1
        cases h2 : inB b m k with
        | false =>
          have HN2 : Hid (∀ j, j < k + 1 → ¬ (inB a n j = true ∧ inB b m j = true)) := by
            intro j hj
            by_cases e : j = k
            · subst e; rw [h2]; exact fun h => Bool.noConfusion h.2
            · exact HN.out j (by omega)
          rw [h2] at C2
          clear h1 h2
          go_wp2_with fail
          refine (C1.out _).mono ?_
          rintro e w2 ⟨rfl, hbel2⟩
          have hp2 := hp.below hbel2
          have hq2 := hq.below hbel2
          have hbel3 := hbel.trans (hbel2.mono hgs)
          have hgs2 : g ≤ w2.heap.size := by have := hp2.lt; omega
          clear hp hq hbel hbel2 c0 c1
          have c0 := hq2.cell 0 rfl
          have c1 := hq2.cell 1 rfl
          go_wp2_with fail
          refine (C2.out _).mono ?_
          rintro e w3 ⟨rfl, hbel4⟩
          have hp3 := hp2.below hbel4
          have hq3 := hq2.below hbel4
          have hbel5 := hbel3.trans (hbel4.mono hgs2)
          clear hp2 hq2 hbel3 hbel4 c0 c1
          go_wp2
          go_roundw
          case rel => exact ⟨k + 1, by omega, by go_num, hp3, hq3, hbel5, HN2.out⟩
          case measure => simp [intOf]; omega
        | true =>
          have HV : Hid (meetB a n b m = true) := HI.out.2 ⟨k, hlt, h1, h2⟩
          rw [h2] at C2
          clear h1 h2
          go_wp2_with fail
          refine (C1.out _).mono ?_
          rintro e w2 ⟨rfl, hbel2⟩
          have hq2 := hq.below hbel2
          have hp2 := hp.below hbel2
          have hbel3 := hbel.trans (hbel2.mono hgs)
          have hgs2 : g ≤ w2.heap.size := by have := hp2.lt; omega
          clear hp hq hbel hbel2 c0 c1
          have c0 := hq2.cell 0 rfl
          have c1 := hq2.cell 1 rfl
          go_wp2_with fail
          refine (C2.out _).mono ?_
          rintro e w3 ⟨rfl, hbel4⟩
          have hbel5 := hbel3.trans (hbel4.mono hgs2)
          clear hp2 hq2 hbel3 hbel4 c0 c1
          go_wp2
          go_ret
          exact ⟨ret_bool HV.out.symm, by rw [HGe.out]; exact hbel5⟩
    · have HV : Hid (meetB a n b m = false) := by
        cases hm2 : meetB a n b m with
        | false => exact (rfl : _ = _)
        | true =>
          obtain ⟨i, hi, h1, h2⟩ := HI.out.1 hm2
          exact absurd ⟨h1, h2⟩ (HN.out i (by omega))
      go_wp2
      go_ret
      exact ⟨ret_bool HV.out.symm, by rw [HGe.out]; exact hbel⟩
end Go.Proofs.Yteeodeooicoekaa.Pat
