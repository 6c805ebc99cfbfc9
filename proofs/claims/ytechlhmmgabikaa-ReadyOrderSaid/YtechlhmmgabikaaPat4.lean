/- Patches, on: whether two meet, are the same; the document's Lay, Cut, In, Meet, Was, Same. -/
import Derived.Test.YtechlhmmgabikaaPat3
namespace Go.Proofs.Ytechlhmmgabikaa.Pat
open Go.RowKit Go.Proofs.Ytechlhmmgabikaa.Mem Go.Proofs.Ytechlhmmgabikaa.Open Go.Proofs.Ytechlhmmgabikaa.Kind Go.Proofs.Ytechlhmmgabikaa.Blk Go.Proofs.Ytechlhmmgabikaa.App
set_option linter.unusedVariables false
set_option linter.unusedSimpArgs false
theorem two_rows (w : World) (T T2 : TypeId) (p q : Array Value) :
    Row ((w.alloc (.cells p T)).alloc (.cells q T2)) w.heap.size T p ∧ Row ((w.alloc (.cells p T)).alloc (.cells q T2)) (w.heap.size + 1) T2 q ∧ Below w.heap.size w ((w.alloc (.cells p T)).alloc (.cells q T2)) := by
  have h1 : Row (w.alloc (.cells p T)) w.heap.size T p := Row.new _ _ _
  have h2 : Row ((w.alloc (.cells p T)).alloc (.cells q T2)) (w.alloc (.cells p T)).heap.size T2 q := Row.new _ _ _
  have e1 : (w.alloc (.cells p T)).heap.size = w.heap.size + 1 := by simp
  rw [e1] at h2
  exact ⟨h1.alloc _, h2, ((Below.refl _ _).alloc (Nat.le_refl _) _).alloc (by simp) _⟩
/-! ### patch.Meet -/
set_option maxHeartbeats 1000000 in
theorem meet_any (a : Int) (A : Option Addr) (n c : Nat) (b : Int) (A2 : Option Addr) (m c2 : Nat) (w : World) (hn : n ≤ M63) (hm : m ≤ M63) :
    Calls Try.prog 67 #[patV a A n c, patV b A2 m c2] w fun e w' => e = .returned (.bool (meetB a n b m)) ∧ Below w.heap.size w w' := by
  obtain ⟨hp, hq, hbel⟩ := two_rows w 70 70 #[.int .i64 a, .slice A n c] #[.int .i64 b, .slice A2 m c2]
  cases h : rightN a n with
  | false =>
    have HM : Hid (meetB a n b m = false) := by unfold meetB; rw [h]; rfl
    have HC := Lib.hid (fun w' => check_no a A n c w' hn h)
    clear h
    go_enter Try.func67, Try.ntmps67
    go_wp2_with fail
    generalize (w.alloc (.cells #[.int .i64 a, .slice A n c] 70)).alloc (.cells #[.int .i64 b, .slice A2 m c2] 70) = w1 at *
    refine (HC.out _).mono ?_
    rintro e w2 ⟨rfl, hbel2⟩
    have hbel3 := hbel.trans (hbel2.mono hbel.size)
    clear hp hq hbel hbel2
    go_wp2
    go_ret
    exact ⟨ret_bool HM.out.symm, hbel3⟩
  | true =>
    have HC := Lib.hid (fun w' => check_yes a A n c w' h)
    cases h2 : rightN b m with
    | false =>
      have HM : Hid (meetB a n b m = false) := by unfold meetB; rw [h, h2]; rfl
      have HC2 := Lib.hid (fun w' => check_no b A2 m c2 w' hm h2)
      clear h h2
      go_enter Try.func67, Try.ntmps67
      go_wp2_with fail
      generalize (w.alloc (.cells #[.int .i64 a, .slice A n c] 70)).alloc (.cells #[.int .i64 b, .slice A2 m c2] 70) = w1 at *
      refine (HC.out _).mono ?_
      rintro e w2 ⟨rfl, hbel2⟩
      have hq2 := hq.below hbel2
      have c0 := hq2.cell 0 rfl
      have c1 := hq2.cell 1 rfl
      have hbel3 := hbel.trans (hbel2.mono hbel.size)
      clear hp hq hbel hbel2
      go_wp2_with fail
      refine (HC2.out _).mono ?_
      rintro e w3 ⟨rfl, hbel2⟩
      have hbel4 := hbel3.trans (hbel2.mono hbel3.size)
      clear hbel3 hbel2 c0 c1
      go_wp2
      go_ret
      exact ⟨ret_bool HM.out.symm, hbel4⟩
    | true =>
      have HC2 := Lib.hid (fun w' => check_yes b A2 m c2 w' h2)
      obtain ⟨r1, r2, r3, r4⟩ := (right_iff _ _).1 h
      obtain ⟨s1, s2, s3, s4⟩ := (right_iff _ _).1 h2
      have HM : Hid (meetB a n b m = decide (a < b + m ∧ b < a + n)) := by unfold meetB; rw [h, h2]; rfl
      clear h h2
      by_cases g1 : a < b + m
      · by_cases g2 : b < a + n
        · have HV : Hid (meetB a n b m = true) := by rw [HM.out]; exact decide_eq_true ⟨g1, g2⟩
          go_enter Try.func67, Try.ntmps67
          go_wp2_with fail
          generalize (w.alloc (.cells #[.int .i64 a, .slice A n c] 70)).alloc (.cells #[.int .i64 b, .slice A2 m c2] 70) = w1 at *
          refine (HC.out _).mono ?_
          rintro e w2 ⟨rfl, hbel2⟩
          have hp2 := hp.below hbel2
          have hq2 := hq.below hbel2
          have c0 := hq2.cell 0 rfl
          have c1 := hq2.cell 1 rfl
          have hbel3 := hbel.trans (hbel2.mono hbel.size)
          clear hp hq hbel hbel2
          go_wp2_with fail
          refine (HC2.out _).mono ?_
          rintro e w3 ⟨rfl, hbel2⟩
          have hbel4 := hbel3.trans (hbel2.mono hbel3.size)
          have d0 := (hp2.below hbel2).cell 0 rfl
          have d1 := (hp2.below hbel2).cell 1 rfl
          have e0 := (hq2.below hbel2).cell 0 rfl
          have e1 := (hq2.below hbel2).cell 1 rfl
          clear hbel3 hbel2 c0 c1 hp2 hq2
          go_wp2
          go_ret
          exact ⟨ret_bool HV.out.symm, hbel4⟩
        · have HV : Hid (meetB a n b m = false) := by rw [HM.out]; exact decide_eq_false (fun h => g2 h.2)
          have hg2 : decide (b < a + (n : Int)) = false := decide_eq_false g2
          go_enter Try.func67, Try.ntmps67
          go_wp2_with fail
          generalize (w.alloc (.cells #[.int .i64 a, .slice A n c] 70)).alloc (.cells #[.int .i64 b, .slice A2 m c2] 70) = w1 at *
          refine (HC.out _).mono ?_
          rintro e w2 ⟨rfl, hbel2⟩
          have hp2 := hp.below hbel2
          have hq2 := hq.below hbel2
          have c0 := hq2.cell 0 rfl
          have c1 := hq2.cell 1 rfl
          have hbel3 := hbel.trans (hbel2.mono hbel.size)
          clear hp hq hbel hbel2
          go_wp2_with fail
          refine (HC2.out _).mono ?_
          rintro e w3 ⟨rfl, hbel2⟩
          have hbel4 := hbel3.trans (hbel2.mono hbel3.size)
          have d0 := (hp2.below hbel2).cell 0 rfl
          have d1 := (hp2.below hbel2).cell 1 rfl
          have e0 := (hq2.below hbel2).cell 0 rfl
          have e1 := (hq2.below hbel2).cell 1 rfl
          clear hbel3 hbel2 c0 c1 hp2 hq2
          go_wp2
          go_ret
          exact ⟨ret_bool HV.out.symm, hbel4⟩
      · have HV : Hid (meetB a n b m = false) := by rw [HM.out]; exact decide_eq_false (fun h => g1 h.1)
        go_enter Try.func67, Try.ntmps67
        go_wp2_with fail
        generalize (w.alloc (.cells #[.int .i64 a, .slice A n c] 70)).alloc (.cells #[.int .i64 b, .slice A2 m c2] 70) = w1 at *
        refine (HC.out _).mono ?_
        rintro e w2 ⟨rfl, hbel2⟩
        have hp2 := hp.below hbel2
        have hq2 := hq.below hbel2
        have c0 := hq2.cell 0 rfl
        have c1 := hq2.cell 1 rfl
        have hbel3 := hbel.trans (hbel2.mono hbel.size)
        clear hp hq hbel hbel2
        go_wp2_with fail
        refine (HC2.out _).mono ?_
        rintro e w3 ⟨rfl, hbel2⟩
        have hbel4 := hbel3.trans (hbel2.mono hbel3.size)
        have d0 := (hp2.below hbel2).cell 0 rfl
        have e0 := (hq2.below hbel2).cell 0 rfl
        have e1 := (hq2.below hbel2).cell 1 rfl
        clear hbel3 hbel2 c0 c1 hp2 hq2
        go_wp2
        go_ret
        exact ⟨ret_bool HV.out.symm, hbel4⟩
/-! ### patch.Same -/
/-- Are patches the same? -/
def psameB (a : Int) (d : List Nat) (b : Int) (f : List Nat) : Bool := decide (a = b ∧ d = f)
theorem ne_at {x y : List Nat} {k : Nat} (hk : k < x.length) (hk' : k < y.length) (h : x[k] ≠ y[k]) : x ≠ y := by
  rintro rfl; exact h rfl
/-! ### the document's Lay, Cut -/
end Go.Proofs.Ytechlhmmgabikaa.Pat
