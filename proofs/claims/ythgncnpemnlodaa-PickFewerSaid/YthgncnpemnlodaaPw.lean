/- The statement PickWorth: the contracts, and the walk. -/
import Derived.Test.YthgncnpemnlodaaReF
import Derived.Test.YthgncnpemnlodaaPk
namespace Go.Proofs.Ythgncnpemnlodaa.Fl
open Go.RowKit
set_option linter.unusedVariables false
set_option linter.unusedSimpArgs false
/-- Is it worth it? -/
def worthB (n m : Int) (b : Nat) : Bool := !nan b && (match floatBits .quo .f64 (floatOfInt .f64 n) (floatOfInt .f64 m) with | some r => decide (ord r b ≤ 0) | none => true)
theorem ord_nan_lo {a b : Nat} (ha : nan a = true) : ord a b ≤ 0 := by
  have e0 : tk a = -36893488147419103232 := by unfold tk; rw [ha]; rfl
  rw [ord_le, e0]
  rcases kd_cases b with h | h | h | h | h | h | h <;> omega
theorem worth_any (n m : Int) (b : Nat) (hb : b < 18446744073709551616) (w : World) :
    Calls Try.prog 32 #[.int .i64 n, .int .i64 m, .int .u64 b] w fun e w' => e = .returned (.bool (worthB n m b)) ∧ ∃ q, w' = w.drewN q := by
  have C1 := Lib.hid (from_any b)
  have f1 := fo_eq b b
  have HW : worthB n m b = (!nan b && (match floatBits .quo .f64 (floatOfInt .f64 n) (floatOfInt .f64 m) with | some r => decide (ord r b ≤ 0) | none => true)) := rfl
  cases hn : nan b with
  | true =>
    rw [hn] at HW f1
    simp only [Bool.not_true, Bool.false_and] at HW f1
    have HW := Lib.hid HW
    clear hn
    go_enter Try.func32, Try.ntmps32
    go_wp2_with fail
    refine (C1.out _).mono ?_
    rintro e w1 ⟨rfl, rfl⟩
    go_wp2
    go_ret
    exact ⟨ret_bool HW.out.symm, 0, rfl⟩
  | false =>
    rw [hn] at HW f1
    simp only [Bool.not_false, Bool.true_and, decide_true] at HW f1
    cases hq : floatBits .quo .f64 (floatOfInt .f64 n) (floatOfInt .f64 m) with
    | some r =>
      rw [hq] at HW
      replace HW : worthB n m b = decide (ord r b ≤ 0) := HW
      replace HW := Lib.hid HW
      have CR := Lib.hid (ratio_some n m r hq)
      have CO := Lib.hid (order_any r b (quo_lt hq) hb)
      clear hq hn
      generalize ord r b = o at *
      go_enter Try.func32, Try.ntmps32
      go_wp2_with fail
      refine (C1.out _).mono ?_
      rintro e w1 ⟨rfl, rfl⟩
      go_wp2_with fail
      refine (CR.out _).mono ?_
      rintro e w1 ⟨rfl, rfl⟩
      go_wp2_with fail
      refine (CO.out _).mono ?_
      rintro e w1 ⟨rfl, rfl⟩
      go_wp2
      go_ret
      exact ⟨ret_bool HW.out.symm, 0, rfl⟩
    | none =>
      rw [hq] at HW
      replace HW := Lib.hid HW
      have CR := Lib.hid (ratio_none n m hq)
      clear hq hn
      go_enter Try.func32, Try.ntmps32
      go_wp2_with fail
      refine (C1.out _).mono ?_
      rintro e w1 ⟨rfl, rfl⟩
      go_wp2_with fail
      refine (CR.out _).mono ?_
      rintro e w1 ⟨r, rfl, hr, hrn, rfl⟩
      have hlo := ord_nan_lo (b := b) hrn
      have CO := Lib.hid (order_any r b hr hb)
      generalize ord r b = o at *
      go_wp2_with fail
      refine (CO.out _).mono ?_
      rintro e w1 ⟨rfl, rfl⟩
      go_wp2
      go_ret
      exact ⟨ret_bool (by first | exact HW.out.symm | (rw [HW.out]; exact decide_eq_true hlo)), 1, rfl⟩
theorem worth6_any (n m : Int) (b : Nat) (hb : b < 18446744073709551616) (w : World) :
    Calls Try.prog 33 #[.int .i64 n, .int .i64 m, .int .u64 b] w fun e w' => e = .returned (.bool (worthB n m b)) ∧ ∃ q, w' = w.drewN q := by
  have C1 := Lib.hid (from5_any b hb)
  have HF : frV b = if nan b then 0 else b := rfl
  have HW : worthB n m b = (!nan b && (match floatBits .quo .f64 (floatOfInt .f64 n) (floatOfInt .f64 m) with | some r => decide (ord r b ≤ 0) | none => true)) := rfl
  cases hn : nan b with
  | true =>
    rw [hn] at HW HF C1
    simp only [Bool.not_true, Bool.false_and, if_true] at HW HF C1
    rw [HF] at C1
    have HW := Lib.hid HW
    clear hn HF
    go_enter Try.func33, Try.ntmps33
    go_wp2_with fail
    refine (C1.out _).mono ?_
    rintro e w1 ⟨rfl, rfl⟩
    go_wp2
    go_ret
    exact ⟨ret_bool HW.out.symm, 0, rfl⟩
  | false =>
    rw [hn] at HW HF C1
    simp only [Bool.not_false, Bool.true_and, Bool.false_eq_true, if_false] at HW HF C1
    rw [HF] at C1
    clear hn HF
    cases hq : floatBits .quo .f64 (floatOfInt .f64 n) (floatOfInt .f64 m) with
    | some r =>
      rw [hq] at HW
      replace HW : worthB n m b = decide (ord r b ≤ 0) := HW
      replace HW := Lib.hid HW
      have hd := fun t w => run_float_arith (P := Try.prog) w .quo t .f64 _ _ _ hq
      have CO := Lib.hid (order5_any r b (quo_lt hq) hb)
      clear hq
      generalize ord r b = o at *
      go_enter Try.func33, Try.ntmps33
      go_wp2_with fail
      refine (C1.out _).mono ?_
      rintro e w1 ⟨rfl, rfl⟩
      go_wp2_with fail
      refine (CO.out _).mono ?_
      rintro e w1 ⟨rfl, q, rfl⟩
      go_wp2
      go_ret
      exact ⟨ret_bool HW.out.symm, _, rfl⟩
    | none =>
      rw [hq] at HW
      replace HW := Lib.hid HW
      have hd := fun t w => run_nan (P := Try.prog) .quo t _ _ (.inl rfl) hq w
      clear hq
      go_enter Try.func33, Try.ntmps33
      go_wp2_with fail
      refine (C1.out _).mono ?_
      rintro e w1 ⟨rfl, rfl⟩
      go_wp2_with fail
      have hrn := nb_nan (floatOfInt .f64 n) (floatOfInt .f64 m) w1
      have hr := nb_lt (floatOfInt .f64 n) (floatOfInt .f64 m) w1
      generalize nb (floatOfInt .f64 n) (floatOfInt .f64 m) w1 = r at *
      have hlo := ord_nan_lo (b := b) hrn
      have CO := Lib.hid (order5_any r b hr hb)
      generalize ord r b = o at *
      refine (CO.out _).mono ?_
      rintro e w1 ⟨rfl, q, rfl⟩
      go_wp2
      go_ret
      exact ⟨ret_bool (by first | exact HW.out.symm | (rw [HW.out]; exact decide_eq_true hlo)), _, rfl⟩
theorem worth_walk (n m : Int) (b : Nat) (w : World) (hb : b < 18446744073709551616) :
    Calls Try.prog 11 #[.int .i64 n, .int .i64 m, .int .u64 b] w fun e w' => e = .returned (.bool true) ∧ Below w.heap.size w w' := by
  have C1 := Lib.hid (worth_any n m b hb)
  have C2 := Lib.hid (worth6_any n m b hb)
  generalize worthB n m b = r at *
  go_enter Try.func11, Try.ntmps11
  go_wp2_with fail
  refine (C1.out _).mono ?_
  rintro e w1 ⟨rfl, q1, rfl⟩
  go_wp2_with fail
  refine (C2.out _).mono ?_
  rintro e w1 ⟨rfl, q2, rfl⟩
  go_wp2_with fail
  refine (works6_any _).mono ?_
  rintro e w2 ⟨rfl, hb2⟩
  go_wp2
  go_ret
  exact ⟨rfl, (below_drewN (Below.refl _ _) _).trans hb2⟩
theorem worth_row (n m b : Int) (w : World) (hn : (Lit.int .i64 n).wf = true) (hm : (Lit.int .i64 m).wf = true) (hb : (Lit.int .u64 b).wf = true) :
    Calls Try.prog 11 #[.int .i64 n, .int .i64 m, .int .u64 b] w fun e w' => e = .returned (.bool true) ∧ Below w.heap.size w w' := by
  obtain ⟨k, rfl, hk⟩ := u64_nat hb
  exact worth_walk n m k w hk
end Go.Proofs.Ythgncnpemnlodaa.Fl
