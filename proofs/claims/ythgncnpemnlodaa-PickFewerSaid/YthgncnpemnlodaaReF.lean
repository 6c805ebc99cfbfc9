/- The statement RealBits: the walk. -/
import Derived.Test.YthgncnpemnlodaaFr3
namespace Go.Proofs.Ythgncnpemnlodaa.Fl
open Go.RowKit
set_option linter.unusedVariables false
set_option linter.unusedSimpArgs false
theorem ord_nans {a b : Nat} (ha : nan a = true) (hb : nan b = true) : ord a b = 0 := by
  have e0 : tk a = -36893488147419103232 := by unfold tk; rw [ha]; rfl
  have e1 : tk b = -36893488147419103232 := by unfold tk; rw [hb]; rfl
  unfold ord; rw [e0, e1]; rfl
theorem same_yes (x y : Nat) (hx : x < 18446744073709551616) (hy : y < 18446744073709551616) (h : ord x y = 0) (w : World) :
    Calls Try.prog 19 #[F x, F y] w fun e w' => e = .returned (.bool true) ∧ ∃ q, w' = w.drewN q := by
  have := same_any x y hx hy w
  rw [h] at this
  exact this
theorem quo_lt {x y r : Nat} (h : floatBits .quo .f64 x y = some r) : r < 18446744073709551616 := by
  have := floatBits_wf h
  simpa [Lit.wf] using this
set_option maxHeartbeats 1000000 in
theorem bits_walk (b : Nat) (n m : Int) (w : World) (hb : b < 18446744073709551616) :
    Calls Try.prog 4 #[.int .u64 b, .int .i64 n, .int .i64 m] w fun e w' => e = .returned (.bool true) ∧ Below w.heap.size w w' := by
  have C1 := Lib.hid (from_any b)
  have C2 := Lib.hid (from5_any b hb)
  have C3 := Lib.hid (bits_any b)
  have C4 := Lib.hid (same_yes b b hb hb (ord_self b))
  have C5 := Lib.hid (kind5_any b hb)
  have HB : bts b = if nan b then 9221120237041090560 else b := rfl
  have HF : frV b = if nan b then 0 else b := rfl
  cases hn : nan b with
  | false =>
    rw [hn] at HB HF C2
    simp only [Bool.false_eq_true, if_false, Bool.not_false] at HB HF C2
    rw [HB] at C3
    rw [HF] at C2
    clear HB HF hn C5
    go_enter Try.func4, Try.ntmps4
    go_wp2_with fail
    refine (C1.out _).mono ?_
    rintro e w1 ⟨rfl, rfl⟩
    go_wp2_with fail
    refine (C2.out _).mono ?_
    rintro e w2 ⟨rfl, rfl⟩
    go_wp2_with fail
    refine (C4.out _).mono ?_
    rintro e w3 ⟨rfl, q3, rfl⟩
    go_wp2_with fail
    refine (C3.out _).mono ?_
    rintro e w4 ⟨rfl, rfl⟩
    cases hq : floatBits .quo .f64 (floatOfInt .f64 n) (floatOfInt .f64 m) with
    | some r =>
      have hd := fun t w => run_float_arith (P := Try.prog) w .quo t .f64 _ _ _ hq
      have CR := Lib.hid (ratio_some n m r hq)
      have CS := Lib.hid (same_yes r r (quo_lt hq) (quo_lt hq) (ord_self r))
      clear hq
      go_wp2_with fail
      refine (CR.out _).mono ?_
      rintro e w6 ⟨rfl, rfl⟩
      go_wp2_with fail
      refine (CS.out _).mono ?_
      rintro e w7 ⟨rfl, q7, rfl⟩
      go_wp2_with fail
      refine (works_any _).mono ?_
      rintro e w8 ⟨rfl, hb8⟩
      go_wp2
      go_ret
      exact ⟨rfl, (below_drewN (Below.refl _ _) _).trans hb8⟩
    | none =>
      have hd := fun t w => run_nan (P := Try.prog) .quo t _ _ (.inl rfl) hq w
      have CR := Lib.hid (ratio_none n m hq)
      clear hq
      go_wp2_with fail
      refine (CR.out _).mono ?_
      rintro e w6 ⟨r, rfl, hr, hrn, rfl⟩
      go_wp2_with fail
      refine (same_yes r _ hr (nb_lt _ _ _) (ord_nans hrn (nb_nan _ _ _)) _).mono ?_
      rintro e w7 ⟨rfl, q7, rfl⟩
      go_wp2_with fail
      refine (works_any _).mono ?_
      rintro e w8 ⟨rfl, hb8⟩
      go_wp2
      go_ret
      exact ⟨rfl, (below_drewN (Below.refl _ _) _).trans hb8⟩
  | true =>
    have hk := kd_nan hn
    rw [hn] at HB HF C2
    rw [hk] at C5
    simp only [if_true, Bool.not_true] at HB HF C2
    rw [HB] at C3
    rw [HF] at C2
    clear HB HF hn C4 hk
    go_enter Try.func4, Try.ntmps4
    go_wp2_with fail
    refine (C1.out _).mono ?_
    rintro e w1 ⟨rfl, rfl⟩
    go_wp2_with fail
    refine (C2.out _).mono ?_
    rintro e w2 ⟨rfl, rfl⟩
    go_wp2_with fail
    refine (C5.out _).mono ?_
    rintro e w3 ⟨rfl, q3, rfl⟩
    go_wp2_with fail
    refine (C3.out _).mono ?_
    rintro e w4 ⟨rfl, rfl⟩
    cases hq : floatBits .quo .f64 (floatOfInt .f64 n) (floatOfInt .f64 m) with
    | some r =>
      have hd := fun t w => run_float_arith (P := Try.prog) w .quo t .f64 _ _ _ hq
      have CR := Lib.hid (ratio_some n m r hq)
      have CS := Lib.hid (same_yes r r (quo_lt hq) (quo_lt hq) (ord_self r))
      clear hq
      go_wp2_with fail
      refine (CR.out _).mono ?_
      rintro e w6 ⟨rfl, rfl⟩
      go_wp2_with fail
      refine (CS.out _).mono ?_
      rintro e w7 ⟨rfl, q7, rfl⟩
      go_wp2_with fail
      refine (works_any _).mono ?_
      rintro e w8 ⟨rfl, hb8⟩
      go_wp2
      go_ret
      exact ⟨rfl, (below_drewN (Below.refl _ _) _).trans hb8⟩
    | none =>
      have hd := fun t w => run_nan (P := Try.prog) .quo t _ _ (.inl rfl) hq w
      have CR := Lib.hid (ratio_none n m hq)
      clear hq
      go_wp2_with fail
      refine (CR.out _).mono ?_
      rintro e w6 ⟨r, rfl, hr, hrn, rfl⟩
      go_wp2_with fail
      refine (same_yes r _ hr (nb_lt _ _ _) (ord_nans hrn (nb_nan _ _ _)) _).mono ?_
      rintro e w7 ⟨rfl, q7, rfl⟩
      go_wp2_with fail
      refine (works_any _).mono ?_
      rintro e w8 ⟨rfl, hb8⟩
      go_wp2
      go_ret
      exact ⟨rfl, (below_drewN (Below.refl _ _) _).trans hb8⟩
theorem u64_nat {b : Int} (h : (Lit.int .u64 b).wf = true) : ∃ k : Nat, b = k ∧ k < 18446744073709551616 := by
  have h1 : IntKind.u64.min = 0 := by decide
  have h2 : IntKind.u64.max = 18446744073709551615 := by decide
  simp only [Lit.wf, Bool.and_eq_true, decide_eq_true_eq, h1, h2] at h
  exact ⟨b.toNat, by omega, by omega⟩
theorem bits_row (b n m : Int) (w : World) (hb : (Lit.int .u64 b).wf = true) (hn : (Lit.int .i64 n).wf = true) (hm : (Lit.int .i64 m).wf = true) :
    Calls Try.prog 4 #[.int .u64 b, .int .i64 n, .int .i64 m] w fun e w' => e = .returned (.bool true) ∧ Below w.heap.size w w' := by
  obtain ⟨k, rfl, hk⟩ := u64_nat hb
  exact bits_walk k n m w hk
end Go.Proofs.Ythgncnpemnlodaa.Fl
