/- The contracts of both At. No statement is proved here. -/
import Derived.Test.YthgncnpemnlodaaAt
import Derived.Test.YthgncnpemnlodaaOpenF
namespace Go.Proofs.Ythgncnpemnlodaa.Fl
open Go.RowKit Ieee
set_option linter.unusedVariables false
set_option linter.unusedSimpArgs false
theorem float_und : (Try.prog.underlying 28).isSome = true := by kernel_rfl
theorem conv_at {x : Nat} {i : Int} (h : floatToIntVal .f64 x .i64 = some i) (w : World) : (convert 28 3 (F x)).run Try.prog w = .ok (.int .i64 i) w :=
  run_convert_float_int w 28 3 .f64 .i64 x i float_und Try.underlying3 h
theorem i64_bounds {n : Int} (hn : (Lit.int .i64 n).wf = true) : -9223372036854775808 ≤ n ∧ n ≤ 9223372036854775807 := by
  have h1 : IntKind.i64.min = -9223372036854775808 := by decide
  have h2 : IntKind.i64.max = 9223372036854775807 := by decide
  simp only [Lit.wf, Bool.and_eq_true, decide_eq_true_eq, h1, h2] at hn
  exact hn
theorem at_any (n : Int) (x : Nat) (hx : x < 18446744073709551616) (hn : (Lit.int .i64 n).wf = true) (w : World) :
    Calls Try.prog 28 #[.int .i64 n, F x] w fun e w' => e = .returned (.int .i64 (at_ n x)) ∧ w' = w := by
  have hb := i64_bounds hn
  clear hn
  have HA : Hid (at_ n x = if n < 1 then -1 else if ord x 0 ≤ 0 then 0 else if 0 ≤ ord x one then n - 1 else min (wf n.toNat x : Int) (n - 1)) := Lib.hid rfl
  by_cases h1 : n < 1
  · rw [if_pos h1] at HA
    go_enter Try.func28, Try.ntmps28
    go_wp2
    go_ret
    exact ⟨ret_num HA.out.symm, rfl⟩
  rw [if_neg h1] at HA
  have C1 := Lib.hid (order_any x 0 hx (by decide) w)
  have C2 := Lib.hid (order_any x 4607182418800017408 hx (by decide) w)
  by_cases h2 : ord x 0 ≤ 0
  · rw [if_pos h2] at HA
    generalize ord x 0 = o at *
    clear C2
    go_enter Try.func28, Try.ntmps28
    go_wp2_with fail
    refine C1.out.mono ?_
    rintro e w1 ⟨rfl, rfl⟩
    go_wp2
    go_ret
    exact ⟨ret_num HA.out.symm, rfl⟩
  rw [if_neg h2] at HA
  by_cases h3 : 0 ≤ ord x one
  · rw [if_pos h3] at HA
    unfold one at h3
    generalize ord x 0 = o at *
    generalize ord x 4607182418800017408 = o2 at *
    go_enter Try.func28, Try.ntmps28
    go_wp2_with fail
    refine C1.out.mono ?_
    rintro e w1 ⟨rfl, rfl⟩
    go_wp2_with fail
    refine C2.out.mono ?_
    rintro e w2 ⟨rfl, rfl⟩
    go_wp2
    go_ret
    exact ⟨ret_num HA.out.symm, rfl⟩
  rw [if_neg h3] at HA
  obtain ⟨_, m1, m2, _, _⟩ := mid_facts h2 h3
  unfold one at h3
  obtain ⟨p, hp, hi⟩ := mul_at (n := n) (by omega) hb.2 m1 m2
  have hl := wf_lt (n := n.toNat) (by omega) m2
  have hm : ∀ t w, (binOp .mul t (F x) (F (floatOfInt .f64 n))).run Try.prog w = .ok (F p) w := fun t w => run_float_arith w .mul t .f64 _ _ _ hp
  have hc := conv_at hi
  clear hp hi m1 m2
  generalize wf n.toNat x = i at *
  generalize ord x 0 = o at *
  generalize ord x 4607182418800017408 = o2 at *
  go_enter Try.func28, Try.ntmps28
  go_wp2_with fail
  refine C1.out.mono ?_
  rintro e w1 ⟨rfl, rfl⟩
  go_wp2_with fail
  refine C2.out.mono ?_
  rintro e w2 ⟨rfl, rfl⟩
  go_wp2
  all_goals
    go_ret
    exact ⟨ret_num (by rw [HA.out]; omega), rfl⟩
theorem fo_ge (x y : Nat) : (fo x y == some .gt || fo x y == some .eq) = (!nan x && !nan y && decide (key y ≤ key x)) := by
  rw [fo_gt, fo_eq]
  cases nan x <;> cases nan y <;> simp
  rw [Bool.eq_iff_iff]
  simp
  omega
theorem kd_low (x : Nat) : ord x 0 ≤ 0 ↔ kd x < 5 := by
  have e1 : tk 0 = 0 := by decide
  unfold ord
  rw [e1]
  rcases kd_cases x with h | h | h | h | h | h | h <;> (repeat' split) <;> omega
theorem kd_high {x : Nat} (h : ¬ kd x < 5) : 0 ≤ ord x one ↔ (kd x = 6 ∨ 4607182418800017408 ≤ key x) := by
  have e1 : tk one = 4607182418800017408 := by decide
  unfold ord
  rw [e1]
  rcases kd_cases x with h | h | h | h | h | h | h <;> (repeat' split) <;> omega
theorem at6_any (n : Int) (x : Nat) (hx : x < 18446744073709551616) (hn : (Lit.int .i64 n).wf = true) (w : World) :
    Calls Try.prog 29 #[.int .i64 n, F x] w fun e w' => e = .returned (.int .i64 (at_ n x)) ∧ ∃ q, w' = w.drewN q := by
  have hb := i64_bounds hn
  clear hn
  have HA : Hid (at_ n x = if n < 1 then -1 else if ord x 0 ≤ 0 then 0 else if 0 ≤ ord x one then n - 1 else min (wf n.toNat x : Int) (n - 1)) := Lib.hid rfl
  by_cases h1 : n < 1
  · rw [if_pos h1] at HA
    go_enter Try.func29, Try.ntmps29
    go_wp2
    go_ret
    exact ⟨ret_num HA.out.symm, 0, rfl⟩
  rw [if_neg h1] at HA
  have C1 := Lib.hid (kind5_any x hx w)
  by_cases h2 : ord x 0 ≤ 0
  · rw [if_pos h2] at HA
    have h2 := (kd_low x).1 h2
    generalize kd x = o at *
    go_enter Try.func29, Try.ntmps29
    go_wp2_with fail
    refine C1.out.mono ?_
    rintro e w1 ⟨rfl, q, rfl⟩
    go_wp2
    go_ret
    exact ⟨ret_num HA.out.symm, _, rfl⟩
  rw [if_neg h2] at HA
  have hk5 : ¬ kd x < 5 := fun h => h2 ((kd_low x).2 h)
  have hge := fo_ge x 4607182418800017408
  have hk1 : key 4607182418800017408 = 4607182418800017408 := by decide
  have hn1 : nan 4607182418800017408 = false := by decide
  have hnx : nan x = false := by rcases kd_cases x with h | h | h | h | h | h | h <;> first | (exfalso; omega) | exact h.2.1
  have hk6 : kd x ≤ 6 := by rcases kd_cases x with h | h | h | h | h | h | h <;> omega
  rw [hk1, hn1, hnx] at hge
  simp only [Bool.not_false, Bool.true_and] at hge
  clear hk1 hn1
  by_cases h3 : 0 ≤ ord x one
  · rw [if_pos h3] at HA
    have h3 := (kd_high hk5).1 h3
    clear h2
    by_cases h6 : kd x = 6
    · clear hge h3
      rw [h6] at C1
      go_enter Try.func29, Try.ntmps29
      go_wp2_with fail
      refine C1.out.mono ?_
      rintro e w1 ⟨rfl, q, rfl⟩
      go_wp2
      go_ret
      exact ⟨ret_num HA.out.symm, _, rfl⟩
    · have hk : kd x = 5 := by omega
      rw [decide_eq_true (by omega)] at hge
      rw [hk] at C1
      clear h3
      go_enter Try.func29, Try.ntmps29
      go_wp2_with fail
      refine C1.out.mono ?_
      rintro e w1 ⟨rfl, q, rfl⟩
      go_wp2
      go_ret
      exact ⟨ret_num HA.out.symm, _, rfl⟩
  rw [if_neg h3] at HA
  obtain ⟨_, m1, m2, m3, _⟩ := mid_facts h2 h3
  have h3 : ¬ (kd x = 6 ∨ 4607182418800017408 ≤ key x) := fun h => h3 ((kd_high hk5).2 h)
  rw [decide_eq_false (by omega)] at hge
  rw [m3] at C1
  obtain ⟨p, hp, hi⟩ := mul_at (n := n) (by omega) hb.2 m1 m2
  have hl := wf_lt (n := n.toNat) (by omega) m2
  have hm : ∀ t w, (binOp .mul t (F x) (F (floatOfInt .f64 n))).run Try.prog w = .ok (F p) w := fun t w => run_float_arith w .mul t .f64 _ _ _ hp
  have hc := conv_at hi
  clear hp hi m1 m2 m3 h2 h3 hk5 hk6 hnx
  generalize wf n.toNat x = i at *
  have hd : Hid (n - 1 < i ∨ (i : Int) ≤ n - 1) := Lib.hid (by omega)
  go_enter Try.func29, Try.ntmps29
  go_wp2_with fail
  refine C1.out.mono ?_
  rintro e w1 ⟨rfl, q, rfl⟩
  rcases hd.out with hd2 | hd2
  · go_wp2
    go_ret
    exact ⟨ret_num (by rw [HA.out]; omega), _, rfl⟩
  · go_wp2
    go_ret
    exact ⟨ret_num (by rw [HA.out]; omega), _, rfl⟩
end Go.Proofs.Ythgncnpemnlodaa.Fl
