/- The statement RealBack: the walk. -/
import Derived.Test.YthgncnpemnlodaaRe2
namespace Go.Proofs.Ythgncnpemnlodaa.Fl
open Go.RowKit
set_option linter.unusedVariables false
set_option linter.unusedSimpArgs false
abbrev ng (x : Nat) : Nat := Op.negFloat .f64 x
@[go_sem] theorem run_neg {P : Program} (x : Nat) (w : World) : (Op.unary .neg (.float .f64 x)).run P w = .ok (.float .f64 (Op.negFloat .f64 x)) w := rfl
theorem ng_eq (x : Nat) : ng x = x ^^^ 2 ^ 63 := rfl
theorem ng_rung (x : Nat) : rung (ng x) = rung x := by
  show (x ^^^ 2 ^ 63) % 2 ^ 63 = x % 2 ^ 63
  rw [Nat.xor_mod_two_pow]
  simp
theorem ng_div (x : Nat) : ng x / 9223372036854775808 = x / 9223372036854775808 ^^^ 1 := by
  show (x ^^^ 2 ^ 63) / 2 ^ 63 = x / 2 ^ 63 ^^^ 1
  rw [Nat.xor_div_two_pow]
theorem bit_cases {x : Nat} (hx : x < 18446744073709551616) : x / 9223372036854775808 = 0 ∨ x / 9223372036854775808 = 1 := by omega
theorem ng_sgn {x : Nat} (hx : x < 18446744073709551616) : sgn (ng x) = !sgn x := by
  unfold sgn
  rw [ng_div]
  rcases bit_cases hx with h | h <;> rw [h] <;> rfl
theorem ng_lt {x : Nat} (hx : x < 18446744073709551616) : ng x < 18446744073709551616 := by
  have h1 := ng_div x
  have h2 : ng x / 9223372036854775808 < 2 := by
    rw [h1]
    rcases bit_cases hx with h | h <;> rw [h] <;> decide
  omega
theorem ng_key {x : Nat} (hx : x < 18446744073709551616) : key (ng x) = -key x := by
  unfold key sg
  rw [ng_rung, ng_sgn hx]
  cases sgn x <;> simp
theorem ng_nan (x : Nat) : nan (ng x) = nan x := by unfold nan; rw [ng_rung]
theorem kd_back {x : Nat} (hx : x < 18446744073709551616) : (kd x = 0 ∧ kd (ng x) = 0) ∨ (1 ≤ kd x ∧ kd x ≤ 6 ∧ kd (ng x) = 7 - kd x) := by
  have h1 := ng_key hx
  have h2 := ng_nan x
  have h3 := ng_sgn hx
  rcases kd_cases x with h | h | h | h | h | h | h <;> rcases kd_cases (ng x) with g | g | g | g | g | g | g <;>
    first | (left; exact ⟨h.1, g.1⟩) | (right; omega) | (exfalso; have := h.2.1; have := g.2.1; simp_all; done) | (exfalso; omega) | (exfalso; have := h.2.2.1; have := g.2.2.1; simp_all; done)
theorem bts_lt {x : Nat} (hx : x < 18446744073709551616) : bts x < 18446744073709551616 := by unfold bts; split <;> omega
theorem bts_back (x : Nat) : ord (bts x) x = 0 := by
  unfold bts ord
  cases h : nan x
  · simp
  · have e0 : tk x = -36893488147419103232 := by unfold tk; rw [h]; rfl
    have e1 : tk 9221120237041090560 = -36893488147419103232 := by decide
    simp [e0, e1]
theorem back_walk (x : Nat) (w : World) (hx : x < 18446744073709551616) :
    Calls Try.prog 6 #[F x] w fun e w' => e = .returned (.bool true) ∧ Below w.heap.size w w' := by
  have C1 := Lib.hid (kind_any x hx w)
  have C2 := Lib.hid (kind_any (ng x) (ng_lt hx) w)
  have C3 := Lib.hid (bits_any x w)
  have C4 := Lib.hid (from_any (bts x) w)
  have C5 := Lib.hid (order_any (bts x) x (bts_lt hx) hx w)
  rw [bts_back] at C5
  have hk := kd_back hx
  generalize kd (ng x) = l at *
  generalize kd x = k at *
  generalize bts x = b at *
  rcases hk with ⟨rfl, rfl⟩ | ⟨h1, h2, rfl⟩
  · skip
    go_enter Try.func6, Try.ntmps6
    go_wp2_with fail
    refine C1.out.mono ?_
    rintro e w1 ⟨rfl, rfl⟩
    go_wp2_with fail
    refine C2.out.mono ?_
    rintro e w1 ⟨rfl, rfl⟩
    go_wp2_with fail
    refine C3.out.mono ?_
    rintro e w1 ⟨rfl, rfl⟩
    go_wp2_with fail
    refine C4.out.mono ?_
    rintro e w1 ⟨rfl, rfl⟩
    go_wp2_with fail
    refine C5.out.mono ?_
    rintro e w1 ⟨rfl, rfl⟩
    go_wp2_with fail
    refine (works_any _).mono ?_
    rintro e w2 ⟨rfl, hb⟩
    go_wp2
    go_ret
    exact ⟨rfl, hb⟩
  · have hw : (k + (7 - k) != 7) = false := by
      have : k + (7 - k) = 7 := by omega
      rw [this]; rfl
    have hk0 : (k == 0) = false := by rw [beq_eq_false_iff_ne]; omega
    have hl0 : ((7 - k) == 0) = false := by rw [beq_eq_false_iff_ne]; omega
    go_enter Try.func6, Try.ntmps6
    go_wp2_with fail
    refine C1.out.mono ?_
    rintro e w1 ⟨rfl, rfl⟩
    go_wp2_with fail
    refine C2.out.mono ?_
    rintro e w1 ⟨rfl, rfl⟩
    go_wp2_with fail
    refine C3.out.mono ?_
    rintro e w1 ⟨rfl, rfl⟩
    go_wp2_with fail
    refine C4.out.mono ?_
    rintro e w1 ⟨rfl, rfl⟩
    go_wp2_with fail
    refine C5.out.mono ?_
    rintro e w1 ⟨rfl, rfl⟩
    go_wp2_with fail
    refine (works_any _).mono ?_
    rintro e w2 ⟨rfl, hb⟩
    go_wp2
    go_ret
    exact ⟨rfl, hb⟩
end Go.Proofs.Ythgncnpemnlodaa.Fl
