/- What a weight picks: plain laws, and the contracts of both At. No statement is proved here. -/
import Derived.Test.YthgncnpemnlodaaNear
import Derived.Test.YthgncnpemnlodaaReK
namespace Go.Proofs.Ythgncnpemnlodaa.Fl
open Go.RowKit Ieee
set_option linter.unusedVariables false
set_option linter.unusedSimpArgs false
theorem near_all (neg : Bool) (mag K e : Nat) : double.nearest neg mag (double.leastPlace - K + e) = double.word neg (rn K (mag * 2 ^ e)) := by
  by_cases hm : mag = 0
  · subst hm
    rw [Nat.zero_mul, rn_zero]
    unfold Format.nearest
    rw [if_pos rfl]
  · exact near_rn neg mag K e hm
theorem least_eq : double.leastPlace = -1074 := by decide +kernel
theorem word_eq (s : Bool) (r : Nat) : double.word s r = if s then 9223372036854775808 + r else r := by
  unfold Format.word
  have : double.signWeight = 9223372036854775808 := by decide +kernel
  rw [this]
theorem rn_le_inf (K N : Nat) : rn K N ≤ inf := Nat.min_le_right _ _
theorem word_rung (s : Bool) {r : Nat} (h : r ≤ inf) : rung (double.word s r) = r := by
  rw [word_eq]; unfold rung; unfold inf at h; split <;> omega
theorem word_sgn (s : Bool) {r : Nat} (h : r ≤ inf) : sgn (double.word s r) = s := by
  rw [word_eq]; unfold sgn; unfold inf at h
  cases s
  · simp; omega
  · simp; omega
theorem word_lt64 (s : Bool) {r : Nat} (h : r ≤ inf) : double.word s r < 18446744073709551616 := by
  rw [word_eq]; unfold inf at h; split <;> omega
theorem mul_rn {x y : Nat} (hx : rung x < inf) (hy : rung y < inf) : double.mul x y = some (double.word (sgn x ^^ sgn y) (rn 1074 (V (rung x) * V (rung y)))) := by
  unfold Format.mul
  rw [read_num hx, read_num hy]
  show some (double.nearest (sgn x ^^ sgn y) (man (rung x) * man (rung y)) (double.leastPlace + ex (rung x) + (double.leastPlace + ex (rung y)))) = _
  have e : double.leastPlace + (ex (rung x) : Int) + (double.leastPlace + ex (rung y)) = double.leastPlace - (1074 : Nat) + (ex (rung x) + ex (rung y) : Nat) := by
    rw [least_eq]; omega
  rw [e, near_all]
  unfold V
  congr 3
  rw [Nat.pow_add]
  ac_rfl
theorem int_rn (n : Int) : floatOfInt .f64 n = double.word (decide (n < 0)) (rn 0 (n.natAbs * 2 ^ 1074)) := by
  show double.nearest (n < 0) n.natAbs 0 = _
  have := near_all (decide (n < 0)) n.natAbs 0 1074
  rw [show double.leastPlace - ((0 : Nat) : Int) + ((1074 : Nat) : Int) = 0 from by rw [least_eq]; rfl] at this
  exact this
theorem cut_zero (neg : Bool) (n drop : Nat) : Toward.zero.cut neg n drop = n / 2 ^ drop := by
  unfold Toward.cut
  simp only [Nat.shiftLeft_eq, Nat.one_mul, Bool.toNat_false, Nat.add_zero]
  by_cases h : drop ≤ n.log2 + 2
  · rw [Nat.min_eq_left h]
  · rw [Nat.min_eq_right (by omega)]
    have h1 : n < 2 ^ (n.log2 + 1) := Nat.lt_log2_self
    have h2 : 2 ^ (n.log2 + 2) = 2 * 2 ^ (n.log2 + 1) := by rw [Nat.pow_succ, Nat.mul_comm]
    have h3 : 2 ^ (n.log2 + 2) ≤ 2 ^ drop := Nat.pow_le_pow_right (by decide) (by omega)
    rw [Nat.div_eq_of_lt (show n < 2 ^ (n.log2 + 2) by omega), Nat.div_eq_of_lt (show n < 2 ^ drop by omega)]
theorem shift_cut (K m e : Nat) : (m <<< (-(K : Int) + (e : Int)).toNat) / 2 ^ (-(-(K : Int) + (e : Int))).toNat = m * 2 ^ e / 2 ^ K := by
  rw [Nat.shiftLeft_eq]
  rcases Nat.lt_or_ge e K with h | h
  · rw [show (-(K : Int) + (e : Int)).toNat = 0 from by omega, show (-(-(K : Int) + (e : Int))).toNat = K - e from by omega, pow_split (show e ≤ K by omega), Nat.pow_zero, Nat.mul_one]
    exact (Nat.mul_div_mul_right m _ (Nat.two_pow_pos e)).symm
  · rw [show (-(K : Int) + (e : Int)).toNat = e - K from by omega, show (-(-(K : Int) + (e : Int))).toNat = 0 from by omega, pow_split h, ← Nat.mul_assoc, Nat.mul_div_cancel _ (Nat.two_pow_pos _), Nat.pow_zero, Nat.div_one]
theorem toInt_V {x : Nat} (hx : rung x < inf) : (FloatKind.f64.decode x).toInt .zero = some (sg (sgn x) (V (rung x) / 2 ^ 1074)) := by
  show ((double.read x).toInt .zero) = _
  rw [read_num hx]
  unfold Datum.toInt Datum.integral
  simp only [signed_sg, cut_zero, Nat.pow_zero, Nat.mul_one]
  congr 2
  rw [least_eq]
  exact shift_cut 1074 _ _
/-! ### what a weight between nought and one picks of n things -/
def one : Nat := 4607182418800017408
/-- The product of a weight and a number, cut to a whole number. -/
def wf (n w : Nat) : Nat := V (rn 1074 (V (rung w) * V (rn 0 (n * 2 ^ 1074)))) / 2 ^ 1074
theorem V_le_of {a b : Nat} (h : a ≤ b) : V a ≤ V b := by
  rcases Nat.lt_or_ge a b with h1 | h1
  · exact Nat.le_of_lt (V_mono h1)
  · have : a = b := by omega
    subst this; exact Nat.le_refl _
theorem V_two63 : V 4890909195324358656 = 9223372036854775808 * 2 ^ 1074 := by decide +kernel
theorem V_top : V 4890909195324358655 = 9223372036854774784 * 2 ^ 1074 := by decide +kernel
theorem V_prod : V 4607182418800017407 * V 4890909195324358656 = V 4890909195324358655 * 2 ^ 1074 := by decide +kernel
theorem div_pow_le {a q : Nat} (K : Nat) (h : a ≤ q * 2 ^ K) : a / 2 ^ K ≤ q := by
  have := Nat.div_le_div_right (c := 2 ^ K) h
  rwa [Nat.mul_div_cancel _ (Nat.two_pow_pos K)] at this
theorem rn_of_le {K N r : Nat} (hr : r ≤ inf) (h : N ≤ V r * 2 ^ K) : rn K N ≤ r := by
  have := rn_mono (K := K) h
  rwa [rn_exact hr] at this
theorem mul_pow_le {n q : Nat} (K : Nat) (h : n ≤ q) : n * 2 ^ K ≤ q * 2 ^ K := Nat.mul_le_mul_right _ h
theorem rn_int_le {n : Nat} (hn : n ≤ 9223372036854775807) : rn 0 (n * 2 ^ 1074) ≤ 4890909195324358656 := by
  have h := mul_pow_le 1074 (show n ≤ 9223372036854775808 by omega)
  rw [← V_two63] at h
  exact rn_of_le (by decide) (by rw [Nat.pow_zero, Nat.mul_one]; exact h)
theorem wf_rung {n w : Nat} (hn : n ≤ 9223372036854775807) (hw : rung w < one) : rn 1074 (V (rung w) * V (rn 0 (n * 2 ^ 1074))) ≤ 4890909195324358655 := by
  have h1 : V (rung w) ≤ V 4607182418800017407 := V_le_of (by unfold one at hw; omega)
  have h2 : V (rn 0 (n * 2 ^ 1074)) ≤ V 4890909195324358656 := V_le_of (rn_int_le hn)
  have h3 := Nat.mul_le_mul h1 h2
  rw [V_prod] at h3
  exact rn_of_le (by decide) h3
theorem wf_lt {n w : Nat} (hn : n ≤ 9223372036854775807) (hw : rung w < one) : wf n w ≤ 9223372036854775807 := by
  have h1 := V_le_of (wf_rung hn hw)
  rw [V_top] at h1
  unfold wf
  exact Nat.le_trans (div_pow_le 1074 h1) (by decide)
theorem wf_mono {n w v : Nat} (h : rung w ≤ rung v) : wf n w ≤ wf n v := by
  unfold wf
  exact Nat.div_le_div_right (V_le_of (rn_mono (Nat.mul_le_mul_right _ (V_le_of h))))
def at_ (n : Int) (w : Nat) : Int := if n < 1 then -1 else if ord w 0 ≤ 0 then 0 else if 0 ≤ ord w one then n - 1 else min (wf n.toNat w : Int) (n - 1)
theorem mid_facts {w : Nat} (h0 : ¬ ord w 0 ≤ 0) (h1 : ¬ 0 ≤ ord w one) : nan w = false ∧ sgn w = false ∧ rung w < one ∧ kd w = 5 ∧ 0 < rung w := by
  have e0 : tk 0 = 0 := by decide
  have e1 : tk one = 4607182418800017408 := by decide
  have h2 : 0 < tk w := by unfold ord at h0; rw [e0] at h0; (repeat' split at h0) <;> omega
  have h3 : tk w < 4607182418800017408 := by unfold ord at h1; rw [e1] at h1; (repeat' split at h1) <;> omega
  have hn : nan w = false := by
    cases hn : nan w
    · rfl
    · exfalso; unfold tk at h2; rw [hn] at h2; simp at h2
  have hs : sgn w = false := by
    cases hs : sgn w
    · rfl
    · exfalso; unfold tk at h2; rw [hn, hs] at h2; simp at h2; omega
  have hr : tk w = rung w := by unfold tk; rw [hn, hs]; rfl
  refine ⟨hn, hs, by unfold one; omega, ?_, by omega⟩
  rcases kd_cases w with h | h | h | h | h | h | h <;> omega
theorem rn_fin {n : Nat} (hn : n ≤ 9223372036854775807) : rn 0 (n * 2 ^ 1074) < inf := Nat.lt_of_le_of_lt (rn_int_le hn) (by decide)
theorem mul_words {w R P : Nat} (hs : sgn w = false) (hw : rung w < inf) (hR : R < inf) (hP : rn 1074 (V (rung w) * V R) = P) : floatBits .mul .f64 w R = some P := by
  have w1 := word_rung false (Nat.le_of_lt hR)
  have w2 := word_sgn false (Nat.le_of_lt hR)
  rw [word_eq, if_neg (by simp)] at w1 w2
  show double.mul _ _ = _
  rw [mul_rn hw (by rw [w1]; exact hR), w1, w2, hs, hP, word_eq]
  simp only [Bool.xor_false, Bool.false_eq_true, if_false]
theorem int_words {P q : Nat} (hP : P < inf) (hq : V P / 2 ^ 1074 = q) (hl : q ≤ 9223372036854775807) : floatToIntVal .f64 P .i64 = some (q : Int) := by
  have w1 := word_rung false (Nat.le_of_lt hP)
  have w2 := word_sgn false (Nat.le_of_lt hP)
  rw [word_eq, if_neg (by simp)] at w1 w2
  unfold floatToIntVal
  rw [toInt_V (by rw [w1]; exact hP), w1, w2, hq]
  have e : sg false q = (q : Int) := rfl
  rw [e]
  have h1 : IntKind.i64.min = -9223372036854775808 := by decide
  have h2 : IntKind.i64.max = 9223372036854775807 := by decide
  clear hq w1 w2 hP e
  simp only [h1, h2]
  rw [if_pos ⟨by omega, by omega⟩]
theorem int_pos {n : Int} (hn : 1 ≤ n) : floatOfInt .f64 n = rn 0 (n.toNat * 2 ^ 1074) := by
  have hna : n.natAbs = n.toNat := by omega
  have hd : decide (n < 0) = false := decide_eq_false (by omega)
  rw [int_rn, hna, hd, word_eq, if_neg (by simp)]
theorem mul_at {n : Int} {w : Nat} (hn1 : 1 ≤ n) (hn2 : n ≤ 9223372036854775807) (hs : sgn w = false) (hw : rung w < one) :
    ∃ x, floatBits .mul .f64 w (floatOfInt .f64 n) = some x ∧ floatToIntVal .f64 x .i64 = some ((wf n.toNat w : Nat) : Int) := by
  have hnl : n.toNat ≤ 9223372036854775807 := by omega
  have hp := wf_rung hnl hw
  have hl := wf_lt hnl hw
  rw [int_pos hn1]
  exact ⟨_, mul_words hs (Nat.lt_trans hw (by decide)) (rn_fin hnl) rfl, int_words (Nat.lt_of_le_of_lt hp (by decide)) rfl hl⟩
end Go.Proofs.Ythgncnpemnlodaa.Fl
