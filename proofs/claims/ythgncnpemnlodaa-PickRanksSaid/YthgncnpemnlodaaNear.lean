/- Rounding to the nearest floating number: it rises, and what is one stays. Plain laws. No statement is proved here. -/
import Derived.Test.YthgncnpemnlodaaFl
namespace Go.Proofs.Ythgncnpemnlodaa.Fl
open Ieee
/-! ### rounding to the nearest whole number, and the even one of two -/
def rhe (n d : Nat) : Nat := n / d + (decide (d < 2 * (n % d)) || (2 * (n % d) == d && n / d % 2 == 1)).toNat
theorem rhe_scale (n d k : Nat) (hk : 0 < k) : rhe (n * k) (d * k) = rhe n d := by
  unfold rhe
  rw [Nat.mul_div_mul_right n d hk, Nat.mul_mod_mul_right]
  have h1 : decide (d * k < 2 * (n % d * k)) = decide (d < 2 * (n % d)) := by
    rw [decide_eq_decide, ← Nat.mul_assoc]; exact Nat.mul_lt_mul_right hk
  have h2 : (2 * (n % d * k) == d * k) = (2 * (n % d) == d) := by
    rw [← Nat.mul_assoc, Bool.eq_iff_iff, beq_iff_eq, beq_iff_eq]; exact Nat.mul_left_inj (by omega)
  rw [h1, h2]
theorem rhe_exact (q d : Nat) (hd : 0 < d) : rhe (q * d) d = q := by
  unfold rhe
  rw [Nat.mul_div_cancel _ hd, Nat.mul_mod_left]
  have : (decide (d < 2 * 0) || (2 * 0 == d && q % 2 == 1)) = false := by
    have : (2 * 0 == d) = false := by rw [beq_eq_false_iff_ne]; omega
    simp [this]
  rw [this]; rfl
theorem toNat_le (b : Bool) : b.toNat ≤ 1 := by cases b <;> decide
theorem rhe_mono {n n' d : Nat} (h : n ≤ n') : rhe n d ≤ rhe n' d := by
  unfold rhe
  have hq : n / d ≤ n' / d := Nat.div_le_div_right h
  rcases Nat.lt_or_ge (n / d) (n' / d) with h1 | h1
  · have := toNat_le (decide (d < 2 * (n % d)) || (2 * (n % d) == d && n / d % 2 == 1))
    omega
  · have he : n / d = n' / d := by omega
    have hm : n % d ≤ n' % d := by
      have a := Nat.div_add_mod n d
      have b := Nat.div_add_mod n' d
      rw [he] at a
      omega
    rw [he]
    refine Nat.add_le_add_left ?_ _
    generalize n % d = x at *
    generalize n' % d = y at *
    generalize (n' / d % 2 == 1) = b
    by_cases h2 : d < 2 * y
    · rw [decide_eq_true h2]; exact toNat_le _
    · have h3 : ¬ d < 2 * x := by omega
      rw [decide_eq_false h2, decide_eq_false h3, Bool.false_or, Bool.false_or]
      by_cases h4 : 2 * y = d
      · rw [show (2 * y == d) = true from by rw [beq_iff_eq]; exact h4]
        cases b <;> simp [toNat_le]
      · have h5 : ¬ 2 * x = d := by omega
        rw [show (2 * x == d) = false from by rw [beq_eq_false_iff_ne]; exact h5]
        simp
theorem cut_rhe (neg : Bool) (n drop : Nat) : Toward.even.cut neg n drop = rhe n (2 ^ drop) := by
  unfold Toward.cut
  simp only [Nat.shiftLeft_eq, Nat.one_mul]
  by_cases h : drop ≤ n.log2 + 2
  · rw [Nat.min_eq_left h]
    unfold rhe
    congr 2
    rw [Bool.beq_comm (a := 2 ^ drop)]
  · rw [Nat.min_eq_right (by omega)]
    have h1 : n < 2 ^ (n.log2 + 1) := Nat.lt_log2_self
    have h2 : 2 ^ (n.log2 + 2) = 2 * 2 ^ (n.log2 + 1) := by rw [Nat.pow_succ, Nat.mul_comm]
    have h3 : 2 ^ (n.log2 + 2) ≤ 2 ^ drop := Nat.pow_le_pow_right (by decide) (by omega)
    unfold rhe
    rw [Nat.div_eq_of_lt (show n < 2 ^ (n.log2 + 2) by omega), Nat.mod_eq_of_lt (show n < 2 ^ (n.log2 + 2) by omega), Nat.div_eq_of_lt (show n < 2 ^ drop by omega), Nat.mod_eq_of_lt (show n < 2 ^ drop by omega)]
    have e1 : decide (2 ^ (n.log2 + 2) < 2 * n) = false := decide_eq_false (by omega)
    have e2 : decide (2 ^ drop < 2 * n) = false := decide_eq_false (by omega)
    rw [e1, e2]
    simp
/-! ### the rung nearest to N, in units of which 2 ^ K make the least number -/
def rn (K N : Nat) : Nat := min ((max (N.log2 - 52) K - K) * B + rhe N (2 ^ max (N.log2 - 52) K)) inf
theorem pow_split {a b : Nat} (h : a ≤ b) : 2 ^ b = 2 ^ (b - a) * 2 ^ a := by rw [← Nat.pow_add]; congr 1; omega
theorem log2_mul_pow (m e : Nat) (hm : m ≠ 0) : (m * 2 ^ e).log2 = m.log2 + e := by
  have h := Nat.log2_self_le hm
  have h2 : m < 2 ^ (m.log2 + 1) := Nat.lt_log2_self
  refine (Nat.log2_eq_iff (by have := Nat.two_pow_pos e; exact Nat.mul_ne_zero hm (by omega))).2 ⟨?_, ?_⟩
  · rw [Nat.pow_add]; exact Nat.mul_le_mul_right _ h
  · rw [show m.log2 + e + 1 = (m.log2 + 1) + e from by omega, Nat.pow_add]
    exact Nat.mul_lt_mul_of_pos_right h2 (Nat.two_pow_pos _)
theorem near_rn (neg : Bool) (mag K e : Nat) (hm : mag ≠ 0) : double.nearest neg mag (double.leastPlace - K + e) = double.word neg (rn K (mag * 2 ^ e)) := by
  unfold Format.nearest
  rw [if_neg hm]
  have e2 : double.binade = B := by decide
  have e3 : double.infRung = inf := by decide +kernel
  have e4 : (double.fractionBits : Int) = 52 := rfl
  simp only [e2, e3, e4]
  unfold rn
  rw [log2_mul_pow mag e hm]
  generalize double.leastPlace = L
  generalize hg : mag.log2 = g
  have hl : max (L - (K : Int) + (e : Int) + (g : Int) - 52) L = L - K + (max (g + e - 52) K : Nat) := by omega
  rw [hl]
  generalize hM : max (g + e - 52) K = M
  have hKM : K ≤ M := by omega
  have h1 : (L - (K : Int) + (M : Int) - L).toNat = M - K := by omega
  have h2 : (L - (K : Int) + (e : Int) - (L - (K : Int) + (M : Int))).toNat = e - M := by omega
  have h3 : (L - (K : Int) + (M : Int) - (L - (K : Int) + (e : Int))).toNat = M - e := by omega
  rw [h1, h2, h3, cut_rhe]
  congr 3
  rcases Nat.lt_or_ge M e with h | h
  · rw [show M - e = 0 from by omega, Nat.shiftLeft_eq, pow_split (show M ≤ e by omega), ← Nat.mul_assoc, rhe_exact _ _ (Nat.two_pow_pos _)]
    have := rhe_exact (mag * 2 ^ (e - M)) 1 (by decide)
    rw [Nat.mul_one] at this
    exact this
  · rw [show e - M = 0 from by omega, pow_split h, rhe_scale _ _ _ (Nat.two_pow_pos _)]
    rfl
theorem lt_pow_log (N : Nat) : N < 2 ^ (N.log2 + 1) := Nat.lt_log2_self
theorem rhe_le {n q d : Nat} (hd : 0 < d) (h : n ≤ q * d) : rhe n d ≤ q := by
  have := rhe_mono (d := d) h
  rwa [rhe_exact q d hd] at this
theorem le_rhe {n q d : Nat} (hd : 0 < d) (h : q * d ≤ n) : q ≤ rhe n d := by
  have := rhe_mono (d := d) h
  rwa [rhe_exact q d hd] at this
theorem log2_mono {a b : Nat} (h : a ≤ b) : a.log2 ≤ b.log2 := by
  by_cases ha : a = 0
  · subst ha; simp
  · have h1 := Nat.log2_self_le ha
    have h2 := lt_pow_log b
    have : 2 ^ a.log2 < 2 ^ (b.log2 + 1) := by omega
    have := (Nat.pow_lt_pow_iff_right (by decide : 1 < 2)).1 this
    omega
theorem rn_mono {K N N' : Nat} (h : N ≤ N') : rn K N ≤ rn K N' := by
  unfold rn
  have hl := log2_mono h
  rcases Nat.lt_or_ge (max (N.log2 - 52) K) (max (N'.log2 - 52) K) with h1 | h1
  · have k1 : rhe N (2 ^ max (N.log2 - 52) K) ≤ 2 * B := by
      refine rhe_le (Nat.two_pow_pos _) ?_
      have e : 2 * B * 2 ^ max (N.log2 - 52) K = 2 ^ (53 + max (N.log2 - 52) K) := by rw [Nat.pow_add]; rfl
      rw [e]
      exact Nat.le_of_lt (Nat.lt_of_lt_of_le (lt_pow_log N) (Nat.pow_le_pow_right (by decide) (by omega)))
    have hN' : N' ≠ 0 := by intro e; subst e; simp at h1; omega
    have k2 : B ≤ rhe N' (2 ^ max (N'.log2 - 52) K) := by
      refine le_rhe (Nat.two_pow_pos _) ?_
      have e : B * 2 ^ max (N'.log2 - 52) K = 2 ^ (52 + max (N'.log2 - 52) K) := by rw [Nat.pow_add]; rfl
      rw [e]
      exact Nat.le_trans (Nat.pow_le_pow_right (by decide) (by omega)) (Nat.log2_self_le hN')
    have ka : K ≤ max (N.log2 - 52) K := Nat.le_max_right _ _
    generalize max (N.log2 - 52) K = a at *
    generalize max (N'.log2 - 52) K = b at *
    have : (a - K) * B + B ≤ (b - K) * B := by
      have : (a - K + 1) * B ≤ (b - K) * B := Nat.mul_le_mul_right _ (by omega)
      rw [Nat.add_mul] at this
      omega
    generalize (a - K) * B = p at *
    generalize (b - K) * B = q at *
    generalize rhe N (2 ^ a) = x at *
    generalize rhe N' (2 ^ b) = y at *
    generalize B = z at *
    refine Nat.le_min.2 ⟨Nat.le_trans (Nat.min_le_left _ _) ?_, Nat.min_le_right _ _⟩
    clear h1 ka hl h
    omega
  · have e : max (N.log2 - 52) K = max (N'.log2 - 52) K := by omega
    rw [e]
    exact Nat.le_min.2 ⟨Nat.le_trans (Nat.min_le_left _ _) (Nat.add_le_add_left (rhe_mono h) _), Nat.min_le_right _ _⟩
theorem rn_zero (K : Nat) : rn K 0 = 0 := by
  unfold rn
  have : rhe 0 (2 ^ max (Nat.log2 0 - 52) K) = 0 := by
    have := rhe_exact 0 (2 ^ max (Nat.log2 0 - 52) K) (Nat.two_pow_pos _)
    rwa [Nat.zero_mul] at this
  rw [this]
  simp
theorem rn_exact {K r : Nat} (hr : r ≤ inf) : rn K (V r * 2 ^ K) = r := by
  by_cases h0 : r = 0
  · subst h0; rw [show V 0 = 0 from V_lo (by decide), Nat.zero_mul]; exact rn_zero K
  unfold rn
  by_cases h : r < B
  · rw [V_lo h, log2_mul_pow r K h0]
    have hl : r.log2 < 52 := by
      have h1 := Nat.log2_self_le h0
      exact (Nat.pow_lt_pow_iff_right (by decide : 1 < 2)).1 (Nat.lt_of_le_of_lt h1 (show r < 2 ^ 52 from h))
    rw [show max (r.log2 + K - 52) K = K from by omega, rhe_exact _ _ (Nat.two_pow_pos _)]
    rw [Nat.sub_self, Nat.zero_mul, Nat.zero_add]
    omega
  · have hq : 1 ≤ r / B := (Nat.le_div_iff_mul_le (by decide)).2 (by omega)
    have hm : r % B < B := Nat.mod_lt _ (by decide)
    have hl : (B + r % B).log2 = 52 := (Nat.log2_eq_iff (Nat.ne_of_gt (Nat.lt_of_lt_of_le (by decide : 0 < B) (Nat.le_add_right _ _)))).2 ⟨show B ≤ _ by omega, by show B + r % B < 2 * B; omega⟩
    rw [V_hi h, Nat.mul_assoc, ← Nat.pow_add, log2_mul_pow _ _ (Nat.ne_of_gt (Nat.lt_of_lt_of_le (by decide : 0 < B) (Nat.le_add_right _ _))), hl]
    rw [show max (52 + (r / B - 1 + K) - 52) K = r / B - 1 + K from by omega, rhe_exact _ _ (Nat.two_pow_pos _)]
    have e : (r / B - 1 + K - K) * B + (B + r % B) = r := by
      rw [show r / B - 1 + K - K = r / B - 1 from by omega, Nat.sub_mul]
      have := Nat.div_add_mod r B
      rw [Nat.mul_comm] at this
      have h2 : 1 * B ≤ r / B * B := Nat.mul_le_mul_right _ hq
      omega
    rw [e]
    omega
end Go.Proofs.Ythgncnpemnlodaa.Fl
