/- A floating number by its parts: sums, doubles and halves that are exact. Plain laws. No statement is proved here. -/
import Derived.Test.YthgncnpemnlodaaAt
namespace Go.Proofs.Ythgncnpemnlodaa.Fl
open Go.RowKit Ieee
set_option linter.unusedVariables false
theorem B_pos : 0 < B := by decide
theorem V_mk {M kept : Nat} (h1 : B ≤ kept) (h2 : kept < 2 * B) : V (M * B + kept) = kept * 2 ^ M := by
  have h3 : ¬ M * B + kept < B := by omega
  have e : M * B + kept = (kept - B) + (M + 1) * B := by rw [Nat.add_mul]; omega
  have h4 : (M * B + kept) / B = M + 1 := by rw [e, Nat.add_mul_div_right _ _ B_pos, Nat.div_eq_of_lt (by omega), Nat.zero_add]
  have h5 : (M * B + kept) % B = kept - B := by rw [e, Nat.add_mul_mod_self_right, Nat.mod_eq_of_lt (by omega)]
  rw [V_hi h3, h4, h5, show B + (kept - B) = kept from by omega, show M + 1 - 1 = M from rfl]
theorem V_inj {a b : Nat} (h : V a = V b) : a = b := by
  rcases Nat.lt_trichotomy a b with h1 | h1 | h1
  · have := V_mono h1; omega
  · exact h1
  · have := V_mono h1; omega
/-- What has at most 53 digits is a number. -/
theorem rep {m e : Nat} (hm : m < 2 * B) (he : e ≤ 2045) : ∃ r, r < inf ∧ V r = m * 2 ^ e := by
  induction e generalizing m with
  | zero => 
    refine ⟨m, Nat.lt_trans hm (by decide), ?_⟩
    rw [Nat.pow_zero, Nat.mul_one]
    by_cases h : m < B
    · exact V_lo h
    · have := V_mk (M := 0) (by omega : B ≤ m) hm
      rwa [Nat.zero_mul, Nat.zero_add, Nat.pow_zero, Nat.mul_one] at this
  | succ e ih =>
    by_cases h : m < B
    · obtain ⟨r, h1, h2⟩ := ih (m := m * 2) (by omega) (by omega)
      exact ⟨r, h1, by rw [h2, Nat.pow_succ, Nat.mul_assoc, Nat.mul_comm 2]⟩
    · refine ⟨(e + 1) * B + m, ?_, V_mk (by omega) hm⟩
      have h3 : (e + 1) * B ≤ 2045 * B := Nat.mul_le_mul_right _ he
      have h4 : inf = 2045 * B + 2 * B := by decide
      omega
def two : Nat := 4611686018427387904
theorem rung_lo {r : Nat} (h : r < inf) : rung r = r := by unfold rung; unfold inf at h; omega
theorem sgn_lo {r : Nat} (h : r < inf) : sgn r = false := by unfold sgn; unfold inf at h; simp; omega
theorem V_two : V two = 2 * 2 ^ 1074 := by decide +kernel
theorem half_arith (a b K : Nat) (h : a = 2 * b) : b * (2 * 2 ^ K) = a * 2 ^ K := by rw [h]; ac_rfl
/-- Twice it. -/
theorem mul_two {r s : Nat} (hr : r < inf) (hs : s ≤ inf) (h : V s = 2 * V r) : floatBits .mul .f64 r two = some s := by
  refine mul_words (sgn_lo hr) (by rw [rung_lo hr]; exact hr) (by decide) ?_
  rw [rung_lo hr, V_two, half_arith (V s) (V r) 1074 h]
  exact rn_exact hs
theorem man_log {r : Nat} : (man r).log2 ≤ 52 := by
  have h : man r < 2 ^ 53 := by
    unfold man
    have : r % B < B := Nat.mod_lt _ B_pos
    show _ < 2 * B
    split <;> omega
  by_cases h0 : man r = 0
  · rw [h0]; simp
  · have h1 := Nat.log2_self_le h0
    have := (Nat.pow_lt_pow_iff_right (by decide : 1 < 2)).1 (Nat.lt_of_le_of_lt h1 h)
    omega
theorem div_arith (u t E K : Nat) (hK : 1 ≤ K) (h : u * 2 ^ E = 2 * t) (hK2 : 52 ≤ K) : 2 * (u * 2 ^ (K - 52)) * 2 ^ (E + 50) = t * 2 ^ K := by
  have e1 : 2 * (u * 2 ^ (K - 52)) * 2 ^ (E + 50) = u * 2 ^ E * (2 * 2 ^ (K - 52) * 2 ^ 50) := by rw [Nat.pow_add]; ac_rfl
  have e2 : 2 * (2 * 2 ^ (K - 52) * 2 ^ 50) = 2 ^ K := by
    have : 2 ^ K = 2 ^ (K - 52) * 2 ^ 52 := pow_split hK2
    rw [this]
    generalize 2 ^ (K - 52) = x
    omega
  rw [e1, h, Nat.mul_comm 2 t, Nat.mul_assoc, e2]
/-- Half of it. -/
theorem div_two {r s : Nat} (hr : r < inf) (hs : s < inf) (h : V r = 2 * V s) : floatBits .quo .f64 r two = some s := by
  show double.div r two = some s
  unfold Format.div
  rw [read_num (x := r) (by rw [rung_lo hr]; exact hr), read_num (x := two) (by decide), rung_lo hr, sgn_lo hr]
  have e1 : man (rung two) = B := by decide
  have e2 : ex (rung two) = 1023 := by decide
  have e3 : sgn two = false := by decide
  have e4 : double.fractionBits + 2 = 54 := rfl
  have e5 : B.log2 = 52 := by decide +kernel
  rw [e1, e2, e3, e4]
  simp only [Datum.quotient]
  rw [if_neg (by decide), e5]
  have hl := man_log (r := r)
  generalize hK : 54 + 52 - (man r).log2 = K
  have hK2 : 54 ≤ K := by omega
  have hd : man r <<< K = man r * 2 ^ (K - 52) * B := by
    rw [Nat.shiftLeft_eq, Nat.mul_assoc]
    congr 1
    exact pow_split (show 52 ≤ K by omega)
  rw [hd, Nat.mul_div_cancel _ B_pos, Nat.mul_mod_left]
  have e6 : ((0 : Nat) != 0).toNat = 0 := rfl
  rw [e6, Nat.add_zero]
  show some (double.nearest (false ^^ false) (2 * (man r * 2 ^ (K - 52))) _) = _
  have e7 : double.leastPlace + (ex r : Int) - (double.leastPlace + (1023 : Nat)) - (K : Int) - 1 = double.leastPlace - (K : Nat) + (ex r + 50 : Nat) := by rw [least_eq]; omega
  rw [e7, near_all, div_arith (man r) (V s) (ex r) K (by omega) h (by omega), rn_exact (Nat.le_of_lt hs), word_eq]
  simp
end Go.Proofs.Ythgncnpemnlodaa.Fl
