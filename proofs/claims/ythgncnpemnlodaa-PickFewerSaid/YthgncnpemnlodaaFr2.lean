/- The contract of the reference's From: the number of some bits, by its parts. -/
import Derived.Test.YthgncnpemnlodaaFr
import Derived.Test.YthgncnpemnlodaaReB
import Derived.Test.YthgncnpemnlodaaReK
namespace Go.Proofs.Ythgncnpemnlodaa.Fl
open Go.RowKit Ieee
set_option linter.unusedVariables false
set_option linter.unusedSimpArgs false
theorem int_is {m r : Nat} (hr : r < inf) (h : V r = m * 2 ^ 1074) : floatOfInt .f64 (m : Int) = r := by
  rw [int_rn]
  have hd : decide ((m : Int) < 0) = false := decide_eq_false (by omega)
  rw [hd, Int.natAbs_natCast, ← h]
  have := rn_exact (K := 0) (Nat.le_of_lt hr)
  rw [Nat.pow_zero, Nat.mul_one] at this
  rw [this, word_eq]; simp
theorem V_unfold (r : Nat) : man r * 2 ^ ex r = V r := rfl
theorem add_words {r s t : Nat} (hr : r < inf) (hs : s < inf) (ht : t < inf) (h : V t = V r + V s) (ht0 : t ≠ 0) : floatBits .add .f64 r s = some t := by
  show double.add r s = some t
  unfold Format.add
  rw [read_num (x := r) (by rw [rung_lo hr]; exact hr), read_num (x := s) (by rw [rung_lo hs]; exact hs), rung_lo hr, rung_lo hs, sgn_lo hr, sgn_lo hs]
  simp only [Datum.sum, signed_sg]
  have e1 : (double.leastPlace + (ex r : Int) - min (double.leastPlace + (ex r : Int)) (double.leastPlace + (ex s : Int))).toNat = ex r - min (ex r) (ex s) := by omega
  have e2 : (double.leastPlace + (ex s : Int) - min (double.leastPlace + (ex r : Int)) (double.leastPlace + (ex s : Int))).toNat = ex s - min (ex r) (ex s) := by omega
  rw [e1, e2]
  have v1 : man r * 2 ^ (ex r - min (ex r) (ex s)) * 2 ^ min (ex r) (ex s) = V r := by rw [Nat.mul_assoc, ← pow_split (Nat.min_le_left _ _)]; rfl
  have v2 : man s * 2 ^ (ex s - min (ex r) (ex s)) * 2 ^ min (ex r) (ex s) = V s := by rw [Nat.mul_assoc, ← pow_split (Nat.min_le_right _ _)]; rfl
  have hb : min (double.leastPlace + (ex r : Int)) (double.leastPlace + (ex s : Int)) = double.leastPlace - ((0 : Nat) : Int) + (min (ex r) (ex s) : Nat) := by omega
  rw [hb]
  generalize man r * 2 ^ (ex r - min (ex r) (ex s)) = x at *
  generalize man s * 2 ^ (ex s - min (ex r) (ex s)) = y at *
  have hsum : sg false x + sg false y = ((x + y : Nat) : Int) := by unfold sg; simp
  have hxy : (x + y) * 2 ^ min (ex r) (ex s) = V t := by rw [h, ← v1, ← v2, Nat.add_mul]
  rw [hsum, Int.natAbs_natCast]
  have hne : x + y ≠ 0 := by
    intro e
    rw [e, Nat.zero_mul] at hxy
    exact ht0 ((V_zero t).1 hxy.symm)
  have hneg : (if ((x + y : Nat) : Int) = 0 then (false && false) else decide (((x + y : Nat) : Int) < 0)) = false := by
    split
    · rfl
    · exact decide_eq_false (by omega)
  rw [hneg]
  show some (double.nearest false (x + y) _) = _
  rw [near_all, hxy]
  have := rn_exact (K := 0) (Nat.le_of_lt ht)
  rw [Nat.pow_zero, Nat.mul_one] at this
  rw [this, word_eq]; simp
theorem rep_top {m e : Nat} (hm : m < 2 * B) (he : e ≤ 2045 ∨ (m = B ∧ e ≤ 2046)) : ∃ r, r ≤ inf ∧ V r = m * 2 ^ e := by
  rcases Nat.lt_or_ge 2045 e with h | h
  · have h2 : m = B ∧ e = 2046 := by omega
    refine ⟨inf, Nat.le_refl _, ?_⟩
    have := V_mk (M := e) (kept := m) (by omega) hm
    rw [← this]
    congr 1
    rw [h2.1, h2.2]
    decide
  · obtain ⟨r, h1, h2⟩ := rep hm h
    exact ⟨r, Nat.le_of_lt h1, h2⟩
theorem lt_of_V {m e r : Nat} (hm : m < 2 * B) (he : e ≤ 2045) (h : V r = m * 2 ^ e) : r < inf := by
  obtain ⟨s, h1, h2⟩ := rep hm he
  rw [V_inj (h.trans h2.symm)]
  exact h1
/-- The exponent's field, and the fraction's. -/
def upB (b : Nat) : Nat := b / 4503599627370496 % 2048
def ptB (b : Nat) : Nat := b % 4503599627370496
theorem rung_parts (b : Nat) : rung b = upB b * B + ptB b := by unfold rung upB ptB; show _ = _ * 4503599627370496 + _; omega
theorem upB_lt (b : Nat) : upB b < 2048 := Nat.mod_lt _ (by decide)
theorem ptB_lt (b : Nat) : ptB b < B := Nat.mod_lt _ (by decide)
theorem nan_parts (b : Nat) : nan b = (upB b == 2047 && ptB b != 0) := by
  have h1 := upB_lt b
  have h2 : ptB b < 4503599627370496 := ptB_lt b
  have h3 : B = 4503599627370496 := rfl
  have h4 : nan b = decide (inf < rung b) := rfl
  rw [h4, rung_parts, Bool.eq_iff_iff]
  unfold inf
  simp
  rw [h3]
  omega
/-- The number that is made of a text of digits, and how often it is doubled. -/
def mnt (b : Nat) : Nat := if upB b = 0 then ptB b else B + ptB b
def upS (b : Nat) : Nat := if upB b = 0 then 1 else upB b
theorem mnt_lt (b : Nat) : mnt b < 2 * B := by
  have := ptB_lt b
  unfold mnt; split <;> omega
theorem mnt_top {b : Nat} (h : nan b = false) (hu : upS b = 2047) : mnt b = B := by
  rw [nan_parts] at h
  unfold upS at hu
  unfold mnt
  split at hu
  · omega
  · rw [if_neg (by assumption)]
    rw [hu] at h
    simp at h
    omega
theorem V_rung (b : Nat) : V (rung b) = mnt b * 2 ^ (upS b - 1) := by
  have h2 := ptB_lt b
  rw [rung_parts]
  unfold mnt upS
  split
  · rename_i h
    rw [h, Nat.zero_mul, Nat.zero_add, V_lo h2]
    simp
  · rename_i h
    have e : upB b * B + ptB b = (upB b - 1) * B + (B + ptB b) := by
      rw [Nat.sub_mul]
      have : 1 * B ≤ upB b * B := Nat.mul_le_mul_right _ (by omega)
      omega
    rw [e, V_mk (by omega) (by omega)]
def two' : Nat := 4611686018427387904
def big : Nat := 4841369599423283200
theorem V_big : V big = B * 2 ^ 1074 := by decide +kernel
theorem big_lt : big < inf := by decide
theorem up_lt (b : Nat) : upS b ≤ 2047 ∧ 1 ≤ upS b := by
  have := upB_lt b
  unfold upS; split <;> omega
/-- What is made first. -/
theorem first_is (b : Nat) : ∃ r, r < inf ∧ V r = mnt b * 2 ^ 1074 := rep (m := mnt b) (e := 1074) (mnt_lt b) (by decide)
theorem part_is (b : Nat) : ∃ r, r < inf ∧ V r = ptB b * 2 ^ 1074 := rep (m := ptB b) (e := 1074) (by have := ptB_lt b; omega) (by decide)
theorem sum_arith (m K : Nat) : (B + m) * 2 ^ K = m * 2 ^ K + B * 2 ^ K := by rw [Nat.add_mul]; omega
theorem pow_ne (m K : Nat) (hm : m ≠ 0) : m * 2 ^ K ≠ 0 := Nat.mul_ne_zero hm (by have := Nat.two_pow_pos K; omega)
theorem first_add {b r s : Nat} (hu : upB b ≠ 0) (hr : r < inf) (hs : s < inf) (h1 : V r = ptB b * 2 ^ 1074) (h2 : V s = mnt b * 2 ^ 1074) : floatBits .add .f64 r big = some s := by
  have hm : mnt b = B + ptB b := by unfold mnt; rw [if_neg hu]
  refine add_words hr big_lt hs ?_ ?_
  · rw [h2, h1, V_big, hm]; exact sum_arith _ 1074
  · intro e
    rw [e, show V 0 = 0 from V_lo (by decide)] at h2
    exact pow_ne _ 1074 (by rw [hm]; have := B_pos; omega) h2.symm
theorem dbl_arith (m e : Nat) : m * 2 ^ (e + 1) = 2 * (m * 2 ^ e) := by rw [Nat.pow_succ]; ac_rfl
/-- One step up. -/
theorem step_up {b r e : Nat} (hn : nan b = false) (he : e + 1 ≤ upS b - 1) (h : V r = mnt b * 2 ^ e) : ∃ s, floatBits .mul .f64 r two = some s ∧ V s = mnt b * 2 ^ (e + 1) := by
  have hu := up_lt b
  have hr := lt_of_V (mnt_lt b) (by omega) h
  obtain ⟨s, h1, h2⟩ := rep_top (m := mnt b) (e := e + 1) (mnt_lt b) (by
    rcases Nat.lt_or_ge 2045 (e + 1) with h3 | h3
    · exact .inr ⟨mnt_top hn (by omega), by omega⟩
    · exact .inl h3)
  exact ⟨s, mul_two hr h1 (by rw [h2, h, dbl_arith]), h2⟩
/-- One step down. -/
theorem step_down {b r e : Nat} (he : e + 1 ≤ 1074) (h : V r = mnt b * 2 ^ (e + 1)) : ∃ s, floatBits .quo .f64 r two = some s ∧ V s = mnt b * 2 ^ e := by
  have hr := lt_of_V (mnt_lt b) (by omega) h
  obtain ⟨s, h1, h2⟩ := rep (m := mnt b) (e := e) (mnt_lt b) (by omega)
  exact ⟨s, div_two hr h1 (by rw [h2, h, dbl_arith]), h2⟩
theorem from_end {b r : Nat} (hb : b < 18446744073709551616) (h : V r = mnt b * 2 ^ (upS b - 1)) : (if sgn b then ng r else r) = b := by
  have hr : r = rung b := V_inj (h.trans (V_rung b).symm)
  subst hr
  have h1 := rung_lt b
  have h2 := ng_div (rung b)
  have h3 := ng_rung (rung b)
  have h4 : rung (rung b) = rung b := by unfold rung; omega
  rw [h4] at h3
  rw [Nat.div_eq_of_lt h1] at h2
  have h5 : (0 ^^^ 1 : Nat) = 1 := rfl
  rw [h5] at h2
  have h6 : rung b = b % 9223372036854775808 := rfl
  have h7 : sgn b = (b / 9223372036854775808 % 2 == 1) := rfl
  have h8 : rung (ng (rung b)) = ng (rung b) % 9223372036854775808 := rfl
  rw [h8] at h3
  cases hs : sgn b
  · rw [hs] at h7
    have := h7.symm
    simp at this
    simp
    omega
  · rw [hs] at h7
    have := h7.symm
    simp at this
    simp only [if_true]
    omega
end Go.Proofs.Ythgncnpemnlodaa.Fl
