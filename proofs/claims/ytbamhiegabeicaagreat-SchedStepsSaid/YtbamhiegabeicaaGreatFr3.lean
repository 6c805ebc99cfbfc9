/- Laws and contracts of several chapters, laid in one text. No statement is proved here. -/
import Derived.Test.YtbamhiegabeicaaGreatAt2
/- A floating number by its parts: sums, doubles and halves that are exact. Plain laws. No statement is proved here. -/
namespace Go.Proofs.YtbamhiegabeicaaGreat.Fl
open Go.RowKit Ieee
set_option linter.unusedVariables false
theorem B_pos : 0 < B := by decide
theorem V_mk {M kept : Nat} (h1 : B ≤ kept) (h2 : kept < 2 * B) : V (M * B + kept) = kept * 2 ^ M := by
  have h3 : ¬ M * B + kept < B := by omega
  have e : M * B + kept = (kept - B) + (M + 1) * B := by rw [Nat.add_mul]; omega
  have h4 : (M * B + kept) / B = M + 1 := by rw [e, Nat.add_mul_div_right _ _ B_pos, Nat.div_eq_of_lt (by omega), Nat.zero_add]
  have h5 : (M * B + kept) % B = kept - B := by rw [e, Nat.add_mul_mod_self_right, Nat.mod_eq_of_lt (by omega)]
  rw [V_hi h3, h4, h5, show B + (kept - B) = kept from by omega, show M + 1 - 1 = M from rfl]
theorem V_inj {a b : Nat} (h : V a = V b) : a = b := by
  rcases Nat.lt_trichotomy a b with h1 | h1 | h1
  · have := V_mono h1; omega
  · exact h1
  · have := V_mono h1; omega
/-- What has at most 53 digits is a number. -/
theorem rep {m e : Nat} (hm : m < 2 * B) (he : e ≤ 2045) : ∃ r, r < inf ∧ V r = m * 2 ^ e := by
  induction e generalizing m with
  | zero => 
    refine ⟨m, Nat.lt_trans hm (by decide), ?_⟩
    rw [Nat.pow_zero, Nat.mul_one]
    by_cases h : m < B
    · exact V_lo h
    · have := V_mk (M := 0) (by omega : B ≤ m) hm
      rwa [Nat.zero_mul, Nat.zero_add, Nat.pow_zero, Nat.mul_one] at this
  | succ e ih =>
    by_cases h : m < B
    · obtain ⟨r, h1, h2⟩ := ih (m := m * 2) (by omega) (by omega)
      exact ⟨r, h1, by rw [h2, Nat.pow_succ, Nat.mul_assoc, Nat.mul_comm 2]⟩
    · refine ⟨(e + 1) * B + m, ?_, V_mk (by omega) hm⟩
      have h3 : (e + 1) * B ≤ 2045 * B := Nat.mul_le_mul_right _ he
      have h4 : inf = 2045 * B + 2 * B := by decide
      omega
def two : Nat := 4611686018427387904
theorem rung_lo {r : Nat} (h : r < inf) : rung r = r := by unfold rung; unfold inf at h; omega
theorem sgn_lo {r : Nat} (h : r < inf) : sgn r = false := by unfold sgn; unfold inf at h; simp; omega
theorem V_two : V two = 2 * 2 ^ 1074 := by decide +kernel
theorem half_arith (a b K : Nat) (h : a = 2 * b) : b * (2 * 2 ^ K) = a * 2 ^ K := by rw [h]; ac_rfl
/-- Twice it. -/
theorem mul_two {r s : Nat} (hr : r < inf) (hs : s ≤ inf) (h : V s = 2 * V r) : floatBits .mul .f64 r two = some s := by
  refine mul_words (sgn_lo hr) (by rw [rung_lo hr]; exact hr) (by decide) ?_
  rw [rung_lo hr, V_two, half_arith (V s) (V r) 1074 h]
  exact rn_exact hs
theorem man_log {r : Nat} : (man r).log2 ≤ 52 := by
  have h : man r < 2 ^ 53 := by
    unfold man
    have : r % B < B := Nat.mod_lt _ B_pos
    show _ < 2 * B
    split <;> omega
  by_cases h0 : man r = 0
  · rw [h0]; simp
  · have h1 := Nat.log2_self_le h0
    have := (Nat.pow_lt_pow_iff_right (by decide : 1 < 2)).1 (Nat.lt_of_le_of_lt h1 h)
    omega
theorem div_arith (u t E K : Nat) (hK : 1 ≤ K) (h : u * 2 ^ E = 2 * t) (hK2 : 52 ≤ K) : 2 * (u * 2 ^ (K - 52)) * 2 ^ (E + 50) = t * 2 ^ K := by
  have e1 : 2 * (u * 2 ^ (K - 52)) * 2 ^ (E + 50) = u * 2 ^ E * (2 * 2 ^ (K - 52) * 2 ^ 50) := by rw [Nat.pow_add]; ac_rfl
  have e2 : 2 * (2 * 2 ^ (K - 52) * 2 ^ 50) = 2 ^ K := by
    have : 2 ^ K = 2 ^ (K - 52) * 2 ^ 52 := pow_split hK2
    rw [this]
    generalize 2 ^ (K - 52) = x
    omega
  rw [e1, h, Nat.mul_comm 2 t, Nat.mul_assoc, e2]
/-- Half of it. -/
theorem div_two {r s : Nat} (hr : r < inf) (hs : s < inf) (h : V r = 2 * V s) : floatBits .quo .f64 r two = some s := by
  show double.div r two = some s
  unfold Format.div
  rw [read_num (x := r) (by rw [rung_lo hr]; exact hr), read_num (x := two) (by decide), rung_lo hr, sgn_lo hr]
  have e1 : man (rung two) = B := by decide
  have e2 : ex (rung two) = 1023 := by decide
  have e3 : sgn two = false := by decide
  have e4 : double.fractionBits + 2 = 54 := rfl
  have e5 : B.log2 = 52 := by decide +kernel
  rw [e1, e2, e3, e4]
  simp only [Datum.quotient]
  rw [if_neg (by decide), e5]
  have hl := man_log (r := r)
  generalize hK : 54 + 52 - (man r).log2 = K
  have hK2 : 54 ≤ K := by omega
  have hd : man r <<< K = man r * 2 ^ (K - 52) * B := by
    rw [Nat.shiftLeft_eq, Nat.mul_assoc]
    congr 1
    exact pow_split (show 52 ≤ K by omega)
  rw [hd, Nat.mul_div_cancel _ B_pos, Nat.mul_mod_left]
  have e6 : ((0 : Nat) != 0).toNat = 0 := rfl
  rw [e6, Nat.add_zero]
  show some (double.nearest (false ^^ false) (2 * (man r * 2 ^ (K - 52))) _) = _
  have e7 : double.leastPlace + (ex r : Int) - (double.leastPlace + (1023 : Nat)) - (K : Int) - 1 = double.leastPlace - (K : Nat) + (ex r + 50 : Nat) := by rw [least_eq]; omega
  rw [e7, near_all, div_arith (man r) (V s) (ex r) K (by omega) h (by omega), rn_exact (Nat.le_of_lt hs), word_eq]
  simp
end Go.Proofs.YtbamhiegabeicaaGreat.Fl

/- The statement RealBack: the walk. -/
namespace Go.Proofs.YtbamhiegabeicaaGreat.Fl
open Go.RowKit
set_option linter.unusedVariables false
set_option linter.unusedSimpArgs false
abbrev ng (x : Nat) : Nat := Op.negFloat .f64 x
@[go_sem] theorem run_neg {P : Program} (x : Nat) (w : World) : (Op.unary .neg (.float .f64 x)).run P w = .ok (.float .f64 (Op.negFloat .f64 x)) w := rfl
theorem ng_rung (x : Nat) : rung (ng x) = rung x := by
  show (x ^^^ 2 ^ 63) % 2 ^ 63 = x % 2 ^ 63
  rw [Nat.xor_mod_two_pow]
  simp
theorem ng_div (x : Nat) : ng x / 9223372036854775808 = x / 9223372036854775808 ^^^ 1 := by
  show (x ^^^ 2 ^ 63) / 2 ^ 63 = x / 2 ^ 63 ^^^ 1
  rw [Nat.xor_div_two_pow]
end Go.Proofs.YtbamhiegabeicaaGreat.Fl

/- The contract of the reference's From: the number of some bits, by its parts. -/
namespace Go.Proofs.YtbamhiegabeicaaGreat.Fl
open Go.RowKit Ieee
set_option linter.unusedVariables false
set_option linter.unusedSimpArgs false
theorem int_is {m r : Nat} (hr : r < inf) (h : V r = m * 2 ^ 1074) : floatOfInt .f64 (m : Int) = r := by
  rw [int_rn]
  have hd : decide ((m : Int) < 0) = false := decide_eq_false (by omega)
  rw [hd, Int.natAbs_natCast, ← h]
  have := rn_exact (K := 0) (Nat.le_of_lt hr)
  rw [Nat.pow_zero, Nat.mul_one] at this
  rw [this, word_eq]; simp
theorem add_words {r s t : Nat} (hr : r < inf) (hs : s < inf) (ht : t < inf) (h : V t = V r + V s) (ht0 : t ≠ 0) : floatBits .add .f64 r s = some t := by
  show double.add r s = some t
  unfold Format.add
  rw [read_num (x := r) (by rw [rung_lo hr]; exact hr), read_num (x := s) (by rw [rung_lo hs]; exact hs), rung_lo hr, rung_lo hs, sgn_lo hr, sgn_lo hs]
  simp only [Datum.sum, signed_sg]
  have e1 : (double.leastPlace + (ex r : Int) - min (double.leastPlace + (ex r : Int)) (double.leastPlace + (ex s : Int))).toNat = ex r - min (ex r) (ex s) := by omega
  have e2 : (double.leastPlace + (ex s : Int) - min (double.leastPlace + (ex r : Int)) (double.leastPlace + (ex s : Int))).toNat = ex s - min (ex r) (ex s) := by omega
  rw [e1, e2]
  have v1 : man r * 2 ^ (ex r - min (ex r) (ex s)) * 2 ^ min (ex r) (ex s) = V r := by rw [Nat.mul_assoc, ← pow_split (Nat.min_le_left _ _)]; rfl
  have v2 : man s * 2 ^ (ex s - min (ex r) (ex s)) * 2 ^ min (ex r) (ex s) = V s := by rw [Nat.mul_assoc, ← pow_split (Nat.min_le_right _ _)]; rfl
  have hb : min (double.leastPlace + (ex r : Int)) (double.leastPlace + (ex s : Int)) = double.leastPlace - ((0 : Nat) : Int) + (min (ex r) (ex s) : Nat) := by omega
  rw [hb]
  generalize man r * 2 ^ (ex r - min (ex r) (ex s)) = x at *
  generalize man s * 2 ^ (ex s - min (ex r) (ex s)) = y at *
  have hsum : sg false x + sg false y = ((x + y : Nat) : Int) := by unfold sg; simp
  have hxy : (x + y) * 2 ^ min (ex r) (ex s) = V t := by rw [h, ← v1, ← v2, Nat.add_mul]
  rw [hsum, Int.natAbs_natCast]
  have hne : x + y ≠ 0 := by
    intro e
    rw [e, Nat.zero_mul] at hxy
    exact ht0 ((V_zero t).1 hxy.symm)
  have hneg : (if ((x + y : Nat) : Int) = 0 then (false && false) else decide (((x + y : Nat) : Int) < 0)) = false := by
    split
    · rfl
    · exact decide_eq_false (by omega)
  rw [hneg]
  show some (double.nearest false (x + y) _) = _
  rw [near_all, hxy]
  have := rn_exact (K := 0) (Nat.le_of_lt ht)
  rw [Nat.pow_zero, Nat.mul_one] at this
  rw [this, word_eq]; simp
theorem rep_top {m e : Nat} (hm : m < 2 * B) (he : e ≤ 2045 ∨ (m = B ∧ e ≤ 2046)) : ∃ r, r ≤ inf ∧ V r = m * 2 ^ e := by
  rcases Nat.lt_or_ge 2045 e with h | h
  · have h2 : m = B ∧ e = 2046 := by omega
    refine ⟨inf, Nat.le_refl _, ?_⟩
    have := V_mk (M := e) (kept := m) (by omega) hm
    rw [← this]
    congr 1
    rw [h2.1, h2.2]
    decide
  · obtain ⟨r, h1, h2⟩ := rep hm h
    exact ⟨r, Nat.le_of_lt h1, h2⟩
theorem lt_of_V {m e r : Nat} (hm : m < 2 * B) (he : e ≤ 2045) (h : V r = m * 2 ^ e) : r < inf := by
  obtain ⟨s, h1, h2⟩ := rep hm he
  rw [V_inj (h.trans h2.symm)]
  exact h1
/-- The exponent's field, and the fraction's. -/
def upB (b : Nat) : Nat := b / 4503599627370496 % 2048
def ptB (b : Nat) : Nat := b % 4503599627370496
theorem rung_parts (b : Nat) : rung b = upB b * B + ptB b := by unfold rung upB ptB; show _ = _ * 4503599627370496 + _; omega
theorem upB_lt (b : Nat) : upB b < 2048 := Nat.mod_lt _ (by decide)
theorem ptB_lt (b : Nat) : ptB b < B := Nat.mod_lt _ (by decide)
theorem nan_parts (b : Nat) : nan b = (upB b == 2047 && ptB b != 0) := by
  have h1 := upB_lt b
  have h2 : ptB b < 4503599627370496 := ptB_lt b
  have h3 : B = 4503599627370496 := rfl
  have h4 : nan b = decide (inf < rung b) := rfl
  rw [h4, rung_parts, Bool.eq_iff_iff]
  unfold inf
  simp
  rw [h3]
  omega
/-- The number that is made of a text of digits, and how often it is doubled. -/
def mnt (b : Nat) : Nat := if upB b = 0 then ptB b else B + ptB b
def upS (b : Nat) : Nat := if upB b = 0 then 1 else upB b
theorem mnt_lt (b : Nat) : mnt b < 2 * B := by
  have := ptB_lt b
  unfold mnt; split <;> omega
theorem mnt_top {b : Nat} (h : nan b = false) (hu : upS b = 2047) : mnt b = B := by
  rw [nan_parts] at h
  unfold upS at hu
  unfold mnt
  split at hu
  · omega
  · rw [if_neg (by assumption)]
    rw [hu] at h
    simp at h
    omega
theorem V_rung (b : Nat) : V (rung b) = mnt b * 2 ^ (upS b - 1) := by
  have h2 := ptB_lt b
  rw [rung_parts]
  unfold mnt upS
  split
  · rename_i h
    rw [h, Nat.zero_mul, Nat.zero_add, V_lo h2]
    simp
  · rename_i h
    have e : upB b * B + ptB b = (upB b - 1) * B + (B + ptB b) := by
      rw [Nat.sub_mul]
      have : 1 * B ≤ upB b * B := Nat.mul_le_mul_right _ (by omega)
      omega
    rw [e, V_mk (by omega) (by omega)]
def two' : Nat := 4611686018427387904
def big : Nat := 4841369599423283200
theorem V_big : V big = B * 2 ^ 1074 := by decide +kernel
theorem big_lt : big < inf := by decide
theorem up_lt (b : Nat) : upS b ≤ 2047 ∧ 1 ≤ upS b := by
  have := upB_lt b
  unfold upS; split <;> omega
/-- What is made first. -/
theorem first_is (b : Nat) : ∃ r, r < inf ∧ V r = mnt b * 2 ^ 1074 := rep (m := mnt b) (e := 1074) (mnt_lt b) (by decide)
theorem part_is (b : Nat) : ∃ r, r < inf ∧ V r = ptB b * 2 ^ 1074 := rep (m := ptB b) (e := 1074) (by have := ptB_lt b; omega) (by decide)
theorem sum_arith (m K : Nat) : (B + m) * 2 ^ K = m * 2 ^ K + B * 2 ^ K := by rw [Nat.add_mul]; omega
theorem pow_ne (m K : Nat) (hm : m ≠ 0) : m * 2 ^ K ≠ 0 := Nat.mul_ne_zero hm (by have := Nat.two_pow_pos K; omega)
theorem first_add {b r s : Nat} (hu : upB b ≠ 0) (hr : r < inf) (hs : s < inf) (h1 : V r = ptB b * 2 ^ 1074) (h2 : V s = mnt b * 2 ^ 1074) : floatBits .add .f64 r big = some s := by
  have hm : mnt b = B + ptB b := by unfold mnt; rw [if_neg hu]
  refine add_words hr big_lt hs ?_ ?_
  · rw [h2, h1, V_big, hm]; exact sum_arith _ 1074
  · intro e
    rw [e, show V 0 = 0 from V_lo (by decide)] at h2
    exact pow_ne _ 1074 (by rw [hm]; have := B_pos; omega) h2.symm
theorem dbl_arith (m e : Nat) : m * 2 ^ (e + 1) = 2 * (m * 2 ^ e) := by rw [Nat.pow_succ]; ac_rfl
/-- One step up. -/
theorem step_up {b r e : Nat} (hn : nan b = false) (he : e + 1 ≤ upS b - 1) (h : V r = mnt b * 2 ^ e) : ∃ s, floatBits .mul .f64 r two = some s ∧ V s = mnt b * 2 ^ (e + 1) := by
  have hu := up_lt b
  have hr := lt_of_V (mnt_lt b) (by omega) h
  obtain ⟨s, h1, h2⟩ := rep_top (m := mnt b) (e := e + 1) (mnt_lt b) (by
    rcases Nat.lt_or_ge 2045 (e + 1) with h3 | h3
    · exact .inr ⟨mnt_top hn (by omega), by omega⟩
    · exact .inl h3)
  exact ⟨s, mul_two hr h1 (by rw [h2, h, dbl_arith]), h2⟩
/-- One step down. -/
theorem step_down {b r e : Nat} (he : e + 1 ≤ 1074) (h : V r = mnt b * 2 ^ (e + 1)) : ∃ s, floatBits .quo .f64 r two = some s ∧ V s = mnt b * 2 ^ e := by
  have hr := lt_of_V (mnt_lt b) (by omega) h
  obtain ⟨s, h1, h2⟩ := rep (m := mnt b) (e := e) (mnt_lt b) (by omega)
  exact ⟨s, div_two hr h1 (by rw [h2, h, dbl_arith]), h2⟩
theorem from_end {b r : Nat} (hb : b < 18446744073709551616) (h : V r = mnt b * 2 ^ (upS b - 1)) : (if sgn b then ng r else r) = b := by
  have hr : r = rung b := V_inj (h.trans (V_rung b).symm)
  subst hr
  have h1 := rung_lt b
  have h2 := ng_div (rung b)
  have h3 := ng_rung (rung b)
  have h4 : rung (rung b) = rung b := by unfold rung; omega
  rw [h4] at h3
  rw [Nat.div_eq_of_lt h1] at h2
  have h5 : (0 ^^^ 1 : Nat) = 1 := rfl
  rw [h5] at h2
  have h6 : rung b = b % 9223372036854775808 := rfl
  have h7 : sgn b = (b / 9223372036854775808 % 2 == 1) := rfl
  have h8 : rung (ng (rung b)) = ng (rung b) % 9223372036854775808 := rfl
  rw [h8] at h3
  cases hs : sgn b
  · rw [hs] at h7
    have := h7.symm
    simp at this
    simp
    omega
  · rw [hs] at h7
    have := h7.symm
    simp at this
    simp only [if_true]
    omega
end Go.Proofs.YtbamhiegabeicaaGreat.Fl

/- The contract of the reference's From, on: the walk. -/
namespace Go.Proofs.YtbamhiegabeicaaGreat.Fl
open Go.RowKit
set_option linter.unusedVariables false
set_option linter.unusedSimpArgs false
/-- The number of some bits, or nought. -/
def frV (b : Nat) : Nat := if nan b then 0 else b
theorem sgn_one {b : Nat} (hb : b < 18446744073709551616) (h : sgn b = true) : ((b : Int) / 9223372036854775808 == 1) = true := by
  have h7 : sgn b = (b / 9223372036854775808 % 2 == 1) := rfl
  rw [h] at h7
  have := h7.symm
  simp at this
  rw [beq_iff_eq]
  omega
theorem sgn_two {b : Nat} (hb : b < 18446744073709551616) (h : sgn b = false) : ((b : Int) / 9223372036854775808 == 1) = false := by
  have h7 : sgn b = (b / 9223372036854775808 % 2 == 1) := rfl
  rw [h] at h7
  have := h7.symm
  simp at this
  rw [beq_eq_false_iff_ne]
  omega
theorem ret_two {a b : Nat} (h : frV b = b) (h2 : a = b) : Ending.returned (.tuple #[F a, .bool true]) = .returned (.tuple #[F (frV b), .bool true]) := by rw [h, h2]
set_option maxHeartbeats 1000000 in
set_option maxRecDepth 100000 in
theorem from5_any (b : Nat) (hb : b < 18446744073709551616) (w : World) :
    Calls Tryz.prog 49 #[.int .u64 b] w fun e w' => e = .returned (.tuple #[F (frV b), .bool (!nan b)]) ∧ w' = w := by
  have hu : (b : Int) / 4503599627370496 % 2048 = (upB b : Int) := by unfold upB; omega
  have hp : (b : Int) % 4503599627370496 = (ptB b : Int) := by unfold ptB; omega
  have hn := nan_parts b
  have hlu := upB_lt b
  cases hnb : nan b with
  | true =>
    rw [hnb] at hn
    have HF : Hid (frV b = 0) := Lib.hid (by unfold frV; rw [hnb]; rfl)
    replace hn := hn.symm
    simp at hn
    have hp0 : ((ptB b : Int) != 0) = true := by rw [bne_iff_ne]; omega
    have hu2 : (b : Int) / 4503599627370496 % 2048 = 2047 := by omega
    clear hnb hlu hn hu
    go_enter Tryz.func49, Tryz.ntmps49
    go_wp2
    go_ret2
    exact ⟨by rw [HF.out]; rfl, rfl⟩
  | false =>
    have HF : Hid (frV b = b) := Lib.hid (by unfold frV; rw [hnb]; rfl)
    have SU := Lib.hid (fun r e he h => step_up (b := b) (r := r) (e := e) hnb he h)
    have SD := Lib.hid (fun r e he h => step_down (b := b) (r := r) (e := e) he h)
    have FE := Lib.hid (fun r h => from_end (b := b) (r := r) hb h)
    obtain ⟨rp, hrp, hvp⟩ := part_is b
    have hci := int_is hrp hvp
    obtain ⟨rs, hrs, hvs⟩ := first_is b
    have hul := up_lt b
    have hst : Hid (upB b = 0 ∧ upS b = 1 ∧ mnt b = ptB b ∨ 1 ≤ upB b ∧ upS b = upB b) := Lib.hid (by
      unfold upS mnt
      by_cases h0 : upB b = 0
      · rw [if_pos h0, if_pos h0]; exact .inl ⟨h0, rfl, rfl⟩
      · rw [if_neg h0]; exact .inr ⟨by omega, rfl⟩)
    have hadd : 1 ≤ upB b → floatBits .add .f64 rp big = some rs := fun h => first_add (by omega) hrp hrs hvp hvs
    have hcond : upB b = 2047 → ((ptB b : Int) != 0) = false := by
      intro h
      rw [h, hnb] at hn
      have hn := hn.symm
      simp at hn
      rw [hn]; rfl
    clear hn hnb hrp hrs
    have hciI : floatOfInt .f64 ((ptB b : Nat) : Int) = rp := hci
    clear hci
    generalize upS b = U at *
    generalize mnt b = M at *
    generalize upB b = u0 at *
    rcases hst.out with ⟨g1, g2, g3⟩ | ⟨g1, g2⟩
    · have H0 : Hid (V rp = M * 2 ^ 1074) := Lib.hid (by rw [g3]; exact hvp)
      rw [g1] at hu
      replace hu : (b : Int) / 4503599627370496 % 2048 = 0 := hu
      obtain ⟨r0, hr0⟩ : ∃ r0, r0 = rp := ⟨_, rfl⟩
      rw [← hr0] at H0 hciI
      have HG := Lib.hid g2
      clear g1 g2 g3 hvp hvs hadd hcond hst hlu hr0
      go_enter Tryz.func49, Tryz.ntmps49
      go_wp2
      clear hu hp
      go_loopw [5, 7] (fun uv xv wr => ∃ u r : Nat, uv = .int .i64 u ∧ xv = F r ∧ 1 ≤ u ∧ u ≤ U ∧ (u = U ∨ 1075 ≤ u) ∧ V r = M * 2 ^ (1074 + U - u) ∧ w = wr) (fun uv _ _ => (intOf uv).toNat)
      case atStart => exact ⟨U, r0, by first | rfl | (rw [HG.out]; done) | (rw [HG.out]; rfl), rfl, by omega, by omega, .inl rfl, by rw [H0.out, show 1074 + U - U = 1074 from by omega], rfl⟩
      case round =>
        obtain ⟨u, r, rfl, rfl, h1, h2, h3, hv, rfl⟩ := hrel
        have HV := Lib.hid hv
        clear hv
        by_cases hlt : 1075 < u
        · obtain ⟨s, hs1, hs2⟩ := SU.out r (1074 + U - u) (by omega) HV.out
          have hm : ∀ t w, (binOp .mul t (F r) (.float .f64 4611686018427387904)).run Tryz.prog w = .ok (F s) w := fun t w => run_float_arith w .mul t .f64 _ _ _ hs1
          have HS2 := Lib.hid hs2
          clear hs1 hs2
          go_wp2
          go_roundw
          case rel => exact ⟨u - 1, s, by go_num, rfl, by omega, by omega, by omega, by rw [HS2.out, show 1074 + U - u + 1 = 1074 + U - (u - 1) from by omega], trivial⟩
          case measure => simp [intOf]; omega
        · go_wp2
          go_loopw [5, 7] (fun uv xv wr => ∃ u r : Nat, uv = .int .i64 u ∧ xv = F r ∧ u ≤ 1075 ∧ (u = 1075 ∨ U ≤ u) ∧ V r = M * 2 ^ (1074 + U - u) ∧ w = wr) (fun uv _ _ => 1075 - (intOf uv).toNat)
          case atStart => exact ⟨u, r, rfl, rfl, by omega, by omega, HV.out, rfl⟩
          case round =>
            clear HV h1 h2 h3 hlt
            obtain ⟨u, r, rfl, rfl, h1, h3, hv, rfl⟩ := hrel
            have HV := Lib.hid hv
            clear hv
            by_cases hlt : u < 1075
            · obtain ⟨s, hs1, hs2⟩ := SD.out r (1073 + U - u) (by omega) (by rw [HV.out, show 1074 + U - u = 1073 + U - u + 1 from by omega])
              have hm : ∀ t w, (binOp .quo t (F r) (.float .f64 4611686018427387904)).run Tryz.prog w = .ok (F s) w := fun t w => run_float_arith w .quo t .f64 _ _ _ hs1
              have HS2 := Lib.hid hs2
              clear hs1 hs2
              go_wp2
              go_roundw
              case rel => exact ⟨u + 1, s, by go_num, rfl, by omega, by omega, by rw [HS2.out, show 1073 + U - u = 1074 + U - (u + 1) from by omega], trivial⟩
              case measure => simp [intOf]; omega
            · have HE := Lib.hid (FE.out r (by rw [HV.out, show 1074 + U - u = U - 1 from by omega]))
              cases hsg : sgn b with
              | true =>
                have hs1 := sgn_one hb hsg
                have HE2 : Hid (ng r = b) := Lib.hid (by have := HE.out; rw [hsg] at this; simpa using this)
                clear HE hsg
                go_wp2
                go_ret2
                exact ⟨ret_two HF.out HE2.out, rfl⟩
              | false =>
                have hs1 := sgn_two hb hsg
                have HE2 : Hid (r = b) := Lib.hid (by have := HE.out; rw [hsg] at this; simpa using this)
                clear HE hsg
                go_wp2
                go_ret2
                exact ⟨ret_two HF.out HE2.out, rfl⟩
    · have H0 : Hid (V rs = M * 2 ^ 1074) := Lib.hid hvs
      have hadd2 := hadd g1
      have hm : ∀ t w, (binOp .add t (F rp) (.float .f64 4841369599423283200)).run Tryz.prog w = .ok (F rs) w := fun t w => run_float_arith w .add t .f64 _ _ _ hadd2
      obtain ⟨r0, hr0⟩ : ∃ r0, r0 = rs := ⟨_, rfl⟩
      rw [← hr0] at H0 hm
      clear hvp hvs hadd hadd2 hst hr0
      by_cases h7 : u0 = 2047
      · have hp0 := hcond h7
        rw [h7] at hu
        replace hu : (b : Int) / 4503599627370496 % 2048 = 2047 := hu
        have HG : Hid (U = 2047) := Lib.hid (g2.trans h7)
        clear hcond hlu g2 h7 g1
        go_enter Tryz.func49, Tryz.ntmps49
        go_wp2
        clear hu hp
        go_loopw [5, 7] (fun uv xv wr => ∃ u r : Nat, uv = .int .i64 u ∧ xv = F r ∧ 1 ≤ u ∧ u ≤ U ∧ (u = U ∨ 1075 ≤ u) ∧ V r = M * 2 ^ (1074 + U - u) ∧ w = wr) (fun uv _ _ => (intOf uv).toNat)
        case atStart => exact ⟨U, r0, by first | rfl | (rw [HG.out]; done) | (rw [HG.out]; rfl), rfl, by omega, by omega, .inl rfl, by rw [H0.out, show 1074 + U - U = 1074 from by omega], rfl⟩
        case round =>
          obtain ⟨u, r, rfl, rfl, h1, h2, h3, hv, rfl⟩ := hrel
          have HV := Lib.hid hv
          clear hv
          by_cases hlt : 1075 < u
          · obtain ⟨s, hs1, hs2⟩ := SU.out r (1074 + U - u) (by omega) HV.out
            have hm : ∀ t w, (binOp .mul t (F r) (.float .f64 4611686018427387904)).run Tryz.prog w = .ok (F s) w := fun t w => run_float_arith w .mul t .f64 _ _ _ hs1
            have HS2 := Lib.hid hs2
            clear hs1 hs2
            go_wp2
            go_roundw
            case rel => exact ⟨u - 1, s, by go_num, rfl, by omega, by omega, by omega, by rw [HS2.out, show 1074 + U - u + 1 = 1074 + U - (u - 1) from by omega], trivial⟩
            case measure => simp [intOf]; omega
          · go_wp2
            go_loopw [5, 7] (fun uv xv wr => ∃ u r : Nat, uv = .int .i64 u ∧ xv = F r ∧ u ≤ 1075 ∧ (u = 1075 ∨ U ≤ u) ∧ V r = M * 2 ^ (1074 + U - u) ∧ w = wr) (fun uv _ _ => 1075 - (intOf uv).toNat)
            case atStart => exact ⟨u, r, rfl, rfl, by omega, by omega, HV.out, rfl⟩
            case round =>
              clear HV h1 h2 h3 hlt
              obtain ⟨u, r, rfl, rfl, h1, h3, hv, rfl⟩ := hrel
              have HV := Lib.hid hv
              clear hv
              by_cases hlt : u < 1075
              · obtain ⟨s, hs1, hs2⟩ := SD.out r (1073 + U - u) (by omega) (by rw [HV.out, show 1074 + U - u = 1073 + U - u + 1 from by omega])
                have hm : ∀ t w, (binOp .quo t (F r) (.float .f64 4611686018427387904)).run Tryz.prog w = .ok (F s) w := fun t w => run_float_arith w .quo t .f64 _ _ _ hs1
                have HS2 := Lib.hid hs2
                clear hs1 hs2
                go_wp2
                go_roundw
                case rel => exact ⟨u + 1, s, by go_num, rfl, by omega, by omega, by rw [HS2.out, show 1073 + U - u = 1074 + U - (u + 1) from by omega], trivial⟩
                case measure => simp [intOf]; omega
              · have HE := Lib.hid (FE.out r (by rw [HV.out, show 1074 + U - u = U - 1 from by omega]))
                cases hsg : sgn b with
                | true =>
                  have hs1 := sgn_one hb hsg
                  have HE2 : Hid (ng r = b) := Lib.hid (by have := HE.out; rw [hsg] at this; simpa using this)
                  clear HE hsg
                  go_wp2
                  go_ret2
                  exact ⟨ret_two HF.out HE2.out, rfl⟩
                | false =>
                  have hs1 := sgn_two hb hsg
                  have HE2 : Hid (r = b) := Lib.hid (by have := HE.out; rw [hsg] at this; simpa using this)
                  clear HE hsg
                  go_wp2
                  go_ret2
                  exact ⟨ret_two HF.out HE2.out, rfl⟩
      · clear hcond hlu
        have HG := Lib.hid g2
        clear g2
        have hu7 : ((u0 : Int) == 2047) = false := by rw [beq_eq_false_iff_ne]; omega
        go_enter Tryz.func49, Tryz.ntmps49
        go_wp2
        clear hu hp
        go_loopw [5, 7] (fun uv xv wr => ∃ u r : Nat, uv = .int .i64 u ∧ xv = F r ∧ 1 ≤ u ∧ u ≤ U ∧ (u = U ∨ 1075 ≤ u) ∧ V r = M * 2 ^ (1074 + U - u) ∧ w = wr) (fun uv _ _ => (intOf uv).toNat)
        case atStart => exact ⟨U, r0, by first | rfl | (rw [HG.out]; done) | (rw [HG.out]; rfl), rfl, by omega, by omega, .inl rfl, by rw [H0.out, show 1074 + U - U = 1074 from by omega], rfl⟩
        case round =>
          obtain ⟨u, r, rfl, rfl, h1, h2, h3, hv, rfl⟩ := hrel
          have HV := Lib.hid hv
          clear hv
          by_cases hlt : 1075 < u
          · obtain ⟨s, hs1, hs2⟩ := SU.out r (1074 + U - u) (by omega) HV.out
            have hm : ∀ t w, (binOp .mul t (F r) (.float .f64 4611686018427387904)).run Tryz.prog w = .ok (F s) w := fun t w => run_float_arith w .mul t .f64 _ _ _ hs1
            have HS2 := Lib.hid hs2
            clear hs1 hs2
            go_wp2
            go_roundw
            case rel => exact ⟨u - 1, s, by go_num, rfl, by omega, by omega, by omega, by rw [HS2.out, show 1074 + U - u + 1 = 1074 + U - (u - 1) from by omega], trivial⟩
            case measure => simp [intOf]; omega
          · go_wp2
            go_loopw [5, 7] (fun uv xv wr => ∃ u r : Nat, uv = .int .i64 u ∧ xv = F r ∧ u ≤ 1075 ∧ (u = 1075 ∨ U ≤ u) ∧ V r = M * 2 ^ (1074 + U - u) ∧ w = wr) (fun uv _ _ => 1075 - (intOf uv).toNat)
            case atStart => exact ⟨u, r, rfl, rfl, by omega, by omega, HV.out, rfl⟩
            case round =>
              clear HV h1 h2 h3 hlt
              obtain ⟨u, r, rfl, rfl, h1, h3, hv, rfl⟩ := hrel
              have HV := Lib.hid hv
              clear hv
              by_cases hlt : u < 1075
              · obtain ⟨s, hs1, hs2⟩ := SD.out r (1073 + U - u) (by omega) (by rw [HV.out, show 1074 + U - u = 1073 + U - u + 1 from by omega])
                have hm : ∀ t w, (binOp .quo t (F r) (.float .f64 4611686018427387904)).run Tryz.prog w = .ok (F s) w := fun t w => run_float_arith w .quo t .f64 _ _ _ hs1
                have HS2 := Lib.hid hs2
                clear hs1 hs2
                go_wp2
                go_roundw
                case rel => exact ⟨u + 1, s, by go_num, rfl, by omega, by omega, by rw [HS2.out, show 1073 + U - u = 1074 + U - (u + 1) from by omega], trivial⟩
                case measure => simp [intOf]; omega
              · have HE := Lib.hid (FE.out r (by rw [HV.out, show 1074 + U - u = U - 1 from by omega]))
                cases hsg : sgn b with
                | true =>
                  have hs1 := sgn_one hb hsg
                  have HE2 : Hid (ng r = b) := Lib.hid (by have := HE.out; rw [hsg] at this; simpa using this)
                  clear HE hsg
                  go_wp2
                  go_ret2
                  exact ⟨ret_two HF.out HE2.out, rfl⟩
                | false =>
                  have hs1 := sgn_two hb hsg
                  have HE2 : Hid (r = b) := Lib.hid (by have := HE.out; rw [hsg] at this; simpa using this)
                  clear HE hsg
                  go_wp2
                  go_ret2
                  exact ⟨ret_two HF.out HE2.out, rfl⟩
end Go.Proofs.YtbamhiegabeicaaGreat.Fl


