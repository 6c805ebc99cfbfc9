/- Laws and contracts of several chapters, laid in one text. No statement is proved here. -/
import Ieee.Arith
import Derived.Test.YtbamhiegabeicaaGreatProg
import Derived.WalkKit
import Derived.WalkLawsBesides
import Derived.Laws.FloatArith
import Derived.Laws.Externs
import Derived.Lib.Hide
import Derived.Test.YtbamhiegabeicaaGreatMem
import Derived.Test.YtbamhiegabeicaaGreatOpenF
/- Floating numbers of 64 bits: their order is that of a whole number of each. Plain laws. No statement is proved here. -/
namespace Go.Proofs.YtbamhiegabeicaaGreat.Fl
open Ieee
def inf : Nat := 9218868437227405312
def rung (x : Nat) : Nat := x % 9223372036854775808
def sgn (x : Nat) : Bool := x / 9223372036854775808 % 2 == 1
def nan (x : Nat) : Bool := decide (inf < rung x)
def sg (s : Bool) (n : Nat) : Int := if s then -(n : Int) else n
def key (x : Nat) : Int := sg (sgn x) (rung x)
def B : Nat := 4503599627370496
def man (r : Nat) : Nat := if r < B then r else B + r % B
def ex (r : Nat) : Nat := if r < B then 0 else r / B - 1
def V (r : Nat) : Nat := man r * 2 ^ ex r
theorem V_lo {r : Nat} (h : r < B) : V r = r := by unfold V man ex; rw [if_pos h, if_pos h]; simp
theorem V_hi {r : Nat} (h : ¬ r < B) : V r = (B + r % B) * 2 ^ (r / B - 1) := by unfold V man ex; rw [if_neg h, if_neg h]
theorem V_ge {r : Nat} (h : ¬ r < B) : B * 2 ^ (r / B - 1) ≤ V r := by rw [V_hi h]; exact Nat.mul_le_mul_right _ (Nat.le_add_right _ _)
theorem V_lt {r : Nat} (h : ¬ r < B) : V r < B * 2 ^ (r / B) := by
  have hq : 1 ≤ r / B := (Nat.le_div_iff_mul_le (by decide)).2 (by omega)
  have : 2 ^ (r / B) = 2 * 2 ^ (r / B - 1) := by rw [← Nat.pow_succ']; congr 1; omega
  rw [V_hi h, this, ← Nat.mul_assoc]
  refine Nat.mul_lt_mul_of_pos_right ?_ (Nat.two_pow_pos _)
  have : r % B < B := Nat.mod_lt _ (by decide)
  omega
theorem V_mono {r t : Nat} (h : r < t) : V r < V t := by
  by_cases h1 : r < B
  · rw [V_lo h1]
    by_cases h2 : t < B
    · rw [V_lo h2]; exact h
    · have := V_ge h2
      have h3 : B * 1 ≤ B * 2 ^ (t / B - 1) := Nat.mul_le_mul_left _ (Nat.two_pow_pos _)
      omega
  · have h2 : ¬ t < B := by omega
    have hle : r / B ≤ t / B := Nat.div_le_div_right (by omega)
    by_cases he : r / B = t / B
    · rw [V_hi h1, V_hi h2, he]
      refine Nat.mul_lt_mul_of_pos_right ?_ (Nat.two_pow_pos _)
      have h3 := Nat.div_add_mod r B
      have h4 := Nat.div_add_mod t B
      rw [he] at h3
      omega
    · refine Nat.lt_of_lt_of_le (V_lt h1) (Nat.le_trans (Nat.mul_le_mul_left _ (Nat.pow_le_pow_right (by decide) ?_)) (V_ge h2))
      omega
theorem read_num {x : Nat} (h : rung x < inf) : double.read x = .number (sgn x) (man (rung x)) (double.leastPlace + ex (rung x)) := by
  unfold Format.read
  have e1 : double.signWeight = 9223372036854775808 := by decide
  have e2 : double.binade = B := by decide
  have e3 : double.infRung = inf := by decide +kernel
  simp only [e1, e2, e3]
  show (if rung x < B then _ else _) = _
  unfold man ex
  by_cases h1 : rung x < B
  · rw [if_pos h1, if_pos h1, if_pos h1]
    show Datum.number (sgn x) (rung x) _ = _
    congr 1
  · rw [if_neg h1, if_neg h1, if_neg h1]
    show (if rung x < inf then _ else _) = _
    rw [if_pos h]
    rfl
theorem read_inf {x : Nat} (h : rung x = inf) : double.read x = .infinity (sgn x) := by
  unfold Format.read
  have e1 : double.signWeight = 9223372036854775808 := by decide
  have e2 : double.binade = B := by decide
  have e3 : double.infRung = inf := by decide +kernel
  simp only [e1, e2, e3]
  show (if rung x < B then _ else if rung x < inf then _ else if rung x = inf then _ else _) = _
  rw [if_neg (by rw [h]; decide), if_neg (by omega), if_pos h]
  rfl
theorem read_nan {x : Nat} (h : nan x = true) : ∃ s f, double.read x = .nan s f := by
  have h : inf < rung x := of_decide_eq_true h
  unfold Format.read
  have e1 : double.signWeight = 9223372036854775808 := by decide
  have e2 : double.binade = B := by decide
  have e3 : double.infRung = inf := by decide +kernel
  simp only [e1, e2, e3]
  show ∃ s f, (if rung x < B then _ else if rung x < inf then _ else if rung x = inf then _ else _) = _
  have hB : B < inf := by decide
  rw [if_neg (by omega), if_neg (by omega), if_neg (by omega)]
  exact ⟨_, _, rfl⟩
theorem order_nan {x y : Nat} (h : nan x = true ∨ nan y = true) : double.order x y = none := by
  unfold Format.order
  rcases h with h | h
  · obtain ⟨s, f, e⟩ := read_nan h
    rw [e]; rfl
  · obtain ⟨s, f, e⟩ := read_nan h
    rw [e]
    cases double.read x <;> rfl
theorem cmp_same {a b c d : Int} (h1 : a < b ↔ c < d) (h2 : a = b ↔ c = d) : compare a b = compare c d := by
  simp only [compare, compareOfLessAndEq, h1, h2]
theorem sg_cmp (s t : Bool) (a b a' b' : Nat) (h1 : a < b ↔ a' < b') (h2 : b < a ↔ b' < a') (ha : a = 0 ↔ a' = 0) (hb : b = 0 ↔ b' = 0) : compare (sg s a) (sg t b) = compare (sg s a') (sg t b') := by
  unfold sg
  refine cmp_same ?_ ?_ <;> cases s <;> cases t <;> simp only [Bool.false_eq_true, if_false, if_true] <;> omega
theorem V_iff (r t : Nat) : V r < V t ↔ r < t := by
  constructor
  · intro h
    refine Classical.byContradiction fun h1 => ?_
    rcases Nat.lt_or_ge t r with h2 | h2
    · have := V_mono h2; omega
    · have : r = t := by omega
      subst this; omega
  · exact V_mono
theorem V_zero (r : Nat) : V r = 0 ↔ r = 0 := by
  have h0 : V 0 = 0 := V_lo (by decide)
  constructor
  · intro h
    refine Classical.byContradiction fun h1 => ?_
    have := V_mono (show 0 < r by omega)
    omega
  · intro h; rw [h, h0]
theorem signed_sg (s : Bool) (m k : Nat) : signed s m k = sg s (m * 2 ^ k) := by
  unfold signed sg
  rw [Nat.shiftLeft_eq]
theorem order_num (s t : Bool) (r q : Nat) (L : Int) : (Datum.number s (man r) (L + ex r)).order (.number t (man q) (L + ex q)) = some (compare (sg s r) (sg t q)) := by
  unfold Datum.order
  simp only [signed_sg]
  congr 1
  have e1 : (L + (ex r : Int) - min (L + (ex r : Int)) (L + (ex q : Int))).toNat = ex r - min (ex r) (ex q) := by omega
  have e2 : (L + (ex q : Int) - min (L + (ex r : Int)) (L + (ex q : Int))).toNat = ex q - min (ex r) (ex q) := by omega
  rw [e1, e2]
  have p := Nat.two_pow_pos (min (ex r) (ex q))
  have v1 : man r * 2 ^ (ex r - min (ex r) (ex q)) * 2 ^ min (ex r) (ex q) = V r := by
    rw [Nat.mul_assoc, ← Nat.pow_add]; unfold V; congr 2; omega
  have v2 : man q * 2 ^ (ex q - min (ex r) (ex q)) * 2 ^ min (ex r) (ex q) = V q := by
    rw [Nat.mul_assoc, ← Nat.pow_add]; unfold V; congr 2; omega
  generalize man r * 2 ^ (ex r - min (ex r) (ex q)) = x at *
  generalize man q * 2 ^ (ex q - min (ex r) (ex q)) = y at *
  generalize 2 ^ min (ex r) (ex q) = z at *
  refine sg_cmp s t x y r q ?_ ?_ ?_ ?_
  · rw [← V_iff r q, ← v1, ← v2]; exact (Nat.mul_lt_mul_right p).symm
  · rw [← V_iff q r, ← v1, ← v2]; exact (Nat.mul_lt_mul_right p).symm
  · rw [← V_zero r, ← v1, Nat.mul_eq_zero]; omega
  · rw [← V_zero q, ← v2, Nat.mul_eq_zero]; omega
theorem order_key {x y : Nat} (hx : nan x = false) (hy : nan y = false) : double.order x y = some (compare (key x) (key y)) := by
  have hx : ¬ inf < rung x := of_decide_eq_false hx
  have hy : ¬ inf < rung y := of_decide_eq_false hy
  unfold Format.order key
  by_cases h1 : rung x = inf <;> by_cases h2 : rung y = inf
  · rw [read_inf h1, read_inf h2, h1, h2]
    cases sgn x <;> cases sgn y <;> decide +kernel
  · rw [read_inf h1, read_num (by omega), h1]
    show some (if sgn x then Ordering.lt else Ordering.gt) = _
    congr 1
    have : rung y < inf := by omega
    have hi : (0 : Int) < inf := by decide
    generalize rung y = r at *
    generalize inf = i at *
    unfold sg
    simp only [compare, compareOfLessAndEq]
    cases sgn x <;> cases sgn y <;> simp only [Bool.false_eq_true, if_false, if_true] <;> (repeat' split) <;> first | rfl | (exfalso; omega)
  · rw [read_inf h2, read_num (by omega), h2]
    show some (if sgn y then Ordering.gt else Ordering.lt) = _
    congr 1
    have : rung x < inf := by omega
    have hi : (0 : Int) < inf := by decide
    generalize rung x = r at *
    generalize inf = i at *
    unfold sg
    simp only [compare, compareOfLessAndEq]
    cases sgn x <;> cases sgn y <;> simp only [Bool.false_eq_true, if_false, if_true] <;> (repeat' split) <;> first | rfl | (exfalso; omega)
  · rw [read_num (by omega), read_num (by omega)]
    exact order_num _ _ _ _ _
/-! ### what a walk asks -/
theorem is_eq (x y : Nat) : (double.order x y == some .eq) = (!nan x && !nan y && decide (key x = key y)) := by
  cases hx : nan x
  · cases hy : nan y
    · rw [order_key hx hy]
      simp only [compare, compareOfLessAndEq]
      by_cases h : key x < key y
      · rw [if_pos h]; simp; omega
      · rw [if_neg h]; by_cases h2 : key x = key y <;> simp [h2]
    · rw [order_nan (.inr hy)]; rfl
  · rw [order_nan (.inl hx)]; rfl
theorem is_lt (x y : Nat) : (double.order x y == some .lt) = (!nan x && !nan y && decide (key x < key y)) := by
  cases hx : nan x
  · cases hy : nan y
    · rw [order_key hx hy]
      simp only [compare, compareOfLessAndEq]
      by_cases h : key x < key y
      · rw [if_pos h]; simp [h]
      · rw [if_neg h]; by_cases h2 : key x = key y <;> simp [h2]; omega
    · rw [order_nan (.inr hy)]; rfl
  · rw [order_nan (.inl hx)]; rfl
theorem is_gt (x y : Nat) : (double.order x y == some .gt) = (!nan x && !nan y && decide (key y < key x)) := by
  cases hx : nan x
  · cases hy : nan y
    · rw [order_key hx hy]
      simp only [compare, compareOfLessAndEq]
      by_cases h : key x < key y
      · rw [if_pos h]; simp; omega
      · rw [if_neg h]; by_cases h2 : key x = key y <;> simp [h2]; omega
    · rw [order_nan (.inr hy)]; rfl
  · rw [order_nan (.inl hx)]; rfl
/-! ### kinds, and the one order of all words -/
def top : Int := 9218868437227405311
def kd (x : Nat) : Int := if nan x then 0 else if top < key x then 6 else if key x < -top then 1 else if key x < 0 then 2 else if 0 < key x then 5 else if sgn x then 3 else 4
def tk (x : Nat) : Int := if nan x then -36893488147419103232 else if sgn x then -1 - rung x else rung x
def ord (a b : Nat) : Int := if tk a < tk b then -1 else if tk b < tk a then 1 else 0
theorem rung_lt (x : Nat) : rung x < 9223372036854775808 := Nat.mod_lt _ (by decide)
theorem kd_cases (x : Nat) : (kd x = 0 ∧ nan x = true ∧ tk x = -36893488147419103232) ∨ (kd x = 1 ∧ nan x = false ∧ key x = -9218868437227405312 ∧ tk x = -9218868437227405313) ∨
    (kd x = 2 ∧ nan x = false ∧ key x < 0 ∧ -9218868437227405311 ≤ key x ∧ tk x = key x - 1) ∨ (kd x = 3 ∧ nan x = false ∧ sgn x = true ∧ key x = 0 ∧ tk x = -1) ∨ (kd x = 4 ∧ nan x = false ∧ sgn x = false ∧ key x = 0 ∧ tk x = 0) ∨
    (kd x = 5 ∧ nan x = false ∧ 0 < key x ∧ key x ≤ 9218868437227405311 ∧ tk x = key x) ∨ (kd x = 6 ∧ nan x = false ∧ key x = 9218868437227405312 ∧ tk x = 9218868437227405312) := by
  unfold kd tk key sg top
  have ia : nan x = decide (inf < rung x) := rfl
  unfold inf at ia
  cases h1 : nan x <;> cases h3 : sgn x <;> simp only [h1, h3, Bool.false_eq_true, if_false, if_true] at * <;> simp at ia <;> (repeat' split) <;> simp <;> omega
theorem ord_kd (a b : Nat) : ord a b = if kd a < kd b then -1 else if kd b < kd a then 1 else if (kd a ≠ 2 ∧ kd a ≠ 5) ∨ key a = key b then 0 else if key a < key b then -1 else 1 := by
  unfold ord
  rcases kd_cases a with h | h | h | h | h | h | h <;> rcases kd_cases b with g | g | g | g | g | g | g <;> (repeat' split) <;> omega
/-- The bits as they are told. -/
def bts (x : Nat) : Nat := if nan x then 9221120237041090560 else x
end Go.Proofs.YtbamhiegabeicaaGreat.Fl

/- Rounding to the nearest floating number: it rises, and what is one stays. Plain laws. No statement is proved here. -/
namespace Go.Proofs.YtbamhiegabeicaaGreat.Fl
open Ieee
/-! ### rounding to the nearest whole number, and the even one of two -/
def rhe (n d : Nat) : Nat := n / d + (decide (d < 2 * (n % d)) || (2 * (n % d) == d && n / d % 2 == 1)).toNat
theorem rhe_scale (n d k : Nat) (hk : 0 < k) : rhe (n * k) (d * k) = rhe n d := by
  unfold rhe
  rw [Nat.mul_div_mul_right n d hk, Nat.mul_mod_mul_right]
  have h1 : decide (d * k < 2 * (n % d * k)) = decide (d < 2 * (n % d)) := by
    rw [decide_eq_decide, ← Nat.mul_assoc]; exact Nat.mul_lt_mul_right hk
  have h2 : (2 * (n % d * k) == d * k) = (2 * (n % d) == d) := by
    rw [← Nat.mul_assoc, Bool.eq_iff_iff, beq_iff_eq, beq_iff_eq]; exact Nat.mul_left_inj (by omega)
  rw [h1, h2]
theorem rhe_exact (q d : Nat) (hd : 0 < d) : rhe (q * d) d = q := by
  unfold rhe
  rw [Nat.mul_div_cancel _ hd, Nat.mul_mod_left]
  have : (decide (d < 2 * 0) || (2 * 0 == d && q % 2 == 1)) = false := by
    have : (2 * 0 == d) = false := by rw [beq_eq_false_iff_ne]; omega
    simp [this]
  rw [this]; rfl
theorem toNat_le (b : Bool) : b.toNat ≤ 1 := by cases b <;> decide
theorem rhe_mono {n n' d : Nat} (h : n ≤ n') : rhe n d ≤ rhe n' d := by
  unfold rhe
  have hq : n / d ≤ n' / d := Nat.div_le_div_right h
  rcases Nat.lt_or_ge (n / d) (n' / d) with h1 | h1
  · have := toNat_le (decide (d < 2 * (n % d)) || (2 * (n % d) == d && n / d % 2 == 1))
    omega
  · have he : n / d = n' / d := by omega
    have hm : n % d ≤ n' % d := by
      have a := Nat.div_add_mod n d
      have b := Nat.div_add_mod n' d
      rw [he] at a
      omega
    rw [he]
    refine Nat.add_le_add_left ?_ _
    generalize n % d = x at *
    generalize n' % d = y at *
    generalize (n' / d % 2 == 1) = b
    by_cases h2 : d < 2 * y
    · rw [decide_eq_true h2]; exact toNat_le _
    · have h3 : ¬ d < 2 * x := by omega
      rw [decide_eq_false h2, decide_eq_false h3, Bool.false_or, Bool.false_or]
      by_cases h4 : 2 * y = d
      · rw [show (2 * y == d) = true from by rw [beq_iff_eq]; exact h4]
        cases b <;> simp [toNat_le]
      · have h5 : ¬ 2 * x = d := by omega
        rw [show (2 * x == d) = false from by rw [beq_eq_false_iff_ne]; exact h5]
        simp
theorem cut_rhe (neg : Bool) (n drop : Nat) : Toward.even.cut neg n drop = rhe n (2 ^ drop) := by
  unfold Toward.cut
  simp only [Nat.shiftLeft_eq, Nat.one_mul]
  by_cases h : drop ≤ n.log2 + 2
  · rw [Nat.min_eq_left h]
    unfold rhe
    congr 2
    rw [Bool.beq_comm (a := 2 ^ drop)]
  · rw [Nat.min_eq_right (by omega)]
    have h1 : n < 2 ^ (n.log2 + 1) := Nat.lt_log2_self
    have h2 : 2 ^ (n.log2 + 2) = 2 * 2 ^ (n.log2 + 1) := by rw [Nat.pow_succ, Nat.mul_comm]
    have h3 : 2 ^ (n.log2 + 2) ≤ 2 ^ drop := Nat.pow_le_pow_right (by decide) (by omega)
    unfold rhe
    rw [Nat.div_eq_of_lt (show n < 2 ^ (n.log2 + 2) by omega), Nat.mod_eq_of_lt (show n < 2 ^ (n.log2 + 2) by omega), Nat.div_eq_of_lt (show n < 2 ^ drop by omega), Nat.mod_eq_of_lt (show n < 2 ^ drop by omega)]
    have e1 : decide (2 ^ (n.log2 + 2) < 2 * n) = false := decide_eq_false (by omega)
    have e2 : decide (2 ^ drop < 2 * n) = false := decide_eq_false (by omega)
    rw [e1, e2]
    simp
/-! ### the rung nearest to N, in units of which 2 ^ K make the least number -/
def rn (K N : Nat) : Nat := min ((max (N.log2 - 52) K - K) * B + rhe N (2 ^ max (N.log2 - 52) K)) inf
theorem pow_split {a b : Nat} (h : a ≤ b) : 2 ^ b = 2 ^ (b - a) * 2 ^ a := by rw [← Nat.pow_add]; congr 1; omega
theorem log2_mul_pow (m e : Nat) (hm : m ≠ 0) : (m * 2 ^ e).log2 = m.log2 + e := by
  have h := Nat.log2_self_le hm
  have h2 : m < 2 ^ (m.log2 + 1) := Nat.lt_log2_self
  refine (Nat.log2_eq_iff (by have := Nat.two_pow_pos e; exact Nat.mul_ne_zero hm (by omega))).2 ⟨?_, ?_⟩
  · rw [Nat.pow_add]; exact Nat.mul_le_mul_right _ h
  · rw [show m.log2 + e + 1 = (m.log2 + 1) + e from by omega, Nat.pow_add]
    exact Nat.mul_lt_mul_of_pos_right h2 (Nat.two_pow_pos _)
theorem near_rn (neg : Bool) (mag K e : Nat) (hm : mag ≠ 0) : double.nearest neg mag (double.leastPlace - K + e) = double.word neg (rn K (mag * 2 ^ e)) := by
  unfold Format.nearest
  rw [if_neg hm]
  have e2 : double.binade = B := by decide
  have e3 : double.infRung = inf := by decide +kernel
  have e4 : (double.fractionBits : Int) = 52 := rfl
  simp only [e2, e3, e4]
  unfold rn
  rw [log2_mul_pow mag e hm]
  generalize double.leastPlace = L
  generalize hg : mag.log2 = g
  have hl : max (L - (K : Int) + (e : Int) + (g : Int) - 52) L = L - K + (max (g + e - 52) K : Nat) := by omega
  rw [hl]
  generalize hM : max (g + e - 52) K = M
  have hKM : K ≤ M := by omega
  have h1 : (L - (K : Int) + (M : Int) - L).toNat = M - K := by omega
  have h2 : (L - (K : Int) + (e : Int) - (L - (K : Int) + (M : Int))).toNat = e - M := by omega
  have h3 : (L - (K : Int) + (M : Int) - (L - (K : Int) + (e : Int))).toNat = M - e := by omega
  rw [h1, h2, h3, cut_rhe]
  congr 3
  rcases Nat.lt_or_ge M e with h | h
  · rw [show M - e = 0 from by omega, Nat.shiftLeft_eq, pow_split (show M ≤ e by omega), ← Nat.mul_assoc, rhe_exact _ _ (Nat.two_pow_pos _)]
    have := rhe_exact (mag * 2 ^ (e - M)) 1 (by decide)
    rw [Nat.mul_one] at this
    exact this
  · rw [show e - M = 0 from by omega, pow_split h, rhe_scale _ _ _ (Nat.two_pow_pos _)]
    rfl
theorem lt_pow_log (N : Nat) : N < 2 ^ (N.log2 + 1) := Nat.lt_log2_self
theorem rhe_le {n q d : Nat} (hd : 0 < d) (h : n ≤ q * d) : rhe n d ≤ q := by
  have := rhe_mono (d := d) h
  rwa [rhe_exact q d hd] at this
theorem le_rhe {n q d : Nat} (hd : 0 < d) (h : q * d ≤ n) : q ≤ rhe n d := by
  have := rhe_mono (d := d) h
  rwa [rhe_exact q d hd] at this
theorem log2_mono {a b : Nat} (h : a ≤ b) : a.log2 ≤ b.log2 := by
  by_cases ha : a = 0
  · subst ha; simp
  · have h1 := Nat.log2_self_le ha
    have h2 := lt_pow_log b
    have : 2 ^ a.log2 < 2 ^ (b.log2 + 1) := by omega
    have := (Nat.pow_lt_pow_iff_right (by decide : 1 < 2)).1 this
    omega
theorem rn_mono {K N N' : Nat} (h : N ≤ N') : rn K N ≤ rn K N' := by
  unfold rn
  have hl := log2_mono h
  rcases Nat.lt_or_ge (max (N.log2 - 52) K) (max (N'.log2 - 52) K) with h1 | h1
  · have k1 : rhe N (2 ^ max (N.log2 - 52) K) ≤ 2 * B := by
      refine rhe_le (Nat.two_pow_pos _) ?_
      have e : 2 * B * 2 ^ max (N.log2 - 52) K = 2 ^ (53 + max (N.log2 - 52) K) := by rw [Nat.pow_add]; rfl
      rw [e]
      exact Nat.le_of_lt (Nat.lt_of_lt_of_le (lt_pow_log N) (Nat.pow_le_pow_right (by decide) (by omega)))
    have hN' : N' ≠ 0 := by intro e; subst e; simp at h1; omega
    have k2 : B ≤ rhe N' (2 ^ max (N'.log2 - 52) K) := by
      refine le_rhe (Nat.two_pow_pos _) ?_
      have e : B * 2 ^ max (N'.log2 - 52) K = 2 ^ (52 + max (N'.log2 - 52) K) := by rw [Nat.pow_add]; rfl
      rw [e]
      exact Nat.le_trans (Nat.pow_le_pow_right (by decide) (by omega)) (Nat.log2_self_le hN')
    have ka : K ≤ max (N.log2 - 52) K := Nat.le_max_right _ _
    generalize max (N.log2 - 52) K = a at *
    generalize max (N'.log2 - 52) K = b at *
    have : (a - K) * B + B ≤ (b - K) * B := by
      have : (a - K + 1) * B ≤ (b - K) * B := Nat.mul_le_mul_right _ (by omega)
      rw [Nat.add_mul] at this
      omega
    generalize (a - K) * B = p at *
    generalize (b - K) * B = q at *
    generalize rhe N (2 ^ a) = x at *
    generalize rhe N' (2 ^ b) = y at *
    generalize B = z at *
    refine Nat.le_min.2 ⟨Nat.le_trans (Nat.min_le_left _ _) ?_, Nat.min_le_right _ _⟩
    clear h1 ka hl h
    omega
  · have e : max (N.log2 - 52) K = max (N'.log2 - 52) K := by omega
    rw [e]
    exact Nat.le_min.2 ⟨Nat.le_trans (Nat.min_le_left _ _) (Nat.add_le_add_left (rhe_mono h) _), Nat.min_le_right _ _⟩
theorem rn_zero (K : Nat) : rn K 0 = 0 := by
  unfold rn
  have : rhe 0 (2 ^ max (Nat.log2 0 - 52) K) = 0 := by
    have := rhe_exact 0 (2 ^ max (Nat.log2 0 - 52) K) (Nat.two_pow_pos _)
    rwa [Nat.zero_mul] at this
  rw [this]
  simp
theorem rn_exact {K r : Nat} (hr : r ≤ inf) : rn K (V r * 2 ^ K) = r := by
  by_cases h0 : r = 0
  · subst h0; rw [show V 0 = 0 from V_lo (by decide), Nat.zero_mul]; exact rn_zero K
  unfold rn
  by_cases h : r < B
  · rw [V_lo h, log2_mul_pow r K h0]
    have hl : r.log2 < 52 := by
      have h1 := Nat.log2_self_le h0
      exact (Nat.pow_lt_pow_iff_right (by decide : 1 < 2)).1 (Nat.lt_of_le_of_lt h1 (show r < 2 ^ 52 from h))
    rw [show max (r.log2 + K - 52) K = K from by omega, rhe_exact _ _ (Nat.two_pow_pos _)]
    rw [Nat.sub_self, Nat.zero_mul, Nat.zero_add]
    omega
  · have hq : 1 ≤ r / B := (Nat.le_div_iff_mul_le (by decide)).2 (by omega)
    have hm : r % B < B := Nat.mod_lt _ (by decide)
    have hl : (B + r % B).log2 = 52 := (Nat.log2_eq_iff (Nat.ne_of_gt (Nat.lt_of_lt_of_le (by decide : 0 < B) (Nat.le_add_right _ _)))).2 ⟨show B ≤ _ by omega, by show B + r % B < 2 * B; omega⟩
    rw [V_hi h, Nat.mul_assoc, ← Nat.pow_add, log2_mul_pow _ _ (Nat.ne_of_gt (Nat.lt_of_lt_of_le (by decide : 0 < B) (Nat.le_add_right _ _))), hl]
    rw [show max (52 + (r / B - 1 + K) - 52) K = r / B - 1 + K from by omega, rhe_exact _ _ (Nat.two_pow_pos _)]
    have e : (r / B - 1 + K - K) * B + (B + r % B) = r := by
      rw [show r / B - 1 + K - K = r / B - 1 from by omega, Nat.sub_mul]
      have := Nat.div_add_mod r B
      rw [Nat.mul_comm] at this
      have h2 : 1 * B ≤ r / B * B := Nat.mul_le_mul_right _ hq
      omega
    rw [e]
    omega
end Go.Proofs.YtbamhiegabeicaaGreat.Fl

/- Contracts of the functions of real: Kind, Order, Bits, From. No statement is proved here. -/
namespace Go.Proofs.YtbamhiegabeicaaGreat.Fl
open Go.RowKit
set_option linter.unusedVariables false
set_option linter.unusedSimpArgs false
@[go_sem] theorem callBits (b : Nat) (w : World) : (callFunc 105 #[.float .f64 b]).run Tryz.prog w = .ok (.value (.int .u64 b)) w :=
  (run_callFunc_extern (e := Extern.MathFloatBits.float64bits) Tryz.func105 (by kernel_rfl) (by kernel_rfl) (by kernel_rfl) (by kernel_rfl) _ w).trans rfl
@[go_sem] theorem callFrom (b : Nat) (w : World) : (callFunc 56 #[.int .u64 b]).run Tryz.prog w = .ok (.value (.float .f64 b)) w :=
  (run_callFunc_extern (e := Extern.MathFloatBits.float64frombits) Tryz.func56 (by kernel_rfl) (by kernel_rfl) (by kernel_rfl) (by kernel_rfl) _ w).trans rfl
abbrev F (x : Nat) : Value := .float .f64 x
abbrev fo (x y : Nat) : Option Ordering := FloatKind.f64.format.order x y
theorem fo_eq (x y : Nat) : (fo x y == some .eq) = (!nan x && !nan y && decide (key x = key y)) := is_eq x y
theorem fo_ne (x y : Nat) : (fo x y != some .eq) = !(!nan x && !nan y && decide (key x = key y)) := by rw [← fo_eq]; rfl
theorem fo_lt (x y : Nat) : (fo x y == some .lt) = (!nan x && !nan y && decide (key x < key y)) := is_lt x y
theorem fo_gt (x y : Nat) : (fo x y == some .gt) = (!nan x && !nan y && decide (key y < key x)) := is_gt x y
theorem key_top : key 9218868437227405311 = 9218868437227405311 := by decide
theorem key_ntop : key 18442240474082181119 = -9218868437227405311 := by decide
theorem key_nought : key 0 = 0 := by decide
theorem nan_top : nan 9218868437227405311 = false := by decide
theorem nan_ntop : nan 18442240474082181119 = false := by decide
theorem nan_nought : nan 0 = false := by decide
theorem ret_bool {a b : Bool} (h : a = b) : Ending.returned (.bool a) = .returned (.bool b) := by rw [h]
theorem ret_num {a b : Int} (h : a = b) : Ending.returned (.int .i64 a) = .returned (.int .i64 b) := by rw [h]
theorem sgn_wrap {x : Nat} (hx : x < 18446744073709551616) : decide (wrap64 (x : Int) < 0) = sgn x := by
  have h : sgn x = (x / 9223372036854775808 % 2 == 1) := rfl
  rw [h]
  unfold wrap64
  rw [Bool.eq_iff_iff]
  simp
  omega
theorem signbit_any (x : Nat) (hx : x < 18446744073709551616) (w : World) :
    Calls Tryz.prog 94 #[F x] w fun e w' => e = .returned (.bool (sgn x)) ∧ w' = w := by
  have hs := Lib.hid (sgn_wrap hx)
  go_enter Tryz.func94, Tryz.ntmps94
  go_wp2
  go_ret
  exact ⟨ret_bool hs.out, rfl⟩
theorem kind_any (x : Nat) (hx : x < 18446744073709551616) (w : World) :
    Calls Tryz.prog 75 #[F x] w fun e w' => e = .returned (.int .i64 (kd x)) ∧ w' = w := by
  have C := Lib.hid (signbit_any x hx w)
  have f1 := fo_ne x x
  have f2 := fo_gt x 9218868437227405311
  have f3 := fo_lt x 18442240474082181119
  have f4 := fo_lt x 0
  have f5 := fo_gt x 0
  rw [key_top, nan_top] at f2
  rw [key_ntop, nan_ntop] at f3
  rw [key_nought, nan_nought] at f4 f5
  rcases kd_cases x with ⟨hk, h⟩ | ⟨hk, h⟩ | ⟨hk, h⟩ | ⟨hk, h⟩ | ⟨hk, h⟩ | ⟨hk, h⟩ | ⟨hk, h⟩
  all_goals
    have HK := Lib.hid hk
    clear hk
    rw [h.1] at f1
    simp only [h.1, Bool.not_true, Bool.not_false, Bool.true_and, Bool.false_and, decide_true] at f1 f2 f3 f4 f5
  · go_enter Tryz.func75, Tryz.ntmps75
    go_wp2
    go_ret
    exact ⟨ret_num HK.out.symm, rfl⟩
  · replace f2 := f2.trans (decide_eq_false (by omega))
    replace f3 := f3.trans (decide_eq_true (by omega))
    clear h
    go_enter Tryz.func75, Tryz.ntmps75
    go_wp2
    go_ret
    exact ⟨ret_num HK.out.symm, rfl⟩
  · replace f2 := f2.trans (decide_eq_false (by omega))
    replace f3 := f3.trans (decide_eq_false (by omega))
    replace f4 := f4.trans (decide_eq_true (by omega))
    clear h
    go_enter Tryz.func75, Tryz.ntmps75
    go_wp2
    go_ret
    exact ⟨ret_num HK.out.symm, rfl⟩
  · replace f2 := f2.trans (decide_eq_false (by omega))
    replace f3 := f3.trans (decide_eq_false (by omega))
    replace f4 := f4.trans (decide_eq_false (by omega))
    replace f5 := f5.trans (decide_eq_false (by omega))
    have hs := h.2.1
    clear h
    rw [hs] at C
    go_enter Tryz.func75, Tryz.ntmps75
    go_wp2_with (go_at_call 94; refine C.out.mono ?_; rintro e w' ⟨rfl, rfl⟩)
    go_ret
    exact ⟨ret_num HK.out.symm, rfl⟩
  · replace f2 := f2.trans (decide_eq_false (by omega))
    replace f3 := f3.trans (decide_eq_false (by omega))
    replace f4 := f4.trans (decide_eq_false (by omega))
    replace f5 := f5.trans (decide_eq_false (by omega))
    have hs := h.2.1
    clear h
    rw [hs] at C
    go_enter Tryz.func75, Tryz.ntmps75
    go_wp2_with (go_at_call 94; refine C.out.mono ?_; rintro e w' ⟨rfl, rfl⟩)
    go_ret
    exact ⟨ret_num HK.out.symm, rfl⟩
  · replace f2 := f2.trans (decide_eq_false (by omega))
    replace f3 := f3.trans (decide_eq_false (by omega))
    replace f4 := f4.trans (decide_eq_false (by omega))
    replace f5 := f5.trans (decide_eq_true (by omega))
    clear h
    go_enter Tryz.func75, Tryz.ntmps75
    go_wp2
    go_ret
    exact ⟨ret_num HK.out.symm, rfl⟩
  · replace f2 := f2.trans (decide_eq_true (by omega))
    clear h
    go_enter Tryz.func75, Tryz.ntmps75
    go_wp2
    go_ret
    exact ⟨ret_num HK.out.symm, rfl⟩
theorem order_any (x y : Nat) (hx : x < 18446744073709551616) (hy : y < 18446744073709551616) (w : World) :
    Calls Tryz.prog 55 #[F x, F y] w fun e w' => e = .returned (.int .i64 (ord x y)) ∧ w' = w := by
  have C1 := Lib.hid (kind_any x hx w)
  have C2 := Lib.hid (kind_any y hy w)
  have f1 := fo_eq x y
  have f2 := fo_lt x y
  have HO := Lib.hid (ord_kd x y)
  have hn : (¬ (kd x ≠ 2 ∧ kd x ≠ 5) ∧ kd x = kd y) → nan x = false ∧ nan y = false := by
    rcases kd_cases x with h | h | h | h | h | h | h <;> rcases kd_cases y with g | g | g | g | g | g | g <;> intro hh <;> first | exact ⟨h.2.1, g.2.1⟩ | (exfalso; omega)
  generalize kd x = k at *
  generalize kd y = l at *
  generalize ord x y = r at *
  by_cases h1 : k < l
  · rw [if_pos h1] at HO
    clear hn f1 f2
    go_enter Tryz.func55, Tryz.ntmps55
    go_wp2_with fail
    refine C1.out.mono ?_
    rintro e w1 ⟨rfl, rfl⟩
    go_wp2_with fail
    refine C2.out.mono ?_
    rintro e w2 ⟨rfl, rfl⟩
    go_wp2
    go_ret
    exact ⟨ret_num HO.out.symm, rfl⟩
  rw [if_neg h1] at HO
  by_cases h2 : l < k
  · rw [if_pos h2] at HO
    clear hn f1 f2
    go_enter Tryz.func55, Tryz.ntmps55
    go_wp2_with fail
    refine C1.out.mono ?_
    rintro e w1 ⟨rfl, rfl⟩
    go_wp2_with fail
    refine C2.out.mono ?_
    rintro e w2 ⟨rfl, rfl⟩
    go_wp2
    go_ret
    exact ⟨ret_num HO.out.symm, rfl⟩
  rw [if_neg h2] at HO
  obtain rfl : k = l := by omega
  by_cases h3 : k ≠ 2 ∧ k ≠ 5
  · rw [if_pos (.inl h3)] at HO
    obtain ⟨h3, h4⟩ := h3
    clear hn f1 f2
    go_enter Tryz.func55, Tryz.ntmps55
    go_wp2_with fail
    refine C1.out.mono ?_
    rintro e w1 ⟨rfl, rfl⟩
    go_wp2_with fail
    refine C2.out.mono ?_
    rintro e w2 ⟨rfl, rfl⟩
    go_wp2
    go_ret
    exact ⟨ret_num HO.out.symm, rfl⟩
  have hn2 := hn ⟨h3, rfl⟩
  rw [hn2.1, hn2.2] at f1 f2
  simp only [Bool.not_false, Bool.true_and] at f1 f2
  clear hn hn2
  have hk : k = 2 ∨ k = 5 := by omega
  by_cases h4 : key x = key y
  · rw [if_pos (.inr h4)] at HO
    rw [decide_eq_true h4] at f1
    clear h4 f2 h3
    rcases hk with rfl | rfl
    · go_enter Tryz.func55, Tryz.ntmps55
      go_wp2_with fail
      refine C1.out.mono ?_
      rintro e w1 ⟨rfl, rfl⟩
      go_wp2_with fail
      refine C2.out.mono ?_
      rintro e w2 ⟨rfl, rfl⟩
      go_wp2
      go_ret
      exact ⟨ret_num HO.out.symm, rfl⟩
    · go_enter Tryz.func55, Tryz.ntmps55
      go_wp2_with fail
      refine C1.out.mono ?_
      rintro e w1 ⟨rfl, rfl⟩
      go_wp2_with fail
      refine C2.out.mono ?_
      rintro e w2 ⟨rfl, rfl⟩
      go_wp2
      go_ret
      exact ⟨ret_num HO.out.symm, rfl⟩
  rw [if_neg (by omega)] at HO
  rw [decide_eq_false h4] at f1
  by_cases h5 : key x < key y
  · rw [if_pos h5] at HO
    rw [decide_eq_true h5] at f2
    clear h3 h4 h5
    rcases hk with rfl | rfl
    · go_enter Tryz.func55, Tryz.ntmps55
      go_wp2_with fail
      refine C1.out.mono ?_
      rintro e w1 ⟨rfl, rfl⟩
      go_wp2_with fail
      refine C2.out.mono ?_
      rintro e w2 ⟨rfl, rfl⟩
      go_wp2
      go_ret
      exact ⟨ret_num HO.out.symm, rfl⟩
    · go_enter Tryz.func55, Tryz.ntmps55
      go_wp2_with fail
      refine C1.out.mono ?_
      rintro e w1 ⟨rfl, rfl⟩
      go_wp2_with fail
      refine C2.out.mono ?_
      rintro e w2 ⟨rfl, rfl⟩
      go_wp2
      go_ret
      exact ⟨ret_num HO.out.symm, rfl⟩
  · rw [if_neg h5] at HO
    rw [decide_eq_false h5] at f2
    clear h3 h4 h5
    rcases hk with rfl | rfl
    · go_enter Tryz.func55, Tryz.ntmps55
      go_wp2_with fail
      refine C1.out.mono ?_
      rintro e w1 ⟨rfl, rfl⟩
      go_wp2_with fail
      refine C2.out.mono ?_
      rintro e w2 ⟨rfl, rfl⟩
      go_wp2
      go_ret
      exact ⟨ret_num HO.out.symm, rfl⟩
    · go_enter Tryz.func55, Tryz.ntmps55
      go_wp2_with fail
      refine C1.out.mono ?_
      rintro e w1 ⟨rfl, rfl⟩
      go_wp2_with fail
      refine C2.out.mono ?_
      rintro e w2 ⟨rfl, rfl⟩
      go_wp2
      go_ret
      exact ⟨ret_num HO.out.symm, rfl⟩
theorem from_any (b : Nat) (w : World) :
    Calls Tryz.prog 24 #[.int .u64 b] w fun e w' => e = .returned (F b) ∧ w' = w := by
  go_enter Tryz.func24, Tryz.ntmps24
  go_wp2
  go_ret
  exact ⟨rfl, rfl⟩
end Go.Proofs.YtbamhiegabeicaaGreat.Fl

/- Ratio, Greatest, and the examples of the page. No statement is proved here. -/
namespace Go.Proofs.YtbamhiegabeicaaGreat.Fl
open Go.RowKit
set_option linter.unusedVariables false
set_option linter.unusedSimpArgs false
/-- What is laid where there is no answer. -/
def nb (x y : Nat) (w : World) : Nat := Question.cut (.nanBits .f64 x y) (w.tape w.drawn (.nanBits .f64 x y))
theorem nb_nan (x y : Nat) (w : World) : nan (nb x y w) = true := by
  unfold nb nan Question.cut rung inf
  simp only
  generalize w.tape w.drawn (.nanBits .f64 x y) = t
  rw [decide_eq_true_eq]
  have h1 : t / 2 % (2 ^ 52 - 1) < 2 ^ 52 - 1 := Nat.mod_lt _ (by decide)
  generalize t / 2 % (2 ^ 52 - 1) = f at *
  rcases Nat.mod_two_eq_zero_or_one t with h | h <;> rw [h] <;> omega
theorem run_nan {P : Program} (op : BinOp) (t : TypeId) (x y : Nat) (ho : op = .quo ∨ op = .sub) (h : floatBits op .f64 x y = none) (w : World) : (binOp op t (F x) (F y)).run P w = .ok (F (nb x y w)) w.drew := by
  unfold floatBits at h
  rcases ho with rfl | rfl <;> simp only at h <;> simp [binOp, Op.floatArith, h, choose, Sem.run, Question.forced, nb]
/-- The first one that none stands ahead of. -/
def Gr (l : List Nat) (i : Nat) : Prop := (∀ (k : Nat) (h : k < l.length) (hi : i < l.length), ord l[k] l[i] ≤ 0) ∧ (∀ (k : Nat) (h : k < i) (hi : i < l.length), ord (l[k]'(by omega)) l[i] < 0)
def GrTo (l : List Nat) (m i : Nat) : Prop := (∀ (k : Nat) (h : k < l.length) (hi : i < l.length), k < m → ord l[k] l[i] ≤ 0) ∧ (∀ (k : Nat) (h : k < i) (hi : i < l.length), ord (l[k]'(by omega)) l[i] < 0)
end Go.Proofs.YtbamhiegabeicaaGreat.Fl

/- Contracts of the reference's Kind, Order, Same, Clamp, and real.Clamp. No statement is proved here. -/
namespace Go.Proofs.YtbamhiegabeicaaGreat.Fl
open Go.RowKit
set_option linter.unusedVariables false
set_option linter.unusedSimpArgs false
theorem sub_inf {x : Nat} (h : rung x = inf) : floatBits .sub .f64 x x = none := by
  show (((Ieee.double.read x).sum (Ieee.double.read x).opposite).map Ieee.double.write) = none
  rw [read_inf h]
  cases sgn x <;> rfl
theorem sub_fin {x : Nat} (h : rung x < inf) : floatBits .sub .f64 x x = some 0 := by
  show (((Ieee.double.read x).sum (Ieee.double.read x).opposite).map Ieee.double.write) = some 0
  rw [read_num h]
  generalize man (rung x) = m
  generalize Ieee.double.leastPlace + (ex (rung x) : Int) = i
  have h0 : ∀ (s : Bool) (k : Nat), Ieee.signed s m k + Ieee.signed (!s) m k = 0 := by
    intro s k
    cases s <;> simp [Ieee.signed] <;> omega
  simp only [Ieee.Datum.sum, Ieee.Datum.opposite, Option.map_some, h0]
  cases sgn x <;> simp <;> rfl
theorem one_nought : floatBits .quo .f64 4607182418800017408 0 = some 9218868437227405312 := by decide +kernel
theorem one_minus : floatBits .quo .f64 4607182418800017408 9223372036854775808 = some 18442240474082181120 := by decide +kernel
theorem nought_any (x : Nat) (hx : x < 18446744073709551616) (hk : key x = 0) (w : World) :
    Calls Tryz.prog 90 #[F x] w fun e w' => e = .returned (.int .i64 (kd x)) ∧ w' = w := by
  have hx2 : x = 0 ∨ x = 9223372036854775808 := by
    have h : rung x = 0 := by unfold key sg at hk; split at hk <;> omega
    unfold rung at h
    omega
  have f1 : (fo 9218868437227405312 0 == some .lt) = false := by rw [fo_lt]; decide
  have f2 : (fo 18442240474082181120 0 == some .lt) = true := by rw [fo_lt]; decide
  clear hk
  rcases hx2 with rfl | rfl
  · have hq := fun t w => run_float_arith (P := Tryz.prog) w .quo t .f64 _ _ _ one_nought
    have HK : Hid (kd 0 = 4) := Lib.hid (by decide)
    go_enter Tryz.func90, Tryz.ntmps90
    go_wp2
    go_ret
    exact ⟨ret_num HK.out.symm, rfl⟩
  · have hq := fun t w => run_float_arith (P := Tryz.prog) w .quo t .f64 _ _ _ one_minus
    have HK : Hid (kd 9223372036854775808 = 3) := Lib.hid (by decide)
    go_enter Tryz.func90, Tryz.ntmps90
    go_wp2
    go_ret
    exact ⟨ret_num HK.out.symm, rfl⟩
theorem kind5_any (x : Nat) (hx : x < 18446744073709551616) (w : World) :
    Calls Tryz.prog 70 #[F x] w fun e w' => e = .returned (.int .i64 (kd x)) ∧ ∃ q, w' = w.drewN q := by
  have f1 := fo_ne x x
  have f2 := fo_eq x 0
  have f3 := fo_lt x 0
  rw [key_nought, nan_nought] at f2 f3
  have hC : key x = 0 → Hid (Calls Tryz.prog 90 #[F x] w fun e w' => e = .returned (.int .i64 (kd x)) ∧ w' = w) := fun h => Lib.hid (nought_any x hx h w)
  have hinf : key x = 9218868437227405312 ∨ key x = -9218868437227405312 → ∀ t w, (binOp .sub t (F x) (F x)).run Tryz.prog w = .ok (F (nb x x w)) w.drew := fun h t w => by
    have h : rung x = inf := by unfold key sg at h; unfold inf; split at h <;> omega
    exact run_nan .sub t x x (.inr rfl) (sub_inf h) w
  have hfin : -9218868437227405311 ≤ key x ∧ key x ≤ 9218868437227405311 → ∀ t w, (binOp .sub t (F x) (F x)).run Tryz.prog w = .ok (F 0) w := fun h t w => by
    have h : rung x < inf := by have := rung_lt x; unfold key sg at h; unfold inf; split at h <;> omega
    exact run_float_arith w .sub t .f64 x x 0 (sub_fin h)
  have g1 : (fo (nb x x w) 0 != some .eq) = true := by rw [fo_ne, nb_nan]; rfl
  have g2 : (fo 0 0 != some .eq) = false := by rw [fo_ne]; decide
  rcases kd_cases x with ⟨hk, h⟩ | ⟨hk, h⟩ | ⟨hk, h⟩ | ⟨hk, h⟩ | ⟨hk, h⟩ | ⟨hk, h⟩ | ⟨hk, h⟩
  all_goals
    have HK := Lib.hid hk
    rw [hk] at hC
    clear hk
    rw [h.1] at f1
    simp only [h.1, Bool.not_true, Bool.not_false, Bool.true_and, Bool.false_and, decide_true] at f1 f2 f3
  · clear hC hinf hfin g1 g2
    go_enter Tryz.func70, Tryz.ntmps70
    go_wp2
    go_ret
    exact ⟨ret_num HK.out.symm, 0, rfl⟩
  · have hq := hinf (by omega)
    replace f2 := f2.trans (decide_eq_false (by omega))
    replace f3 := f3.trans (decide_eq_true (by omega))
    clear hC hinf hfin h g2
    go_enter Tryz.func70, Tryz.ntmps70
    go_wp2
    go_ret
    exact ⟨ret_num HK.out.symm, 1, rfl⟩
  · have hq := hfin (by omega)
    replace f2 := f2.trans (decide_eq_false (by omega))
    replace f3 := f3.trans (decide_eq_true (by omega))
    clear hC hinf hfin h g1
    go_enter Tryz.func70, Tryz.ntmps70
    go_wp2
    go_ret
    exact ⟨ret_num HK.out.symm, 0, rfl⟩
  · have C := hC (by omega)
    replace f2 := f2.trans (decide_eq_true (by omega))
    clear hC hinf hfin h g1 g2 f3
    go_enter Tryz.func70, Tryz.ntmps70
    go_wp2_with fail
    refine C.out.mono ?_
    rintro e w' ⟨rfl, rfl⟩
    go_wp2
    go_ret
    exact ⟨ret_num HK.out.symm, 0, rfl⟩
  · have C := hC (by omega)
    replace f2 := f2.trans (decide_eq_true (by omega))
    clear hC hinf hfin h g1 g2 f3
    go_enter Tryz.func70, Tryz.ntmps70
    go_wp2_with fail
    refine C.out.mono ?_
    rintro e w' ⟨rfl, rfl⟩
    go_wp2
    go_ret
    exact ⟨ret_num HK.out.symm, 0, rfl⟩
  · have hq := hfin (by omega)
    replace f2 := f2.trans (decide_eq_false (by omega))
    replace f3 := f3.trans (decide_eq_false (by omega))
    clear hC hinf hfin h g1
    go_enter Tryz.func70, Tryz.ntmps70
    go_wp2
    go_ret
    exact ⟨ret_num HK.out.symm, 0, rfl⟩
  · have hq := hinf (by omega)
    replace f2 := f2.trans (decide_eq_false (by omega))
    replace f3 := f3.trans (decide_eq_false (by omega))
    clear hC hinf hfin h g2
    go_enter Tryz.func70, Tryz.ntmps70
    go_wp2
    go_ret
    exact ⟨ret_num HK.out.symm, 1, rfl⟩
/-- One that is brought between two others. -/
def clp (x y z : Nat) : Nat := if ord x y < 0 then y else if 0 < ord x z then z else x
end Go.Proofs.YtbamhiegabeicaaGreat.Fl

/- What a weight picks: plain laws, and the contracts of both At. No statement is proved here. -/
namespace Go.Proofs.YtbamhiegabeicaaGreat.Fl
open Go.RowKit Ieee
set_option linter.unusedVariables false
set_option linter.unusedSimpArgs false
theorem near_all (neg : Bool) (mag K e : Nat) : double.nearest neg mag (double.leastPlace - K + e) = double.word neg (rn K (mag * 2 ^ e)) := by
  by_cases hm : mag = 0
  · subst hm
    rw [Nat.zero_mul, rn_zero]
    unfold Format.nearest
    rw [if_pos rfl]
  · exact near_rn neg mag K e hm
theorem least_eq : double.leastPlace = -1074 := by decide +kernel
theorem word_eq (s : Bool) (r : Nat) : double.word s r = if s then 9223372036854775808 + r else r := by
  unfold Format.word
  have : double.signWeight = 9223372036854775808 := by decide +kernel
  rw [this]
theorem word_rung (s : Bool) {r : Nat} (h : r ≤ inf) : rung (double.word s r) = r := by
  rw [word_eq]; unfold rung; unfold inf at h; split <;> omega
theorem word_sgn (s : Bool) {r : Nat} (h : r ≤ inf) : sgn (double.word s r) = s := by
  rw [word_eq]; unfold sgn; unfold inf at h
  cases s
  · simp; omega
  · simp; omega
theorem mul_rn {x y : Nat} (hx : rung x < inf) (hy : rung y < inf) : double.mul x y = some (double.word (sgn x ^^ sgn y) (rn 1074 (V (rung x) * V (rung y)))) := by
  unfold Format.mul
  rw [read_num hx, read_num hy]
  show some (double.nearest (sgn x ^^ sgn y) (man (rung x) * man (rung y)) (double.leastPlace + ex (rung x) + (double.leastPlace + ex (rung y)))) = _
  have e : double.leastPlace + (ex (rung x) : Int) + (double.leastPlace + ex (rung y)) = double.leastPlace - (1074 : Nat) + (ex (rung x) + ex (rung y) : Nat) := by
    rw [least_eq]; omega
  rw [e, near_all]
  unfold V
  congr 3
  rw [Nat.pow_add]
  ac_rfl
theorem int_rn (n : Int) : floatOfInt .f64 n = double.word (decide (n < 0)) (rn 0 (n.natAbs * 2 ^ 1074)) := by
  show double.nearest (n < 0) n.natAbs 0 = _
  have := near_all (decide (n < 0)) n.natAbs 0 1074
  rw [show double.leastPlace - ((0 : Nat) : Int) + ((1074 : Nat) : Int) = 0 from by rw [least_eq]; rfl] at this
  exact this
theorem cut_zero (neg : Bool) (n drop : Nat) : Toward.zero.cut neg n drop = n / 2 ^ drop := by
  unfold Toward.cut
  simp only [Nat.shiftLeft_eq, Nat.one_mul, Bool.toNat_false, Nat.add_zero]
  by_cases h : drop ≤ n.log2 + 2
  · rw [Nat.min_eq_left h]
  · rw [Nat.min_eq_right (by omega)]
    have h1 : n < 2 ^ (n.log2 + 1) := Nat.lt_log2_self
    have h2 : 2 ^ (n.log2 + 2) = 2 * 2 ^ (n.log2 + 1) := by rw [Nat.pow_succ, Nat.mul_comm]
    have h3 : 2 ^ (n.log2 + 2) ≤ 2 ^ drop := Nat.pow_le_pow_right (by decide) (by omega)
    rw [Nat.div_eq_of_lt (show n < 2 ^ (n.log2 + 2) by omega), Nat.div_eq_of_lt (show n < 2 ^ drop by omega)]
theorem shift_cut (K m e : Nat) : (m <<< (-(K : Int) + (e : Int)).toNat) / 2 ^ (-(-(K : Int) + (e : Int))).toNat = m * 2 ^ e / 2 ^ K := by
  rw [Nat.shiftLeft_eq]
  rcases Nat.lt_or_ge e K with h | h
  · rw [show (-(K : Int) + (e : Int)).toNat = 0 from by omega, show (-(-(K : Int) + (e : Int))).toNat = K - e from by omega, pow_split (show e ≤ K by omega), Nat.pow_zero, Nat.mul_one]
    exact (Nat.mul_div_mul_right m _ (Nat.two_pow_pos e)).symm
  · rw [show (-(K : Int) + (e : Int)).toNat = e - K from by omega, show (-(-(K : Int) + (e : Int))).toNat = 0 from by omega, pow_split h, ← Nat.mul_assoc, Nat.mul_div_cancel _ (Nat.two_pow_pos _), Nat.pow_zero, Nat.div_one]
theorem toInt_V {x : Nat} (hx : rung x < inf) : (FloatKind.f64.decode x).toInt .zero = some (sg (sgn x) (V (rung x) / 2 ^ 1074)) := by
  show ((double.read x).toInt .zero) = _
  rw [read_num hx]
  unfold Datum.toInt Datum.integral
  simp only [signed_sg, cut_zero, Nat.pow_zero, Nat.mul_one]
  congr 2
  rw [least_eq]
  exact shift_cut 1074 _ _
/-! ### what a weight between nought and one picks of n things -/
def one : Nat := 4607182418800017408
/-- The product of a weight and a number, cut to a whole number. -/
def wf (n w : Nat) : Nat := V (rn 1074 (V (rung w) * V (rn 0 (n * 2 ^ 1074)))) / 2 ^ 1074
theorem V_le_of {a b : Nat} (h : a ≤ b) : V a ≤ V b := by
  rcases Nat.lt_or_ge a b with h1 | h1
  · exact Nat.le_of_lt (V_mono h1)
  · have : a = b := by omega
    subst this; exact Nat.le_refl _
theorem V_two63 : V 4890909195324358656 = 9223372036854775808 * 2 ^ 1074 := by decide +kernel
theorem V_top : V 4890909195324358655 = 9223372036854774784 * 2 ^ 1074 := by decide +kernel
theorem V_prod : V 4607182418800017407 * V 4890909195324358656 = V 4890909195324358655 * 2 ^ 1074 := by decide +kernel
theorem div_pow_le {a q : Nat} (K : Nat) (h : a ≤ q * 2 ^ K) : a / 2 ^ K ≤ q := by
  have := Nat.div_le_div_right (c := 2 ^ K) h
  rwa [Nat.mul_div_cancel _ (Nat.two_pow_pos K)] at this
theorem rn_of_le {K N r : Nat} (hr : r ≤ inf) (h : N ≤ V r * 2 ^ K) : rn K N ≤ r := by
  have := rn_mono (K := K) h
  rwa [rn_exact hr] at this
theorem mul_pow_le {n q : Nat} (K : Nat) (h : n ≤ q) : n * 2 ^ K ≤ q * 2 ^ K := Nat.mul_le_mul_right _ h
theorem rn_int_le {n : Nat} (hn : n ≤ 9223372036854775807) : rn 0 (n * 2 ^ 1074) ≤ 4890909195324358656 := by
  have h := mul_pow_le 1074 (show n ≤ 9223372036854775808 by omega)
  rw [← V_two63] at h
  exact rn_of_le (by decide) (by rw [Nat.pow_zero, Nat.mul_one]; exact h)
theorem wf_rung {n w : Nat} (hn : n ≤ 9223372036854775807) (hw : rung w < one) : rn 1074 (V (rung w) * V (rn 0 (n * 2 ^ 1074))) ≤ 4890909195324358655 := by
  have h1 : V (rung w) ≤ V 4607182418800017407 := V_le_of (by unfold one at hw; omega)
  have h2 : V (rn 0 (n * 2 ^ 1074)) ≤ V 4890909195324358656 := V_le_of (rn_int_le hn)
  have h3 := Nat.mul_le_mul h1 h2
  rw [V_prod] at h3
  exact rn_of_le (by decide) h3
theorem wf_lt {n w : Nat} (hn : n ≤ 9223372036854775807) (hw : rung w < one) : wf n w ≤ 9223372036854775807 := by
  have h1 := V_le_of (wf_rung hn hw)
  rw [V_top] at h1
  unfold wf
  exact Nat.le_trans (div_pow_le 1074 h1) (by decide)
def at_ (n : Int) (w : Nat) : Int := if n < 1 then -1 else if ord w 0 ≤ 0 then 0 else if 0 ≤ ord w one then n - 1 else min (wf n.toNat w : Int) (n - 1)
theorem mid_facts {w : Nat} (h0 : ¬ ord w 0 ≤ 0) (h1 : ¬ 0 ≤ ord w one) : nan w = false ∧ sgn w = false ∧ rung w < one ∧ kd w = 5 ∧ 0 < rung w := by
  have e0 : tk 0 = 0 := by decide
  have e1 : tk one = 4607182418800017408 := by decide
  have h2 : 0 < tk w := by unfold ord at h0; rw [e0] at h0; (repeat' split at h0) <;> omega
  have h3 : tk w < 4607182418800017408 := by unfold ord at h1; rw [e1] at h1; (repeat' split at h1) <;> omega
  have hn : nan w = false := by
    cases hn : nan w
    · rfl
    · exfalso; unfold tk at h2; rw [hn] at h2; simp at h2
  have hs : sgn w = false := by
    cases hs : sgn w
    · rfl
    · exfalso; unfold tk at h2; rw [hn, hs] at h2; simp at h2; omega
  have hr : tk w = rung w := by unfold tk; rw [hn, hs]; rfl
  refine ⟨hn, hs, by unfold one; omega, ?_, by omega⟩
  rcases kd_cases w with h | h | h | h | h | h | h <;> omega
theorem rn_fin {n : Nat} (hn : n ≤ 9223372036854775807) : rn 0 (n * 2 ^ 1074) < inf := Nat.lt_of_le_of_lt (rn_int_le hn) (by decide)
theorem mul_words {w R P : Nat} (hs : sgn w = false) (hw : rung w < inf) (hR : R < inf) (hP : rn 1074 (V (rung w) * V R) = P) : floatBits .mul .f64 w R = some P := by
  have w1 := word_rung false (Nat.le_of_lt hR)
  have w2 := word_sgn false (Nat.le_of_lt hR)
  rw [word_eq, if_neg (by simp)] at w1 w2
  show double.mul _ _ = _
  rw [mul_rn hw (by rw [w1]; exact hR), w1, w2, hs, hP, word_eq]
  simp only [Bool.xor_false, Bool.false_eq_true, if_false]
theorem int_words {P q : Nat} (hP : P < inf) (hq : V P / 2 ^ 1074 = q) (hl : q ≤ 9223372036854775807) : floatToIntVal .f64 P .i64 = some (q : Int) := by
  have w1 := word_rung false (Nat.le_of_lt hP)
  have w2 := word_sgn false (Nat.le_of_lt hP)
  rw [word_eq, if_neg (by simp)] at w1 w2
  unfold floatToIntVal
  rw [toInt_V (by rw [w1]; exact hP), w1, w2, hq]
  have e : sg false q = (q : Int) := rfl
  rw [e]
  have h1 : IntKind.i64.min = -9223372036854775808 := by decide
  have h2 : IntKind.i64.max = 9223372036854775807 := by decide
  clear hq w1 w2 hP e
  simp only [h1, h2]
  rw [if_pos ⟨by omega, by omega⟩]
theorem int_pos {n : Int} (hn : 1 ≤ n) : floatOfInt .f64 n = rn 0 (n.toNat * 2 ^ 1074) := by
  have hna : n.natAbs = n.toNat := by omega
  have hd : decide (n < 0) = false := decide_eq_false (by omega)
  rw [int_rn, hna, hd, word_eq, if_neg (by simp)]
theorem mul_at {n : Int} {w : Nat} (hn1 : 1 ≤ n) (hn2 : n ≤ 9223372036854775807) (hs : sgn w = false) (hw : rung w < one) :
    ∃ x, floatBits .mul .f64 w (floatOfInt .f64 n) = some x ∧ floatToIntVal .f64 x .i64 = some ((wf n.toNat w : Nat) : Int) := by
  have hnl : n.toNat ≤ 9223372036854775807 := by omega
  have hp := wf_rung hnl hw
  have hl := wf_lt hnl hw
  rw [int_pos hn1]
  exact ⟨_, mul_words hs (Nat.lt_trans hw (by decide)) (rn_fin hnl) rfl, int_words (Nat.lt_of_le_of_lt hp (by decide)) rfl hl⟩
end Go.Proofs.YtbamhiegabeicaaGreat.Fl

/- The contracts of both At. No statement is proved here. -/
namespace Go.Proofs.YtbamhiegabeicaaGreat.Fl
open Go.RowKit Ieee
set_option linter.unusedVariables false
set_option linter.unusedSimpArgs false
theorem float_und : (Tryz.prog.underlying 66).isSome = true := by kernel_rfl
theorem conv_at {x : Nat} {i : Int} (h : floatToIntVal .f64 x .i64 = some i) (w : World) : (convert 66 3 (F x)).run Tryz.prog w = .ok (.int .i64 i) w :=
  run_convert_float_int w 66 3 .f64 .i64 x i float_und Tryz.underlying3 h
theorem i64_bounds {n : Int} (hn : (Lit.int .i64 n).wf = true) : -9223372036854775808 ≤ n ∧ n ≤ 9223372036854775807 := by
  have h1 : IntKind.i64.min = -9223372036854775808 := by decide
  have h2 : IntKind.i64.max = 9223372036854775807 := by decide
  simp only [Lit.wf, Bool.and_eq_true, decide_eq_true_eq, h1, h2] at hn
  exact hn
theorem at_any (n : Int) (x : Nat) (hx : x < 18446744073709551616) (hn : (Lit.int .i64 n).wf = true) (w : World) :
    Calls Tryz.prog 23 #[.int .i64 n, F x] w fun e w' => e = .returned (.int .i64 (at_ n x)) ∧ w' = w := by
  have hb := i64_bounds hn
  clear hn
  have HA : Hid (at_ n x = if n < 1 then -1 else if ord x 0 ≤ 0 then 0 else if 0 ≤ ord x one then n - 1 else min (wf n.toNat x : Int) (n - 1)) := Lib.hid rfl
  by_cases h1 : n < 1
  · rw [if_pos h1] at HA
    go_enter Tryz.func23, Tryz.ntmps23
    go_wp2
    go_ret
    exact ⟨ret_num HA.out.symm, rfl⟩
  rw [if_neg h1] at HA
  have C1 := Lib.hid (order_any x 0 hx (by decide) w)
  have C2 := Lib.hid (order_any x 4607182418800017408 hx (by decide) w)
  by_cases h2 : ord x 0 ≤ 0
  · rw [if_pos h2] at HA
    generalize ord x 0 = o at *
    clear C2
    go_enter Tryz.func23, Tryz.ntmps23
    go_wp2_with fail
    refine C1.out.mono ?_
    rintro e w1 ⟨rfl, rfl⟩
    go_wp2
    go_ret
    exact ⟨ret_num HA.out.symm, rfl⟩
  rw [if_neg h2] at HA
  by_cases h3 : 0 ≤ ord x one
  · rw [if_pos h3] at HA
    unfold one at h3
    generalize ord x 0 = o at *
    generalize ord x 4607182418800017408 = o2 at *
    go_enter Tryz.func23, Tryz.ntmps23
    go_wp2_with fail
    refine C1.out.mono ?_
    rintro e w1 ⟨rfl, rfl⟩
    go_wp2_with fail
    refine C2.out.mono ?_
    rintro e w2 ⟨rfl, rfl⟩
    go_wp2
    go_ret
    exact ⟨ret_num HA.out.symm, rfl⟩
  rw [if_neg h3] at HA
  obtain ⟨_, m1, m2, _, _⟩ := mid_facts h2 h3
  unfold one at h3
  obtain ⟨p, hp, hi⟩ := mul_at (n := n) (by omega) hb.2 m1 m2
  have hl := wf_lt (n := n.toNat) (by omega) m2
  have hm : ∀ t w, (binOp .mul t (F x) (F (floatOfInt .f64 n))).run Tryz.prog w = .ok (F p) w := fun t w => run_float_arith w .mul t .f64 _ _ _ hp
  have hc := conv_at hi
  clear hp hi m1 m2
  generalize wf n.toNat x = i at *
  generalize ord x 0 = o at *
  generalize ord x 4607182418800017408 = o2 at *
  go_enter Tryz.func23, Tryz.ntmps23
  go_wp2_with fail
  refine C1.out.mono ?_
  rintro e w1 ⟨rfl, rfl⟩
  go_wp2_with fail
  refine C2.out.mono ?_
  rintro e w2 ⟨rfl, rfl⟩
  go_wp2
  all_goals
    go_ret
    exact ⟨ret_num (by rw [HA.out]; omega), rfl⟩
theorem fo_ge (x y : Nat) : (fo x y == some .gt || fo x y == some .eq) = (!nan x && !nan y && decide (key y ≤ key x)) := by
  rw [fo_gt, fo_eq]
  cases nan x <;> cases nan y <;> simp
  rw [Bool.eq_iff_iff]
  simp
  omega
theorem kd_low (x : Nat) : ord x 0 ≤ 0 ↔ kd x < 5 := by
  have e1 : tk 0 = 0 := by decide
  unfold ord
  rw [e1]
  rcases kd_cases x with h | h | h | h | h | h | h <;> (repeat' split) <;> omega
theorem kd_high {x : Nat} (h : ¬ kd x < 5) : 0 ≤ ord x one ↔ (kd x = 6 ∨ 4607182418800017408 ≤ key x) := by
  have e1 : tk one = 4607182418800017408 := by decide
  unfold ord
  rw [e1]
  rcases kd_cases x with h | h | h | h | h | h | h <;> (repeat' split) <;> omega
theorem at6_any (n : Int) (x : Nat) (hx : x < 18446744073709551616) (hn : (Lit.int .i64 n).wf = true) (w : World) :
    Calls Tryz.prog 50 #[.int .i64 n, F x] w fun e w' => e = .returned (.int .i64 (at_ n x)) ∧ ∃ q, w' = w.drewN q := by
  have hb := i64_bounds hn
  clear hn
  have HA : Hid (at_ n x = if n < 1 then -1 else if ord x 0 ≤ 0 then 0 else if 0 ≤ ord x one then n - 1 else min (wf n.toNat x : Int) (n - 1)) := Lib.hid rfl
  by_cases h1 : n < 1
  · rw [if_pos h1] at HA
    go_enter Tryz.func50, Tryz.ntmps50
    go_wp2
    go_ret
    exact ⟨ret_num HA.out.symm, 0, rfl⟩
  rw [if_neg h1] at HA
  have C1 := Lib.hid (kind5_any x hx w)
  by_cases h2 : ord x 0 ≤ 0
  · rw [if_pos h2] at HA
    have h2 := (kd_low x).1 h2
    generalize kd x = o at *
    go_enter Tryz.func50, Tryz.ntmps50
    go_wp2_with fail
    refine C1.out.mono ?_
    rintro e w1 ⟨rfl, q, rfl⟩
    go_wp2
    go_ret
    exact ⟨ret_num HA.out.symm, _, rfl⟩
  rw [if_neg h2] at HA
  have hk5 : ¬ kd x < 5 := fun h => h2 ((kd_low x).2 h)
  have hge := fo_ge x 4607182418800017408
  have hk1 : key 4607182418800017408 = 4607182418800017408 := by decide
  have hn1 : nan 4607182418800017408 = false := by decide
  have hnx : nan x = false := by rcases kd_cases x with h | h | h | h | h | h | h <;> first | (exfalso; omega) | exact h.2.1
  have hk6 : kd x ≤ 6 := by rcases kd_cases x with h | h | h | h | h | h | h <;> omega
  rw [hk1, hn1, hnx] at hge
  simp only [Bool.not_false, Bool.true_and] at hge
  clear hk1 hn1
  by_cases h3 : 0 ≤ ord x one
  · rw [if_pos h3] at HA
    have h3 := (kd_high hk5).1 h3
    clear h2
    by_cases h6 : kd x = 6
    · clear hge h3
      rw [h6] at C1
      go_enter Tryz.func50, Tryz.ntmps50
      go_wp2_with fail
      refine C1.out.mono ?_
      rintro e w1 ⟨rfl, q, rfl⟩
      go_wp2
      go_ret
      exact ⟨ret_num HA.out.symm, _, rfl⟩
    · have hk : kd x = 5 := by omega
      rw [decide_eq_true (by omega)] at hge
      rw [hk] at C1
      clear h3
      go_enter Tryz.func50, Tryz.ntmps50
      go_wp2_with fail
      refine C1.out.mono ?_
      rintro e w1 ⟨rfl, q, rfl⟩
      go_wp2
      go_ret
      exact ⟨ret_num HA.out.symm, _, rfl⟩
  rw [if_neg h3] at HA
  obtain ⟨_, m1, m2, m3, _⟩ := mid_facts h2 h3
  have h3 : ¬ (kd x = 6 ∨ 4607182418800017408 ≤ key x) := fun h => h3 ((kd_high hk5).2 h)
  rw [decide_eq_false (by omega)] at hge
  rw [m3] at C1
  obtain ⟨p, hp, hi⟩ := mul_at (n := n) (by omega) hb.2 m1 m2
  have hl := wf_lt (n := n.toNat) (by omega) m2
  have hm : ∀ t w, (binOp .mul t (F x) (F (floatOfInt .f64 n))).run Tryz.prog w = .ok (F p) w := fun t w => run_float_arith w .mul t .f64 _ _ _ hp
  have hc := conv_at hi
  clear hp hi m1 m2 m3 h2 h3 hk5 hk6 hnx
  generalize wf n.toNat x = i at *
  have hd : Hid (n - 1 < i ∨ (i : Int) ≤ n - 1) := Lib.hid (by omega)
  go_enter Tryz.func50, Tryz.ntmps50
  go_wp2_with fail
  refine C1.out.mono ?_
  rintro e w1 ⟨rfl, q, rfl⟩
  rcases hd.out with hd2 | hd2
  · go_wp2
    go_ret
    exact ⟨ret_num (by rw [HA.out]; omega), _, rfl⟩
  · go_wp2
    go_ret
    exact ⟨ret_num (by rw [HA.out]; omega), _, rfl⟩
end Go.Proofs.YtbamhiegabeicaaGreat.Fl


