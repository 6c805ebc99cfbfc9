/- Floating numbers of 64 bits: their order is that of a whole number of each. Plain laws. No statement is proved here. -/
import Ieee.Arith
namespace Go.Proofs.Ythgncnpemnlodaa.Fl
open Ieee
def inf : Nat := 9218868437227405312
def rung (x : Nat) : Nat := x % 9223372036854775808
def sgn (x : Nat) : Bool := x / 9223372036854775808 % 2 == 1
def nan (x : Nat) : Bool := decide (inf < rung x)
def sg (s : Bool) (n : Nat) : Int := if s then -(n : Int) else n
def key (x : Nat) : Int := sg (sgn x) (rung x)
def B : Nat := 4503599627370496
def man (r : Nat) : Nat := if r < B then r else B + r % B
def ex (r : Nat) : Nat := if r < B then 0 else r / B - 1
def V (r : Nat) : Nat := man r * 2 ^ ex r
theorem V_lo {r : Nat} (h : r < B) : V r = r := by unfold V man ex; rw [if_pos h, if_pos h]; simp
theorem V_hi {r : Nat} (h : ¬ r < B) : V r = (B + r % B) * 2 ^ (r / B - 1) := by unfold V man ex; rw [if_neg h, if_neg h]
theorem V_ge {r : Nat} (h : ¬ r < B) : B * 2 ^ (r / B - 1) ≤ V r := by rw [V_hi h]; exact Nat.mul_le_mul_right _ (Nat.le_add_right _ _)
theorem V_lt {r : Nat} (h : ¬ r < B) : V r < B * 2 ^ (r / B) := by
  have hq : 1 ≤ r / B := (Nat.le_div_iff_mul_le (by decide)).2 (by omega)
  have : 2 ^ (r / B) = 2 * 2 ^ (r / B - 1) := by rw [← Nat.pow_succ']; congr 1; omega
  rw [V_hi h, this, ← Nat.mul_assoc]
  refine Nat.mul_lt_mul_of_pos_right ?_ (Nat.two_pow_pos _)
  have : r % B < B := Nat.mod_lt _ (by decide)
  omega
theorem V_mono {r t : Nat} (h : r < t) : V r < V t := by
  by_cases h1 : r < B
  · rw [V_lo h1]
    by_cases h2 : t < B
    · rw [V_lo h2]; exact h
    · have := V_ge h2
      have h3 : B * 1 ≤ B * 2 ^ (t / B - 1) := Nat.mul_le_mul_left _ (Nat.two_pow_pos _)
      omega
  · have h2 : ¬ t < B := by omega
    have hle : r / B ≤ t / B := Nat.div_le_div_right (by omega)
    by_cases he : r / B = t / B
    · rw [V_hi h1, V_hi h2, he]
      refine Nat.mul_lt_mul_of_pos_right ?_ (Nat.two_pow_pos _)
      have h3 := Nat.div_add_mod r B
      have h4 := Nat.div_add_mod t B
      rw [he] at h3
      omega
    · refine Nat.lt_of_lt_of_le (V_lt h1) (Nat.le_trans (Nat.mul_le_mul_left _ (Nat.pow_le_pow_right (by decide) ?_)) (V_ge h2))
      omega
theorem read_num {x : Nat} (h : rung x < inf) : double.read x = .number (sgn x) (man (rung x)) (double.leastPlace + ex (rung x)) := by
  unfold Format.read
  have e1 : double.signWeight = 9223372036854775808 := by decide
  have e2 : double.binade = B := by decide
  have e3 : double.infRung = inf := by decide +kernel
  simp only [e1, e2, e3]
  show (if rung x < B then _ else _) = _
  unfold man ex
  by_cases h1 : rung x < B
  · rw [if_pos h1, if_pos h1, if_pos h1]
    show Datum.number (sgn x) (rung x) _ = _
    congr 1
  · rw [if_neg h1, if_neg h1, if_neg h1]
    show (if rung x < inf then _ else _) = _
    rw [if_pos h]
    rfl
theorem read_inf {x : Nat} (h : rung x = inf) : double.read x = .infinity (sgn x) := by
  unfold Format.read
  have e1 : double.signWeight = 9223372036854775808 := by decide
  have e2 : double.binade = B := by decide
  have e3 : double.infRung = inf := by decide +kernel
  simp only [e1, e2, e3]
  show (if rung x < B then _ else if rung x < inf then _ else if rung x = inf then _ else _) = _
  rw [if_neg (by rw [h]; decide), if_neg (by omega), if_pos h]
  rfl
theorem read_nan {x : Nat} (h : nan x = true) : ∃ s f, double.read x = .nan s f := by
  have h : inf < rung x := of_decide_eq_true h
  unfold Format.read
  have e1 : double.signWeight = 9223372036854775808 := by decide
  have e2 : double.binade = B := by decide
  have e3 : double.infRung = inf := by decide +kernel
  simp only [e1, e2, e3]
  show ∃ s f, (if rung x < B then _ else if rung x < inf then _ else if rung x = inf then _ else _) = _
  have hB : B < inf := by decide
  rw [if_neg (by omega), if_neg (by omega), if_neg (by omega)]
  exact ⟨_, _, rfl⟩
theorem order_nan {x y : Nat} (h : nan x = true ∨ nan y = true) : double.order x y = none := by
  unfold Format.order
  rcases h with h | h
  · obtain ⟨s, f, e⟩ := read_nan h
    rw [e]; rfl
  · obtain ⟨s, f, e⟩ := read_nan h
    rw [e]
    cases double.read x <;> rfl
theorem cmp_same {a b c d : Int} (h1 : a < b ↔ c < d) (h2 : a = b ↔ c = d) : compare a b = compare c d := by
  simp only [compare, compareOfLessAndEq, h1, h2]
theorem sg_cmp (s t : Bool) (a b a' b' : Nat) (h1 : a < b ↔ a' < b') (h2 : b < a ↔ b' < a') (ha : a = 0 ↔ a' = 0) (hb : b = 0 ↔ b' = 0) : compare (sg s a) (sg t b) = compare (sg s a') (sg t b') := by
  unfold sg
  refine cmp_same ?_ ?_ <;> cases s <;> cases t <;> simp only [Bool.false_eq_true, if_false, if_true] <;> omega
theorem V_iff (r t : Nat) : V r < V t ↔ r < t := by
  constructor
  · intro h
    refine Classical.byContradiction fun h1 => ?_
    rcases Nat.lt_or_ge t r with h2 | h2
    · have := V_mono h2; omega
    · have : r = t := by omega
      subst this; omega
  · exact V_mono
theorem V_zero (r : Nat) : V r = 0 ↔ r = 0 := by
  have h0 : V 0 = 0 := V_lo (by decide)
  constructor
  · intro h
    refine Classical.byContradiction fun h1 => ?_
    have := V_mono (show 0 < r by omega)
    omega
  · intro h; rw [h, h0]
theorem signed_sg (s : Bool) (m k : Nat) : signed s m k = sg s (m * 2 ^ k) := by
  unfold signed sg
  rw [Nat.shiftLeft_eq]
theorem order_num (s t : Bool) (r q : Nat) (L : Int) : (Datum.number s (man r) (L + ex r)).order (.number t (man q) (L + ex q)) = some (compare (sg s r) (sg t q)) := by
  unfold Datum.order
  simp only [signed_sg]
  congr 1
  have e1 : (L + (ex r : Int) - min (L + (ex r : Int)) (L + (ex q : Int))).toNat = ex r - min (ex r) (ex q) := by omega
  have e2 : (L + (ex q : Int) - min (L + (ex r : Int)) (L + (ex q : Int))).toNat = ex q - min (ex r) (ex q) := by omega
  rw [e1, e2]
  have p := Nat.two_pow_pos (min (ex r) (ex q))
  have v1 : man r * 2 ^ (ex r - min (ex r) (ex q)) * 2 ^ min (ex r) (ex q) = V r := by
    rw [Nat.mul_assoc, ← Nat.pow_add]; unfold V; congr 2; omega
  have v2 : man q * 2 ^ (ex q - min (ex r) (ex q)) * 2 ^ min (ex r) (ex q) = V q := by
    rw [Nat.mul_assoc, ← Nat.pow_add]; unfold V; congr 2; omega
  generalize man r * 2 ^ (ex r - min (ex r) (ex q)) = x at *
  generalize man q * 2 ^ (ex q - min (ex r) (ex q)) = y at *
  generalize 2 ^ min (ex r) (ex q) = z at *
  refine sg_cmp s t x y r q ?_ ?_ ?_ ?_
  · rw [← V_iff r q, ← v1, ← v2]; exact (Nat.mul_lt_mul_right p).symm
  · rw [← V_iff q r, ← v1, ← v2]; exact (Nat.mul_lt_mul_right p).symm
  · rw [← V_zero r, ← v1, Nat.mul_eq_zero]; omega
  · rw [← V_zero q, ← v2, Nat.mul_eq_zero]; omega
theorem order_key {x y : Nat} (hx : nan x = false) (hy : nan y = false) : double.order x y = some (compare (key x) (key y)) := by
  have hx : ¬ inf < rung x := of_decide_eq_false hx
  have hy : ¬ inf < rung y := of_decide_eq_false hy
  unfold Format.order key
  by_cases h1 : rung x = inf <;> by_cases h2 : rung y = inf
  · rw [read_inf h1, read_inf h2, h1, h2]
    cases sgn x <;> cases sgn y <;> decide +kernel
  · rw [read_inf h1, read_num (by omega), h1]
    show some (if sgn x then Ordering.lt else Ordering.gt) = _
    congr 1
    have : rung y < inf := by omega
    have hi : (0 : Int) < inf := by decide
    generalize rung y = r at *
    generalize inf = i at *
    unfold sg
    simp only [compare, compareOfLessAndEq]
    cases sgn x <;> cases sgn y <;> simp only [Bool.false_eq_true, if_false, if_true] <;> (repeat' split) <;> first | rfl | (exfalso; omega)
  · rw [read_inf h2, read_num (by omega), h2]
    show some (if sgn y then Ordering.gt else Ordering.lt) = _
    congr 1
    have : rung x < inf := by omega
    have hi : (0 : Int) < inf := by decide
    generalize rung x = r at *
    generalize inf = i at *
    unfold sg
    simp only [compare, compareOfLessAndEq]
    cases sgn x <;> cases sgn y <;> simp only [Bool.false_eq_true, if_false, if_true] <;> (repeat' split) <;> first | rfl | (exfalso; omega)
  · rw [read_num (by omega), read_num (by omega)]
    exact order_num _ _ _ _ _
/-! ### what a walk asks -/
theorem is_eq (x y : Nat) : (double.order x y == some .eq) = (!nan x && !nan y && decide (key x = key y)) := by
  cases hx : nan x
  · cases hy : nan y
    · rw [order_key hx hy]
      simp only [compare, compareOfLessAndEq]
      by_cases h : key x < key y
      · rw [if_pos h]; simp; omega
      · rw [if_neg h]; by_cases h2 : key x = key y <;> simp [h2]
    · rw [order_nan (.inr hy)]; rfl
  · rw [order_nan (.inl hx)]; rfl
theorem is_lt (x y : Nat) : (double.order x y == some .lt) = (!nan x && !nan y && decide (key x < key y)) := by
  cases hx : nan x
  · cases hy : nan y
    · rw [order_key hx hy]
      simp only [compare, compareOfLessAndEq]
      by_cases h : key x < key y
      · rw [if_pos h]; simp [h]
      · rw [if_neg h]; by_cases h2 : key x = key y <;> simp [h2]; omega
    · rw [order_nan (.inr hy)]; rfl
  · rw [order_nan (.inl hx)]; rfl
theorem is_gt (x y : Nat) : (double.order x y == some .gt) = (!nan x && !nan y && decide (key y < key x)) := by
  cases hx : nan x
  · cases hy : nan y
    · rw [order_key hx hy]
      simp only [compare, compareOfLessAndEq]
      by_cases h : key x < key y
      · rw [if_pos h]; simp; omega
      · rw [if_neg h]; by_cases h2 : key x = key y <;> simp [h2]; omega
    · rw [order_nan (.inr hy)]; rfl
  · rw [order_nan (.inl hx)]; rfl
/-! ### kinds, and the one order of all words -/
def top : Int := 9218868437227405311
def kd (x : Nat) : Int := if nan x then 0 else if top < key x then 6 else if key x < -top then 1 else if key x < 0 then 2 else if 0 < key x then 5 else if sgn x then 3 else 4
def tk (x : Nat) : Int := if nan x then -36893488147419103232 else if sgn x then -1 - rung x else rung x
def ord (a b : Nat) : Int := if tk a < tk b then -1 else if tk b < tk a then 1 else 0
theorem rung_lt (x : Nat) : rung x < 9223372036854775808 := Nat.mod_lt _ (by decide)
theorem kd_cases (x : Nat) : (kd x = 0 ∧ nan x = true ∧ tk x = -36893488147419103232) ∨ (kd x = 1 ∧ nan x = false ∧ key x = -9218868437227405312 ∧ tk x = -9218868437227405313) ∨
    (kd x = 2 ∧ nan x = false ∧ key x < 0 ∧ -9218868437227405311 ≤ key x ∧ tk x = key x - 1) ∨ (kd x = 3 ∧ nan x = false ∧ sgn x = true ∧ key x = 0 ∧ tk x = -1) ∨ (kd x = 4 ∧ nan x = false ∧ sgn x = false ∧ key x = 0 ∧ tk x = 0) ∨
    (kd x = 5 ∧ nan x = false ∧ 0 < key x ∧ key x ≤ 9218868437227405311 ∧ tk x = key x) ∨ (kd x = 6 ∧ nan x = false ∧ key x = 9218868437227405312 ∧ tk x = 9218868437227405312) := by
  unfold kd tk key sg top
  have ia : nan x = decide (inf < rung x) := rfl
  unfold inf at ia
  cases h1 : nan x <;> cases h3 : sgn x <;> simp only [h1, h3, Bool.false_eq_true, if_false, if_true] at * <;> simp at ia <;> (repeat' split) <;> simp <;> omega
theorem ord_kd (a b : Nat) : ord a b = if kd a < kd b then -1 else if kd b < kd a then 1 else if (kd a ≠ 2 ∧ kd a ≠ 5) ∨ key a = key b then 0 else if key a < key b then -1 else 1 := by
  unfold ord
  rcases kd_cases a with h | h | h | h | h | h | h <;> rcases kd_cases b with g | g | g | g | g | g | g <;> (repeat' split) <;> omega
theorem ord_self (a : Nat) : ord a a = 0 := by unfold ord; simp
theorem ord_back (a b : Nat) : ord a b = -ord b a := by unfold ord; (repeat' split) <;> omega
theorem ord_trans {a b c : Nat} (h1 : ord a b ≤ 0) (h2 : ord b c ≤ 0) : ord a c ≤ 0 := by unfold ord at *; (repeat' split at h1) <;> (repeat' split at h2) <;> (repeat' split) <;> omega
theorem ord_lt1 {a b c : Nat} (h1 : ord a b ≤ 0) (h2 : ord b c < 0) : ord a c < 0 := by unfold ord at *; (repeat' split at h1) <;> (repeat' split at h2) <;> (repeat' split) <;> omega
/-- The bits as they are told. -/
def bts (x : Nat) : Nat := if nan x then 9221120237041090560 else x
theorem ord_bts {a b : Nat} (ha : a < 18446744073709551616) (hb : b < 18446744073709551616) : ord a b = 0 ↔ bts a = bts b := by
  have e : ord a b = 0 ↔ tk a = tk b := by unfold ord; (repeat' split) <;> omega
  rw [e]
  unfold tk bts
  have la := rung_lt a
  have lb := rung_lt b
  have ia : nan a = decide (inf < rung a) := rfl
  have ib : nan b = decide (inf < rung b) := rfl
  have sa : sgn a = (a / 9223372036854775808 % 2 == 1) := rfl
  have sb : sgn b = (b / 9223372036854775808 % 2 == 1) := rfl
  have ra : rung a = a % 9223372036854775808 := rfl
  have rb : rung b = b % 9223372036854775808 := rfl
  unfold inf at ia ib
  cases h1 : nan a <;> cases h2 : nan b <;> cases h3 : sgn a <;> cases h4 : sgn b <;> simp only [h1, h2, h3, h4, Bool.false_eq_true, if_false, if_true, ra, rb] at * <;> simp at ia ib sa sb <;> omega
end Go.Proofs.Ythgncnpemnlodaa.Fl
