/- Contracts of the reference's Kind, Order, Same, Clamp, and real.Clamp. No statement is proved here. -/
import Derived.Test.YthgncnpemnlodaaRe2
namespace Go.Proofs.Ythgncnpemnlodaa.Fl
open Go.RowKit
set_option linter.unusedVariables false
set_option linter.unusedSimpArgs false
theorem sub_inf {x : Nat} (h : rung x = inf) : floatBits .sub .f64 x x = none := by
  show (((Ieee.double.read x).sum (Ieee.double.read x).opposite).map Ieee.double.write) = none
  rw [read_inf h]
  cases sgn x <;> rfl
theorem sub_fin {x : Nat} (h : rung x < inf) : floatBits .sub .f64 x x = some 0 := by
  show (((Ieee.double.read x).sum (Ieee.double.read x).opposite).map Ieee.double.write) = some 0
  rw [read_num h]
  generalize man (rung x) = m
  generalize Ieee.double.leastPlace + (ex (rung x) : Int) = i
  have h0 : ∀ (s : Bool) (k : Nat), Ieee.signed s m k + Ieee.signed (!s) m k = 0 := by
    intro s k
    cases s <;> simp [Ieee.signed] <;> omega
  simp only [Ieee.Datum.sum, Ieee.Datum.opposite, Option.map_some, h0]
  cases sgn x <;> simp <;> rfl
theorem one_nought : floatBits .quo .f64 4607182418800017408 0 = some 9218868437227405312 := by decide +kernel
theorem one_minus : floatBits .quo .f64 4607182418800017408 9223372036854775808 = some 18442240474082181120 := by decide +kernel
theorem nought_any (x : Nat) (hx : x < 18446744073709551616) (hk : key x = 0) (w : World) :
    Calls Try.prog 38 #[F x] w fun e w' => e = .returned (.int .i64 (kd x)) ∧ w' = w := by
  have hx2 : x = 0 ∨ x = 9223372036854775808 := by
    have h : rung x = 0 := by unfold key sg at hk; split at hk <;> omega
    unfold rung at h
    omega
  have f1 : (fo 9218868437227405312 0 == some .lt) = false := by rw [fo_lt]; decide
  have f2 : (fo 18442240474082181120 0 == some .lt) = true := by rw [fo_lt]; decide
  clear hk
  rcases hx2 with rfl | rfl
  · have hq := fun t w => run_float_arith (P := Try.prog) w .quo t .f64 _ _ _ one_nought
    have HK : Hid (kd 0 = 4) := Lib.hid (by decide)
    go_enter Try.func38, Try.ntmps38
    go_wp2
    go_ret
    exact ⟨ret_num HK.out.symm, rfl⟩
  · have hq := fun t w => run_float_arith (P := Try.prog) w .quo t .f64 _ _ _ one_minus
    have HK : Hid (kd 9223372036854775808 = 3) := Lib.hid (by decide)
    go_enter Try.func38, Try.ntmps38
    go_wp2
    go_ret
    exact ⟨ret_num HK.out.symm, rfl⟩
theorem kind5_any (x : Nat) (hx : x < 18446744073709551616) (w : World) :
    Calls Try.prog 20 #[F x] w fun e w' => e = .returned (.int .i64 (kd x)) ∧ ∃ q, w' = w.drewN q := by
  have f1 := fo_ne x x
  have f2 := fo_eq x 0
  have f3 := fo_lt x 0
  rw [key_nought, nan_nought] at f2 f3
  have hC : key x = 0 → Hid (Calls Try.prog 38 #[F x] w fun e w' => e = .returned (.int .i64 (kd x)) ∧ w' = w) := fun h => Lib.hid (nought_any x hx h w)
  have hinf : key x = 9218868437227405312 ∨ key x = -9218868437227405312 → ∀ t w, (binOp .sub t (F x) (F x)).run Try.prog w = .ok (F (nb x x w)) w.drew := fun h t w => by
    have h : rung x = inf := by unfold key sg at h; unfold inf; split at h <;> omega
    exact run_nan .sub t x x (.inr rfl) (sub_inf h) w
  have hfin : -9218868437227405311 ≤ key x ∧ key x ≤ 9218868437227405311 → ∀ t w, (binOp .sub t (F x) (F x)).run Try.prog w = .ok (F 0) w := fun h t w => by
    have h : rung x < inf := by have := rung_lt x; unfold key sg at h; unfold inf; split at h <;> omega
    exact run_float_arith w .sub t .f64 x x 0 (sub_fin h)
  have g1 : (fo (nb x x w) 0 != some .eq) = true := by rw [fo_ne, nb_nan]; rfl
  have g2 : (fo 0 0 != some .eq) = false := by rw [fo_ne]; decide
  rcases kd_cases x with ⟨hk, h⟩ | ⟨hk, h⟩ | ⟨hk, h⟩ | ⟨hk, h⟩ | ⟨hk, h⟩ | ⟨hk, h⟩ | ⟨hk, h⟩
  all_goals
    have HK := Lib.hid hk
    rw [hk] at hC
    clear hk
    rw [h.1] at f1
    simp only [h.1, Bool.not_true, Bool.not_false, Bool.true_and, Bool.false_and, decide_true] at f1 f2 f3
  · clear hC hinf hfin g1 g2
    go_enter Try.func20, Try.ntmps20
    go_wp2
    go_ret
    exact ⟨ret_num HK.out.symm, 0, rfl⟩
  · have hq := hinf (by omega)
    replace f2 := f2.trans (decide_eq_false (by omega))
    replace f3 := f3.trans (decide_eq_true (by omega))
    clear hC hinf hfin h g2
    go_enter Try.func20, Try.ntmps20
    go_wp2
    go_ret
    exact ⟨ret_num HK.out.symm, 1, rfl⟩
  · have hq := hfin (by omega)
    replace f2 := f2.trans (decide_eq_false (by omega))
    replace f3 := f3.trans (decide_eq_true (by omega))
    clear hC hinf hfin h g1
    go_enter Try.func20, Try.ntmps20
    go_wp2
    go_ret
    exact ⟨ret_num HK.out.symm, 0, rfl⟩
  · have C := hC (by omega)
    replace f2 := f2.trans (decide_eq_true (by omega))
    clear hC hinf hfin h g1 g2 f3
    go_enter Try.func20, Try.ntmps20
    go_wp2_with fail
    refine C.out.mono ?_
    rintro e w' ⟨rfl, rfl⟩
    go_wp2
    go_ret
    exact ⟨ret_num HK.out.symm, 0, rfl⟩
  · have C := hC (by omega)
    replace f2 := f2.trans (decide_eq_true (by omega))
    clear hC hinf hfin h g1 g2 f3
    go_enter Try.func20, Try.ntmps20
    go_wp2_with fail
    refine C.out.mono ?_
    rintro e w' ⟨rfl, rfl⟩
    go_wp2
    go_ret
    exact ⟨ret_num HK.out.symm, 0, rfl⟩
  · have hq := hfin (by omega)
    replace f2 := f2.trans (decide_eq_false (by omega))
    replace f3 := f3.trans (decide_eq_false (by omega))
    clear hC hinf hfin h g1
    go_enter Try.func20, Try.ntmps20
    go_wp2
    go_ret
    exact ⟨ret_num HK.out.symm, 0, rfl⟩
  · have hq := hinf (by omega)
    replace f2 := f2.trans (decide_eq_false (by omega))
    replace f3 := f3.trans (decide_eq_false (by omega))
    clear hC hinf hfin h g2
    go_enter Try.func20, Try.ntmps20
    go_wp2
    go_ret
    exact ⟨ret_num HK.out.symm, 1, rfl⟩
theorem order5_any (x y : Nat) (hx : x < 18446744073709551616) (hy : y < 18446744073709551616) (w : World) :
    Calls Try.prog 25 #[F x, F y] w fun e w' => e = .returned (.int .i64 (ord x y)) ∧ ∃ q, w' = w.drewN q := by
  have C1 := Lib.hid (kind5_any x hx)
  have C2 := Lib.hid (kind5_any y hy)
  have f1 := fo_gt x y
  have f2 := fo_lt x y
  have HO := Lib.hid (ord_kd x y)
  have hn : kd x = kd y → (kd x ≠ 0 → nan x = false ∧ nan y = false) ∧ (kd x = 0 → nan x = true ∧ nan y = true) ∧ (kd x ≠ 0 → kd x ≠ 2 → kd x ≠ 5 → key x = key y) := by
    rcases kd_cases x with h | h | h | h | h | h | h <;> rcases kd_cases y with g | g | g | g | g | g | g <;> intro hh <;> first | (exfalso; omega) | exact ⟨fun _ => ⟨h.2.1, g.2.1⟩, fun _ => by omega, fun _ _ _ => by omega⟩ | exact ⟨fun _ => by omega, fun _ => ⟨h.2.1, g.2.1⟩, fun _ _ _ => by omega⟩
  generalize kd x = k at *
  generalize kd y = l at *
  generalize ord x y = r at *
  by_cases h1 : k < l
  · rw [if_pos h1] at HO
    clear hn f1 f2
    have hkl : (k != l) = true := by rw [bne_iff_ne]; omega
    go_enter Try.func25, Try.ntmps25
    go_wp2_with fail
    refine (C1.out _).mono ?_
    rintro e w1 ⟨rfl, q1, rfl⟩
    go_wp2_with fail
    refine (C2.out _).mono ?_
    rintro e w2 ⟨rfl, q2, rfl⟩
    go_wp2_with fail
    refine (C1.out _).mono ?_
    rintro e w3 ⟨rfl, q3, rfl⟩
    go_wp2_with fail
    refine (C2.out _).mono ?_
    rintro e w4 ⟨rfl, q4, rfl⟩
    go_wp2
    go_ret
    exact ⟨ret_num HO.out.symm, _, rfl⟩
  rw [if_neg h1] at HO
  by_cases h2 : l < k
  · rw [if_pos h2] at HO
    clear hn f1 f2
    have hkl : (k != l) = true := by rw [bne_iff_ne]; omega
    go_enter Try.func25, Try.ntmps25
    go_wp2_with fail
    refine (C1.out _).mono ?_
    rintro e w1 ⟨rfl, q1, rfl⟩
    go_wp2_with fail
    refine (C2.out _).mono ?_
    rintro e w2 ⟨rfl, q2, rfl⟩
    go_wp2_with fail
    refine (C1.out _).mono ?_
    rintro e w3 ⟨rfl, q3, rfl⟩
    go_wp2_with fail
    refine (C2.out _).mono ?_
    rintro e w4 ⟨rfl, q4, rfl⟩
    go_wp2
    go_ret
    exact ⟨ret_num HO.out.symm, _, rfl⟩
  rw [if_neg h2] at HO
  obtain rfl : k = l := by omega
  have hn := hn rfl
  by_cases h0 : k = 0
  · have hn := hn.2.1 h0
    rw [hn.1, hn.2] at f1 f2
    rw [if_pos (by omega)] at HO
    simp only [Bool.not_true, Bool.false_and] at f1 f2
    clear hn
    go_enter Try.func25, Try.ntmps25
    go_wp2_with fail
    refine (C1.out _).mono ?_
    rintro e w1 ⟨rfl, q1, rfl⟩
    go_wp2_with fail
    refine (C2.out _).mono ?_
    rintro e w2 ⟨rfl, q2, rfl⟩
    go_wp2
    go_ret
    exact ⟨ret_num HO.out.symm, _, rfl⟩
  have hn0 := hn.1 h0
  rw [hn0.1, hn0.2] at f1 f2
  simp only [Bool.not_false, Bool.true_and] at f1 f2
  have hn := hn.2.2 h0
  by_cases h3 : key x = key y
  · rw [if_pos (.inr h3)] at HO
    rw [decide_eq_false (by omega)] at f1 f2
    clear h3 hn hn0
    go_enter Try.func25, Try.ntmps25
    go_wp2_with fail
    refine (C1.out _).mono ?_
    rintro e w1 ⟨rfl, q1, rfl⟩
    go_wp2_with fail
    refine (C2.out _).mono ?_
    rintro e w2 ⟨rfl, q2, rfl⟩
    go_wp2
    go_ret
    exact ⟨ret_num HO.out.symm, _, rfl⟩
  rw [if_neg (by omega)] at HO
  clear hn hn0 h0
  by_cases h5 : key x < key y
  · rw [if_pos h5] at HO
    rw [decide_eq_true h5] at f2
    clear h3 h5 f1
    go_enter Try.func25, Try.ntmps25
    go_wp2_with fail
    refine (C1.out _).mono ?_
    rintro e w1 ⟨rfl, q1, rfl⟩
    go_wp2_with fail
    refine (C2.out _).mono ?_
    rintro e w2 ⟨rfl, q2, rfl⟩
    go_wp2
    go_ret
    exact ⟨ret_num HO.out.symm, _, rfl⟩
  · rw [if_neg h5] at HO
    rw [decide_eq_false h5] at f2
    rw [decide_eq_true (by omega)] at f1
    clear h3 h5
    go_enter Try.func25, Try.ntmps25
    go_wp2_with fail
    refine (C1.out _).mono ?_
    rintro e w1 ⟨rfl, q1, rfl⟩
    go_wp2_with fail
    refine (C2.out _).mono ?_
    rintro e w2 ⟨rfl, q2, rfl⟩
    go_wp2
    go_ret
    exact ⟨ret_num HO.out.symm, _, rfl⟩
/-- One that is brought between two others. -/
def clp (x y z : Nat) : Nat := if ord x y < 0 then y else if 0 < ord x z then z else x
theorem clamp_any (x y z : Nat) (hx : x < 18446744073709551616) (hy : y < 18446744073709551616) (hz : z < 18446744073709551616) (w : World) :
    Calls Try.prog 26 #[F x, F y, F z] w fun e w' => e = .returned (F (clp x y z)) ∧ w' = w := by
  have C1 := Lib.hid (order_any x y hx hy)
  have C2 := Lib.hid (order_any x z hx hz)
  have HC : Hid (clp x y z = if ord x y < 0 then y else if 0 < ord x z then z else x) := Lib.hid rfl
  generalize clp x y z = r at *
  generalize ord x y = o at *
  generalize ord x z = p at *
  have h2 := True.intro
  by_cases h1 : o < 0
  · rw [if_pos h1] at HC
    clear h2
    go_enter Try.func26, Try.ntmps26
    go_wp2_with fail
    refine (C1.out _).mono ?_
    rintro e w1 ⟨rfl, rfl⟩
    go_wp2
    go_ret
    exact ⟨by rw [HC.out]; rfl, rfl⟩
  rw [if_neg h1] at HC
  by_cases h3 : 0 < p
  · rw [if_pos h3] at HC
    clear h2
    go_enter Try.func26, Try.ntmps26
    go_wp2_with fail
    refine (C1.out _).mono ?_
    rintro e w1 ⟨rfl, rfl⟩
    go_wp2_with fail
    refine (C2.out _).mono ?_
    rintro e w1 ⟨rfl, rfl⟩
    go_wp2
    go_ret
    exact ⟨by rw [HC.out]; rfl, rfl⟩
  · rw [if_neg h3] at HC
    clear h2
    go_enter Try.func26, Try.ntmps26
    go_wp2_with fail
    refine (C1.out _).mono ?_
    rintro e w1 ⟨rfl, rfl⟩
    go_wp2_with fail
    refine (C2.out _).mono ?_
    rintro e w1 ⟨rfl, rfl⟩
    go_wp2
    go_ret
    exact ⟨by rw [HC.out]; rfl, rfl⟩
theorem clamp5_any (x y z : Nat) (hx : x < 18446744073709551616) (hy : y < 18446744073709551616) (hz : z < 18446744073709551616) (w : World) :
    Calls Try.prog 27 #[F x, F y, F z] w fun e w' => e = .returned (F (clp x y z)) ∧ ∃ q, w' = w.drewN q := by
  have C1 := Lib.hid (order5_any x y hx hy)
  have C2 := Lib.hid (order5_any x z hx hz)
  have HC : Hid (clp x y z = if ord x y < 0 then y else if 0 < ord x z then z else x) := Lib.hid rfl
  generalize clp x y z = r at *
  generalize ord x y = o at *
  generalize ord x z = p at *
  have h2 := True.intro
  by_cases h1 : o < 0
  · rw [if_pos h1] at HC
    clear h2
    go_enter Try.func27, Try.ntmps27
    go_wp2_with fail
    refine (C1.out _).mono ?_
    rintro e w1 ⟨rfl, q1, rfl⟩
    go_wp2
    go_ret
    exact ⟨by rw [HC.out]; rfl, _, rfl⟩
  rw [if_neg h1] at HC
  by_cases h3 : 0 < p
  · rw [if_pos h3] at HC
    clear h2
    go_enter Try.func27, Try.ntmps27
    go_wp2_with fail
    refine (C1.out _).mono ?_
    rintro e w1 ⟨rfl, q1, rfl⟩
    go_wp2_with fail
    refine (C2.out _).mono ?_
    rintro e w1 ⟨rfl, q2, rfl⟩
    go_wp2
    go_ret
    exact ⟨by rw [HC.out]; rfl, _, rfl⟩
  · rw [if_neg h3] at HC
    clear h2
    go_enter Try.func27, Try.ntmps27
    go_wp2_with fail
    refine (C1.out _).mono ?_
    rintro e w1 ⟨rfl, q1, rfl⟩
    go_wp2_with fail
    refine (C2.out _).mono ?_
    rintro e w1 ⟨rfl, q2, rfl⟩
    go_wp2
    go_ret
    exact ⟨by rw [HC.out]; rfl, _, rfl⟩
theorem clp_lt {x y z : Nat} (hx : x < 18446744073709551616) (hy : y < 18446744073709551616) (hz : z < 18446744073709551616) : clp x y z < 18446744073709551616 := by
  unfold clp; split
  · exact hy
  · split
    · exact hz
    · exact hx
theorem same_any (x y : Nat) (hx : x < 18446744073709551616) (hy : y < 18446744073709551616) (w : World) :
    Calls Try.prog 19 #[F x, F y] w fun e w' => e = .returned (.bool (ord x y == 0)) ∧ ∃ q, w' = w.drewN q := by
  have C1 := Lib.hid (order5_any x y hx hy)
  generalize ord x y = r at *
  go_enter Try.func19, Try.ntmps19
  go_wp2_with fail
  refine (C1.out _).mono ?_
  rintro e w1 ⟨rfl, q1, rfl⟩
  go_wp2
  go_ret
  exact ⟨rfl, _, rfl⟩
theorem orders_walk (a b c : Nat) (w : World) (ha : a < 18446744073709551616) (hb : b < 18446744073709551616) (hc : c < 18446744073709551616) :
    Calls Try.prog 7 #[F a, F b, F c] w fun e w' => e = .returned (.bool true) ∧ Below w.heap.size w w' := by
  have C1 := Lib.hid (kind_any a ha)
  have C2 := Lib.hid (kind5_any a ha)
  have C3 := Lib.hid (order_any a b ha hb)
  have C4 := Lib.hid (order5_any a b ha hb)
  have C5 := Lib.hid (clamp_any a b c ha hb hc)
  have C6 := Lib.hid (clamp5_any a b c ha hb hc)
  have hcl := clp_lt ha hb hc
  have C7 := Lib.hid (same_any (clp a b c) (clp a b c) hcl hcl)
  rw [ord_self] at C7
  generalize clp a b c = r at *
  generalize kd a = k at *
  generalize ord a b = o at *
  go_enter Try.func7, Try.ntmps7
  go_wp2_with fail
  refine (C1.out _).mono ?_
  rintro e w1 ⟨rfl, rfl⟩
  go_wp2_with fail
  refine (C2.out _).mono ?_
  rintro e w2 ⟨rfl, q2, rfl⟩
  go_wp2_with fail
  refine (C3.out _).mono ?_
  rintro e w3 ⟨rfl, rfl⟩
  go_wp2_with fail
  refine (C4.out _).mono ?_
  rintro e w4 ⟨rfl, q4, rfl⟩
  go_wp2_with fail
  refine (C5.out _).mono ?_
  rintro e w5 ⟨rfl, rfl⟩
  go_wp2_with fail
  refine (C6.out _).mono ?_
  rintro e w6 ⟨rfl, q6, rfl⟩
  go_wp2_with fail
  refine (C7.out _).mono ?_
  rintro e w7 ⟨rfl, q7, rfl⟩
  go_wp2_with fail
  refine (works_any _).mono ?_
  rintro e w8 ⟨rfl, hb⟩
  go_wp2
  go_ret
  exact ⟨rfl, (below_drewN (Below.refl _ _) _).trans hb⟩
end Go.Proofs.Ythgncnpemnlodaa.Fl
