/- Contracts of the functions of real: Kind, Order, Bits, From. No statement is proved here. -/
import Derived.Test.YthgncnpemnlodaaFl
import Derived.Test.YthgncnpemnlodaaProg
import Derived.WalkKit
import Derived.WalkLawsBesides
import Derived.Laws.FloatArith
import Derived.Laws.Externs
import Derived.Lib.Hide
namespace Go.Proofs.Ythgncnpemnlodaa.Fl
open Go.RowKit
set_option linter.unusedVariables false
set_option linter.unusedSimpArgs false
@[go_sem] theorem callBits (b : Nat) (w : World) : (callFunc 39 #[.float .f64 b]).run Try.prog w = .ok (.value (.int .u64 b)) w :=
  (run_callFunc_extern (e := Extern.MathFloatBits.float64bits) Try.func39 (by kernel_rfl) (by kernel_rfl) (by kernel_rfl) (by kernel_rfl) _ w).trans rfl
@[go_sem] theorem callFrom (b : Nat) (w : World) : (callFunc 37 #[.int .u64 b]).run Try.prog w = .ok (.value (.float .f64 b)) w :=
  (run_callFunc_extern (e := Extern.MathFloatBits.float64frombits) Try.func37 (by kernel_rfl) (by kernel_rfl) (by kernel_rfl) (by kernel_rfl) _ w).trans rfl
abbrev F (x : Nat) : Value := .float .f64 x
abbrev fo (x y : Nat) : Option Ordering := FloatKind.f64.format.order x y
theorem fo_eq (x y : Nat) : (fo x y == some .eq) = (!nan x && !nan y && decide (key x = key y)) := is_eq x y
theorem fo_ne (x y : Nat) : (fo x y != some .eq) = !(!nan x && !nan y && decide (key x = key y)) := by rw [← fo_eq]; rfl
theorem fo_lt (x y : Nat) : (fo x y == some .lt) = (!nan x && !nan y && decide (key x < key y)) := is_lt x y
theorem fo_gt (x y : Nat) : (fo x y == some .gt) = (!nan x && !nan y && decide (key y < key x)) := is_gt x y
theorem key_top : key 9218868437227405311 = 9218868437227405311 := by decide
theorem key_ntop : key 18442240474082181119 = -9218868437227405311 := by decide
theorem key_nought : key 0 = 0 := by decide
theorem nan_top : nan 9218868437227405311 = false := by decide
theorem nan_ntop : nan 18442240474082181119 = false := by decide
theorem nan_nought : nan 0 = false := by decide
theorem ret_bool {a b : Bool} (h : a = b) : Ending.returned (.bool a) = .returned (.bool b) := by rw [h]
theorem ret_num {a b : Int} (h : a = b) : Ending.returned (.int .i64 a) = .returned (.int .i64 b) := by rw [h]
theorem sgn_wrap {x : Nat} (hx : x < 18446744073709551616) : decide (wrap64 (x : Int) < 0) = sgn x := by
  have h : sgn x = (x / 9223372036854775808 % 2 == 1) := rfl
  rw [h]
  unfold wrap64
  rw [Bool.eq_iff_iff]
  simp
  omega
theorem signbit_any (x : Nat) (hx : x < 18446744073709551616) (w : World) :
    Calls Try.prog 40 #[F x] w fun e w' => e = .returned (.bool (sgn x)) ∧ w' = w := by
  have hs := Lib.hid (sgn_wrap hx)
  go_enter Try.func40, Try.ntmps40
  go_wp2
  go_ret
  exact ⟨ret_bool hs.out, rfl⟩
theorem kind_any (x : Nat) (hx : x < 18446744073709551616) (w : World) :
    Calls Try.prog 24 #[F x] w fun e w' => e = .returned (.int .i64 (kd x)) ∧ w' = w := by
  have C := Lib.hid (signbit_any x hx w)
  have f1 := fo_ne x x
  have f2 := fo_gt x 9218868437227405311
  have f3 := fo_lt x 18442240474082181119
  have f4 := fo_lt x 0
  have f5 := fo_gt x 0
  rw [key_top, nan_top] at f2
  rw [key_ntop, nan_ntop] at f3
  rw [key_nought, nan_nought] at f4 f5
  rcases kd_cases x with ⟨hk, h⟩ | ⟨hk, h⟩ | ⟨hk, h⟩ | ⟨hk, h⟩ | ⟨hk, h⟩ | ⟨hk, h⟩ | ⟨hk, h⟩
  all_goals
    have HK := Lib.hid hk
    clear hk
    rw [h.1] at f1
    simp only [h.1, Bool.not_true, Bool.not_false, Bool.true_and, Bool.false_and, decide_true] at f1 f2 f3 f4 f5
  · go_enter Try.func24, Try.ntmps24
    go_wp2
    go_ret
    exact ⟨ret_num HK.out.symm, rfl⟩
  · replace f2 := f2.trans (decide_eq_false (by omega))
    replace f3 := f3.trans (decide_eq_true (by omega))
    clear h
    go_enter Try.func24, Try.ntmps24
    go_wp2
    go_ret
    exact ⟨ret_num HK.out.symm, rfl⟩
  · replace f2 := f2.trans (decide_eq_false (by omega))
    replace f3 := f3.trans (decide_eq_false (by omega))
    replace f4 := f4.trans (decide_eq_true (by omega))
    clear h
    go_enter Try.func24, Try.ntmps24
    go_wp2
    go_ret
    exact ⟨ret_num HK.out.symm, rfl⟩
  · replace f2 := f2.trans (decide_eq_false (by omega))
    replace f3 := f3.trans (decide_eq_false (by omega))
    replace f4 := f4.trans (decide_eq_false (by omega))
    replace f5 := f5.trans (decide_eq_false (by omega))
    have hs := h.2.1
    clear h
    rw [hs] at C
    go_enter Try.func24, Try.ntmps24
    go_wp2_with (go_at_call 40; refine C.out.mono ?_; rintro e w' ⟨rfl, rfl⟩)
    go_ret
    exact ⟨ret_num HK.out.symm, rfl⟩
  · replace f2 := f2.trans (decide_eq_false (by omega))
    replace f3 := f3.trans (decide_eq_false (by omega))
    replace f4 := f4.trans (decide_eq_false (by omega))
    replace f5 := f5.trans (decide_eq_false (by omega))
    have hs := h.2.1
    clear h
    rw [hs] at C
    go_enter Try.func24, Try.ntmps24
    go_wp2_with (go_at_call 40; refine C.out.mono ?_; rintro e w' ⟨rfl, rfl⟩)
    go_ret
    exact ⟨ret_num HK.out.symm, rfl⟩
  · replace f2 := f2.trans (decide_eq_false (by omega))
    replace f3 := f3.trans (decide_eq_false (by omega))
    replace f4 := f4.trans (decide_eq_false (by omega))
    replace f5 := f5.trans (decide_eq_true (by omega))
    clear h
    go_enter Try.func24, Try.ntmps24
    go_wp2
    go_ret
    exact ⟨ret_num HK.out.symm, rfl⟩
  · replace f2 := f2.trans (decide_eq_true (by omega))
    clear h
    go_enter Try.func24, Try.ntmps24
    go_wp2
    go_ret
    exact ⟨ret_num HK.out.symm, rfl⟩
theorem order_any (x y : Nat) (hx : x < 18446744073709551616) (hy : y < 18446744073709551616) (w : World) :
    Calls Try.prog 23 #[F x, F y] w fun e w' => e = .returned (.int .i64 (ord x y)) ∧ w' = w := by
  have C1 := Lib.hid (kind_any x hx w)
  have C2 := Lib.hid (kind_any y hy w)
  have f1 := fo_eq x y
  have f2 := fo_lt x y
  have HO := Lib.hid (ord_kd x y)
  have hn : (¬ (kd x ≠ 2 ∧ kd x ≠ 5) ∧ kd x = kd y) → nan x = false ∧ nan y = false := by
    rcases kd_cases x with h | h | h | h | h | h | h <;> rcases kd_cases y with g | g | g | g | g | g | g <;> intro hh <;> first | exact ⟨h.2.1, g.2.1⟩ | (exfalso; omega)
  generalize kd x = k at *
  generalize kd y = l at *
  generalize ord x y = r at *
  by_cases h1 : k < l
  · rw [if_pos h1] at HO
    clear hn f1 f2
    go_enter Try.func23, Try.ntmps23
    go_wp2_with fail
    refine C1.out.mono ?_
    rintro e w1 ⟨rfl, rfl⟩
    go_wp2_with fail
    refine C2.out.mono ?_
    rintro e w2 ⟨rfl, rfl⟩
    go_wp2
    go_ret
    exact ⟨ret_num HO.out.symm, rfl⟩
  rw [if_neg h1] at HO
  by_cases h2 : l < k
  · rw [if_pos h2] at HO
    clear hn f1 f2
    go_enter Try.func23, Try.ntmps23
    go_wp2_with fail
    refine C1.out.mono ?_
    rintro e w1 ⟨rfl, rfl⟩
    go_wp2_with fail
    refine C2.out.mono ?_
    rintro e w2 ⟨rfl, rfl⟩
    go_wp2
    go_ret
    exact ⟨ret_num HO.out.symm, rfl⟩
  rw [if_neg h2] at HO
  obtain rfl : k = l := by omega
  by_cases h3 : k ≠ 2 ∧ k ≠ 5
  · rw [if_pos (.inl h3)] at HO
    obtain ⟨h3, h4⟩ := h3
    clear hn f1 f2
    go_enter Try.func23, Try.ntmps23
    go_wp2_with fail
    refine C1.out.mono ?_
    rintro e w1 ⟨rfl, rfl⟩
    go_wp2_with fail
    refine C2.out.mono ?_
    rintro e w2 ⟨rfl, rfl⟩
    go_wp2
    go_ret
    exact ⟨ret_num HO.out.symm, rfl⟩
  have hn2 := hn ⟨h3, rfl⟩
  rw [hn2.1, hn2.2] at f1 f2
  simp only [Bool.not_false, Bool.true_and] at f1 f2
  clear hn hn2
  have hk : k = 2 ∨ k = 5 := by omega
  by_cases h4 : key x = key y
  · rw [if_pos (.inr h4)] at HO
    rw [decide_eq_true h4] at f1
    clear h4 f2 h3
    rcases hk with rfl | rfl
    · go_enter Try.func23, Try.ntmps23
      go_wp2_with fail
      refine C1.out.mono ?_
      rintro e w1 ⟨rfl, rfl⟩
      go_wp2_with fail
      refine C2.out.mono ?_
      rintro e w2 ⟨rfl, rfl⟩
      go_wp2
      go_ret
      exact ⟨ret_num HO.out.symm, rfl⟩
    · go_enter Try.func23, Try.ntmps23
      go_wp2_with fail
      refine C1.out.mono ?_
      rintro e w1 ⟨rfl, rfl⟩
      go_wp2_with fail
      refine C2.out.mono ?_
      rintro e w2 ⟨rfl, rfl⟩
      go_wp2
      go_ret
      exact ⟨ret_num HO.out.symm, rfl⟩
  rw [if_neg (by omega)] at HO
  rw [decide_eq_false h4] at f1
  by_cases h5 : key x < key y
  · rw [if_pos h5] at HO
    rw [decide_eq_true h5] at f2
    clear h3 h4 h5
    rcases hk with rfl | rfl
    · go_enter Try.func23, Try.ntmps23
      go_wp2_with fail
      refine C1.out.mono ?_
      rintro e w1 ⟨rfl, rfl⟩
      go_wp2_with fail
      refine C2.out.mono ?_
      rintro e w2 ⟨rfl, rfl⟩
      go_wp2
      go_ret
      exact ⟨ret_num HO.out.symm, rfl⟩
    · go_enter Try.func23, Try.ntmps23
      go_wp2_with fail
      refine C1.out.mono ?_
      rintro e w1 ⟨rfl, rfl⟩
      go_wp2_with fail
      refine C2.out.mono ?_
      rintro e w2 ⟨rfl, rfl⟩
      go_wp2
      go_ret
      exact ⟨ret_num HO.out.symm, rfl⟩
  · rw [if_neg h5] at HO
    rw [decide_eq_false h5] at f2
    clear h3 h4 h5
    rcases hk with rfl | rfl
    · go_enter Try.func23, Try.ntmps23
      go_wp2_with fail
      refine C1.out.mono ?_
      rintro e w1 ⟨rfl, rfl⟩
      go_wp2_with fail
      refine C2.out.mono ?_
      rintro e w2 ⟨rfl, rfl⟩
      go_wp2
      go_ret
      exact ⟨ret_num HO.out.symm, rfl⟩
    · go_enter Try.func23, Try.ntmps23
      go_wp2_with fail
      refine C1.out.mono ?_
      rintro e w1 ⟨rfl, rfl⟩
      go_wp2_with fail
      refine C2.out.mono ?_
      rintro e w2 ⟨rfl, rfl⟩
      go_wp2
      go_ret
      exact ⟨ret_num HO.out.symm, rfl⟩
theorem bits_any (x : Nat) (w : World) :
    Calls Try.prog 21 #[F x] w fun e w' => e = .returned (.int .u64 (bts x)) ∧ w' = w := by
  have f1 := fo_ne x x
  have HB : bts x = if nan x then 9221120237041090560 else x := rfl
  cases hn : nan x
  · rw [hn] at f1 HB
    simp only [Bool.not_true, Bool.not_false, Bool.and_true, Bool.and_false, Bool.true_and, decide_true, Bool.false_eq_true, if_false, if_true] at f1 HB
    replace HB := Lib.hid HB
    go_enter Try.func21, Try.ntmps21
    go_wp2
    go_ret
    exact ⟨by rw [HB.out]; rfl, rfl⟩
  · rw [hn] at f1 HB
    simp only [Bool.not_true, Bool.not_false, Bool.and_true, Bool.and_false, Bool.true_and, decide_true, Bool.false_eq_true, if_false, if_true] at f1 HB
    replace HB := Lib.hid HB
    go_enter Try.func21, Try.ntmps21
    go_wp2
    go_ret
    exact ⟨by rw [HB.out]; rfl, rfl⟩
theorem from_any (b : Nat) (w : World) :
    Calls Try.prog 17 #[.int .u64 b] w fun e w' => e = .returned (F b) ∧ w' = w := by
  go_enter Try.func17, Try.ntmps17
  go_wp2
  go_ret
  exact ⟨rfl, rfl⟩
end Go.Proofs.Ythgncnpemnlodaa.Fl
