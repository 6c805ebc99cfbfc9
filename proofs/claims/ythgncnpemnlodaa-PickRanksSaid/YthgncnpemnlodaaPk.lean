/- The examples of chapter 6, and the statements PickAt and PickRises. -/
import Derived.Test.YthgncnpemnlodaaRk2
import Derived.Test.YthgncnpemnlodaaSame
namespace Go.Proofs.Ythgncnpemnlodaa.Fl
open Go.RowKit Go.Proofs.Ythgncnpemnlodaa.Open Go.Proofs.Ythgncnpemnlodaa.Mem Go.Proofs.Ythgncnpemnlodaa.Same
set_option linter.unusedVariables false
set_option linter.unusedSimpArgs false
theorem inf_ratio : floatBits .quo .f64 (floatOfInt .f64 1) (floatOfInt .f64 0) = some 9218868437227405312 := by decide +kernel
theorem at_half : at_ 4 4602678819172646912 = 2 := by decide +kernel
theorem at_inf : at_ 3 9218868437227405312 = 2 := by decide +kernel
theorem at_nan {r : Nat} (h : nan r = true) : at_ 3 r = 0 := by
  have e0 : tk r = -36893488147419103232 := by unfold tk; rw [h]; rfl
  have e1 : tk 0 = 0 := by decide
  unfold at_
  have : ord r 0 ≤ 0 := by unfold ord; rw [e0, e1]; simp
  rw [if_neg (by decide), if_pos this]
theorem rk_works {r : Nat} (h : nan r = true) : rk [9223372036854775808, 0, r] 3 = [1, 0, 2] := by
  have e0 : tk r = -36893488147419103232 := by unfold tk; rw [h]; rfl
  have e1 : tk 0 = 0 := by decide
  have e2 : tk 9223372036854775808 = -1 := by decide
  simp [rk, ins, posF, wt, ord, e0, e1, e2]
set_option maxHeartbeats 1000000 in
theorem works6_any (w : World) :
    Calls Try.prog 30 #[] w fun e w' => e = .returned (.bool true) ∧ Below w.heap.size w w' := by
  have C1 := Lib.hid (fun w => ratio_none 0 0 no_ratio w)
  have C2 := Lib.hid (fun w => ratio_some 1 0 _ inf_ratio w)
  have C3 := Lib.hid (fun w => from_any 9223372036854775808 w)
  have C4 := Lib.hid (fun w => at_any 4 4602678819172646912 (by decide) (by decide) w)
  have C5 := Lib.hid (fun w => at_any 3 9218868437227405312 (by decide) (by decide) w)
  rw [at_half] at C4
  rw [at_inf] at C5
  go_enter Try.func30, Try.ntmps30
  go_wp2_with fail
  refine (C1.out _).mono ?_
  rintro e w1 ⟨r, rfl, hr, hrn, rfl⟩
  go_wp2_with fail
  refine (C2.out _).mono ?_
  rintro e w1 ⟨rfl, rfl⟩
  go_wp2_with fail
  refine (C4.out _).mono ?_
  rintro e w1 ⟨rfl, rfl⟩
  go_wp2_with fail
  refine (at_any 3 r hr (by decide) _).mono ?_
  rw [at_nan hrn]
  rintro e w1 ⟨rfl, rfl⟩
  go_wp2_with fail
  refine (C5.out _).mono ?_
  rintro e w1 ⟨rfl, rfl⟩
  go_wp2_with fail
  refine (C3.out _).mono ?_
  rintro e w1 ⟨rfl, rfl⟩
  go_wp2_with fail
  have hsl : Sl (w.alloc (.cells #[F 9223372036854775808, .float .f64 0, F r] 28)).drew F (some ⟨w.heap.size, 0, none⟩) 3 [9223372036854775808, 0, r] :=
    (sl_block (heap_alloc_new w _) rfl (by simp)).drew
  have hb0 := ((Below.refl w.heap.size w).alloc (Nat.le_refl _) (.cells #[F 9223372036854775808, .float .f64 0, F r] 28)).drew
  generalize (w.alloc (.cells #[F 9223372036854775808, .float .f64 0, F r] 28)).drew = w1 at *
  refine (rank_any _ 3 3 [9223372036854775808, 0, r] w1 hsl (by
    intro x hx
    simp at hx
    rcases hx with rfl | rfl | rfl <;> omega) (by decide)).mono ?_
  rw [rk_works hrn]
  rintro e w2 ⟨v, rfl, hown, hb2⟩
  obtain ⟨A3, c3, rfl⟩ := hown.slice
  have hown : Own w2 w1.heap.size 3 (Value.int .i64) (.slice A3 3 c3) [1, 0, 2] := hown
  have h3 : ([1, 0, 2] : List Int).length = 3 := rfl
  rw [h3]
  go_wp2_with fail
  have hs1 : Sl (w2.alloc (.cells #[.int .i64 1, .int .i64 0, .int .i64 2] 3)) (Value.int .i64) (some ⟨w2.heap.size, 0, none⟩) 3 [1, 0, 2] := sl_block (heap_alloc_new w2 _) rfl (by simp)
  have hs2 := (hown.alloc (.cells #[.int .i64 1, .int .i64 0, .int .i64 2] 3)).sl.2
  have hb3 := (Below.refl w2.heap.size w2).alloc (Nat.le_refl _) (.cells #[.int .i64 1, .int .i64 0, .int .i64 2] 3)
  refine (ints_any _ _ _ _ _ _ [1, 0, 2] [1, 0, 2] _ hs2 hs1).mono ?_
  rintro e w4 ⟨rfl, q, rfl⟩
  rw [decide_eq_true rfl]
  go_wp2
  go_ret
  exact ⟨rfl, bdrewN (hb0.trans ((hb2.trans (hb3.mono hb2.size)).mono hb0.size)) q⟩
theorem pickat_walk (n : Int) (x : Nat) (w : World) (hn : (Lit.int .i64 n).wf = true) (hx : x < 18446744073709551616) :
    Calls Try.prog 8 #[.int .i64 n, F x] w fun e w' => e = .returned (.bool true) ∧ Below w.heap.size w w' := by
  have C1 := Lib.hid (at_any n x hx hn)
  have C2 := Lib.hid (at6_any n x hx hn)
  generalize at_ n x = r at *
  go_enter Try.func8, Try.ntmps8
  go_wp2_with fail
  refine (C1.out _).mono ?_
  rintro e w1 ⟨rfl, rfl⟩
  go_wp2_with fail
  refine (C2.out _).mono ?_
  rintro e w1 ⟨rfl, q, rfl⟩
  go_wp2_with fail
  refine (works6_any _).mono ?_
  rintro e w2 ⟨rfl, hb⟩
  go_wp2
  go_ret
  exact ⟨rfl, (bdrewN (Below.refl _ _) q).trans hb⟩
theorem ord_le (a b : Nat) : ord a b ≤ 0 ↔ tk a ≤ tk b := by unfold ord; (repeat' split) <;> omega
theorem ord_ge (a b : Nat) : 0 ≤ ord a b ↔ tk b ≤ tk a := by unfold ord; (repeat' split) <;> omega
theorem at_in {m : Int} (hm : 1 ≤ m) (x : Nat) : 0 ≤ at_ m x ∧ at_ m x < m := by
  unfold at_
  rw [if_neg (by omega)]
  split
  · omega
  · split
    · omega
    · omega
theorem at_mono {m : Int} (hm : 1 ≤ m) {a b : Nat} (h : ord a b ≤ 0) : at_ m a ≤ at_ m b := by
  have hb := at_in hm b
  by_cases h1 : ord a 0 ≤ 0
  · have : at_ m a = 0 := by unfold at_; rw [if_neg (by omega), if_pos h1]
    omega
  have h2 : ¬ ord b 0 ≤ 0 := by rw [ord_le] at *; omega
  by_cases h3 : 0 ≤ ord a one
  · have h4 : 0 ≤ ord b one := by rw [ord_ge] at *; rw [ord_le] at h; omega
    have : at_ m b = m - 1 := by unfold at_; rw [if_neg (by omega), if_neg h2, if_pos h4]
    have := at_in hm a
    omega
  by_cases h4 : 0 ≤ ord b one
  · have : at_ m b = m - 1 := by unfold at_; rw [if_neg (by omega), if_neg h2, if_pos h4]
    have := at_in hm a
    omega
  obtain ⟨n1, s1, r1, _, _⟩ := mid_facts h1 h3
  obtain ⟨n2, s2, r2, _, _⟩ := mid_facts h2 h4
  have ht1 : tk a = rung a := by unfold tk; rw [n1, s1]; rfl
  have ht2 : tk b = rung b := by unfold tk; rw [n2, s2]; rfl
  have hr : rung a ≤ rung b := by rw [ord_le, ht1, ht2] at h; omega
  have hw := wf_mono (n := m.toNat) hr
  unfold at_
  rw [if_neg (by omega), if_neg h1, if_neg h3, if_neg (by omega), if_neg h2, if_neg h4]
  omega
theorem rises_walk (n : Int) (a b : Nat) (w : World) (hn : (Lit.int .u16 n).wf = true) (ha : a < 18446744073709551616) (hb : b < 18446744073709551616) :
    Calls Try.prog 9 #[.int .u16 n, F a, F b] w fun e w' => e = .returned (.bool true) ∧ Below w.heap.size w w' := by
  have hn2 : 0 ≤ n ∧ n ≤ 65535 := by
    have h1 : IntKind.u16.min = 0 := by decide
    have h2 : IntKind.u16.max = 65535 := by decide
    simp only [Lit.wf, Bool.and_eq_true, decide_eq_true_eq, h1, h2] at hn
    exact hn
  have hwf : (Lit.int .i64 (1 + n)).wf = true := by
    have h1 : IntKind.i64.min = -9223372036854775808 := by decide
    have h2 : IntKind.i64.max = 9223372036854775807 := by decide
    simp only [Lit.wf, Bool.and_eq_true, decide_eq_true_eq, h1, h2]
    omega
  clear hn
  have C1 := Lib.hid (at_any (1 + n) a ha hwf)
  have C2 := Lib.hid (at_any (1 + n) b hb hwf)
  have C3 := Lib.hid (order_any a b ha hb)
  have C4 := Lib.hid (order_any b a hb ha)
  have i1 := at_in (m := 1 + n) (by omega) a
  have i2 := at_in (m := 1 + n) (by omega) b
  have m1 := fun h => at_mono (m := 1 + n) (by omega) (a := a) (b := b) h
  have m2 := fun h => at_mono (m := 1 + n) (by omega) (a := b) (b := a) h
  have h1 := ord_back b a
  rw [h1] at C4 m2
  clear h1 hwf
  generalize ord a b = o at *
  generalize at_ (1 + n) a = x at *
  generalize at_ (1 + n) b = y at *
  have i3 := i1.1
  have i4 := i1.2
  have i5 := i2.1
  have i6 := i2.2
  clear i1 i2
  by_cases h1 : 0 < o
  · have h2 := m2 (by omega)
    have h3 : ¬ 0 < -o := by omega
    clear m1 m2
    go_enter Try.func9, Try.ntmps9
    go_wp2_with fail
    refine (C1.out _).mono ?_
    rintro e w1 ⟨rfl, rfl⟩
    go_wp2_with fail
    refine (C2.out _).mono ?_
    rintro e w1 ⟨rfl, rfl⟩
    go_wp2_with fail
    refine (C3.out _).mono ?_
    rintro e w1 ⟨rfl, rfl⟩
    go_wp2_with fail
    refine (C4.out _).mono ?_
    rintro e w1 ⟨rfl, rfl⟩
    go_wp2_with fail
    refine (works6_any _).mono ?_
    rintro e w2 ⟨rfl, hb⟩
    go_wp2
    go_ret
    exact ⟨rfl, hb⟩
  have h2 := m1 (by omega)
  by_cases h3 : o < 0
  · have h4 : 0 < -o := by omega
    clear m1 m2
    go_enter Try.func9, Try.ntmps9
    go_wp2_with fail
    refine (C1.out _).mono ?_
    rintro e w1 ⟨rfl, rfl⟩
    go_wp2_with fail
    refine (C2.out _).mono ?_
    rintro e w1 ⟨rfl, rfl⟩
    go_wp2_with fail
    refine (C3.out _).mono ?_
    rintro e w1 ⟨rfl, rfl⟩
    go_wp2_with fail
    refine (C4.out _).mono ?_
    rintro e w1 ⟨rfl, rfl⟩
    go_wp2_with fail
    refine (works6_any _).mono ?_
    rintro e w2 ⟨rfl, hb⟩
    go_wp2
    go_ret
    exact ⟨rfl, hb⟩
  · have h4 := m2 (by omega)
    obtain rfl : o = 0 := by omega
    obtain rfl : x = y := by omega
    clear m1 m2 h1 h2 h3 h4
    go_enter Try.func9, Try.ntmps9
    go_wp2_with fail
    refine (C1.out _).mono ?_
    rintro e w1 ⟨rfl, rfl⟩
    go_wp2_with fail
    refine (C2.out _).mono ?_
    rintro e w1 ⟨rfl, rfl⟩
    go_wp2_with fail
    refine (C3.out _).mono ?_
    rintro e w1 ⟨rfl, rfl⟩
    go_wp2_with fail
    refine (C4.out _).mono ?_
    rintro e w1 ⟨rfl, rfl⟩
    go_wp2_with fail
    refine (works6_any _).mono ?_
    rintro e w2 ⟨rfl, hb⟩
    go_wp2
    go_ret
    exact ⟨rfl, hb⟩
end Go.Proofs.Ythgncnpemnlodaa.Fl
