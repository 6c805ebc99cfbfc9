/- The statements RealTotal and RealBack: the walks. -/
import Derived.Test.YthgncnpemnlodaaRe2
namespace Go.Proofs.Ythgncnpemnlodaa.Fl
open Go.RowKit
set_option linter.unusedVariables false
set_option linter.unusedSimpArgs false
theorem ord_three (a b : Nat) : ord a b = -1 ∨ ord a b = 0 ∨ ord a b = 1 := by unfold ord; (repeat' split) <;> simp
set_option maxHeartbeats 1000000 in
theorem total_walk (a b c : Nat) (w : World) (ha : a < 18446744073709551616) (hb : b < 18446744073709551616) (hc : c < 18446744073709551616) :
    Calls Try.prog 5 #[F a, F b, F c] w fun e w' => e = .returned (.bool true) ∧ Below w.heap.size w w' := by
  have C1 := Lib.hid (order_any a b ha hb w)
  have C2 := Lib.hid (order_any b a hb ha w)
  have C3 := Lib.hid (order_any a a ha ha w)
  have C4 := Lib.hid (order_any b c hb hc w)
  have C5 := Lib.hid (order_any a c ha hc w)
  have C6 := Lib.hid (bits_any a w)
  have C7 := Lib.hid (bits_any b w)
  have h1 := ord_back b a
  have h2 := ord_self a
  have h3 := @ord_trans a b c
  have h4 := ord_bts ha hb
  have h5 := ord_three a b
  have h6 := ord_three b c
  rw [h1] at C2
  rw [h2] at C3
  clear h1 h2
  have HB : Hid (decide (ord a b = 0) = decide ((bts a : Int) = (bts b : Int))) := by
    rw [decide_eq_decide, h4]; exact Int.ofNat_inj.symm
  generalize ord a b = x at *
  generalize ord b c = y at *
  generalize ord a c = z at *
  generalize bts a = p at *
  generalize bts b = q at *
  clear h4
  have HZ := Lib.hid h3
  clear h3
  by_cases hx : 0 < x
  · have hx0 : (x == 0) = false := by rw [beq_eq_false_iff_ne]; omega
    have hpq : ((p : Int) == (q : Int)) = false := by
      rw [beq_eq_false_iff_ne]
      have := HB.out
      rw [decide_eq_false (by omega)] at this
      exact of_decide_eq_false this.symm
    obtain rfl : x = 1 := by omega
    clear HB h5 h6 HZ hx0
    go_enter Try.func5, Try.ntmps5
    go_wp2_with fail
    refine C1.out.mono ?_
    rintro e w1 ⟨rfl, rfl⟩
    go_wp2_with fail
    refine C2.out.mono ?_
    rintro e w1 ⟨rfl, rfl⟩
    go_wp2_with fail
    refine C3.out.mono ?_
    rintro e w1 ⟨rfl, rfl⟩
    go_wp2_with fail
    refine C1.out.mono ?_
    rintro e w1 ⟨rfl, rfl⟩
    go_wp2_with fail
    refine C1.out.mono ?_
    rintro e w1 ⟨rfl, rfl⟩
    go_wp2_with fail
    refine C6.out.mono ?_
    rintro e w1 ⟨rfl, rfl⟩
    go_wp2_with fail
    refine C7.out.mono ?_
    rintro e w1 ⟨rfl, rfl⟩
    go_wp2_with fail
    refine (works_any _).mono ?_
    rintro e w2 ⟨rfl, hb⟩
    go_wp2
    go_ret
    exact ⟨rfl, hb⟩
  have hpq : (x = 0 ∧ p = q) ∨ (x = -1 ∧ ((p : Int) == (q : Int)) = false) := by
    have := HB.out
    rcases h5 with h5 | h5 | h5
    · rw [decide_eq_false (by omega)] at this
      exact .inr ⟨h5, by rw [beq_eq_false_iff_ne]; exact of_decide_eq_false this.symm⟩
    · rw [decide_eq_true (by omega)] at this
      exact .inl ⟨h5, by have := of_decide_eq_true this.symm; omega⟩
    · omega
  clear HB h5
  by_cases hy : y ≤ 0
  · have hz := HZ.out (by omega) hy
    clear HZ
    rcases hpq with ⟨rfl, rfl⟩ | ⟨rfl, hpq⟩
    · skip
      go_enter Try.func5, Try.ntmps5
      go_wp2_with fail
      refine C1.out.mono ?_
      rintro e w1 ⟨rfl, rfl⟩
      go_wp2_with fail
      refine C2.out.mono ?_
      rintro e w1 ⟨rfl, rfl⟩
      go_wp2_with fail
      refine C3.out.mono ?_
      rintro e w1 ⟨rfl, rfl⟩
      go_wp2_with fail
      refine C1.out.mono ?_
      rintro e w1 ⟨rfl, rfl⟩
      go_wp2_with fail
      refine C4.out.mono ?_
      rintro e w1 ⟨rfl, rfl⟩
      go_wp2_with fail
      refine C5.out.mono ?_
      rintro e w1 ⟨rfl, rfl⟩
      go_wp2_with fail
      refine C1.out.mono ?_
      rintro e w1 ⟨rfl, rfl⟩
      go_wp2_with fail
      refine C6.out.mono ?_
      rintro e w1 ⟨rfl, rfl⟩
      go_wp2_with fail
      refine C7.out.mono ?_
      rintro e w1 ⟨rfl, rfl⟩
      go_wp2_with fail
      refine (works_any _).mono ?_
      rintro e w2 ⟨rfl, hb⟩
      go_wp2
      go_ret
      exact ⟨rfl, hb⟩
    · skip
      go_enter Try.func5, Try.ntmps5
      go_wp2_with fail
      refine C1.out.mono ?_
      rintro e w1 ⟨rfl, rfl⟩
      go_wp2_with fail
      refine C2.out.mono ?_
      rintro e w1 ⟨rfl, rfl⟩
      go_wp2_with fail
      refine C3.out.mono ?_
      rintro e w1 ⟨rfl, rfl⟩
      go_wp2_with fail
      refine C1.out.mono ?_
      rintro e w1 ⟨rfl, rfl⟩
      go_wp2_with fail
      refine C4.out.mono ?_
      rintro e w1 ⟨rfl, rfl⟩
      go_wp2_with fail
      refine C5.out.mono ?_
      rintro e w1 ⟨rfl, rfl⟩
      go_wp2_with fail
      refine C1.out.mono ?_
      rintro e w1 ⟨rfl, rfl⟩
      go_wp2_with fail
      refine C6.out.mono ?_
      rintro e w1 ⟨rfl, rfl⟩
      go_wp2_with fail
      refine C7.out.mono ?_
      rintro e w1 ⟨rfl, rfl⟩
      go_wp2_with fail
      refine (works_any _).mono ?_
      rintro e w2 ⟨rfl, hb⟩
      go_wp2
      go_ret
      exact ⟨rfl, hb⟩
  · have hy : 0 < y := by omega
    clear HZ h6
    rcases hpq with ⟨rfl, rfl⟩ | ⟨rfl, hpq⟩
    · skip
      go_enter Try.func5, Try.ntmps5
      go_wp2_with fail
      refine C1.out.mono ?_
      rintro e w1 ⟨rfl, rfl⟩
      go_wp2_with fail
      refine C2.out.mono ?_
      rintro e w1 ⟨rfl, rfl⟩
      go_wp2_with fail
      refine C3.out.mono ?_
      rintro e w1 ⟨rfl, rfl⟩
      go_wp2_with fail
      refine C1.out.mono ?_
      rintro e w1 ⟨rfl, rfl⟩
      go_wp2_with fail
      refine C4.out.mono ?_
      rintro e w1 ⟨rfl, rfl⟩
      go_wp2_with fail
      refine C1.out.mono ?_
      rintro e w1 ⟨rfl, rfl⟩
      go_wp2_with fail
      refine C6.out.mono ?_
      rintro e w1 ⟨rfl, rfl⟩
      go_wp2_with fail
      refine C7.out.mono ?_
      rintro e w1 ⟨rfl, rfl⟩
      go_wp2_with fail
      refine (works_any _).mono ?_
      rintro e w2 ⟨rfl, hb⟩
      go_wp2
      go_ret
      exact ⟨rfl, hb⟩
    · skip
      go_enter Try.func5, Try.ntmps5
      go_wp2_with fail
      refine C1.out.mono ?_
      rintro e w1 ⟨rfl, rfl⟩
      go_wp2_with fail
      refine C2.out.mono ?_
      rintro e w1 ⟨rfl, rfl⟩
      go_wp2_with fail
      refine C3.out.mono ?_
      rintro e w1 ⟨rfl, rfl⟩
      go_wp2_with fail
      refine C1.out.mono ?_
      rintro e w1 ⟨rfl, rfl⟩
      go_wp2_with fail
      refine C4.out.mono ?_
      rintro e w1 ⟨rfl, rfl⟩
      go_wp2_with fail
      refine C1.out.mono ?_
      rintro e w1 ⟨rfl, rfl⟩
      go_wp2_with fail
      refine C6.out.mono ?_
      rintro e w1 ⟨rfl, rfl⟩
      go_wp2_with fail
      refine C7.out.mono ?_
      rintro e w1 ⟨rfl, rfl⟩
      go_wp2_with fail
      refine (works_any _).mono ?_
      rintro e w2 ⟨rfl, hb⟩
      go_wp2
      go_ret
      exact ⟨rfl, hb⟩
end Go.Proofs.Ythgncnpemnlodaa.Fl
