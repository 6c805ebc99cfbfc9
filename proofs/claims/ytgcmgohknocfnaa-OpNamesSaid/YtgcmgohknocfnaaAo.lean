/- The reference's Same, and its names. No statement is proved here. -/
import Derived.Test.YtgcmgohknocfnaaAn
namespace Go.Proofs.Ytgcmgohknocfnaa.Opk
open Go.RowKit Go.Proofs.Ytgcmgohknocfnaa.Mem Go.Proofs.Ytgcmgohknocfnaa.Open Go.Proofs.Ytgcmgohknocfnaa.Kind Go.Proofs.Ytgcmgohknocfnaa.Blk Go.Proofs.Ytgcmgohknocfnaa.App Go.Proofs.Ytgcmgohknocfnaa.Same
set_option linter.unusedVariables false
set_option linter.unusedSimpArgs false
set_option maxHeartbeats 2000000 in
set_option maxRecDepth 100000 in
theorem rsame_any (x y : AnD) (A : Option Addr) (c : Nat) (B : Option Addr) (b : Nat) (A2 : Option Addr) (c2 : Nat) (B2 : Option Addr) (b2 : Nat) (w : World) (hx : By w A x.d) (hy : By w A2 y.d) (ht : Sl w Value.string B x.t.length x.t) (hu : Sl w Value.string B2 y.t.length y.t) :
    Calls Try.prog 55 #[.agg (ansC x A c B b), .agg (ansC y A2 c2 B2 b2)] w fun e w' => e = .returned (.bool (sameA x y)) ∧ Below w.heap.size w w' := by
  obtain ⟨xe, xi, xk, xl, xs, xd, xt⟩ := x
  obtain ⟨ye, yi, yk, yl, ys, yd, yt⟩ := y
  have hbel : Below w.heap.size w ((w.alloc (.cells (ansC ⟨xe, xi, xk, xl, xs, xd, xt⟩ A c B b) 89)).alloc (.cells (ansC ⟨ye, yi, yk, yl, ys, yd, yt⟩ A2 c2 B2 b2) 89)) := ((Below.refl _ _).alloc (Nat.le_refl _) _).alloc (by simp) _
  have C1 := Lib.hid (same_any A A2 xd.length yd.length c c2 xd yd _ (hx.below hbel).sl_byte (hy.below hbel).sl_byte)
  have C2 := Lib.hid (fun w' h1 h2 => texts_any B B2 xt.length yt.length b b2 xt yt w' h1 h2)
  have ht2 := ht.below hbel
  have hu2 := hu.below hbel
  have p1 : Row ((w.alloc (.cells (ansC ⟨xe, xi, xk, xl, xs, xd, xt⟩ A c B b) 89)).alloc (.cells (ansC ⟨ye, yi, yk, yl, ys, yd, yt⟩ A2 c2 B2 b2) 89)) w.heap.size 89 (ansC ⟨xe, xi, xk, xl, xs, xd, xt⟩ A c B b) := (Row.new _ _ _).alloc _
  have p2 : Row ((w.alloc (.cells (ansC ⟨xe, xi, xk, xl, xs, xd, xt⟩ A c B b) 89)).alloc (.cells (ansC ⟨ye, yi, yk, yl, ys, yd, yt⟩ A2 c2 B2 b2) 89)) (w.heap.size + 1) 89 (ansC ⟨ye, yi, yk, yl, ys, yd, yt⟩ A2 c2 B2 b2) := by
    have := Row.new (w.alloc (.cells (ansC ⟨xe, xi, xk, xl, xs, xd, xt⟩ A c B b) 89)) 89 (ansC ⟨ye, yi, yk, yl, ys, yd, yt⟩ A2 c2 B2 b2)
    simpa using this
  have HV : Hid (sameA ⟨xe, xi, xk, xl, xs, xd, xt⟩ ⟨ye, yi, yk, yl, ys, yd, yt⟩ = (xe == ye && (xi == yi && (xk == yk && (xl == yl && (xs == ys && (decide (xd = yd) && decide (xt = yt)))))))) := Lib.hid rfl
  generalize sameA ⟨xe, xi, xk, xl, xs, xd, xt⟩ ⟨ye, yi, yk, yl, ys, yd, yt⟩ = r at *
  clear hx hy ht hu
  by_cases h0 : ¬ xe = ye
  · have hne : (xe == ye) = false := by rw [beq_eq_false_iff_ne]; exact h0
    rw [hne, Bool.false_and] at HV
    clear C1 C2 ht2 hu2 p1 p2
    go_enter Try.func55, Try.ntmps55
    go_wp2
    go_ret
    exact ⟨ret_bool HV.out.symm, hbel⟩
  obtain rfl : xe = ye := Classical.not_not.1 h0
  rw [beq_self_eq_true, Bool.true_and] at HV
  clear h0
  by_cases h1 : ¬ xi = yi
  · have hne : (xi == yi) = false := by rw [beq_eq_false_iff_ne]; exact h1
    rw [hne, Bool.false_and] at HV
    clear C1 C2 ht2 hu2 p1 p2
    go_enter Try.func55, Try.ntmps55
    go_wp2
    go_ret
    exact ⟨ret_bool HV.out.symm, hbel⟩
  obtain rfl : xi = yi := Classical.not_not.1 h1
  rw [beq_self_eq_true, Bool.true_and] at HV
  clear h1
  by_cases h2 : ¬ xk = yk
  · have hne : (xk == yk) = false := by rw [beq_eq_false_iff_ne]; exact h2
    rw [hne, Bool.false_and] at HV
    clear C1 C2 ht2 hu2 p1 p2
    go_enter Try.func55, Try.ntmps55
    go_wp2
    go_ret
    exact ⟨ret_bool HV.out.symm, hbel⟩
  obtain rfl : xk = yk := Classical.not_not.1 h2
  rw [beq_self_eq_true, Bool.true_and] at HV
  clear h2
  by_cases h3 : ¬ xl = yl
  · have hne : (xl == yl) = false := by rw [beq_eq_false_iff_ne]; exact h3
    rw [hne, Bool.false_and] at HV
    clear C1 C2 ht2 hu2 p1 p2
    go_enter Try.func55, Try.ntmps55
    go_wp2
    go_ret
    exact ⟨ret_bool HV.out.symm, hbel⟩
  obtain rfl : xl = yl := Classical.not_not.1 h3
  rw [beq_self_eq_true, Bool.true_and] at HV
  clear h3
  by_cases h4 : ¬ xs = ys
  · have hne : (xs == ys) = false := by rw [beq_eq_false_iff_ne]; exact h4
    rw [hne, Bool.false_and] at HV
    clear C1 C2 ht2 hu2 p1 p2
    go_enter Try.func55, Try.ntmps55
    go_wp2
    go_ret
    exact ⟨ret_bool HV.out.symm, hbel⟩
  obtain rfl : xs = ys := Classical.not_not.1 h4
  rw [beq_self_eq_true, Bool.true_and] at HV
  clear h4
  by_cases h6 : ¬ xd = yd
  · rw [decide_eq_false h6] at C1 HV
    rw [Bool.false_and] at HV
    clear C2 ht2 hu2 p1 p2
    go_enter Try.func55, Try.ntmps55
    go_wp2_with fail
    refine C1.out.mono ?_
    rintro e w3 ⟨rfl, q, hw3⟩
    subst w3
    go_wp2
    go_ret
    exact ⟨ret_bool HV.out.symm, bdrewN hbel q⟩
  · obtain rfl : xd = yd := Classical.not_not.1 h6
    clear h6
    rw [decide_eq_true rfl] at C1 HV
    rw [Bool.true_and] at HV
    generalize decide (xt = yt) = z at *
    have HT := Lib.hid ht2
    have HU := Lib.hid hu2
    have HP1 := Lib.hid p1
    have HP2 := Lib.hid p2
    have HBEL := Lib.hid hbel
    clear ht2 hu2 p1 p2 hbel
    go_enter Try.func55, Try.ntmps55
    go_wp2_with fail
    refine C1.out.mono ?_
    rintro e w3 ⟨rfl, q, hw3⟩
    have t2 : Sl w3 Value.string B xt.length xt := by rw [hw3]; exact HT.out.drewN q
    have u2 : Sl w3 Value.string B2 yt.length yt := by rw [hw3]; exact HU.out.drewN q
    have q1 : w3.cell? ⟨w.heap.size, 6, none⟩ = some (.slice B xt.length b) := by rw [hw3]; exact (HP1.out.drewN q).cell 6 rfl
    have q2 : w3.cell? ⟨w.heap.size + 1, 6, none⟩ = some (.slice B2 yt.length b2) := by rw [hw3]; exact (HP2.out.drewN q).cell 6 rfl
    have hb3 : Below w.heap.size w w3 := by rw [hw3]; exact bdrewN HBEL.out q
    clear hw3 HT HU HP1 HP2 C1 HBEL
    go_wp2_with fail
    refine (C2.out w3 t2 u2).mono ?_
    rintro e w4 ⟨rfl, q2, rfl⟩
    clear t2 u2
    go_wp2
    go_ret
    exact ⟨ret_bool HV.out.symm, bdrewN hb3 _⟩
end Go.Proofs.Ytgcmgohknocfnaa.Opk
