/- The walk of the statement MixParts. -/
import Derived.Test.YtgcmgohknocfnaaMixT
namespace Go.Proofs.Ytgcmgohknocfnaa.Mix
open Go.RowKit Go.Proofs.Ytgcmgohknocfnaa.Mem Go.Proofs.Ytgcmgohknocfnaa.Open Go.Proofs.Ytgcmgohknocfnaa.Same
set_option linter.unusedVariables false
set_option linter.unusedSimpArgs false

theorem someL_sum (bit : Int) (xs : List ByteArray) : (someL xs bit false).length + (someL xs bit true).length = xs.length := by
  unfold someL
  induction xs with
  | nil => rfl
  | cons x xs ih =>
    rw [List.filter_cons, List.filter_cons]
    cases h : sbit bit x <;> simp only [beq_self_eq_true, if_true, if_false, List.length_cons, show (false == true) = false from rfl, show (true == false) = false from rfl, Bool.false_eq_true] <;> omega
theorem someL_twice (bit : Int) (xs : List ByteArray) (want : Bool) : someL (someL xs bit want) bit want = someL xs bit want := by
  unfold someL
  rw [List.filter_filter]
  congr 1
  funext a
  exact Bool.and_self _
theorem someL_other (bit : Int) (xs : List ByteArray) (a b : Bool) (h : a ≠ b) : someL (someL xs bit a) bit b = [] := by
  unfold someL
  rw [List.filter_filter, List.filter_eq_nil_iff]
  intro x _
  cases sbit bit x <;> cases a <;> cases b <;> first | exact absurd rfl h | decide
theorem someL_at (bit : Int) (xs : List ByteArray) (want : Bool) (k : Nat) (hk : k < xs.length) (h : sbit bit xs[k] = want) :
    ∃ hj : (someL (xs.take k) bit want).length < (someL xs bit want).length, (someL xs bit want)[(someL (xs.take k) bit want).length] = xs[k] := by
  have e : someL xs bit want = someL (xs.take k) bit want ++ (xs[k] :: someL (xs.drop (k + 1)) bit want) := by
    conv => lhs; rw [← List.take_append_drop k xs]
    unfold someL
    rw [List.filter_append, List.drop_eq_getElem_cons hk, List.filter_cons, if_pos (by simp [h])]
  have hl : (someL (xs.take k) bit want).length < (someL xs bit want).length := by rw [e]; simp
  refine ⟨hl, ?_⟩
  have := congrArg (fun l => l[(someL (xs.take k) bit want).length]?) e
  rw [List.getElem?_append_right (Nat.le_refl _), Nat.sub_self, List.getElem?_cons_zero, List.getElem?_eq_getElem hl] at this
  exact Option.some.inj this
theorem someL_mem (bit : Int) (xs : List ByteArray) (want : Bool) (s : ByteArray) (h : s ∈ someL xs bit want) : s ∈ xs := (List.mem_filter.1 h).1

set_option maxHeartbeats 1000000 in
set_option maxRecDepth 100000 in
theorem parts_core (A : Option Addr) (n c : Nat) (xs : List ByteArray) (b : Int) (w : World) (hx : Sl w Value.string A n xs) (hs : ∀ s ∈ xs, s.size ≤ 9223372036854775807) (hb0 : 0 ≤ b) (hb1 : b ≤ 255) :
    Calls Try.prog 9 #[.slice A n c, .int .u8 b] w fun e w' => e = .returned (.bool true) ∧ Below w.heap.size w w' := by
  go_enter Try.func9, Try.ntmps9
  go_wp2_with fail
  refine (long_any A n c xs w hx hs).mono ?_
  rintro e w' ⟨b1, rfl, hb, rfl⟩
  cases b1 with
  | true =>
    clear hb
    go_wp2_with (go_at_call 15; refine (works_any _).mono ?_; rintro e w' ⟨rfl, rfl⟩)
    go_ret
    exact ⟨rfl, Below.refl _ _⟩
  | false =>
    obtain ⟨h40, h60⟩ := hb rfl
    clear hb
    have hn2 : n ≤ 100000 := by omega
    have hxl := hx.1
    obtain ⟨k, hk⟩ : ∃ k : Int, k = b % 32 := ⟨_, rfl⟩
    have hk0 : 0 ≤ k := by omega
    have hk1 : k < 32 := by omega
    obtain ⟨X, hX⟩ : ∃ X, someL xs k false = X := ⟨_, rfl⟩
    obtain ⟨Y, hY⟩ : ∃ Y, someL xs k true = Y := ⟨_, rfl⟩
    have hsum := someL_sum k xs
    have hXX := someL_twice k xs false
    have hYY := someL_twice k xs true
    have hXY := someL_other k xs false true (by decide)
    have hYX := someL_other k xs true false (by decide)
    have HX := Lib.hid hX
    have HY := Lib.hid hY
    have hsX : ∀ s ∈ X, s.size ≤ 9223372036854775807 := fun s h => hs s (someL_mem k xs false s (by rw [hX]; exact h))
    have hsY : ∀ s ∈ Y, s.size ≤ 9223372036854775807 := fun s h => hs s (someL_mem k xs true s (by rw [hY]; exact h))
    have CS := Lib.hid (fun w' h => split_any A n c xs k w' h hs hn2)
    simp only [hX, hY] at CS hsum hXX hYY hXY hYX
    clear hX hY
    have hXn : X.length ≤ 40 := by omega
    have hYn : Y.length ≤ 40 := by omega
    have CX := Lib.hid (fun A n c w' h (hn : n ≤ 100000) => split_any A n c X k w' h hsX hn)
    have CY := Lib.hid (fun A n c w' h (hn : n ≤ 100000) => split_any A n c Y k w' h hsY hn)
    simp only [hXX, hYY, hXY, hYX] at CX CY
    clear hXX hYY hXY hYX
    have hlen : ((X.length : Int) + (Y.length : Int) != (n : Int)) = false := by rw [bne_eq_false_iff_eq]; omega
    have HK := Lib.hid hk
    clear hk
    have hkb : b % 32 = k := HK.out.symm
    go_wp2_with fail
    refine (CS.out _ hx).mono ?_
    rintro e w1 ⟨v1, v2, rfl, hown1, hown2, hbel1⟩
    obtain ⟨A1, c1, rfl⟩ := hown1.slice
    obtain ⟨A2, c2, rfl⟩ := hown2.slice
    go_wp2_with fail
    refine (CX.out _ _ _ _ hown1.sl.2 (by omega)).mono ?_
    rintro e w2 ⟨v3, v4, rfl, hown3, hown4, hbel2⟩
    obtain ⟨A3, c3, rfl⟩ := hown3.slice
    obtain ⟨A4, c4, rfl⟩ := hown4.slice
    have hbel3 := hbel1.trans (hbel2.mono hbel1.size)
    have hown5 := hown1.below hbel2
    have hown6 := hown2.below hbel2
    clear hown1 hown2 hbel1 hbel2
    go_wp2_with fail
    refine (CY.out _ _ _ _ hown6.sl.2 (by omega)).mono ?_
    rintro e w3 ⟨v5, v6, rfl, hown7, hown8, hbel4⟩
    obtain ⟨A5, c5, rfl⟩ := hown7.slice
    obtain ⟨A6, c6, rfl⟩ := hown8.slice
    have hbel5 := hbel3.trans (hbel4.mono hbel3.size)
    have hown9 := hown5.below hbel4
    have hown10 := hown6.below hbel4
    have hown11 := hown3.below hbel4
    clear hown5 hown6 hown3 hbel4 hbel3 hown4 hown7
    have hx3 := hx.below hbel5
    have TX := Lib.hid (texts_any _ _ _ _ c1 c3 X X _ hown9.sl.2 hown11.sl.2)
    rw [decide_eq_true (rfl : X = X)] at TX
    go_wp2_with fail
    refine TX.out.mono ?_
    clear TX
    rintro e w4 ⟨rfl, q4, hw4'⟩
    have hw4 := Lib.hid hw4'
    clear hw4'
    have TY := Lib.hid (texts_any _ _ _ _ c2 c6 Y Y w4 (by rw [hw4.out]; exact (hown10.drewN q4).sl.2) (by rw [hw4.out]; exact (hown8.drewN q4).sl.2))
    rw [decide_eq_true (rfl : Y = Y)] at TY
    go_wp2_with fail
    refine TY.out.mono ?_
    clear TY
    rintro e w5 ⟨rfl, q5, hw5⟩
    have hw4 := hw4.out
    have hbel6 := bdrewN (bdrewN hbel5 q4) q5
    have hx6 := (hx3.drewN q4).drewN q5
    have hownX := (hown9.drewN q4).drewN q5
    have hownY := (hown10.drewN q4).drewN q5
    rw [← hw4, ← hw5] at hbel6 hx6 hownX hownY
    clear hw4 hw5 hbel5 hx3 hown8 hown9 hown10 hown11 CX CY CS
    have SX := Lib.hid hownX.sl.2
    have SY := Lib.hid hownY.sl.2
    clear hownX hownY
    go_wp2
    go_loopw [12, 13, 14] (fun i j m wr => ∃ (k1 q : Nat), k1 ≤ n ∧ m = .int .i64 k1 ∧ i = .int .i64 (someL (xs.take k1) k false).length ∧ j = .int .i64 (someL (xs.take k1) k true).length ∧ wr = w5.drewN q) (fun _ _ m _ => n - (intOf m).toNat)
    case atStart => exact ⟨0, 0, by omega, rfl, rfl, rfl, rfl⟩
    case round =>
      obtain ⟨k1, q, hk1, rfl, rfl, rfl, rfl⟩ := hrel
      by_cases hlt : k1 < n
      · have hkx : k1 < xs.length := by omega
        obtain ⟨s, hse⟩ : ∃ s, xs[k1] = s := ⟨_, rfl⟩
        obtain ⟨ad, hA, hadb, hcell⟩ := hx6.at_ hkx
        have hsz : s.size ≤ 9223372036854775807 := by have := hs _ (List.getElem_mem hkx); rw [hse] at this; omega
        rw [hse] at hcell
        have hh := hash_lt s.data.toList 2166136261 (by decide)
        have hlF := someL_len (xs.take k1) k false
        have hlT := someL_len (xs.take k1) k true
        have hlt2 : (xs.take k1).length ≤ k1 := by rw [List.length_take]; omega
        cases hw : sbit k s with
        | true =>
          obtain ⟨hj, hY⟩ := someL_at k xs true k1 hkx (by rw [hse]; exact hw)
          have HS0 := someL_yes xs k true k1 hkx (by rw [hse]; exact hw)
          have HS : Hid ((someL (xs.take (k1 + 1)) k true).length = (someL (xs.take k1) k true).length + 1) := by rw [HS0]; exact List.length_append
          have HN0 := someL_no xs k false k1 hkx (by rw [hse, hw]; decide)
          have HN : Hid ((someL (xs.take (k1 + 1)) k false).length = (someL (xs.take k1) k false).length) := by rw [HN0]; exact (rfl : _ = _)
          have hj' : (someL (xs.take k1) k true).length < Y.length := by rw [HY.out] at hj; exact hj
          obtain ⟨ad2, hA2, hadb2, hcell2⟩ := SY.out.at_ hj'
          have he : Y[(someL (xs.take k1) k true).length]'hj' = s := by
            rw [← hse, ← hY]; congr 1; exact HY.out.symm
          rw [he] at hcell2
          have hwb : bitB (hash 2166136261 s.data.toList) k = true := hw
          have hjd : decide (Y.length ≤ (someL (xs.take k1) k true).length) = false := decide_eq_false (by omega)
          clear hY hj he hse hw HS0 HN0
          generalize (someL (xs.take k1) k true).length = jj at *
          generalize (someL (xs.take k1) k false).length = ii at *
          subst hA hA2
          go_wp2_with (first
            | (go_at_call 16; refine (of_any s _ hsz).mono ?_; rintro e w' ⟨rfl, rfl⟩)
            | (go_at_call 22; refine (bit_any _ k _ hh).mono ?_; rintro e w' ⟨rfl, rfl⟩))
          go_quiet (fail)
          go_wp2
          go_roundw
          case rel => exact ⟨k1 + 1, _, by omega, by go_num, by first | rw [HN.out] | (rw [HS.out]; go_num), by first | rw [HN.out] | (rw [HS.out]; go_num), rfl⟩
          case measure => simp [intOf]; omega
        | false =>
          obtain ⟨hj, hY⟩ := someL_at k xs false k1 hkx (by rw [hse]; exact hw)
          have HS0 := someL_yes xs k false k1 hkx (by rw [hse]; exact hw)
          have HS : Hid ((someL (xs.take (k1 + 1)) k false).length = (someL (xs.take k1) k false).length + 1) := by rw [HS0]; exact List.length_append
          have HN0 := someL_no xs k true k1 hkx (by rw [hse, hw]; decide)
          have HN : Hid ((someL (xs.take (k1 + 1)) k true).length = (someL (xs.take k1) k true).length) := by rw [HN0]; exact (rfl : _ = _)
          have hj' : (someL (xs.take k1) k false).length < X.length := by rw [HX.out] at hj; exact hj
          obtain ⟨ad2, hA2, hadb2, hcell2⟩ := SX.out.at_ hj'
          have he : X[(someL (xs.take k1) k false).length]'hj' = s := by
            rw [← hse, ← hY]; congr 1; exact HX.out.symm
          rw [he] at hcell2
          have hwb : bitB (hash 2166136261 s.data.toList) k = false := hw
          have hjd : decide (X.length ≤ (someL (xs.take k1) k false).length) = false := decide_eq_false (by omega)
          clear hY hj he hse hw HS0 HN0
          generalize (someL (xs.take k1) k false).length = jj at *
          generalize (someL (xs.take k1) k true).length = ii at *
          subst hA hA2
          go_wp2_with (first
            | (go_at_call 16; refine (of_any s _ hsz).mono ?_; rintro e w' ⟨rfl, rfl⟩)
            | (go_at_call 22; refine (bit_any _ k _ hh).mono ?_; rintro e w' ⟨rfl, rfl⟩))
          go_quiet (fail)
          go_wp2
          go_roundw
          case rel => exact ⟨k1 + 1, _, by omega, by go_num, by first | rw [HN.out] | (rw [HS.out]; go_num), by first | rw [HN.out] | (rw [HS.out]; go_num), rfl⟩
          case measure => simp [intOf]; omega
      · obtain rfl : k1 = n := by omega
        go_wp2_with (go_at_call 15; refine (works_any _).mono ?_; rintro e w' ⟨rfl, rfl⟩)
        go_ret
        exact ⟨rfl, bdrewN hbel6 q⟩
theorem parts_walk (A : Option Addr) (n c : Nat) (xs : List ByteArray) (b : Int) (w : World) (hx : Sl w Value.string A n xs) (hs : ∀ s ∈ xs, s.size ≤ 9223372036854775807) (hb : (Lit.int .u8 b).wf = true) :
    Calls Try.prog 9 #[.slice A n c, .int .u8 b] w fun e w' => e = .returned (.bool true) ∧ Below w.heap.size w w' := by
  simp [Lit.wf, IntKind.min, IntKind.max, IntKind.signed, IntKind.bits] at hb
  exact parts_core A n c xs b w hx hs (by omega) (by omega)
end Go.Proofs.Ytgcmgohknocfnaa.Mix
