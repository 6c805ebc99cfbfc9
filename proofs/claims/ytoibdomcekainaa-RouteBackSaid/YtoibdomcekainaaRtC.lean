/- The statement RouteJoins. -/
import Derived.Test.YtoibdomcekainaaRtB
namespace Go.Proofs.Ytoibdomcekainaa.Rt
open Go.RowKit Go.Proofs.Ytoibdomcekainaa.Mem Go.Proofs.Ytoibdomcekainaa.Open Go.Proofs.Ytoibdomcekainaa.Same Go.Proofs.Ytoibdomcekainaa.Kind
set_option linter.unusedVariables false
set_option linter.unusedSimpArgs false
theorem rw_str_size {w : World} {S : Nat → Prop} {A : Option Addr} {n : Nat} {xs : List ByteArray} (h : Rw kStr w S A n xs) : ∀ s ∈ xs, s.size ≤ 9223372036854775807 := by
  intro s hs
  obtain ⟨i, hi, rfl⟩ := List.mem_iff_getElem.1 hs
  obtain ⟨g, o, cs, _, _, _, hK, _⟩ := h.at_ hi
  exact hK.2
set_option maxHeartbeats 1000000 in
set_option maxRecDepth 100000 in
theorem joins_walk (A1 : Option Addr) (c1 : Nat) (xs : List ByteArray) (A2 : Option Addr) (c2 : Nat) (ys : List ByteArray) (w : World)
    (hx : Rw kStr w (All w) A1 xs.length xs) (hc1 : xs.length ≤ c1) (hm1 : c1 ≤ M63) (hz1 : A1 = none → c1 = 0) (hy : Rw kStr w (All w) A2 ys.length ys) (hc2 : ys.length ≤ c2) (hm2 : c2 ≤ M63) (hz2 : A2 = none → c2 = 0) :
    Calls Try.prog 12 #[.slice A1 xs.length c1, .slice A2 ys.length c2] w fun e w' => e = .returned (.bool true) ∧ Below w.heap.size w w' := by
  have hxs := hx.sl_str
  have hys := hy.sl_str
  have L1 := Lib.hid (long_any A1 xs.length c1 xs w hxs (rw_str_size hx))
  have L2 := Lib.hid (long_any A2 ys.length c2 ys w hys (rw_str_size hy))
  have J1 := Lib.hid (join_any A1 xs.length c1 xs w hxs (rw_str_size hx))
  have J2 := Lib.hid (rjoin_any A1 xs.length c1 xs w hxs (rw_str_size hx))
  have W1 := Lib.hid (within_any A1 A2 xs.length ys.length c1 c2 xs ys w hxs hys)
  have W2 := Lib.hid (rwithin_any A1 A2 xs.length ys.length c1 c2 xs ys w hxs hys hc2 hm2 hz2)
  have ht : ((joinT xs).toList == (joinT xs).toList) = true := beq_self_eq_true _
  generalize joinT xs = t at *
  generalize joinE xs = x at *
  generalize pre xs ys = p at *
  generalize xs.length = n at *
  generalize ys.length = m at *
  clear hxs hys hx hy
  go_enter Try.func12, Try.ntmps12
  go_wp2_with fail
  refine L1.out.mono ?_
  rintro e w' ⟨b1, rfl, hb1, rfl⟩
  cases b1 with
  | true =>
    go_wp2_with (go_at_call 22; refine (works_any _).mono ?_; rintro e w' ⟨rfl, hbel2⟩)
    go_ret
    exact ⟨rfl, hbel2⟩
  | false =>
  go_wp2_with fail
  refine L2.out.mono ?_
  rintro e w' ⟨b2, rfl, hb2, rfl⟩
  cases b2 with
  | true =>
    go_wp2_with (go_at_call 22; refine (works_any _).mono ?_; rintro e w' ⟨rfl, hbel2⟩)
    go_ret
    exact ⟨rfl, hbel2⟩
  | false =>
  clear hb1 hb2 L1 L2
  go_wp2_with fail
  refine J1.out.mono ?_
  rintro e w' ⟨rfl, rfl⟩
  go_wp2_with fail
  refine J2.out.mono ?_
  rintro e w' ⟨rfl, rfl⟩
  go_wp2_with fail
  refine W1.out.mono ?_
  rintro e w' ⟨rfl, rfl⟩
  go_wp2_with fail
  refine W2.out.mono ?_
  rintro e w' ⟨rfl, hb3⟩
  go_wp2_with (go_at_call 22; refine (works_any _).mono ?_; rintro e w6 ⟨rfl, hbel6⟩)
  go_ret
  exact ⟨rfl, hb3.trans (hbel6.mono hb3.size)⟩
end Go.Proofs.Ytoibdomcekainaa.Rt
