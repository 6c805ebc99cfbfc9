/- Too long lists of names, and the statement RouteOrder. -/
import Derived.Test.YtoibdomcekainaaRt6
namespace Go.Proofs.Ytoibdomcekainaa.Rt
open Go.RowKit Go.Proofs.Ytoibdomcekainaa.Mem Go.Proofs.Ytoibdomcekainaa.Open Go.Proofs.Ytoibdomcekainaa.Same
set_option linter.unusedVariables false
set_option linter.unusedSimpArgs false
set_option maxHeartbeats 1000000 in
theorem long_any (A : Option Addr) (n c : Nat) (xs : List ByteArray) (w : World) (hx : Sl w Value.string A n xs) (hs : ∀ s ∈ xs, s.size ≤ 9223372036854775807) :
    Calls Try.prog 27 #[.slice A n c, .int .i64 60, .int .i64 60] w fun e w' => ∃ b : Bool, e = .returned (.bool b) ∧ (b = false → n ≤ 60 ∧ ∀ s ∈ xs, s.size ≤ 60) ∧ w = w' := by
  have hn := hx.1
  have hm := hx.2.1
  by_cases h40 : 60 < n
  · go_enter Try.func27, Try.ntmps27
    go_wp2
    go_ret
    exact ⟨true, rfl, by simp, rfl⟩
  · go_enter Try.func27, Try.ntmps27
    go_wp2
    go_loopw [7] (fun i wr => ∃ k : Nat, k ≤ n ∧ i = .int .i64 k ∧ (∀ j, (hj : j < xs.length) → j < k → xs[j].size ≤ 60) ∧ w = wr) (fun i _ => n - (intOf i).toNat)
    case atStart => exact ⟨0, by omega, rfl, fun j _ h => by omega, rfl⟩
    case round =>
      obtain ⟨k, hk, rfl, hall, rfl⟩ := hrel
      have HA := Lib.hid hall
      clear hall
      by_cases hlt : k < n
      · have hkx : k < xs.length := by omega
        obtain ⟨ad, rfl, hadb, hcell⟩ := hx.at_ hkx
        obtain ⟨s, hse⟩ : ∃ s, xs[k] = s := ⟨_, rfl⟩
        have hsz : s.size ≤ 9223372036854775807 := by have := hs _ (List.getElem_mem hkx); rw [hse] at this; omega
        rw [hse] at hcell
        by_cases h60 : 60 < s.size
        · go_wp2
          go_ret
          exact ⟨true, rfl, by simp, rfl⟩
        · have H6 : Hid (xs[k].size ≤ 60) := by rw [hse]; exact Nat.le_of_not_lt h60
          clear hse
          go_wp2
          go_roundw
          case rel => exact ⟨k + 1, by omega, by go_num, fun j hj hjk => by
            by_cases e : j = k
            · subst e; exact H6.out
            · exact HA.out j hj (by omega), trivial⟩
          case measure => simp [intOf]; omega
      · go_wp2
        go_ret
        exact ⟨false, rfl, fun _ => ⟨by omega, fun s hs => by
          obtain ⟨j, hj, rfl⟩ := List.getElem_of_mem hs
          exact HA.out j hj (by omega)⟩, rfl⟩
theorem pre_refl (xs : List ByteArray) : pre xs xs = true := decide_eq_true (List.take_length ..).symm
theorem pre_nil (xs : List ByteArray) : pre [] xs = true := decide_eq_true rfl
theorem pre_trans {xs ys zs : List ByteArray} (h1 : pre xs ys = true) (h2 : pre ys zs = true) : pre xs zs = true := by
  have e1 := of_decide_eq_true h1
  have e2 := of_decide_eq_true h2
  have hl : xs.length ≤ ys.length := by
    have := congrArg List.length e1
    rw [List.length_take] at this
    omega
  refine decide_eq_true ?_
  rw [e2, List.take_take, Nat.min_eq_left hl] at e1
  exact e1
theorem pre_both (xs ys : List ByteArray) : decide (xs = ys) = (pre xs ys && pre ys xs) := by
  cases h1 : pre xs ys with
  | false => exact decide_eq_false (fun e => by rw [e, pre_refl] at h1; cases h1)
  | true =>
    cases h2 : pre ys xs with
    | false => exact decide_eq_false (fun e => by rw [e, pre_refl] at h2; cases h2)
    | true =>
      have e1 := of_decide_eq_true h1
      have e2 := of_decide_eq_true h2
      have l1 := congrArg List.length e1
      have l2 := congrArg List.length e2
      rw [List.length_take] at l1 l2
      rw [List.take_of_length_le (by omega)] at e1
      exact decide_eq_true e1
theorem bdrew_trans {w w' : World} {q : Nat} (h : Below (w.drewN q).heap.size (w.drewN q) w') : Below w.heap.size w w' := (bdrewN (Below.refl _ _) q).trans h
set_option maxHeartbeats 1000000 in
set_option maxRecDepth 100000 in
theorem order_walk (A1 : Option Addr) (n1 c1 : Nat) (xs : List ByteArray) (A2 : Option Addr) (n2 c2 : Nat) (ys : List ByteArray) (A3 : Option Addr) (n3 c3 : Nat) (zs : List ByteArray) (w : World)
    (hx : Sl w Value.string A1 n1 xs) (hxs : ∀ s ∈ xs, s.size ≤ 9223372036854775807) (hy : Sl w Value.string A2 n2 ys) (hys : ∀ s ∈ ys, s.size ≤ 9223372036854775807) (hz : Sl w Value.string A3 n3 zs) (hzs : ∀ s ∈ zs, s.size ≤ 9223372036854775807) :
    Calls Try.prog 6 #[.slice A1 n1 c1, .slice A2 n2 c2, .slice A3 n3 c3] w fun e w' => e = .returned (.bool true) ∧ Below w.heap.size w w' := by
  have CAB := Lib.hid (fun w' h1 h2 => within_any A1 A2 n1 n2 c1 c2 xs ys w' h1 h2)
  have CBC := Lib.hid (fun w' h1 h2 => within_any A2 A3 n2 n3 c2 c3 ys zs w' h1 h2)
  have CAC := Lib.hid (fun w' h1 h2 => within_any A1 A3 n1 n3 c1 c3 xs zs w' h1 h2)
  have CBA := Lib.hid (fun w' h1 h2 => within_any A2 A1 n2 n1 c2 c1 ys xs w' h1 h2)
  have CAA := Lib.hid (fun w' h1 => within_any A1 A1 n1 n1 c1 c1 xs xs w' h1 h1)
  have CN := Lib.hid (fun w' h1 => within_any none A1 0 n1 0 c1 [] xs w' ⟨rfl, by omega, fun i x h => by simp at h⟩ h1)
  have CT := Lib.hid (fun w' h1 h2 => texts_any A1 A2 n1 n2 c1 c2 xs ys w' h1 h2)
  have HTr := Lib.hid (fun h1 h2 => pre_trans (xs := xs) (ys := ys) (zs := zs) h1 h2)
  rw [pre_refl] at CAA
  rw [pre_nil] at CN
  rw [pre_both] at CT
  have L1 := Lib.hid (long_any A1 n1 c1 xs w hx hxs)
  have L2 := Lib.hid (long_any A2 n2 c2 ys w hy hys)
  have L3 := Lib.hid (long_any A3 n3 c3 zs w hz hzs)
  go_enter Try.func6, Try.ntmps6
  go_wp2_with fail
  refine L1.out.mono ?_
  rintro e w' ⟨b1, rfl, hb1, rfl⟩
  cases b1 with
  | true =>
    go_wp2_with (go_at_call 22; refine (works_any _).mono ?_; rintro e w' ⟨rfl, hbel2⟩)
    go_ret
    exact ⟨rfl, hbel2⟩
  | false =>
  go_wp2_with fail
  refine L2.out.mono ?_
  rintro e w' ⟨b2, rfl, hb2, rfl⟩
  cases b2 with
  | true =>
    go_wp2_with (go_at_call 22; refine (works_any _).mono ?_; rintro e w' ⟨rfl, hbel2⟩)
    go_ret
    exact ⟨rfl, hbel2⟩
  | false =>
  go_wp2_with fail
  refine L3.out.mono ?_
  rintro e w' ⟨b3, rfl, hb3, rfl⟩
  cases b3 with
  | true =>
    go_wp2_with (go_at_call 22; refine (works_any _).mono ?_; rintro e w' ⟨rfl, hbel2⟩)
    go_ret
    exact ⟨rfl, hbel2⟩
  | false =>
  clear hb1 hb2 hb3 L1 L2 L3
  cases h1 : pre xs ys with
  | false =>
    rw [h1] at CAB CT
    rw [Bool.false_and] at CT
    go_wp2_with fail
    refine (CAB.out _ hx hy).mono ?_
    rintro e w' ⟨rfl, rfl⟩
    go_wp2_with fail
    refine (CAA.out _ hx).mono ?_
    rintro e w' ⟨rfl, rfl⟩
    go_wp2_with fail
    refine (CAB.out _ hx hy).mono ?_
    rintro e w' ⟨rfl, rfl⟩
    go_wp2_with fail
    refine (CT.out _ hx hy).mono ?_
    rintro e w' ⟨rfl, q, rfl⟩
    go_wp2_with fail
    refine (CN.out _ (hx.drewN q)).mono ?_
    rintro e w' ⟨rfl, rfl⟩
    go_wp2_with fail
    refine (works_any _).mono ?_
    rintro e w' ⟨rfl, hbl⟩
    go_wp2
    go_ret
    exact ⟨rfl, bdrew_trans hbl⟩
  | true =>
    rw [h1] at CAB CT
    rw [Bool.true_and] at CT
    have HTr2 := Lib.hid (fun h2 => HTr.out h1 h2)
    go_wp2_with fail
    refine (CAB.out _ hx hy).mono ?_
    rintro e w' ⟨rfl, rfl⟩
    cases h2 : pre ys zs with
    | false =>
      rw [h2] at CBC
      go_wp2_with fail
      refine (CBC.out _ hy hz).mono ?_
      rintro e w' ⟨rfl, rfl⟩
      go_wp2_with fail
      refine (CAA.out _ hx).mono ?_
      rintro e w' ⟨rfl, rfl⟩
      go_wp2_with fail
      refine (CAB.out _ hx hy).mono ?_
      rintro e w' ⟨rfl, rfl⟩
      go_wp2_with fail
      refine (CBA.out _ hy hx).mono ?_
      rintro e w' ⟨rfl, rfl⟩
      cases h3 : pre ys xs with
      | false =>
        rw [h3] at CT
        go_wp2_with fail
        refine (CT.out _ hx hy).mono ?_
        rintro e w' ⟨rfl, q, rfl⟩
        go_wp2_with fail
        refine (CN.out _ (hx.drewN q)).mono ?_
        rintro e w' ⟨rfl, rfl⟩
        go_wp2_with fail
        refine (works_any _).mono ?_
        rintro e w' ⟨rfl, hbl⟩
        go_wp2
        go_ret
        exact ⟨rfl, bdrew_trans hbl⟩
      | true =>
        rw [h3] at CT
        go_wp2_with fail
        refine (CT.out _ hx hy).mono ?_
        rintro e w' ⟨rfl, q, rfl⟩
        go_wp2_with fail
        refine (CN.out _ (hx.drewN q)).mono ?_
        rintro e w' ⟨rfl, rfl⟩
        go_wp2_with fail
        refine (works_any _).mono ?_
        rintro e w' ⟨rfl, hbl⟩
        go_wp2
        go_ret
        exact ⟨rfl, bdrew_trans hbl⟩
    | true =>
      rw [h2] at CBC
      rw [HTr2.out h2] at CAC
      go_wp2_with fail
      refine (CBC.out _ hy hz).mono ?_
      rintro e w' ⟨rfl, rfl⟩
      go_wp2_with fail
      refine (CAC.out _ hx hz).mono ?_
      rintro e w' ⟨rfl, rfl⟩
      go_wp2_with fail
      refine (CAA.out _ hx).mono ?_
      rintro e w' ⟨rfl, rfl⟩
      go_wp2_with fail
      refine (CAB.out _ hx hy).mono ?_
      rintro e w' ⟨rfl, rfl⟩
      go_wp2_with fail
      refine (CBA.out _ hy hx).mono ?_
      rintro e w' ⟨rfl, rfl⟩
      cases h3 : pre ys xs with
      | false =>
        rw [h3] at CT
        go_wp2_with fail
        refine (CT.out _ hx hy).mono ?_
        rintro e w' ⟨rfl, q, rfl⟩
        go_wp2_with fail
        refine (CN.out _ (hx.drewN q)).mono ?_
        rintro e w' ⟨rfl, rfl⟩
        go_wp2_with fail
        refine (works_any _).mono ?_
        rintro e w' ⟨rfl, hbl⟩
        go_wp2
        go_ret
        exact ⟨rfl, bdrew_trans hbl⟩
      | true =>
        rw [h3] at CT
        go_wp2_with fail
        refine (CT.out _ hx hy).mono ?_
        rintro e w' ⟨rfl, q, rfl⟩
        go_wp2_with fail
        refine (CN.out _ (hx.drewN q)).mono ?_
        rintro e w' ⟨rfl, rfl⟩
        go_wp2_with fail
        refine (works_any _).mono ?_
        rintro e w' ⟨rfl, hbl⟩
        go_wp2
        go_ret
        exact ⟨rfl, bdrew_trans hbl⟩
end Go.Proofs.Ytoibdomcekainaa.Rt
