/- Lists of changes: whether they may be; the document's small functions. No statement is proved here. -/
import Derived.Test.YteeodeooicoekaaCh
namespace Go.Proofs.Yteeodeooicoekaa.Rd
open Go.RowKit Go.Proofs.Yteeodeooicoekaa.Mem Go.Proofs.Yteeodeooicoekaa.Open Go.Proofs.Yteeodeooicoekaa.Kind Go.Proofs.Yteeodeooicoekaa.Blk Go.Proofs.Yteeodeooicoekaa.App Go.Proofs.Yteeodeooicoekaa.Pat
set_option linter.unusedVariables false
set_option linter.unusedSimpArgs false
/-- Do numbers rise behind one, below an end? -/
def riseF (e : Int) : Int → List Int → Bool
  | _, [] => true
  | was, n :: r => !decide (n ≤ was) && !decide (e ≤ n) && riseF e n r
theorem riseF_le {e was n : Int} {r : List Int} (h : n ≤ was) : riseF e was (n :: r) = false := by simp [riseF, h]
theorem riseF_ge {e was n : Int} {r : List Int} (h : e ≤ n) : riseF e was (n :: r) = false := by simp [riseF, h]
theorem riseF_on {e was n : Int} {r : List Int} (h : ¬ n ≤ was) (h2 : ¬ e ≤ n) : riseF e was (n :: r) = riseF e n r := by simp [riseF, h, h2]
theorem drop_at {α : Type} {xs : List α} {k : Nat} (h : k < xs.length) : xs.drop k = xs[k] :: xs.drop (k + 1) := List.drop_eq_getElem_cons h
theorem drop_end {α : Type} {xs : List α} : xs.drop xs.length = [] := List.drop_length ..
set_option maxHeartbeats 1000000 in
theorem rise_any (A : Option Addr) (c : Nat) (xs : List Int) (e : Int) (w : World) (hx : Is w A xs) :
    Calls Try.prog 76 #[.slice A xs.length c, .int .i64 e] w fun r w' => r = .returned (.bool (riseF e 0 xs)) ∧ Below w.heap.size w w' := by
  have hl := hx.2.1
  unfold M63 at hl
  go_enter Try.func76, Try.ntmps76
  go_wp2
  go_loopw [5, 10] (fun v i wr => ∃ (k : Nat) (was : Int), k ≤ xs.length ∧ i = .int .i64 k ∧ v = .int .i64 was ∧ Hid (riseF e 0 xs = riseF e was (xs.drop k)) ∧ Below w.heap.size w wr) (fun _ i _ => xs.length - (intOf i).toNat)
  case atStart => exact ⟨0, 0, by omega, rfl, rfl, Lib.hid rfl, Below.refl _ _⟩
  case round =>
    obtain ⟨k, was, hk, rfl, rfl, hv, hbr⟩ := hrel
    by_cases hlt : k < xs.length
    · obtain ⟨g, o, rfl, hg, hc0⟩ := is_at hx k hlt
      have hc := (hbr.cell (p := ⟨g, o + k, none⟩) hg).trans hc0
      have hv := hv.out
      rw [drop_at hlt] at hv
      clear hc0
      generalize xs[k] = x at *
      by_cases h1 : x ≤ was
      · rw [riseF_le h1] at hv
        have HV := Lib.hid hv
        clear hv
        go_wp2
        go_ret
        exact ⟨ret_bool HV.out.symm, hbr⟩
      by_cases h2 : e ≤ x
      · rw [riseF_ge h2] at hv
        have HV := Lib.hid hv
        clear hv
        go_wp2
        go_ret
        exact ⟨ret_bool HV.out.symm, hbr⟩
      · rw [riseF_on h1 h2] at hv
        have HV := Lib.hid hv
        clear hv
        go_wp2
        go_roundw
        case rel => exact ⟨k + 1, x, by omega, by go_num, rfl, HV, hbr⟩
        case measure => simp [intOf]; omega
    · obtain rfl : k = xs.length := by omega
      have hv := hv.out
      rw [drop_end] at hv
      have HV : Hid (riseF e 0 xs = true) := Lib.hid hv
      clear hv
      go_wp2
      go_ret
      exact ⟨ret_bool HV.out.symm, hbr⟩
set_option maxHeartbeats 1000000 in
theorem in_any (A : Option Addr) (c : Nat) (xs : List Int) (n : Int) (w : World) (hx : Is w A xs) :
    Calls Try.prog 42 #[.slice A xs.length c, .int .i64 n] w fun r w' => r = .returned (.bool (decide (n ∈ xs))) ∧ Below w.heap.size w w' := by
  have hl := hx.2.1
  unfold M63 at hl
  go_enter Try.func42, Try.ntmps42
  go_wp2
  go_loopw [5] (fun i wr => ∃ (k : Nat), k ≤ xs.length ∧ i = .int .i64 k ∧ Hid (decide (n ∈ xs) = decide (n ∈ xs.drop k)) ∧ Below w.heap.size w wr) (fun i _ => xs.length - (intOf i).toNat)
  case atStart => exact ⟨0, by omega, rfl, Lib.hid rfl, Below.refl _ _⟩
  case round =>
    obtain ⟨k, hk, rfl, hv, hbr⟩ := hrel
    by_cases hlt : k < xs.length
    · obtain ⟨g, o, rfl, hg, hc0⟩ := is_at hx k hlt
      have hc := (hbr.cell (p := ⟨g, o + k, none⟩) hg).trans hc0
      have hv := hv.out
      rw [drop_at hlt] at hv
      clear hc0
      generalize xs[k] = x at *
      by_cases h1 : x = n
      · have HV : Hid (decide (n ∈ xs) = true) := Lib.hid (hv.trans (decide_eq_true (by rw [h1]; exact List.mem_cons_self)))
        clear hv
        have he : (x == n) = true := by rw [h1]; exact beq_self_eq_true n
        clear h1
        go_wp2
        go_ret
        exact ⟨ret_bool HV.out.symm, hbr⟩
      · have he : (x == n) = false := beq_eq_false_iff_ne.2 h1
        have HV : Hid (decide (n ∈ xs) = decide (n ∈ xs.drop (k + 1))) := Lib.hid (hv.trans (by
          by_cases h : n ∈ xs.drop (k + 1)
          · rw [decide_eq_true h, decide_eq_true (List.mem_cons_of_mem _ h)]
          · rw [decide_eq_false h, decide_eq_false (fun h2 => by rcases List.mem_cons.1 h2 with h2 | h2; exact h1 h2.symm; exact h h2)]))
        clear hv
        go_wp2
        go_roundw
        case rel => exact ⟨k + 1, by omega, by go_num, HV, hbr⟩
        case measure => simp [intOf]; omega
    · obtain rfl : k = xs.length := by omega
      have hv := hv.out
      rw [drop_end] at hv
      have HV : Hid (decide (n ∈ xs) = false) := Lib.hid (hv.trans (decide_eq_false (by simp)))
      clear hv
      go_wp2
      go_ret
      exact ⟨ret_bool HV.out.symm, hbr⟩
/-- The place of a number. -/
def placeF (id : Int) : List Chg → Nat → Int
  | [], _ => -1
  | x :: r, k => if x.id = id then (k : Int) else placeF id r (k + 1)
theorem ret_num {a b : Int} (h : a = b) : Ending.returned (.int .i64 a) = .returned (.int .i64 b) := by rw [h]
set_option maxHeartbeats 1000000 in
theorem place_any (A : Option Addr) (c : Nat) (xs : List Chg) (n : Int) (w : World) (hx : Chs w A xs) :
    Calls Try.prog 65 #[.slice A xs.length c, .int .i64 n] w fun r w' => r = .returned (.int .i64 (placeF n xs 0)) ∧ Below w.heap.size w w' := by
  have hl := hx.2.1
  unfold M63 at hl
  go_enter Try.func65, Try.ntmps65
  go_wp2
  go_loopw [5] (fun i wr => ∃ (k : Nat), k ≤ xs.length ∧ i = .int .i64 k ∧ Hid (placeF n xs 0 = placeF n (xs.drop k) k) ∧ Below w.heap.size w wr) (fun i _ => xs.length - (intOf i).toNat)
  case atStart => exact ⟨0, by omega, rfl, Lib.hid rfl, Below.refl _ _⟩
  case round =>
    obtain ⟨k, hk, rfl, hv, hbr⟩ := hrel
    by_cases hlt : k < xs.length
    · obtain ⟨g, o, rfl, hg⟩ := ch_form hx (by omega)
      obtain ⟨A1, c1, A2, c2, hat⟩ := ch_at hx k hlt
      have hc := (hbr.cell (p := ⟨g, o + k * 5, none⟩) hg).trans hat.v0
      have hv := hv.out
      rw [drop_at hlt] at hv
      clear hat
      generalize xs[k] = x at *
      by_cases h1 : x.id = n
      · have HV : Hid (placeF n xs 0 = k) := Lib.hid (hv.trans (if_pos h1))
        clear hv
        have he : (x.id == n) = true := by rw [h1]; exact beq_self_eq_true n
        clear h1
        go_wp2
        go_ret
        exact ⟨ret_num HV.out.symm, hbr⟩
      · have he : (x.id == n) = false := beq_eq_false_iff_ne.2 h1
        have HV : Hid (placeF n xs 0 = placeF n (xs.drop (k + 1)) (k + 1)) := Lib.hid (hv.trans (if_neg h1))
        clear hv
        go_wp2
        go_roundw
        case rel => exact ⟨k + 1, by omega, by go_num, HV, hbr⟩
        case measure => simp [intOf]; omega
    · obtain rfl : k = xs.length := by omega
      have hv := hv.out
      rw [drop_end] at hv
      have HV : Hid (placeF n xs 0 = -1) := Lib.hid hv
      clear hv
      go_wp2
      go_ret
      exact ⟨ret_num HV.out.symm, hbr⟩
/-- More than is gone through? -/
def bigC (x : Chg) : Bool := decide (300 < x.pd.length) || decide (60 < x.needs.length)
def muchC (xs : List Chg) (m : Nat) : Bool := decide (m < xs.length) || xs.any bigC
set_option maxHeartbeats 1000000 in
theorem much_any (A : Option Addr) (c : Nat) (xs : List Chg) (m : Nat) (w : World) (hx : Chs w A xs) (hm : m ≤ 1000) :
    Calls Try.prog 12 #[.slice A xs.length c, .int .i64 (m : Int)] w fun r w' => r = .returned (.bool (muchC xs m)) ∧ Below w.heap.size w w' := by
  have hl := hx.2.1
  unfold M63 at hl
  go_enter Try.func12, Try.ntmps12
  by_cases h20 : m < xs.length
  · have HV : Hid (muchC xs m = true) := by show _ = _; unfold muchC; rw [decide_eq_true h20]; rfl
    go_wp2
    go_ret
    exact ⟨ret_bool HV.out.symm, Below.refl _ _⟩
  have hm0 : muchC xs m = xs.any bigC := by unfold muchC; rw [decide_eq_false h20]; rfl
  rw [hm0]
  clear hm0
  go_wp2
  go_loopw [5] (fun i wr => ∃ (k : Nat), k ≤ xs.length ∧ i = .int .i64 k ∧ Hid (xs.any bigC = (xs.drop k).any bigC) ∧ Below w.heap.size w wr) (fun i _ => xs.length - (intOf i).toNat)
  case atStart => exact ⟨0, by omega, rfl, Lib.hid rfl, Below.refl _ _⟩
  case round =>
    obtain ⟨k, hk, rfl, hv, hbr⟩ := hrel
    by_cases hlt : k < xs.length
    · obtain ⟨g, o, rfl, hg⟩ := ch_form hx (by omega)
      obtain ⟨A1, c1, A2, c2, hat0⟩ := ch_at hx k hlt
      have hc3 := (hbr.cell (p := ⟨g, o + k * 5 + 2 + 1, none⟩) hg).trans hat0.v3
      have hc4 := (hbr.cell (p := ⟨g, o + k * 5 + 4, none⟩) hg).trans hat0.v4
      have l1 : xs[k].pd.length ≤ 9223372036854775807 := hat0.p.2.2.2.2.1
      have l2 : xs[k].needs.length ≤ 9223372036854775807 := hat0.n.2.2.2.2.1
      have hv := hv.out
      rw [drop_at hlt, List.any_cons] at hv
      clear hat0
      generalize xs[k] = x at *
      by_cases h1 : 300 < x.pd.length
      · have HV : Hid (xs.any bigC = true) := Lib.hid (hv.trans (by unfold bigC; rw [decide_eq_true h1]; rfl))
        clear hv
        go_wp2
        go_ret
        exact ⟨ret_bool HV.out.symm, hbr⟩
      by_cases h2 : 60 < x.needs.length
      · have HV : Hid (xs.any bigC = true) := Lib.hid (hv.trans (by unfold bigC; rw [decide_eq_true h2, Bool.or_true]; rfl))
        clear hv
        go_wp2
        go_ret
        exact ⟨ret_bool HV.out.symm, hbr⟩
      · have HV : Hid (xs.any bigC = (xs.drop (k + 1)).any bigC) := Lib.hid (hv.trans (by unfold bigC; rw [decide_eq_false h1, decide_eq_false h2]; rfl))
        clear hv
        go_wp2
        go_roundw
        case rel => exact ⟨k + 1, by omega, by go_num, HV, hbr⟩
        case measure => simp [intOf]; omega
    · obtain rfl : k = xs.length := by omega
      have hv := hv.out
      rw [drop_end] at hv
      have HV : Hid (xs.any bigC = false) := Lib.hid hv
      clear hv
      go_wp2
      go_ret
      exact ⟨ret_bool HV.out.symm, hbr⟩
end Go.Proofs.Yteeodeooicoekaa.Rd
