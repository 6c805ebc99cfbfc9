/- Names: the document's Right; lists of texts within others, and too long ones. -/
import Derived.Test.YtoibdomcekainaaRt
namespace Go.Proofs.Ytoibdomcekainaa.Rt
open Go.RowKit Go.Proofs.Ytoibdomcekainaa.Mem Go.Proofs.Ytoibdomcekainaa.Open Go.Proofs.Ytoibdomcekainaa.Same
set_option linter.unusedVariables false
set_option linter.unusedSimpArgs false
set_option maxHeartbeats 1000000 in
theorem right_any (s : ByteArray) (w : World) (hs : s.size ≤ 9223372036854775807) :
    Calls Try.prog 59 #[.string s] w fun e w' => e = .returned (.bool (nameB s)) ∧ w = w' := by
  by_cases h1 : s.size < 1
  · have HF : Hid (nameB s = false) := show nameB s = false from (by unfold nameB; rw [decide_eq_false (by omega)]; rfl)
    go_enter Try.func59, Try.ntmps59
    go_wp2
    go_ret
    exact ⟨ret_bool HF.out.symm, rfl⟩
  by_cases h2 : 24 < s.size
  · have HF : Hid (nameB s = false) := show nameB s = false from (by unfold nameB; rw [decide_eq_false (p := s.size ≤ 24) (by omega)]; simp)
    go_enter Try.func59, Try.ntmps59
    go_wp2
    go_ret
    exact ⟨ret_bool HF.out.symm, rfl⟩
  cases hc1 : (s.toList == [46]) with
  | true =>
    have HF : Hid (nameB s = false) := show nameB s = false from (by rw [dot1_eq] at hc1; unfold nameB; rw [hc1]; simp)
    go_enter Try.func59, Try.ntmps59
    go_wp2
    go_ret
    exact ⟨ret_bool HF.out.symm, rfl⟩
  | false =>
  cases hc2 : (s.toList == [46, 46]) with
  | true =>
    have HF : Hid (nameB s = false) := show nameB s = false from (by rw [dot2_eq] at hc2; unfold nameB; rw [hc2]; simp)
    go_enter Try.func59, Try.ntmps59
    go_wp2
    go_ret
    exact ⟨ret_bool HF.out.symm, rfl⟩
  | false =>
  have HN : Hid (nameB s = !s.data.toList.any badC) := by
    show _ = _
    rw [dot1_eq] at hc1
    rw [dot2_eq] at hc2
    unfold nameB
    rw [hc1, hc2, decide_eq_true (by omega), decide_eq_true (by omega)]
    simp
  have hl1 : 1 ≤ s.size := by omega
  have hl2 : s.size ≤ 24 := by omega
  go_enter Try.func59, Try.ntmps59
  go_wp2
  go_loop [3] (fun i => ∃ k : Nat, k ≤ s.size ∧ i = .int .i64 k ∧ ∀ j, (hj : j < s.size) → j < k → badC s[j] = false) (fun i => s.size - (intOf i).toNat)
  case atStart => exact ⟨0, Nat.zero_le _, rfl, fun j _ h => by omega⟩
  case round =>
    obtain ⟨k, hk, rfl, hall⟩ := hrel
    have HA := Lib.hid hall
    clear hall
    by_cases hlt : k < s.size
    · have hz := s[k].toNat_lt
      cases hb0 : badC s[k] with
      | true =>
        have HF : Hid (nameB s = false) := (name_any hlt hb0)
        cases h0 : ((s[k].toNat : Int) == 0) with
        | true =>
          go_wp2
          go_ret
          exact ⟨ret_bool HF.out.symm, rfl⟩
        | false =>
          have h47 : ((s[k].toNat : Int) == 47) = true := by rw [bad_iff, h0] at hb0; simpa using hb0
          go_wp2
          go_ret
          exact ⟨ret_bool HF.out.symm, rfl⟩
      | false =>
        have h0 : ((s[k].toNat : Int) == 0) = false := by rw [bad_iff] at hb0; exact (Bool.or_eq_false_iff.1 hb0).1
        have h47 : ((s[k].toNat : Int) == 47) = false := by rw [bad_iff] at hb0; exact (Bool.or_eq_false_iff.1 hb0).2
        have HA2 : Hid (∀ j, (hj : j < s.size) → j < k + 1 → badC s[j] = false) := fun j hj hjk => by
          by_cases e : j = k
          · subst e; exact hb0
          · exact HA.out j hj (by omega)
        clear hb0
        go_wp2
        go_round
        case rel => exact ⟨k + 1, by omega, by go_num, HA2.out⟩
        case measure => simp [intOf]; omega
    · have HF : Hid (nameB s = true) := show nameB s = true from (by rw [HN.out, name_all (fun j hj => HA.out j hj (by omega))]; rfl)
      go_wp2
      go_ret
      exact ⟨ret_bool HF.out.symm, rfl⟩
/-- Is a list the beginning of another one? -/
def pre (xs ys : List ByteArray) : Bool := decide (xs = ys.take xs.length)
theorem pre_no {xs ys : List ByteArray} (h : ys.length < xs.length) : pre xs ys = false := by
  refine decide_eq_false fun e => ?_
  have := congrArg List.length e
  rw [List.length_take] at this
  omega
set_option maxHeartbeats 1000000 in
theorem within_any (A B : Option Addr) (n m c d : Nat) (xs ys : List ByteArray) (w : World) (hx : Sl w Value.string A n xs) (hy : Sl w Value.string B m ys) :
    Calls Try.prog 28 #[.slice A n c, .slice B m d] w fun e w' => e = .returned (.bool (pre xs ys)) ∧ w = w' := by
  have hn := hx.1
  have hm := hy.1
  have hn2 := hx.2.1
  have hm2 := hy.2.1
  by_cases h : m < n
  · have HF : Hid (pre xs ys = false) := pre_no (by omega)
    go_enter Try.func28, Try.ntmps28
    go_wp2
    go_ret
    exact ⟨ret_bool HF.out.symm, rfl⟩
  · go_enter Try.func28, Try.ntmps28
    go_wp2
    go_loopw [5, 6, 14] (fun _ _ i wr => ∃ k : Nat, k ≤ n ∧ i = .int .i64 k ∧ (∀ j, j < k → xs[j]? = ys[j]?) ∧ w = wr) (fun _ _ i _ => n - (intOf i).toNat)
    case atStart => exact ⟨0, by omega, rfl, fun j h => by omega, rfl⟩
    case round =>
      obtain ⟨k, hk, rfl, he, rfl⟩ := hrel
      have HE := Lib.hid he
      clear he
      by_cases hlt : k < n
      · obtain ⟨a, rfl, ha, hca⟩ := hx.at_ (i := k) (by omega)
        obtain ⟨b, rfl, hb, hcb⟩ := hy.at_ (i := k) (by omega)
        have ex : xs[k]? = some (xs[k]'(by omega)) := List.getElem?_eq_getElem _
        have ey : ys[k]? = some (ys[k]'(by omega)) := List.getElem?_eq_getElem _
        generalize xs[k]'(by omega) = x at hca ex
        generalize ys[k]'(by omega) = y at hcb ey
        by_cases hxy : x = y
        · have hc : (x.toList == y.toList) = true := by rw [str_eq, decide_eq_true_eq]; exact hxy
          have HE' : Hid (∀ j, j < k + 1 → xs[j]? = ys[j]?) := same_step HE.out (by rw [ex, ey, hxy])
          clear ex ey hxy HE
          go_wp2
          go_roundw
          case rel => exact ⟨k + 1, by omega, by go_num, HE'.out, trivial⟩
          case measure => simp [intOf]; omega
        · have hc : (x.toList == y.toList) = false := by rw [str_eq, decide_eq_false_iff_not]; exact hxy
          have HF : Hid (pre xs ys = false) := decide_eq_false fun h => by
            rw [h, List.getElem?_take, if_pos (by omega), ey] at ex
            exact hxy (Option.some.inj ex).symm
          clear ex ey HE
          go_wp2
          go_ret
          exact ⟨ret_bool HF.out.symm, rfl⟩
      · have HF : Hid (pre xs ys = true) := decide_eq_true (by
          apply List.ext_getElem?
          intro j
          rw [List.getElem?_take]
          by_cases hj : j < xs.length
          · rw [if_pos hj]; exact HE.out j (by omega)
          · rw [if_neg hj, List.getElem?_eq_none (by omega)])
        go_wp2
        go_ret
        exact ⟨ret_bool HF.out.symm, rfl⟩
end Go.Proofs.Ytoibdomcekainaa.Rt
