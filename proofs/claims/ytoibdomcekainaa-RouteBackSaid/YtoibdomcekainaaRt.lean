/- Names: name.Check and the document's Right. -/
import Derived.Test.YtoibdomcekainaaSame
import Derived.Lib.Hide
import Derived.Outline
namespace Go.Proofs.Ytoibdomcekainaa.Rt
open Go.RowKit Go.Proofs.Ytoibdomcekainaa.Mem Go.Proofs.Ytoibdomcekainaa.Open Go.Proofs.Ytoibdomcekainaa.Same
set_option linter.unusedVariables false
set_option linter.unusedSimpArgs false
def badC (c : UInt8) : Bool := c == 0 || c == 47
def dot1 : ByteArray := ⟨#[46]⟩
def dot2 : ByteArray := ⟨#[46, 46]⟩
/-- May it be a name? -/
def nameB (s : ByteArray) : Bool := decide (1 ≤ s.size) && decide (s.size ≤ 24) && !decide (s = dot1) && !decide (s = dot2) && !s.data.toList.any badC
theorem name_any {s : ByteArray} {k : Nat} (hk : k < s.size) (h : badC s[k] = true) : nameB s = false := by
  unfold nameB
  have : s.data.toList.any badC = true := List.any_eq_true.2 ⟨s[k], by rw [Array.mem_toList_iff]; exact Array.getElem_mem (by exact hk), h⟩
  rw [this]; simp
theorem name_all {s : ByteArray} (h : ∀ j, (hj : j < s.size) → badC s[j] = false) : s.data.toList.any badC = false := by
  rw [List.any_eq_false]
  intro c hc
  obtain ⟨i, hi, rfl⟩ := List.mem_iff_getElem.1 hc
  have hi2 : i < s.size := by simpa using hi
  have e : s.data.toList[i] = s[i] := rfl
  rw [e, h i hi2]
  simp
theorem dot1_list : dot1.toList = [46] := by decide +kernel
theorem dot2_list : dot2.toList = [46, 46] := by decide +kernel
theorem dot1_eq (s : ByteArray) : (s.toList == [46]) = decide (s = dot1) := by rw [← str_eq, dot1_list]
theorem dot2_eq (s : ByteArray) : (s.toList == [46, 46]) = decide (s = dot2) := by rw [← str_eq, dot2_list]
theorem bad_iff (c : UInt8) : badC c = (((c.toNat : Int) == 0) || ((c.toNat : Int) == 47)) := by
  unfold badC
  have e (n : UInt8) : (c == n) = ((c.toNat : Int) == (n.toNat : Int)) := by
    rw [Bool.eq_iff_iff, beq_iff_eq, beq_iff_eq]
    constructor
    · rintro rfl; rfl
    · intro h; exact UInt8.toNat_inj.1 (Int.ofNat.inj h)
  rw [e 0, e 47]
  rfl
def nameE (s : ByteArray) : Int := if nameB s then 0 else 3
theorem nameE_no {s : ByteArray} (h : nameB s = false) : nameE s = 3 := by unfold nameE; rw [h]; rfl
theorem nameE_yes {s : ByteArray} (h : nameB s = true) : nameE s = 0 := by unfold nameE; rw [h]; rfl
theorem ret_int {k : IntKind} {a b : Int} (h : a = b) : Ending.returned (.int k a) = .returned (.int k b) := by rw [h]
set_option maxHeartbeats 1000000 in
theorem check_any (s : ByteArray) (w : World) (hs : s.size ≤ 9223372036854775807) :
    Calls Try.prog 58 #[.string s] w fun e w' => e = .returned (.int .i64 (nameE s)) ∧ w = w' := by
  by_cases h1 : s.size < 1
  · have HF : Hid (nameE s = 3) := nameE_no (by unfold nameB; rw [decide_eq_false (by omega)]; rfl)
    go_enter Try.func58, Try.ntmps58
    go_wp2
    go_ret
    exact ⟨ret_int HF.out.symm, rfl⟩
  by_cases h2 : 24 < s.size
  · have HF : Hid (nameE s = 3) := nameE_no (by unfold nameB; rw [decide_eq_false (p := s.size ≤ 24) (by omega)]; simp)
    go_enter Try.func58, Try.ntmps58
    go_wp2
    go_ret
    exact ⟨ret_int HF.out.symm, rfl⟩
  cases hc1 : (s.toList == [46]) with
  | true =>
    have HF : Hid (nameE s = 3) := nameE_no (by rw [dot1_eq] at hc1; unfold nameB; rw [hc1]; simp)
    go_enter Try.func58, Try.ntmps58
    go_wp2
    go_ret
    exact ⟨ret_int HF.out.symm, rfl⟩
  | false =>
  cases hc2 : (s.toList == [46, 46]) with
  | true =>
    have HF : Hid (nameE s = 3) := nameE_no (by rw [dot2_eq] at hc2; unfold nameB; rw [hc2]; simp)
    go_enter Try.func58, Try.ntmps58
    go_wp2
    go_ret
    exact ⟨ret_int HF.out.symm, rfl⟩
  | false =>
  have HN : Hid (nameB s = !s.data.toList.any badC) := by
    show _ = _
    rw [dot1_eq] at hc1
    rw [dot2_eq] at hc2
    unfold nameB
    rw [hc1, hc2, decide_eq_true (by omega), decide_eq_true (by omega)]
    simp
  have hl1 : 1 ≤ s.size := by omega
  have hl2 : s.size ≤ 24 := by omega
  go_enter Try.func58, Try.ntmps58
  go_wp2
  go_loop [3, 22] (fun _ i => ∃ k : Nat, k ≤ s.size ∧ i = .int .i64 k ∧ ∀ j, (hj : j < s.size) → j < k → badC s[j] = false) (fun _ i => s.size - (intOf i).toNat)
  case atStart => exact ⟨0, Nat.zero_le _, rfl, fun j _ h => by omega⟩
  case round =>
    obtain ⟨k, hk, rfl, hall⟩ := hrel
    have HA := Lib.hid hall
    clear hall
    by_cases hlt : k < s.size
    · have hz := s[k].toNat_lt
      cases hb0 : badC s[k] with
      | true =>
        have HF : Hid (nameE s = 3) := nameE_no (name_any hlt hb0)
        cases h0 : ((s[k].toNat : Int) == 0) with
        | true =>
          go_wp2
          go_ret
          exact ⟨ret_int HF.out.symm, rfl⟩
        | false =>
          have h47 : ((s[k].toNat : Int) == 47) = true := by rw [bad_iff, h0] at hb0; simpa using hb0
          go_wp2
          go_ret
          exact ⟨ret_int HF.out.symm, rfl⟩
      | false =>
        have h0 : ((s[k].toNat : Int) == 0) = false := by rw [bad_iff] at hb0; exact (Bool.or_eq_false_iff.1 hb0).1
        have h47 : ((s[k].toNat : Int) == 47) = false := by rw [bad_iff] at hb0; exact (Bool.or_eq_false_iff.1 hb0).2
        have HA2 : Hid (∀ j, (hj : j < s.size) → j < k + 1 → badC s[j] = false) := fun j hj hjk => by
          by_cases e : j = k
          · subst e; exact hb0
          · exact HA.out j hj (by omega)
        clear hb0
        go_wp2
        go_round
        case rel => exact ⟨k + 1, by omega, by go_num, HA2.out⟩
        case measure => simp [intOf]; omega
    · have HF : Hid (nameE s = 0) := nameE_yes (by rw [HN.out, name_all (fun j hj => HA.out j hj (by omega))]; rfl)
      go_wp2
      go_ret
      exact ⟨ret_int HF.out.symm, rfl⟩
end Go.Proofs.Ytoibdomcekainaa.Rt
