/- route.Split. -/
import Derived.Test.YtoibdomcekainaaRt3
namespace Go.Proofs.Ytoibdomcekainaa.Rt
open Go.RowKit Go.Proofs.Ytoibdomcekainaa.Mem Go.Proofs.Ytoibdomcekainaa.Open Go.Proofs.Ytoibdomcekainaa.Same
set_option linter.unusedVariables false
set_option linter.unusedSimpArgs false
def em (p : ByteArray) : Bool := decide (p.size = 0)
theorem em_eq (p : ByteArray) : (p.toList == []) = em p := by
  unfold em
  rw [ByteArray.toList_eq, Bool.eq_iff_iff, beq_iff_eq, decide_eq_true_eq]
  constructor
  · intro h; have := congrArg List.length h; simpa using this
  · intro h; apply List.eq_nil_of_length_eq_zero; simpa using h
def slash : ByteArray := ⟨#[47]⟩
theorem slash_eq (s : ByteArray) : (s.toList == [47]) = decide (s = slash) := by rw [← str_eq, show slash.toList = [47] from by decide +kernel]
/-- May its first byte begin a path, and is it not too long? -/
def begs (s : ByteArray) : Bool := if h : 0 < s.size then decide (s.size ≤ 200) && decide (s[0] = 47) else false
/-- Why a text is no path, or nought. -/
def splitE (s : ByteArray) : Int :=
  if begs s then (if s = slash then 0 else if (btw s 1 0).any em then 15 else if (btw s 1 0).all nameB then 0 else 3) else 15
/-- Its names. -/
def splitL (s : ByteArray) : List ByteArray := if splitE s = 0 then (if s = slash then [] else btw s 1 0) else []
theorem splitE_no {s : ByteArray} (h : begs s = false) : splitE s = 15 ∧ splitL s = [] := by
  have : splitE s = 15 := by unfold splitE; rw [h]; rfl
  exact ⟨this, by unfold splitL; rw [this]; rfl⟩
theorem splitE_slash {s : ByteArray} (h : begs s = true) (h2 : s = slash) : splitE s = 0 ∧ splitL s = [] := by
  have : splitE s = 0 := by unfold splitE; rw [h, if_pos rfl, if_pos h2]
  exact ⟨this, by unfold splitL; rw [this, if_pos rfl, if_pos h2]⟩
theorem splitE_em {s : ByteArray} (h : begs s = true) (h2 : s ≠ slash) (h3 : (btw s 1 0).any em = true) : splitE s = 15 ∧ splitL s = [] := by
  have : splitE s = 15 := by unfold splitE; rw [h, if_pos rfl, if_neg h2, h3]; rfl
  exact ⟨this, by unfold splitL; rw [this]; rfl⟩
theorem splitE_bad {s : ByteArray} (h : begs s = true) (h2 : s ≠ slash) (h3 : (btw s 1 0).any em = false) (h4 : (btw s 1 0).all nameB = false) : splitE s = 3 ∧ splitL s = [] := by
  have : splitE s = 3 := by unfold splitE; rw [h, if_pos rfl, if_neg h2, h3, h4]; rfl
  exact ⟨this, by unfold splitL; rw [this]; rfl⟩
theorem splitE_ok {s : ByteArray} (h : begs s = true) (h2 : s ≠ slash) (h3 : (btw s 1 0).any em = false) (h4 : (btw s 1 0).all nameB = true) : splitE s = 0 ∧ splitL s = btw s 1 0 := by
  have : splitE s = 0 := by unfold splitE; rw [h, if_pos rfl, if_neg h2, h3, h4]; rfl
  exact ⟨this, by unfold splitL; rw [this, if_pos rfl, if_neg h2]⟩
theorem any_at {α : Type} {xs : List α} {f : α → Bool} {k : Nat} (hk : k < xs.length) (h : f xs[k] = true) : xs.any f = true := List.any_eq_true.2 ⟨_, List.getElem_mem hk, h⟩
theorem any_none {α : Type} {xs : List α} {f : α → Bool} (h : ∀ j, (hj : j < xs.length) → f xs[j] = false) : xs.any f = false := by
  rw [List.any_eq_false]
  intro x hx
  obtain ⟨i, hi, rfl⟩ := List.mem_iff_getElem.1 hx
  rw [h i hi]; simp
theorem all_at {α : Type} {xs : List α} {f : α → Bool} {k : Nat} (hk : k < xs.length) (h : f xs[k] = false) : xs.all f = false := by
  rw [List.all_eq_false]
  exact ⟨_, List.getElem_mem hk, by rw [h]; simp⟩
theorem all_each {α : Type} {xs : List α} {f : α → Bool} (h : ∀ j, (hj : j < xs.length) → f xs[j] = true) : xs.all f = true := by
  rw [List.all_eq_true]
  intro x hx
  obtain ⟨i, hi, rfl⟩ := List.mem_iff_getElem.1 hx
  exact h i hi
theorem btw_size (s : ByteArray) (b i : Nat) : ∀ p ∈ btw s b i, p.size ≤ s.size := by
  induction h : s.size - i generalizing b i with
  | zero => rw [btw_end (by omega)]; intro p hp; simp at hp; subst hp; simp <;> omega
  | succ n ih =>
    by_cases hc : s[i]'(by omega) = 47 ∧ 0 < i
    · rw [btw_cut (by omega) hc.1 hc.2]
      intro p hp
      rcases List.mem_cons.1 hp with rfl | hp
      · simp <;> omega
      · exact ih (i + 1) (i + 1) (by omega) p hp
    · rw [btw_go (by omega) hc]
      exact ih b (i + 1) (by omega)
theorem ret_split {v : Value} {a b : Int} (h : a = b) : Ending.returned (.tuple #[v, .int .i64 a]) = .returned (.tuple #[v, .int .i64 b]) := by rw [h]
set_option maxHeartbeats 1000000 in
set_option maxRecDepth 100000 in
theorem split_any (s : ByteArray) (w : World) (hs : s.size ≤ 9223372036854775807) :
    Calls Try.prog 23 #[.string s] w fun e w' => ∃ v, e = .returned (.tuple #[v, .int .i64 (splitE s)]) ∧ Own w' w.heap.size 9 Value.string v (splitL s) ∧ Below w.heap.size w w' := by
  have no : ∀ w', splitE s = 15 ∧ splitL s = [] → Own w' w.heap.size 9 Value.string (.slice none 0 0) (splitL s) := fun w' h => by rw [h.2]; exact Own.nil _ _ _ _
  by_cases h0 : 0 < s.size
  · by_cases h1 : s.size ≤ 200
    · have hb0 := s[0].toNat_lt
      by_cases h2 : s[0] = 47
      · have HB : Hid (begs s = true) := by show _ = _; unfold begs; rw [dif_pos h0, decide_eq_true h1, decide_eq_true h2]; rfl
        have he : (s.toList == []) = false := by rw [em_eq]; exact decide_eq_false (by omega)
        have hc : ((s[0].toNat : Int) != 47) = false := by rw [h2]; rfl
        cases h3 : (s.toList == [47]) with
        | true =>
          have HF := Lib.hid (splitE_slash HB.out (by rw [slash_eq] at h3; exact of_decide_eq_true h3))
          go_enter Try.func23, Try.ntmps23
          go_wp2
          go_ret2
          exact ⟨_, ret_split HF.out.1.symm, by rw [HF.out.2]; exact Own.nil _ _ _ _, Below.refl _ _⟩
        | false =>
          have HS : Hid (s ≠ slash) := by rw [slash_eq] at h3; exact of_decide_eq_false h3
          have CB := Lib.hid (between_any s w (by omega) (by omega))
          have hbl := btw_len s 1 0
          have HSz := Lib.hid (btw_size s 1 0)
          obtain ⟨L, hL⟩ : ∃ L, btw s 1 0 = L := ⟨_, rfl⟩
          have HE1 := Lib.hid (fun h3 => splitE_em HB.out HS.out h3)
          have HE2 := Lib.hid (fun h3 h4 => splitE_bad HB.out HS.out h3 h4)
          have HE3 := Lib.hid (fun h3 h4 => splitE_ok HB.out HS.out h3 h4)
          rw [hL] at CB hbl HSz HE1 HE2 HE3
          clear hL h2
          go_enter Try.func23, Try.ntmps23
          go_wp2_with fail
          refine CB.out.mono ?_
          rintro e w1 ⟨v, rfl, hown, hbel⟩
          obtain ⟨A, c, rfl⟩ := hown.slice
          obtain ⟨_, hsl⟩ := hown.sl
          have hln : L.length ≤ 1000 := by omega
          have hw1 := hbel.size
          go_wp2
          go_loopw [6, 27] (fun _ i wr => ∃ k : Nat, k ≤ L.length ∧ i = .int .i64 k ∧ (∀ j, (hj : j < L.length) → j < k → em L[j] = false) ∧ Below w1.heap.size w1 wr) (fun _ i _ => L.length - (intOf i).toNat)
          case atStart => exact ⟨0, by omega, rfl, fun j _ h => by omega, by first | exact Below.refl _ _ | exact bdrewN (Below.refl _ _) _⟩
          case round =>
            obtain ⟨k, hk, rfl, hall, hb1⟩ := hrel
            have HA := Lib.hid hall
            clear hall
            have hb2 := hbel.trans (hb1.mono hw1)
            by_cases hlt : k < L.length
            · obtain ⟨a, rfl, ha, hca⟩ := (hsl.below hb1).at_ (i := k) hlt
              have HX : Hid (L[k] = L[k]) := rfl
              cases hem : em L[k] with
              | true =>
                have HF := Lib.hid (HE1.out (any_at hlt hem))
                have hemp : (L[k].toList == []) = true := by rw [em_eq]; exact hem
                clear hem
                generalize L[k] = x at *
                go_wp2
                go_ret2
                exact ⟨_, ret_split HF.out.1.symm, no _ HF.out, by first | exact hb2 | exact bdrewN hb2 _⟩
              | false =>
                have HA2 : Hid (∀ j, (hj : j < L.length) → j < k + 1 → em L[j] = false) := fun j hj hjk => by
                  by_cases e : j = k
                  · subst e; exact hem
                  · exact HA.out j hj (by omega)
                have hemp : (L[k].toList == []) = false := by rw [em_eq]; exact hem
                clear hem
                generalize L[k] = x at *
                go_wp2
                go_roundw
                case rel => exact ⟨k + 1, by omega, by go_num, HA2.out, by first | exact hb1 | exact bdrewN hb1 _⟩
                case measure => simp [intOf]; omega
            · have HN := Lib.hid (any_none (xs := L) (f := em) fun j hj => HA.out j hj (by omega))
              have hsl2 := hsl.below hb1
              have hown2 := hown.below hb1
              have hw2 := hb2.size
              clear hsl hown hb1
              generalize wr = w2 at *
              go_wp2
              go_loopw [8, 36] (fun _ i wr => ∃ k : Nat, k ≤ L.length ∧ i = .int .i64 k ∧ (∀ j, (hj : j < L.length) → j < k → nameB L[j] = true) ∧ Below w2.heap.size w2 wr) (fun _ i _ => L.length - (intOf i).toNat)
              case atStart => exact ⟨0, by omega, rfl, fun j _ h => by omega, by first | exact Below.refl _ _ | exact bdrewN (Below.refl _ _) _⟩
              case round =>
                obtain ⟨k2, hk2, rfl, hall, hb1⟩ := hrel
                have HA2 := Lib.hid hall
                clear hall
                have hb3 := hb2.trans (hb1.mono hw2)
                by_cases hlt2 : k2 < L.length
                · obtain ⟨a, rfl, ha, hca⟩ := (hsl2.below hb1).at_ (i := k2) hlt2
                  have hxs := HSz.out _ (List.getElem_mem hlt2)
                  cases hnm : nameB L[k2] with
                  | true =>
                    have HA3 : Hid (∀ j, (hj : j < L.length) → j < k2 + 1 → nameB L[j] = true) := fun j hj hjk => by
                      by_cases e : j = k2
                      · subst e; exact hnm
                      · exact HA2.out j hj (by omega)
                    have HE : Hid (nameE L[k2] = 0) := nameE_yes hnm
                    clear hnm
                    generalize L[k2] = x at *
                    go_wp2_with (go_at_call 58; refine (check_any x _ (by omega)).mono ?_; rw [HE.out]; rintro e w' ⟨rfl, rfl⟩)
                    go_roundw
                    case rel => exact ⟨k2 + 1, by omega, by go_num, HA3.out, by first | exact hb1 | exact bdrewN hb1 _⟩
                    case measure => simp [intOf]; omega
                  | false =>
                    have HF := Lib.hid (HE2.out HN.out (all_at hlt2 hnm))
                    have HE : Hid (nameE L[k2] = 3) := nameE_no hnm
                    clear hnm
                    generalize L[k2] = x at *
                    go_wp2_with (go_at_call 58; refine (check_any x _ (by omega)).mono ?_; rw [HE.out]; rintro e w' ⟨rfl, rfl⟩)
                    go_ret2
                    exact ⟨_, ret_split HF.out.1.symm, by rw [HF.out.2]; exact Own.nil _ _ _ _, by first | exact hb3 | exact bdrewN hb3 _⟩
                · have HF := Lib.hid (HE3.out HN.out (all_each fun j hj => HA2.out j hj (by omega)))
                  have hown3 := hown2.below hb1
                  go_wp2
                  go_ret2
                  exact ⟨_, ret_split HF.out.1.symm, by rw [HF.out.2]; first | exact hown3 | exact hown3.drewN _, by first | exact hb3 | exact bdrewN hb3 _⟩
      · have HF := Lib.hid (splitE_no (s := s) (by unfold begs; rw [dif_pos h0, decide_eq_false h2]; simp))
        have he : (s.toList == []) = false := by rw [em_eq]; exact decide_eq_false (by omega)
        have hc : ((s[0].toNat : Int) != 47) = true := by
          rw [bne_iff_ne]; intro e; apply h2; apply UInt8.toNat_inj.1; have : s[0].toNat = 47 := by omega
          rw [this]; rfl
        go_enter Try.func23, Try.ntmps23
        go_wp2
        go_ret2
        exact ⟨_, ret_split HF.out.1.symm, no _ HF.out, Below.refl _ _⟩
    · have HF := Lib.hid (splitE_no (s := s) (by unfold begs; rw [dif_pos h0, decide_eq_false h1]; simp))
      have he : (s.toList == []) = false := by rw [em_eq]; exact decide_eq_false (by omega)
      go_enter Try.func23, Try.ntmps23
      go_wp2
      go_ret2
      exact ⟨_, ret_split HF.out.1.symm, no _ HF.out, Below.refl _ _⟩
  · have HF := Lib.hid (splitE_no (s := s) (by unfold begs; rw [dif_neg h0]))
    have he : (s.toList == []) = true := by rw [em_eq]; exact decide_eq_true (by omega)
    go_enter Try.func23, Try.ntmps23
    go_wp2
    go_ret2
    exact ⟨_, ret_split HF.out.1.symm, no _ HF.out, Below.refl _ _⟩
end Go.Proofs.Ytoibdomcekainaa.Rt
