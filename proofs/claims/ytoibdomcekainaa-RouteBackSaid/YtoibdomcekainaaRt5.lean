/- The document's Split. -/
import Derived.Test.YtoibdomcekainaaRt4
namespace Go.Proofs.Ytoibdomcekainaa.Rt
open Go.RowKit Go.Proofs.Ytoibdomcekainaa.Mem Go.Proofs.Ytoibdomcekainaa.Open Go.Proofs.Ytoibdomcekainaa.Same
set_option linter.unusedVariables false
set_option linter.unusedSimpArgs false
theorem ext_more (s : ByteArray) (b k : Nat) (h1 : b ≤ k) (h2 : k < s.size) : s.extract b k ++ s.extract k (k + 1) = s.extract b (k + 1) := by
  apply ByteArray.ext
  simp [ByteArray.data_append, ByteArray.data_extract]
  first | done | rfl | (congr 1 <;> omega) | (rw [Nat.min_eq_left (by omega)])
theorem ext_none (s : ByteArray) (b : Nat) : s.extract b b = ⟨#[]⟩ := by
  apply ByteArray.ext
  simp
theorem btw_first {s : ByteArray} {b k : Nat} (h : k ≤ s.size) (h2 : (h3 : k < s.size) → s[k] = 47) (h4 : 0 < k) : ∃ r, btw s b k = s.extract b k :: r ∧ (r = if k = s.size then [] else btw s (k + 1) (k + 1)) := by
  by_cases e : k = s.size
  · exact ⟨[], by rw [btw_end (by omega), e], by rw [if_pos e]⟩
  · exact ⟨_, btw_cut (by omega) (h2 (by omega)) h4, by rw [if_neg e]⟩
theorem ret_splitR {v : Value} {a b : Int} (h : a = b) : Ending.returned (.tuple #[v, .int .i64 a]) = .returned (.tuple #[v, .int .i64 b]) := by rw [h]
set_option maxHeartbeats 1000000 in
set_option maxRecDepth 100000 in
theorem rsplit_any (s : ByteArray) (w : World) (hs : s.size ≤ 9223372036854775807) :
    Calls Try.prog 24 #[.string s] w fun e w' => ∃ v, e = .returned (.tuple #[v, .int .i64 (splitE s)]) ∧ Own w' w.heap.size 9 Value.string v (splitL s) ∧ Below w.heap.size w w' := by
  have no : ∀ w', splitE s = 15 ∧ splitL s = [] → Own w' w.heap.size 9 Value.string (.slice none 0 0) (splitL s) := fun w' h => by rw [h.2]; exact Own.nil _ _ _ _
  by_cases h0 : 0 < s.size
  · by_cases h1 : s.size ≤ 200
    · have hb0 := s[0].toNat_lt
      by_cases h2 : s[0] = 47
      · have HB : Hid (begs s = true) := by show _ = _; unfold begs; rw [dif_pos h0, decide_eq_true h1, decide_eq_true h2]; rfl
        have hc : ((s[0].toNat : Int) != 47) = false := by rw [h2]; rfl
        by_cases h3 : s.size = 1
        · have HF := Lib.hid (splitE_slash HB.out (by
            apply ByteArray.ext
            apply Array.ext'
            apply List.ext_getElem?
            intro i
            have hd : s.data.toList.length = 1 := by simpa using h3
            match i with
            | 0 =>
              rw [List.getElem?_eq_getElem (by omega)]
              have : s.data.toList[0]'(by omega) = s[0] := rfl
              rw [this, h2]; rfl
            | i + 1 =>
              rw [List.getElem?_eq_none (by omega)]
              rfl))
          have h3c : ((s.size : Int) == 1) = true := by rw [h3]; rfl
          go_enter Try.func24, Try.ntmps24
          go_wp2
          go_ret2
          exact ⟨_, ret_split HF.out.1.symm, by rw [HF.out.2]; exact Own.nil _ _ _ _, Below.refl _ _⟩
        · have HS : Hid (s ≠ slash) := fun e => h3 (by rw [e]; rfl)
          have h3c : ((s.size : Int) == 1) = false := by rw [beq_eq_false_iff_ne]; omega
          have hbl := btw_len s 1 0
          have HSz := Lib.hid (btw_size s 1 0)
          have HL0 : Hid (btw s 1 1 = btw s 1 0) := (btw_go h0 (fun e => by omega)).symm
          obtain ⟨L, hL⟩ : ∃ L, btw s 1 0 = L := ⟨_, rfl⟩
          have HE1 := Lib.hid (fun h3 => splitE_em HB.out HS.out h3)
          have HE2 := Lib.hid (fun h3 h4 => splitE_bad HB.out HS.out h3 h4)
          have HE3 := Lib.hid (fun h3 h4 => splitE_ok HB.out HS.out h3 h4)
          rw [hL] at hbl HSz HE1 HE2 HE3 HL0
          clear hL h2 h3
          have hln : L.length ≤ 1000 := by omega
          go_enter Try.func24, Try.ntmps24
          go_wp2
          go_loopw [4, 5, 6] (fun v p i wr => ∃ (k b : Nat) (acc : List ByteArray), i = .int .i64 k ∧ 1 ≤ k ∧ Own wr w.heap.size 9 Value.string v acc ∧ Below w.heap.size w wr ∧ (∀ x ∈ acc, em x = false) ∧ acc.length < k ∧ ((k ≤ s.size ∧ b ≤ k ∧ p = .string (s.extract b k) ∧ acc ++ btw s b k = L) ∨ (k = s.size + 1 ∧ acc = L))) (fun _ _ i _ => s.size + 1 - (intOf i).toNat)
          case atStart => exact ⟨1, 1, [], rfl, by omega, by first | exact Own.nil _ _ _ _ | exact (Own.nil _ _ _ _).drewN _, by first | exact Below.refl _ _ | exact bdrewN (Below.refl _ _) _, by simp, by simp, .inl ⟨by omega, by omega, by rw [ext_none], HL0.out⟩⟩
          case round =>
            obtain ⟨k, b, acc, rfl, hk1, hown, hbel, hem, hak, hcase⟩ := hrel
            have HEm := Lib.hid hem
            have hw1 := hbel.size
            clear hem
            rcases hcase with ⟨hks, hbk, rfl, hacc⟩ | ⟨hke, hacc⟩
            · have HAcc := Lib.hid hacc
              clear hacc
              by_cases hgo : ∃ h : k < s.size, s[k] ≠ 47
              · obtain ⟨hlt, hn⟩ := hgo
                have hbyte := s[k].toNat_lt
                have hcc : ((s[k].toNat : Int) != 47) = true := by
                  rw [bne_iff_ne]; intro e; apply hn; apply UInt8.toNat_inj.1; have : s[k].toNat = 47 := by omega
                  rw [this]; rfl
                have HX := Lib.hid (ext_more s b k hbk hlt)
                have HA2 : Hid (acc ++ btw s b (k + 1) = L) := by show _ = _; rw [← btw_go hlt (fun e => hn e.1)]; exact HAcc.out
                clear hn
                go_wp2
                go_roundw
                case rel => exact ⟨k + 1, b, acc, by go_num, by omega, by first | exact hown | exact hown.drewN _, by first | exact hbel | exact bdrewN hbel _, HEm.out, by omega, .inl ⟨by omega, by omega, by first | rfl | rw [HX.out], HA2.out⟩⟩
                case measure => simp [intOf]; omega
              · obtain ⟨r, hr1, hr2⟩ := btw_first (b := b) hks (fun h3 => Classical.byContradiction fun hn => hgo ⟨h3, hn⟩) (by omega)
                have HR2 := Lib.hid hr2
                have HA1 : Hid (acc ++ s.extract b k :: r = L) := by show _ = _; rw [← hr1]; exact HAcc.out
                have HCt : Hid (∀ h : k < s.size, s[k] = 47) := fun h => Classical.byContradiction fun hn => hgo ⟨h, hn⟩
                clear hgo hr1 hr2
                by_cases hlt : k < s.size
                · have hcc : ((s[k].toNat : Int) != 47) = false := by rw [HCt.out hlt]; rfl
                  have hbyte := s[k].toNat_lt
                  cases hem : em (s.extract b k) with
                  | true =>
                    have HF := Lib.hid (HE1.out (by rw [← HA1.out, List.any_append, List.any_cons, hem]; simp))
                    have hemp : ((s.extract b k).toList == []) = true := by rw [em_eq]; exact hem
                    clear hem
                    go_wp2
                    go_ret2
                    exact ⟨_, ret_split HF.out.1.symm, no _ HF.out, by first | exact hbel | exact bdrewN hbel _⟩
                  | false =>
                    have hemp : ((s.extract b k).toList == []) = false := by rw [em_eq]; exact hem
                    have HEm2 : Hid (∀ x ∈ acc ++ [s.extract b k], em x = false) := fun x hx => by
                      rcases List.mem_append.1 hx with hx | hx
                      · exact HEm.out x hx
                      · simp at hx; subst hx; exact hem
                    have hc1 : (wr.alloc (.cells #[.string (s.extract b k)] 9)).cell? ⟨wr.heap.size, 0, none⟩ = some (.string (s.extract b k)) := by
                      rw [cell_of_row _ _ _ _ _ _ (heap_alloc_new wr _)]; rfl
                    clear hem
                    go_wp2_with (at_builtin; refine wpList_app1 rfl _ _ 40 rfl w.heap.size 9 (.string (ByteArray.mk #[])) 16 Value.string Try.underlying40 strInfo rfl _ acc (s.extract b k) rfl _ wr.heap.size rfl (hown.alloc _) hc1 rfl (by omega) (by omega) (by simp; omega) ?_; intro v1 w2 hown3 hbel3 hg3)
                    have hbw3 := (hbel.alloc hw1 (.cells #[.string (s.extract b k)] 9)).trans hbel3
                    go_roundw
                    case rel => exact ⟨k + 1, k + 1, _, by go_num, by omega, hown3, hbw3, HEm2.out, by simp; omega, by
                      by_cases e : k = s.size
                      · exact .inr ⟨by omega, by have h1 := HR2.out; rw [if_pos e] at h1; rw [← HA1.out, h1]⟩
                      · exact .inl ⟨by omega, by omega, by rw [ext_none], by have h1 := HR2.out; rw [if_neg e] at h1; rw [← HA1.out, h1, List.append_assoc]; rfl⟩⟩
                    case measure => simp [intOf]; omega
                · have HK := Lib.hid (show k = s.size by omega)
                  cases hem : em (s.extract b k) with
                  | true =>
                    have HF := Lib.hid (HE1.out (by rw [← HA1.out, List.any_append, List.any_cons, hem]; simp))
                    have hemp : ((s.extract b k).toList == []) = true := by rw [em_eq]; exact hem
                    clear hem
                    go_wp2
                    go_ret2
                    exact ⟨_, ret_split HF.out.1.symm, no _ HF.out, by first | exact hbel | exact bdrewN hbel _⟩
                  | false =>
                    have hemp : ((s.extract b k).toList == []) = false := by rw [em_eq]; exact hem
                    have HEm2 : Hid (∀ x ∈ acc ++ [s.extract b k], em x = false) := fun x hx => by
                      rcases List.mem_append.1 hx with hx | hx
                      · exact HEm.out x hx
                      · simp at hx; subst hx; exact hem
                    have hc1 : (wr.alloc (.cells #[.string (s.extract b k)] 9)).cell? ⟨wr.heap.size, 0, none⟩ = some (.string (s.extract b k)) := by
                      rw [cell_of_row _ _ _ _ _ _ (heap_alloc_new wr _)]; rfl
                    clear hem
                    go_wp2_with (at_builtin; refine wpList_app1 rfl _ _ 40 rfl w.heap.size 9 (.string (ByteArray.mk #[])) 16 Value.string Try.underlying40 strInfo rfl _ acc (s.extract b k) rfl _ wr.heap.size rfl (hown.alloc _) hc1 rfl (by omega) (by omega) (by simp; omega) ?_; intro v1 w2 hown3 hbel3 hg3)
                    have hbw3 := (hbel.alloc hw1 (.cells #[.string (s.extract b k)] 9)).trans hbel3
                    go_roundw
                    case rel => exact ⟨k + 1, k + 1, _, by go_num, by omega, hown3, hbw3, HEm2.out, by simp; omega, by
                      by_cases e : k = s.size
                      · exact .inr ⟨by omega, by have h1 := HR2.out; rw [if_pos e] at h1; rw [← HA1.out, h1]⟩
                      · exact .inl ⟨by omega, by omega, by rw [ext_none], by have h1 := HR2.out; rw [if_neg e] at h1; rw [← HA1.out, h1, List.append_assoc]; rfl⟩⟩
                    case measure => simp [intOf]; omega
            · have hke2 : ¬ ((k : Int) ≤ s.size) := by omega
              subst hacc
              have HN := Lib.hid (any_none (xs := acc) (f := em) fun j hj => HEm.out _ (List.getElem_mem hj))
              obtain ⟨A, c, rfl⟩ := hown.slice
              obtain ⟨_, hsl⟩ := hown.sl
              go_wp2
              go_loopw [7] (fun i w3 => ∃ k : Nat, k ≤ acc.length ∧ i = .int .i64 k ∧ (∀ j, (hj : j < acc.length) → j < k → nameB acc[j] = true) ∧ Below wr.heap.size wr w3) (fun i _ => acc.length - (intOf i).toNat)
              case atStart => exact ⟨0, by omega, rfl, fun j _ h => by omega, by first | exact Below.refl _ _ | exact bdrewN (Below.refl _ _) _⟩
              case round =>
                rename_i w3 _ _ _ _ _ _ _ _ _ _ _ _ _
                obtain ⟨k2, hk2, rfl, hall, hb1⟩ := hrel
                have HA2 := Lib.hid hall
                clear hall
                have hb3 := hbel.trans (hb1.mono hw1)
                by_cases hlt2 : k2 < acc.length
                · obtain ⟨a, rfl, ha, hca⟩ := (hsl.below hb1).at_ (i := k2) hlt2
                  have hxs := HSz.out _ (List.getElem_mem hlt2)
                  have CR := Lib.hid (fun w' => right_any acc[k2] w' (by omega))
                  cases hnm : nameB acc[k2] with
                  | true =>
                    have HA3 : Hid (∀ j, (hj : j < acc.length) → j < k2 + 1 → nameB acc[j] = true) := fun j hj hjk => by
                      by_cases e : j = k2
                      · subst e; exact hnm
                      · exact HA2.out j hj (by omega)
                    rw [hnm] at CR
                    clear hnm
                    generalize acc[k2] = x at *
                    go_wp2_with (go_at_call 59; refine (CR.out _).mono ?_; rintro e w' ⟨rfl, rfl⟩)
                    go_roundw
                    case rel => exact ⟨k2 + 1, by omega, by go_num, HA3.out, by first | exact hb1 | exact bdrewN hb1 _⟩
                    case measure => simp [intOf]; omega
                  | false =>
                    have HF := Lib.hid (HE2.out HN.out (all_at hlt2 hnm))
                    rw [hnm] at CR
                    clear hnm
                    generalize acc[k2] = x at *
                    go_wp2_with (go_at_call 59; refine (CR.out _).mono ?_; rintro e w' ⟨rfl, rfl⟩)
                    go_ret2
                    exact ⟨_, ret_split HF.out.1.symm, by rw [HF.out.2]; exact Own.nil _ _ _ _, by first | exact hb3 | exact bdrewN hb3 _⟩
                · have HF := Lib.hid (HE3.out HN.out (all_each fun j hj => HA2.out j hj (by omega)))
                  have hown3 := hown.below hb1
                  go_wp2
                  go_ret2
                  exact ⟨_, ret_split HF.out.1.symm, by rw [HF.out.2]; first | exact hown3 | exact hown3.drewN _, by first | exact hb3 | exact bdrewN hb3 _⟩
      · have HF := Lib.hid (splitE_no (s := s) (by unfold begs; rw [dif_pos h0, decide_eq_false h2]; simp))
        have hc : ((s[0].toNat : Int) != 47) = true := by
          rw [bne_iff_ne]; intro e; apply h2; apply UInt8.toNat_inj.1; have : s[0].toNat = 47 := by omega
          rw [this]; rfl
        go_enter Try.func24, Try.ntmps24
        go_wp2
        go_ret2
        exact ⟨_, ret_split HF.out.1.symm, no _ HF.out, Below.refl _ _⟩
    · have HF := Lib.hid (splitE_no (s := s) (by unfold begs; rw [dif_pos h0, decide_eq_false h1]; simp))
      go_enter Try.func24, Try.ntmps24
      go_wp2
      go_ret2
      exact ⟨_, ret_split HF.out.1.symm, no _ HF.out, Below.refl _ _⟩
  · have HF := Lib.hid (splitE_no (s := s) (by unfold begs; rw [dif_neg h0]))
    go_enter Try.func24, Try.ntmps24
    go_wp2
    go_ret2
    exact ⟨_, ret_split HF.out.1.symm, no _ HF.out, Below.refl _ _⟩
end Go.Proofs.Ytoibdomcekainaa.Rt
