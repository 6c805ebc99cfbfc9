/- route.between. -/
import Derived.Test.YtoibdomcekainaaRt2
import Derived.Laws.RangeAny
import Derived.Lib.OthersKept
namespace Go.Proofs.Ytoibdomcekainaa.Rt
open Go.RowKit Go.Proofs.Ytoibdomcekainaa.Mem Go.Proofs.Ytoibdomcekainaa.Open Go.Proofs.Ytoibdomcekainaa.Same
set_option linter.unusedVariables false
set_option linter.unusedSimpArgs false
/-- What stands between the strokes, from place i on, the part at hand begun at b. -/
def btw (s : ByteArray) (b i : Nat) : List ByteArray :=
  if h : i < s.size then (if s[i] = 47 ∧ 0 < i then s.extract b i :: btw s (i + 1) (i + 1) else btw s b (i + 1)) else [s.extract b s.size]
termination_by s.size - i
theorem btw_cut {s : ByteArray} {b i : Nat} (h : i < s.size) (h1 : s[i] = 47) (h2 : 0 < i) : btw s b i = s.extract b i :: btw s (i + 1) (i + 1) := by rw [btw, dif_pos h, if_pos ⟨h1, h2⟩]
theorem btw_go {s : ByteArray} {b i : Nat} (h : i < s.size) (h1 : ¬ (s[i] = 47 ∧ 0 < i)) : btw s b i = btw s b (i + 1) := by rw [btw, dif_pos h, if_neg h1]
theorem btw_end {s : ByteArray} {b i : Nat} (h : ¬ i < s.size) : btw s b i = [s.extract b s.size] := by rw [btw, dif_neg h]
theorem btw_skip {s : ByteArray} {b i : Nat} (m : Nat) (h : ∀ j, i ≤ j → j < i + m → ∃ hj : j < s.size, s[j] ≠ 47) : btw s b i = btw s b (i + m) := by
  induction m with
  | zero => rfl
  | succ m ih =>
    rw [ih (fun j h1 h2 => h j h1 (by omega))]
    obtain ⟨hj, hn⟩ := h (i + m) (by omega) (by omega)
    exact btw_go hj (fun e => hn e.1)
theorem cont_high {s : ByteArray} {k : Nat} (h : k < s.size) (h2 : (s.get! k).toNat / 64 = 2) : ∃ hj : k < s.size, s[k] ≠ 47 := by
  refine ⟨h, fun e => ?_⟩
  have : s.get! k = s[k] := by have := get_at s k h; simpa using this
  rw [this, e] at h2
  revert h2; decide
/-- The bytes behind a rune's first one are no strokes. -/
theorem decode_cont (s : ByteArray) (pos : Nat) (h : pos < s.size) : ∀ j, pos < j → j < pos + (Utf8.decode s pos).2 → ∃ hj : j < s.size, s[j] ≠ 47 := by
  intro j h1 h2
  have key : ∀ k, (decide (pos + k < s.size) && (s.get! (pos + k)).toNat / 64 == 2) = true → ∃ hj : pos + k < s.size, s[pos + k] ≠ 47 := by
    intro k hk
    simp at hk
    exact cont_high hk.1 hk.2
  simp only [Utf8.decode] at h2
  split at h2
  · simp at h2; omega
  split at h2
  · rename_i hc
    rw [Bool.and_eq_true] at hc
    split at h2
    · simp at h2
      obtain rfl : j = pos + 1 := by omega
      exact key 1 hc.2
    · simp at h2; omega
  split at h2
  · rename_i hc
    rw [Bool.and_eq_true, Bool.and_eq_true] at hc
    split at h2
    · simp at h2
      rcases (by omega : j = pos + 1 ∨ j = pos + 2) with rfl | rfl
      · exact key 1 hc.1.2
      · exact key 2 hc.2
    · simp at h2; omega
  split at h2
  · rename_i hc
    rw [Bool.and_eq_true, Bool.and_eq_true, Bool.and_eq_true] at hc
    split at h2
    · simp at h2
      rcases (by omega : j = pos + 1 ∨ j = pos + 2 ∨ j = pos + 3) with rfl | rfl | rfl
      · exact key 1 hc.1.1.2
      · exact key 2 hc.1.2
      · exact key 3 hc.2
    · simp at h2; omega
  · simp at h2; omega
theorem decode_wide (s : ByteArray) (pos : Nat) (h : pos < s.size) : 1 ≤ (Utf8.decode s pos).2 ∧ pos + (Utf8.decode s pos).2 ≤ s.size := by
  have h1 : 1 ≤ (Utf8.decode s pos).2 := by
    simp only [Utf8.decode]
    repeat' split
    all_goals simp
  refine ⟨h1, ?_⟩
  by_cases e : (Utf8.decode s pos).2 = 1
  · omega
  · obtain ⟨hj, _⟩ := decode_cont s pos h (pos + ((Utf8.decode s pos).2 - 1)) (by omega) (by omega)
    omega
theorem own_iterAt {α : Type} {w : World} {B : Nat} {E : TypeId} {V : α → Value} {v : Value} {xs : List α} (h : Own w B E V v xs) {k : Nat} (hk : k < B) (s : ByteArray) (p : Nat) : Own (w.iterAt k s p) B E V v xs := by
  obtain ⟨h1, h2⟩ := h
  refine ⟨h1, ?_⟩
  rcases h2 with h2 | ⟨g, cap, cur, a, b, c, d⟩
  · exact .inl h2
  · exact .inr ⟨g, cap, cur, a, b, by rw [Lib.iterAt_other _ _ _ _ _ (by omega)]; exact c, d⟩
theorem iterPos_of {w : World} {k : Nat} {s : ByteArray} {p : Nat} (h : w.heap[k]? = some (.stringIter s p)) : w.iterPos k = p := by simp [World.iterPos, h]
theorem strInfo : (Try.prog.info? 9).map (fun i => (i.zero, i.size, i.bytes)) = some (some (.string (ByteArray.mk #[])), 1, 16) := by kernel_rfl
theorem btw_len (s : ByteArray) (b i : Nat) : (btw s b i).length ≤ s.size - i + 1 := by
  induction h : s.size - i generalizing b i with
  | zero => rw [btw_end (by omega)]; simp
  | succ n ih =>
    by_cases hc : s[i]'(by omega) = 47 ∧ 0 < i
    · rw [btw_cut (by omega) hc.1 hc.2, List.length_cons]
      have := ih (i + 1) (i + 1) (by omega)
      omega
    · rw [btw_go (by omega) hc]
      have := ih b (i + 1) (by omega)
      omega
set_option maxHeartbeats 1000000 in
set_option maxRecDepth 100000 in
theorem between_any (s : ByteArray) (w : World) (h1 : 1 ≤ s.size) (hs : s.size ≤ 100000) :
    Calls Try.prog 57 #[.string s] w fun e w' => ∃ v, e = .returned v ∧ Own w' w.heap.size 9 Value.string v (btw s 1 0) ∧ Below w.heap.size w w' := by
  go_enter Try.func57, Try.ntmps57
  go_wp2
  go_loopw [3, 4, 5, 6] (fun v bg _ _ wr => ∃ (pos b : Nat) (acc : List ByteArray), wr.heap[w.heap.size]? = some (.stringIter s pos) ∧ bg = .int .i64 b ∧ Own wr (w.heap.size + 1) 9 Value.string v acc ∧ Below w.heap.size w wr ∧ Hid (acc ++ btw s b pos = btw s 1 0) ∧ (b ≤ pos ∨ (pos = 0 ∧ b = 1)) ∧ b ≤ s.size ∧ pos ≤ s.size ∧ acc.length ≤ pos) (fun _ _ _ _ wr => s.size - wr.iterPos w.heap.size)
  case atStart => exact ⟨0, 1, [], World.iter_heap w s 0, rfl, Own.nil _ _ _ _, (Below.refl _ _).alloc (Nat.le_refl _) _, rfl, .inr ⟨rfl, rfl⟩, h1, by omega, by simp⟩
  case round =>
    obtain ⟨pos, b, acc, hit, rfl, hown, hbw, HS, hbp, hbs, hps, hlen⟩ := hrel
    have hpos0 := iterPos_of hit
    by_cases hp : pos < s.size
    · have hnx : ∀ ty, (Instr.next (.pointer (some ⟨w.heap.size, 0, none⟩)) true ty).run Try.prog wr = _ := fun ty => Lib.run_next_any_at wr w.heap.size s pos ty hit hp
      have hit2 := Lib.iterAt_heap wr w.heap.size s pos (pos + (Utf8.decode s pos).2) hit
      have hbw2 := Lib.below_iterAt hbw (k := w.heap.size) (Nat.le_refl _) s (pos + (Utf8.decode s pos).2)
      have hown2 := own_iterAt hown (k := w.heap.size) (by omega) s (pos + (Utf8.decode s pos).2)
      obtain ⟨W1, hW1⟩ : ∃ W1, W1 = wr.iterAt w.heap.size s (pos + (Utf8.decode s pos).2) := ⟨_, rfl⟩
      rw [← hW1] at hnx hit2 hbw2 hown2
      have hz1 : w.heap.size + 1 ≤ W1.heap.size := by have := (Array.getElem?_eq_some_iff.1 hit2).1; omega
      clear hW1 hit hown hbw
      have hwd := decode_wide s pos hp
      have hp2 : (pos : Int) ≤ 9223372036854775807 := by omega
      by_cases h47 : s[pos] = 47
      · have hd : Utf8.decode s pos = (47, 1) := by
          rw [decode_ascii s pos hp (by rw [h47]; decide), h47]; rfl
        rw [hd] at hnx hit2
        by_cases h0 : 0 < pos
        · have HS2 : Hid (acc ++ [s.extract b pos] ++ btw s (pos + 1) (pos + 1) = btw s 1 0) := by
            show _ = _
            rw [← HS.out, btw_cut hp h47 h0, List.append_assoc]
            rfl
          have hbp2 : b ≤ pos := by omega
          have hc1 : (W1.alloc (.cells #[.string (s.extract b pos)] 9)).cell? ⟨W1.heap.size, 0, none⟩ = some (.string (s.extract b pos)) := by
            rw [cell_of_row _ _ _ _ _ _ (heap_alloc_new W1 _)]; rfl
          have hblt : w.heap.size < W1.heap.size := by omega
          clear hbp hwd h47 hd HS
          go_wp2_with (at_builtin; refine wpList_app1 rfl _ _ 40 rfl (w.heap.size + 1) 9 (.string (ByteArray.mk #[])) 16 Value.string Try.underlying40 strInfo rfl _ acc (s.extract b pos) rfl _ W1.heap.size rfl (hown2.alloc _) hc1 rfl (by omega) (by omega) (by simp; omega) ?_; intro v1 w2 hown3 hbel3 hg3)
          have hit3 : w2.heap[w.heap.size]? = some (.stringIter s (pos + 1)) := by
            rw [hbel3.block w.heap.size (by omega), Below.heap_alloc _ _ _ hblt]; exact hit2
          have hbw3 := (hbw2.alloc (Nat.le_of_lt hblt) (.cells #[.string (s.extract b pos)] 9)).trans (hbel3.mono (Nat.le_succ _))
          go_roundw
          case rel => exact ⟨pos + 1, pos + 1, _, hit3, by go_num, hown3, hbw3, HS2, .inl (by omega), by omega, by omega, by simp; omega⟩
          case measure => rw [iterPos_of hit3, hpos0]; omega
        · have hp0 : pos = 0 := by omega
          subst hp0
          have HS2 : Hid (acc ++ btw s b 1 = btw s 1 0) := by
            show _ = _
            rw [← HS.out, btw_go hp (fun e => h0 e.2)]
          clear hwd h47 hd HS
          go_wp2
          go_roundw
          case rel => exact ⟨1, b, acc, hit2, rfl, hown2, hbw2, HS2, .inl (by omega), by omega, by omega, by omega⟩
          case measure => rw [iterPos_of hit2, hpos0]; omega
      · have hc : (((Utf8.decode s pos).1 : Int) == 47) = false := by
          rw [beq_eq_false_iff_ne]
          intro e
          by_cases hl : s[pos].toNat < 128
          · rw [decode_ascii s pos hp hl] at e
            apply h47
            apply UInt8.toNat_inj.1
            have e2 : ((s[pos].toNat : Nat) : Int) = 47 := e
            have : s[pos].toNat = 47 := by omega
            rw [this]; rfl
          · have := (decode_high s pos hp (by omega)).1
            omega
        have HS2 : Hid (acc ++ btw s b (pos + (Utf8.decode s pos).2) = btw s 1 0) := by
          show _ = _
          rw [← HS.out, ← btw_skip (Utf8.decode s pos).2 (fun j h1 h2 => by
            by_cases e : j = pos
            · subst e; exact ⟨hp, h47⟩
            · exact decode_cont s pos hp j (by omega) h2)]
        generalize Utf8.decode s pos = dd at *
        obtain ⟨d1, d2⟩ := dd
        simp only at hnx hit2 hc HS2 hwd
        have hwd1 := hwd.1
        have hwd2 := hwd.2
        clear h47 HS hwd
        go_wp2
        go_roundw
        case rel => exact ⟨pos + d2, b, acc, hit2, rfl, hown2, hbw2, HS2, .inl (by omega), by omega, by omega, by omega⟩
        case measure => rw [iterPos_of hit2, hpos0]; omega
    · have hnx : ∀ ty, (Instr.next (.pointer (some ⟨w.heap.size, 0, none⟩)) true ty).run Try.prog wr = _ := fun ty => Lib.run_next_end_at wr w.heap.size s pos ty hit hp
      have hz1 : w.heap.size + 1 ≤ wr.heap.size := by have := (Array.getElem?_eq_some_iff.1 hit).1; omega
      have HS2 : Hid (btw s 1 0 = acc ++ [s.extract b s.size]) := by
        show _ = _
        rw [← HS.out, btw_end hp]
      have hc1 : (wr.alloc (.cells #[.string (s.extract b s.size)] 9)).cell? ⟨wr.heap.size, 0, none⟩ = some (.string (s.extract b s.size)) := by
        rw [cell_of_row _ _ _ _ _ _ (heap_alloc_new wr _)]; rfl
      clear HS hbp
      go_wp2_with (at_builtin; refine wpList_app1 rfl _ _ 40 rfl (w.heap.size + 1) 9 (.string (ByteArray.mk #[])) 16 Value.string Try.underlying40 strInfo rfl _ acc (s.extract b s.size) rfl _ wr.heap.size rfl (hown.alloc _) hc1 rfl (by omega) (by omega) (by simp; omega) ?_; intro v1 w2 hown3 hbel3 hg3)
      have hbw3 := (hbw.alloc (by omega) (.cells #[.string (s.extract b s.size)] 9)).trans (hbel3.mono (Nat.le_succ _))
      go_ret
      exact ⟨v1, rfl, by rw [HS2.out]; exact hown3.mono (by omega), hbw3⟩
end Go.Proofs.Ytoibdomcekainaa.Rt
