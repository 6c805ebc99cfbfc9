/- route.Up. -/
import Derived.Test.YtoibdomcekainaaRt7
namespace Go.Proofs.Ytoibdomcekainaa.Rt
open Go.RowKit Go.Proofs.Ytoibdomcekainaa.Mem Go.Proofs.Ytoibdomcekainaa.Open Go.Proofs.Ytoibdomcekainaa.Same
set_option linter.unusedVariables false
set_option linter.unusedSimpArgs false
/-- Has a text names? -/
def hasN (s : ByteArray) : Bool := decide (splitE s = 0) && !decide (splitL s = [])
def upE (s : ByteArray) : Int := if splitE s = 0 then 15 else splitE s
theorem splitE_in (s : ByteArray) : splitE s = 0 ∨ splitE s = 3 ∨ splitE s = 15 := by
  unfold splitE
  split <;> (try split) <;> (try split) <;> (try split) <;> simp
set_option maxHeartbeats 1000000 in
set_option maxRecDepth 100000 in
theorem up_no (s : ByteArray) (w : World) (hs : s.size ≤ 9223372036854775807) (h : hasN s = false) :
    Calls Try.prog 25 #[.string s] w fun e w' => e = .returned (.tuple #[.slice none 0 0, .string ⟨#[]⟩, .int .i64 (upE s)]) ∧ Below w.heap.size w w' := by
  have CS := Lib.hid (split_any s w hs)
  by_cases h0 : splitE s = 0
  · have hl : splitL s = [] := by
      unfold hasN at h
      rw [decide_eq_true h0, Bool.true_and] at h
      simpa using h
    have HU : Hid (upE s = 15) := by show _ = _; unfold upE; rw [if_pos h0]
    rw [h0, hl] at CS
    clear h hl h0
    go_enter Try.func25, Try.ntmps25
    go_wp2_with fail
    refine CS.out.mono ?_
    rintro e w1 ⟨v, rfl, hown, hbel⟩
    obtain ⟨A, c, rfl⟩ := hown.slice
    simp only [List.length_nil]
    go_wp2
    go_ret3
    exact ⟨by rw [HU.out]; rfl, hbel⟩
  · have HU : Hid (upE s = splitE s) := by show _ = _; unfold upE; rw [if_neg h0]
    have h1 : (splitE s != 0) = true := by rw [bne_iff_ne]; exact h0
    clear h h0
    generalize splitE s = x at *
    go_enter Try.func25, Try.ntmps25
    go_wp2_with fail
    refine CS.out.mono ?_
    rintro e w1 ⟨v, rfl, hown, hbel⟩
    go_wp2
    go_ret3
    exact ⟨by rw [HU.out]; rfl, hbel⟩
set_option maxHeartbeats 1000000 in
set_option maxRecDepth 100000 in
theorem up_yes (s : ByteArray) (I : List ByteArray) (t : ByteArray) (w : World) (hs : s.size ≤ 9223372036854775807) (h : splitE s = 0) (hl : splitL s = I ++ [t]) (hn : I.length ≤ 1000) :
    Calls Try.prog 25 #[.string s] w fun e w' => ∃ A c, e = .returned (.tuple #[.slice A I.length c, .string t, .int .i64 0]) ∧ Sl w' Value.string A I.length I ∧ Below w.heap.size w w' := by
  have CS := Lib.hid (split_any s w hs)
  rw [h, hl] at CS
  clear h hl
  go_enter Try.func25, Try.ntmps25
  go_wp2_with fail
  refine CS.out.mono ?_
  rintro e w1 ⟨v, rfl, hown, hbel⟩
  have hll : (I ++ [t]).length = I.length + 1 := by rw [List.length_append, List.length_singleton]
  obtain ⟨g, c, rfl⟩ := hown.slice_pos (by omega)
  have hcl := hown.cell I.length (by omega)
  rw [List.getElem_append_right (Nat.le_refl _)] at hcl
  simp only [Nat.sub_self, List.getElem_cons_zero] at hcl
  obtain ⟨_, hsl⟩ := hown.sl
  rw [hll] at hsl ⊢
  have hcap : I.length + 1 ≤ c := by
    rcases hown.2 with ⟨h, _⟩ | ⟨_, _, _, h, _, _, h2, _⟩
    · cases h
    · injection h with h3 h4 h5; rw [hll] at h2; omega
  have hslI : Sl w1 Value.string (some ⟨g, 0, none⟩) I.length I := ⟨rfl, by omega, fun i x hx => by
    obtain ⟨hi, rfl⟩ := List.getElem?_eq_some_iff.1 hx
    have := hsl.2.2 i I[i] (by rw [List.getElem?_append_left hi, List.getElem?_eq_getElem hi])
    exact this⟩
  have i1 : (0 : Int) ≤ (I.length : Int) := by omega
  have i2 : (I.length : Int) < (I.length : Int) + 1 := by omega
  have i3 : (I.length : Int) ≤ (c : Int) := by omega
  have i4 : IntKind.i64.wrap (I.length : Int) = (I.length : Int) := by
    unfold IntKind.wrap; simp [IntKind.signed, IntKind.bits]; omega
  have i5 : (((I.length + 1 : Nat) : Int) == 0) = false := by rw [beq_eq_false_iff_ne]; omega
  have i6 : (((I.length : Int) + 1) == 0) = false := by rw [beq_eq_false_iff_ne]; omega
  go_wp2
  go_quiet (fail)
  go_wp2
  go_ret3
  exact ⟨_, _, rfl, hslI.drewN _, bdrewN hbel _⟩
end Go.Proofs.Ytoibdomcekainaa.Rt
