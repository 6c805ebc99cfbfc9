/- Lists of patches: Much. -/
import Derived.Test.YtoibdomcekainaaPatL
namespace Go.Proofs.Ytoibdomcekainaa.Pat
open Go.RowKit Go.Proofs.Ytoibdomcekainaa.Mem Go.Proofs.Ytoibdomcekainaa.Open Go.Proofs.Ytoibdomcekainaa.Kind Go.Proofs.Ytoibdomcekainaa.Blk Go.Proofs.Ytoibdomcekainaa.App
set_option linter.unusedVariables false
set_option linter.unusedSimpArgs false
/-- Patches that are read. -/
abbrev Ps (w : World) (A : Option Addr) (xs : List Pt) : Prop := Rw kPat w (All w) A xs.length xs
def muchB (xs : List Pt) (m : Nat) : Bool := decide (m < xs.length) || xs.any (fun p => decide (600 < p.2.length))
theorem muchB_no {xs : List Pt} {m : Nat} (h : muchB xs m = false) : xs.length ≤ m ∧ ∀ p ∈ xs, p.2.length ≤ 600 := by
  unfold muchB at h
  rw [Bool.or_eq_false_iff] at h
  refine ⟨by have := of_decide_eq_false h.1; omega, fun p hp => ?_⟩
  have := List.any_eq_false.1 h.2 p hp
  simp at this
  exact this
theorem muchB_mk {xs : List Pt} {m : Nat} (h1 : xs.length ≤ m) (h2 : ∀ p ∈ xs.take xs.length, p.2.length ≤ 600) : muchB xs m = false := by
  unfold muchB
  rw [List.take_length] at h2
  rw [Bool.or_eq_false_iff]
  exact ⟨decide_eq_false (by omega), List.any_eq_false.2 fun p hp => by have := h2 p hp; simp; omega⟩
theorem muchB_at {xs : List Pt} {m k : Nat} (hk : k < xs.length) (h : 600 < xs[k].2.length) : muchB xs m = true := by
  unfold muchB
  rw [Bool.or_eq_true]
  exact .inr (List.any_eq_true.2 ⟨xs[k], List.getElem_mem _, by simpa using h⟩)
theorem take_all_succ {α : Type} {xs : List α} {k : Nat} {P : α → Prop} (hk : k < xs.length) (h : ∀ p ∈ xs.take k, P p) (h2 : P xs[k]) : ∀ p ∈ xs.take (k + 1), P p := by
  rw [List.take_add_one, List.getElem?_eq_getElem hk]
  intro p hp
  rcases List.mem_append.1 hp with hp | hp
  · exact h p hp
  · simp at hp; subst hp; exact h2

set_option maxHeartbeats 1000000 in
set_option maxRecDepth 100000 in
theorem much_any (A : Option Addr) (c : Nat) (xs : List Pt) (m : Nat) (w : World) (hx : Ps w A xs) (hm : m ≤ 1000) :
    Calls Try.prog 40 #[.slice A xs.length c, .int .i64 (m : Int)] w fun e w' => e = .returned (.bool (muchB xs m)) ∧ Below w.heap.size w w' := by
  have hl63 := hx.2.1
  unfold M63 at hl63
  go_enter Try.func40, Try.ntmps40
  by_cases h20 : m < xs.length
  · have HV : Hid (muchB xs m = true) := by show _ = _; unfold muchB; rw [decide_eq_true h20]; rfl
    go_wp2
    go_ret
    exact ⟨ret_bool HV.out.symm, by first | exact Below.refl _ _ | exact bdrewN (Below.refl _ _) _⟩
  · go_wp2
    go_loopw [5] (fun i wr => ∃ k : Nat, k ≤ xs.length ∧ i = .int .i64 k ∧ Below w.heap.size w wr ∧ (∀ p ∈ xs.take k, p.2.length ≤ 600)) (fun i _ => xs.length - (intOf i).toNat)
    case atStart => exact ⟨0, by omega, rfl, by first | exact Below.refl _ _ | exact bdrewN (Below.refl _ _) _, fun p h => by simp at h⟩
    case round =>
      obtain ⟨k, hk, rfl, hbel, hno⟩ := hrel
      have HN := Lib.hid hno
      clear hno
      by_cases hlt : k < xs.length
      · obtain ⟨g, o, rfl⟩ := pat_form hx (by omega)
        obtain ⟨A', c', q0, q1, q2, q3, q4, q5, q6, q7⟩ := pat_at hx k hlt
        have d1 := (hbel.cell (p := ⟨g, o + k * 2 + 1, none⟩) q0).trans q2
        have hl2 := q7.2.1
        unfold M63 at hl2
        by_cases hb : 600 < xs[k].2.length
        · have HV : Hid (muchB xs m = true) := muchB_at hlt hb
          go_wp2
          go_ret
          exact ⟨ret_bool HV.out.symm, by first | exact hbel | exact bdrewN hbel _⟩
        · have HN2 := Lib.hid (take_all_succ hlt HN.out (by omega))
          go_wp2
          go_roundw
          case rel => exact ⟨k + 1, by omega, by go_num, by first | exact hbel | exact bdrewN hbel _, HN2.out⟩
          case measure => simp [intOf]; omega
      · have hke : k = xs.length := by omega
        subst hke
        have HV : Hid (muchB xs m = false) := muchB_mk (by omega) HN.out
        go_wp2
        go_ret
        exact ⟨ret_bool HV.out.symm, by first | exact hbel | exact bdrewN hbel _⟩
end Go.Proofs.Ytoibdomcekainaa.Pat
