/- Lists of patches: the document's All. -/
import Derived.Test.YtoibdomcekainaaPatQ
namespace Go.Proofs.Ytoibdomcekainaa.Pat
open Go.RowKit Go.Proofs.Ytoibdomcekainaa.Mem Go.Proofs.Ytoibdomcekainaa.Open Go.Proofs.Ytoibdomcekainaa.Kind Go.Proofs.Ytoibdomcekainaa.Blk Go.Proofs.Ytoibdomcekainaa.App
set_option linter.unusedVariables false
set_option linter.unusedSimpArgs false
theorem rlay256 (A : Option Addr) (c : Nat) (b : List Nat) (a : Int) (A2 : Option Addr) (c2 : Nat) (d : List Nat) (w : World) (hb : By w A b) (hd : By w A2 d) (hb2 : b.length = 256) (hcc : 256 ≤ c) (hcm : c ≤ M63) (hc : A = none → c = 0) :
    Calls Try.prog 32 #[.slice A 256 c, patV a A2 d.length c2] w fun e w' => ∃ A' c', e = .returned (.slice A' 256 c') ∧ 256 ≤ c' ∧ c' ≤ M63 ∧ (A' = none → c' = 0) ∧ By w' A' (layL b a d) ∧ Below w.heap.size w w' := by
  have h := rlay_any A c b a A2 c2 d w hb hd hb2 (by omega) hcm hc
  simp only [hb2] at h
  exact h
set_option maxHeartbeats 1000000 in
set_option maxRecDepth 100000 in
theorem rall_any (l : List Nat) (A1 : Option Addr) (c1 : Nat) (A : Option Addr) (c : Nat) (xs : List Pt) (w : World) (hl : l.length = 256) (hb : By w A1 l) (hcc : 256 ≤ c1) (hcm : c1 ≤ M63) (hc : A1 = none → c1 = 0) (hx : Ps w A xs) (hn : xs.length ≤ 1000) :
    Calls Try.prog 43 #[.slice A1 256 c1, .slice A xs.length c] w fun e w' => ∃ A' c', e = .returned (.slice A' 256 c') ∧ By w' A' (allL l xs) ∧ Below w.heap.size w w' := by
  have HL := Lib.hid hl
  clear hl
  go_enter Try.func43, Try.ntmps43
  go_wp2
  go_loopw [0, 5] (fun v i wr => ∃ (A2 : Option Addr) (c2 k : Nat), v = .slice A2 256 c2 ∧ 256 ≤ c2 ∧ c2 ≤ M63 ∧ (A2 = none → c2 = 0) ∧ k ≤ xs.length ∧ i = .int .i64 k ∧ By wr A2 (allL l (xs.take k)) ∧ Below w.heap.size w wr) (fun _ i _ => xs.length - (intOf i).toNat)
  case atStart => exact ⟨A1, c1, 0, rfl, hcc, hcm, hc, by omega, rfl, by first | exact hb | exact hb.drewN _, by first | exact Below.refl _ _ | exact bdrewN (Below.refl _ _) _⟩
  case round =>
    obtain ⟨A2, c2, k, rfl, hcc2, hcm2, hc2, hk, rfl, hb2, hbel⟩ := hrel
    have hXl : (allL l (xs.take k)).length = 256 := (allL_length _ _).trans HL.out
    by_cases hlt : k < xs.length
    · obtain ⟨g', o, rfl⟩ := pat_form hx (by omega)
      obtain ⟨A', c', q0, q1, q2, q3, q4, q5, q6, q7⟩ := pat_at hx k hlt
      have d0 := (hbel.cell (p := ⟨g', o + k * 2, none⟩) q0).trans q1
      have d1 := (hbel.cell (p := ⟨g', o + k * 2 + 1, none⟩) q0).trans q2
      have hd : By wr A' xs[k].2 := Rw.below q7 hbel
      have HT : Hid (allL l (xs.take (k + 1)) = layL (allL l (xs.take k)) xs[k].1 xs[k].2) := by show _ = _; rw [List.take_add_one, List.getElem?_eq_getElem hlt, Option.toList_some, allL_concat]
      generalize allL l (xs.take k) = X at *
      generalize xs[k] = p at *
      obtain ⟨a, d⟩ := p
      have hsz := hbel.size
      go_wp2_with fail
      refine (rlay256 A2 c2 X a A' c' d _ (by first | exact hb2 | exact hb2.drewN _) (by first | exact hd | exact hd.drewN _) hXl hcc2 hcm2 hc2).mono ?_
      rintro e w2 ⟨A3, c3, rfl, k1, k2, k3, k4, hbl⟩
      have hbel2 := hbel.trans (hbl.mono hsz)
      rw [show layL X a d = allL l (xs.take (k + 1)) from HT.out.symm] at k4
      go_wp2
      go_roundw
      case rel => exact ⟨A3, c3, k + 1, rfl, k1, k2, k3, by omega, by go_num, by first | exact k4 | exact k4.drewN _, by first | exact hbel2 | exact bdrewN hbel2 _⟩
      case measure => simp [intOf]; omega
    · have hke : k = xs.length := by omega
      subst hke
      rw [List.take_length] at hb2
      go_wp2
      go_ret
      exact ⟨A2, c2, rfl, by first | exact hb2 | exact hb2.drewN _, by first | exact hbel | exact bdrewN hbel _⟩
end Go.Proofs.Ytoibdomcekainaa.Pat
