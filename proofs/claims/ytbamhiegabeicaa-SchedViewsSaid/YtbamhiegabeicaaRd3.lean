/- The document's May. No statement is proved here. -/
import Derived.Test.YtbamhiegabeicaaRd2
namespace Go.Proofs.Ytbamhiegabeicaa.Rd
open Go.RowKit Go.Proofs.Ytbamhiegabeicaa.Mem Go.Proofs.Ytbamhiegabeicaa.Open Go.Proofs.Ytbamhiegabeicaa.Kind Go.Proofs.Ytbamhiegabeicaa.Blk Go.Proofs.Ytbamhiegabeicaa.App Go.Proofs.Ytbamhiegabeicaa.Pat
set_option linter.unusedVariables false
set_option linter.unusedSimpArgs false
set_option maxHeartbeats 4000000 in
set_option maxRecDepth 100000 in
theorem may_any (A : Option Addr) (c : Nat) (xs : List Chg) (w : World) (hx : Chs w A xs) :
    Calls Try.prog 73 #[.slice A xs.length c] w fun r w' => r = .returned (.bool (mayF 0 xs)) ∧ Below w.heap.size w w' := by
  have hl := hx.2.1
  unfold M63 at hl
  go_enter Try.func73, Try.ntmps73
  go_wp2
  go_loopw [3] (fun i wr => ∃ (k : Nat) (was : Int), k ≤ xs.length ∧ i = .int .i64 k ∧ Hid (mayF 0 xs = mayF was (xs.drop k)) ∧ 0 ≤ was ∧ (k = 0 ∧ was = 0 ∨ 0 < k ∧ (xs[k - 1]?).map (·.id) = some was) ∧ Below w.heap.size w wr) (fun i _ => xs.length - (intOf i).toNat)
  case atStart => exact ⟨0, 0, by omega, rfl, Lib.hid rfl, by omega, .inl ⟨rfl, rfl⟩, Below.refl _ _⟩
  case round =>
    obtain ⟨k, was, hk, rfl, hv, h0, hw, hbr⟩ := hrel
    by_cases hlt : k < xs.length
    · obtain ⟨g, o, rfl, hg⟩ := ch_form hx (by omega)
      obtain ⟨A1, c1, A2, c2, hat0⟩ := ch_at hx k hlt
      have hat := hat0.below hbr
      have e0 : wr.drew.cell? ⟨g, o + k * 5, none⟩ = some (.int .i64 xs[k].id) := hat.v0
      have e1 : wr.drew.cell? ⟨g, o + k * 5 + 1, none⟩ = some (.int .i64 xs[k].blk) := hat.v1
      have e2 : wr.drew.cell? ⟨g, o + k * 5 + 2, none⟩ = some (.int .i64 xs[k].pa) := hat.v2
      have e3 : wr.drew.cell? ⟨g, o + k * 5 + 2 + 1, none⟩ = some (.slice A1 xs[k].pd.length c1) := hat.v3
      have e4 : wr.drew.cell? ⟨g, o + k * 5 + 4, none⟩ = some (.slice A2 xs[k].needs.length c2) := hat.v4
      have hp1 := hat.p.2.2.2.2.1
      have hn : Is wr.drew A2 xs[k].needs := hat.n.2.2.2.drew
      have hv := hv.out
      rw [drop_at hlt] at hv
      have HX := Lib.hid (List.getElem?_eq_getElem hlt)
      clear hat0 hat
      generalize xs[k] = x at *
      rcases hw with ⟨hk0, rfl⟩ | ⟨hk0, hw⟩
      · have d4 : decide (0 < k) = false := decide_eq_false (by omega)
        have HK := Lib.hid hk0
        clear h0 hk0
        by_cases h1 : x.id < 1
        · rw [mayF_id (by omega)] at hv
          have HV := Lib.hid hv
          have d1 : decide (x.id < 1) = true := decide_eq_true h1
          clear hv h1
          go_wp2_with fail
          refine wp_region_held_drew (S := Go.RowKit.Below ((wr.drew).heap.size) (wr.drew)) (by kernel_rfl) ?hb5 (fun hHeld => ?rest5)
          case hb5 =>
            exact Go.RowKit.Below.refl _ _
          case' rest5 => skip
          have hCl := fun (wS : World) (hSw : Go.RowKit.Below ((wr.drew).heap.size) (wr.drew) wS) => And.intro (Mem.bl_cell hSw e0 (by first | omega | (dsimp only; omega) | exact World.block_lt_of_cell? _ _ e0 | (simp <;> omega))) <| And.intro (Mem.bl_cell hSw e1 (by first | omega | (dsimp only; omega) | exact World.block_lt_of_cell? _ _ e1 | (simp <;> omega))) <| And.intro (Mem.bl_cell hSw e2 (by first | omega | (dsimp only; omega) | exact World.block_lt_of_cell? _ _ e2 | (simp <;> omega))) <| And.intro (Mem.bl_cell hSw e3 (by first | omega | (dsimp only; omega) | exact World.block_lt_of_cell? _ _ e3 | (simp <;> omega))) <| Mem.bl_cell hSw e4 (by first | omega | (dsimp only; omega) | exact World.block_lt_of_cell? _ _ e4 | (simp <;> omega))
          replace hCl := Go.Lib.hid hCl
          refine Mem.tkY 0 ?v6 (hy := Or.inl ⟨by rfl, ?y6⟩) (hS := by assumption) (h := ?r6)
          case y6 => (intro w hSw; clear hSw; go_simp; try with_reducible rfl)
          case' r6 => skip
          refine Mem.tkY 1 ?v7 (hy := Or.inl ⟨by rfl, ?y7⟩) (hS := by assumption) (h := ?r7)
          case y7 => (intro w hSw; clear hSw; go_simp; try with_reducible rfl)
          case' r7 => skip
          refine Mem.tkY 2 ?v8 (hy := Or.inl ⟨by rfl, ?y8⟩) (hS := by assumption) (h := ?r8)
          case y8 => (intro w hSw; clear hSw; go_simp; try with_reducible rfl)
          case' r8 => skip
          try simp only [List.getElem_toArray, List.getElem_cons_succ, List.getElem_cons_zero, Act.put, List.setIfInBounds_toArray, List.set_cons_zero, List.set_cons_succ]
          refine Mem.tkY 3 ?v9 (hy := Or.inl ⟨by rfl, ?y9⟩) (hS := by assumption) (h := ?r9)
          case y9 => (intro w hSw; clear hSw; go_simp; try with_reducible rfl)
          case' r9 => skip
          refine Mem.tkY 4 ?v10 (hy := Or.inl ⟨by rfl, ?y10⟩) (hS := by assumption) (h := ?r10)
          case y10 => (intro w hSw; obtain ⟨hT0, hT1, hT2, hT3, hT4⟩ := hCl.out w hSw; clear hSw; go_simp; try with_reducible rfl)
          case' r10 => skip
          refine Mem.tkY 5 ?v11 (hy := Or.inl ⟨by rfl, ?y11⟩) (hS := by assumption) (h := ?r11)
          case y11 => (intro w hSw; clear hSw; go_simp; try with_reducible rfl)
          case' r11 => skip
          try simp only [List.getElem_toArray, List.getElem_cons_succ, List.getElem_cons_zero, Act.put, List.setIfInBounds_toArray, List.set_cons_zero, List.set_cons_succ]
          refine Mem.tkY 6 ?v12 (hy := Or.inl ⟨by rfl, ?y12⟩) (hS := by assumption) (h := ?r12)
          case y12 => (intro w hSw; clear hSw; go_simp; try with_reducible rfl)
          case' r12 => skip
          try simp only [List.getElem_toArray, List.getElem_cons_succ, List.getElem_cons_zero, Act.put, List.setIfInBounds_toArray, List.set_cons_zero, List.set_cons_succ]
          first | refine Mem.tkY 7 undef (hy := Or.inr ⟨by rfl, rfl⟩) (hS := by assumption) (h := ?r13) | (refine Mem.tkY 7 ?v13 (hy := Or.inl ⟨by rfl, ?y13⟩) (hS := by assumption) (h := ?r13); case y13 => (intro w hSw; clear hSw; go_simp; try with_reducible rfl))
          case' r13 => skip
          try simp only [List.getElem_toArray, List.getElem_cons_succ, List.getElem_cons_zero, Act.put, List.setIfInBounds_toArray, List.set_cons_zero, List.set_cons_succ]
          first | refine Mem.tkY 8 undef (hy := Or.inr ⟨by rfl, rfl⟩) (hS := by assumption) (h := ?r14) | (refine Mem.tkY 8 ?v14 (hy := Or.inl ⟨by rfl, ?y14⟩) (hS := by assumption) (h := ?r14); case y14 => (intro w hSw; clear hSw; go_simp; try with_reducible rfl))
          case' r14 => skip
          try simp only [List.getElem_toArray, List.getElem_cons_succ, List.getElem_cons_zero, Act.put, List.setIfInBounds_toArray, List.set_cons_zero, List.set_cons_succ]
          first | refine Mem.tkY 9 undef (hy := Or.inr ⟨by rfl, rfl⟩) (hS := by assumption) (h := ?r15) | (refine Mem.tkY 9 ?v15 (hy := Or.inl ⟨by rfl, ?y15⟩) (hS := by assumption) (h := ?r15); case y15 => (intro w hSw; clear hSw; go_simp; try with_reducible rfl))
          case' r15 => skip
          try simp only [List.getElem_toArray, List.getElem_cons_succ, List.getElem_cons_zero, Act.put, List.setIfInBounds_toArray, List.set_cons_zero, List.set_cons_succ]
          first | refine Mem.tkY 10 undef (hy := Or.inr ⟨by rfl, rfl⟩) (hS := by assumption) (h := ?r16) | (refine Mem.tkY 10 ?v16 (hy := Or.inl ⟨by rfl, ?y16⟩) (hS := by assumption) (h := ?r16); case y16 => (intro w hSw; clear hSw; go_simp; try with_reducible rfl))
          case' r16 => skip
          try simp only [List.getElem_toArray, List.getElem_cons_succ, List.getElem_cons_zero, Act.put, List.setIfInBounds_toArray, List.set_cons_zero, List.set_cons_succ]
          first | refine Mem.tkY 11 undef (hy := Or.inr ⟨by rfl, rfl⟩) (hS := by assumption) (h := ?r17) | (refine Mem.tkY 11 ?v17 (hy := Or.inl ⟨by rfl, ?y17⟩) (hS := by assumption) (h := ?r17); case y17 => (intro w hSw; clear hSw; go_simp; try with_reducible rfl))
          case' r17 => skip
          try simp only [List.getElem_toArray, List.getElem_cons_succ, List.getElem_cons_zero, Act.put, List.setIfInBounds_toArray, List.set_cons_zero, List.set_cons_succ]
          first | refine Mem.tkY 12 undef (hy := Or.inr ⟨by rfl, rfl⟩) (hS := by assumption) (h := ?r18) | (refine Mem.tkY 12 ?v18 (hy := Or.inl ⟨by rfl, ?y18⟩) (hS := by assumption) (h := ?r18); case y18 => (intro w hSw; clear hSw; go_simp; try with_reducible rfl))
          case' r18 => skip
          try simp only [List.getElem_toArray, List.getElem_cons_succ, List.getElem_cons_zero, Act.put, List.setIfInBounds_toArray, List.set_cons_zero, List.set_cons_succ]
          first | refine Mem.tkY 13 undef (hy := Or.inr ⟨by rfl, rfl⟩) (hS := by assumption) (h := ?r19) | (refine Mem.tkY 13 ?v19 (hy := Or.inl ⟨by rfl, ?y19⟩) (hS := by assumption) (h := ?r19); case y19 => (intro w hSw; clear hSw; go_simp; try with_reducible rfl))
          case' r19 => skip
          try simp only [List.getElem_toArray, List.getElem_cons_succ, List.getElem_cons_zero, Act.put, List.setIfInBounds_toArray, List.set_cons_zero, List.set_cons_succ]
          first | refine Mem.tkY 14 undef (hy := Or.inr ⟨by rfl, rfl⟩) (hS := by assumption) (h := ?r20) | (refine Mem.tkY 14 ?v20 (hy := Or.inl ⟨by rfl, ?y20⟩) (hS := by assumption) (h := ?r20); case y20 => (intro w hSw; obtain ⟨hT0, hT1, hT2, hT3, hT4⟩ := hCl.out w hSw; clear hSw; go_simp; try with_reducible rfl))
          case' r20 => skip
          try simp only [List.getElem_toArray, List.getElem_cons_succ, List.getElem_cons_zero, Act.put, List.setIfInBounds_toArray, List.set_cons_zero, List.set_cons_succ]
          first | refine Mem.tkY 15 undef (hy := Or.inr ⟨by rfl, rfl⟩) (hS := by assumption) (h := ?r21) | (refine Mem.tkY 15 ?v21 (hy := Or.inl ⟨by rfl, ?y21⟩) (hS := by assumption) (h := ?r21); case y21 => (intro w hSw; clear hSw; go_simp; try with_reducible rfl))
          case' r21 => skip
          try simp only [List.getElem_toArray, List.getElem_cons_succ, List.getElem_cons_zero, Act.put, List.setIfInBounds_toArray, List.set_cons_zero, List.set_cons_succ]
          first | refine Mem.tkY 16 undef (hy := Or.inr ⟨by rfl, rfl⟩) (hS := by assumption) (h := ?r22) | (refine Mem.tkY 16 ?v22 (hy := Or.inl ⟨by rfl, ?y22⟩) (hS := by assumption) (h := ?r22); case y22 => (intro w hSw; clear hSw; go_simp; try with_reducible rfl))
          case' r22 => skip
          try simp only [List.getElem_toArray, List.getElem_cons_succ, List.getElem_cons_zero, Act.put, List.setIfInBounds_toArray, List.set_cons_zero, List.set_cons_succ]
          first | refine Mem.tkY 17 undef (hy := Or.inr ⟨by rfl, rfl⟩) (hS := by assumption) (h := ?r23) | (refine Mem.tkY 17 ?v23 (hy := Or.inl ⟨by rfl, ?y23⟩) (hS := by assumption) (h := ?r23); case y23 => (intro w hSw; clear hSw; go_simp; try with_reducible rfl))
          case' r23 => skip
          try simp only [List.getElem_toArray, List.getElem_cons_succ, List.getElem_cons_zero, Act.put, List.setIfInBounds_toArray, List.set_cons_zero, List.set_cons_succ]
          first | refine Mem.tkY 18 undef (hy := Or.inr ⟨by rfl, rfl⟩) (hS := by assumption) (h := ?r24) | (refine Mem.tkY 18 ?v24 (hy := Or.inl ⟨by rfl, ?y24⟩) (hS := by assumption) (h := ?r24); case y24 => (intro w hSw; clear hSw; go_simp; try with_reducible rfl))
          case' r24 => skip
          try simp only [List.getElem_toArray, List.getElem_cons_succ, List.getElem_cons_zero, Act.put, List.setIfInBounds_toArray, List.set_cons_zero, List.set_cons_succ]
          first | refine Mem.tkY 19 undef (hy := Or.inr ⟨by rfl, rfl⟩) (hS := by assumption) (h := ?r25) | (refine Mem.tkY 19 ?v25 (hy := Or.inl ⟨by rfl, ?y25⟩) (hS := by assumption) (h := ?r25); case y25 => (intro w hSw; clear hSw; go_simp; try with_reducible rfl))
          case' r25 => skip
          try simp only [List.getElem_toArray, List.getElem_cons_succ, List.getElem_cons_zero, Act.put, List.setIfInBounds_toArray, List.set_cons_zero, List.set_cons_succ]
          first | refine Mem.tkY 20 undef (hy := Or.inr ⟨by rfl, rfl⟩) (hS := by assumption) (h := ?r26) | (refine Mem.tkY 20 ?v26 (hy := Or.inl ⟨by rfl, ?y26⟩) (hS := by assumption) (h := ?r26); case y26 => (intro w hSw; obtain ⟨hT0, hT1, hT2, hT3, hT4⟩ := hCl.out w hSw; clear hSw; go_simp; try with_reducible rfl))
          case' r26 => skip
          try simp only [List.getElem_toArray, List.getElem_cons_succ, List.getElem_cons_zero, Act.put, List.setIfInBounds_toArray, List.set_cons_zero, List.set_cons_succ]
          first | refine Mem.tkY 21 undef (hy := Or.inr ⟨by rfl, rfl⟩) (hS := by assumption) (h := ?r27) | (refine Mem.tkY 21 ?v27 (hy := Or.inl ⟨by rfl, ?y27⟩) (hS := by assumption) (h := ?r27); case y27 => (intro w hSw; clear hSw; go_simp; try with_reducible rfl))
          case' r27 => skip
          try simp only [List.getElem_toArray, List.getElem_cons_succ, List.getElem_cons_zero, Act.put, List.setIfInBounds_toArray, List.set_cons_zero, List.set_cons_succ]
          first | refine Mem.tkY 22 undef (hy := Or.inr ⟨by rfl, rfl⟩) (hS := by assumption) (h := ?r28) | (refine Mem.tkY 22 ?v28 (hy := Or.inl ⟨by rfl, ?y28⟩) (hS := by assumption) (h := ?r28); case y28 => (intro w hSw; clear hSw; go_simp; try with_reducible rfl))
          case' r28 => skip
          refine Mem.tkY 23 ?v29 (hy := Or.inl ⟨by rfl, ?y29⟩) (hS := by assumption) (h := ?r29)
          case y29 => (intro w hSw; clear hSw; go_simp; try with_reducible rfl)
          case' r29 => skip
          refine Mem.tkY 24 ?v30 (hy := Or.inl ⟨by rfl, ?y30⟩) (hS := by assumption) (h := ?r30)
          case y30 => (intro w hSw; clear hSw; go_simp; try with_reducible rfl)
          case' r30 => skip
          try simp only [List.getElem_toArray, List.getElem_cons_succ, List.getElem_cons_zero, Act.put, List.setIfInBounds_toArray, List.set_cons_zero, List.set_cons_succ]
          first | refine Mem.tkY 25 undef (hy := Or.inr ⟨by rfl, rfl⟩) (hS := by assumption) (h := ?r31) | (refine Mem.tkY 25 ?v31 (hy := Or.inl ⟨by rfl, ?y31⟩) (hS := by assumption) (h := ?r31); case y31 => (intro w hSw; clear hSw; go_simp; try with_reducible rfl))
          case' r31 => skip
          try simp only [List.getElem_toArray, List.getElem_cons_succ, List.getElem_cons_zero, Act.put, List.setIfInBounds_toArray, List.set_cons_zero, List.set_cons_succ]
          first | refine Mem.tkY 26 undef (hy := Or.inr ⟨by rfl, rfl⟩) (hS := by assumption) (h := ?r32) | (refine Mem.tkY 26 ?v32 (hy := Or.inl ⟨by rfl, ?y32⟩) (hS := by assumption) (h := ?r32); case y32 => (intro w hSw; clear hSw; go_simp; try with_reducible rfl))
          case' r32 => skip
          try simp only [List.getElem_toArray, List.getElem_cons_succ, List.getElem_cons_zero, Act.put, List.setIfInBounds_toArray, List.set_cons_zero, List.set_cons_succ]
          first | refine Mem.tkY 27 undef (hy := Or.inr ⟨by rfl, rfl⟩) (hS := by assumption) (h := ?r33) | (refine Mem.tkY 27 ?v33 (hy := Or.inl ⟨by rfl, ?y33⟩) (hS := by assumption) (h := ?r33); case y33 => (intro w hSw; clear hSw; go_simp; try with_reducible rfl))
          case' r33 => skip
          try simp only [List.getElem_toArray, List.getElem_cons_succ, List.getElem_cons_zero, Act.put, List.setIfInBounds_toArray, List.set_cons_zero, List.set_cons_succ]
          first | refine Mem.tkY 28 undef (hy := Or.inr ⟨by rfl, rfl⟩) (hS := by assumption) (h := ?r34) | (refine Mem.tkY 28 ?v34 (hy := Or.inl ⟨by rfl, ?y34⟩) (hS := by assumption) (h := ?r34); case y34 => (intro w hSw; clear hSw; go_simp; try with_reducible rfl))
          case' r34 => skip
          try simp only [List.getElem_toArray, List.getElem_cons_succ, List.getElem_cons_zero, Act.put, List.setIfInBounds_toArray, List.set_cons_zero, List.set_cons_succ]
          first | refine Mem.tkY 29 undef (hy := Or.inr ⟨by rfl, rfl⟩) (hS := by assumption) (h := ?r35) | (refine Mem.tkY 29 ?v35 (hy := Or.inl ⟨by rfl, ?y35⟩) (hS := by assumption) (h := ?r35); case y35 => (intro w hSw; obtain ⟨hT0, hT1, hT2, hT3, hT4⟩ := hCl.out w hSw; clear hSw; go_simp; try with_reducible rfl))
          case' r35 => skip
          try simp only [List.getElem_toArray, List.getElem_cons_succ, List.getElem_cons_zero, Act.put, List.setIfInBounds_toArray, List.set_cons_zero, List.set_cons_succ]
          first | refine Mem.tkY 30 undef (hy := Or.inr ⟨by rfl, rfl⟩) (hS := by assumption) (h := ?r36) | (refine Mem.tkY 30 ?v36 (hy := Or.inl ⟨by rfl, ?y36⟩) (hS := by assumption) (h := ?r36); case y36 => (intro w hSw; clear hSw; go_simp; try with_reducible rfl))
          case' r36 => skip
          refine Mem.tkY 31 ?v37 (hy := Or.inl ⟨by rfl, ?y37⟩) (hS := by assumption) (h := ?r37)
          case y37 => (intro w hSw; clear hSw; go_simp; try with_reducible rfl)
          case' r37 => skip
          refine Mem.tkY 32 ?v38 (hy := Or.inl ⟨by rfl, ?y38⟩) (hS := by assumption) (h := ?r38)
          case y38 => (intro w hSw; clear hSw; go_simp; try with_reducible rfl)
          case' r38 => skip
          try simp only [List.getElem_toArray, List.getElem_cons_succ, List.getElem_cons_zero, Act.put, List.setIfInBounds_toArray, List.set_cons_zero, List.set_cons_succ]
          first | refine Mem.tkY 33 undef (hy := Or.inr ⟨by rfl, rfl⟩) (hS := by assumption) (h := ?r39) | (refine Mem.tkY 33 ?v39 (hy := Or.inl ⟨by rfl, ?y39⟩) (hS := by assumption) (h := ?r39); case y39 => (intro w hSw; clear hSw; go_simp; try with_reducible rfl))
          case' r39 => skip
          try simp only [List.getElem_toArray, List.getElem_cons_succ, List.getElem_cons_zero, Act.put, List.setIfInBounds_toArray, List.set_cons_zero, List.set_cons_succ]
          first | refine Mem.tkY 34 undef (hy := Or.inr ⟨by rfl, rfl⟩) (hS := by assumption) (h := ?r40) | (refine Mem.tkY 34 ?v40 (hy := Or.inl ⟨by rfl, ?y40⟩) (hS := by assumption) (h := ?r40); case y40 => (intro w hSw; clear hSw; go_simp; try with_reducible rfl))
          case' r40 => skip
          try simp only [List.getElem_toArray, List.getElem_cons_succ, List.getElem_cons_zero, Act.put, List.setIfInBounds_toArray, List.set_cons_zero, List.set_cons_succ]
          first | refine Mem.tkY 35 undef (hy := Or.inr ⟨by rfl, rfl⟩) (hS := by assumption) (h := ?r41) | (refine Mem.tkY 35 ?v41 (hy := Or.inl ⟨by rfl, ?y41⟩) (hS := by assumption) (h := ?r41); case y41 => (intro w hSw; clear hSw; go_simp; try with_reducible rfl))
          case' r41 => skip
          try simp only [List.getElem_toArray, List.getElem_cons_succ, List.getElem_cons_zero, Act.put, List.setIfInBounds_toArray, List.set_cons_zero, List.set_cons_succ]
          first | refine Mem.tkY 36 undef (hy := Or.inr ⟨by rfl, rfl⟩) (hS := by assumption) (h := ?r42) | (refine Mem.tkY 36 ?v42 (hy := Or.inl ⟨by rfl, ?y42⟩) (hS := by assumption) (h := ?r42); case y42 => (intro w hSw; clear hSw; go_simp; try with_reducible rfl))
          case' r42 => skip
          try simp only [List.getElem_toArray, List.getElem_cons_succ, List.getElem_cons_zero, Act.put, List.setIfInBounds_toArray, List.set_cons_zero, List.set_cons_succ]
          first | refine Mem.tkY 37 undef (hy := Or.inr ⟨by rfl, rfl⟩) (hS := by assumption) (h := ?r43) | (refine Mem.tkY 37 ?v43 (hy := Or.inl ⟨by rfl, ?y43⟩) (hS := by assumption) (h := ?r43); case y43 => (intro w hSw; obtain ⟨hT0, hT1, hT2, hT3, hT4⟩ := hCl.out w hSw; clear hSw; go_simp; try with_reducible rfl))
          case' r43 => skip
          try simp only [List.getElem_toArray, List.getElem_cons_succ, List.getElem_cons_zero, Act.put, List.setIfInBounds_toArray, List.set_cons_zero, List.set_cons_succ]
          first | refine Mem.tkY 38 undef (hy := Or.inr ⟨by rfl, rfl⟩) (hS := by assumption) (h := ?r44) | (refine Mem.tkY 38 ?v44 (hy := Or.inl ⟨by rfl, ?y44⟩) (hS := by assumption) (h := ?r44); case y44 => (intro w hSw; clear hSw; go_simp; try with_reducible rfl))
          case' r44 => skip
          try simp only [List.getElem_toArray, List.getElem_cons_succ, List.getElem_cons_zero, Act.put, List.setIfInBounds_toArray, List.set_cons_zero, List.set_cons_succ]
          first | refine Mem.tkY 39 undef (hy := Or.inr ⟨by rfl, rfl⟩) (hS := by assumption) (h := ?r45) | (refine Mem.tkY 39 ?v45 (hy := Or.inl ⟨by rfl, ?y45⟩) (hS := by assumption) (h := ?r45); case y45 => (intro w hSw; clear hSw; go_simp; try with_reducible rfl))
          case' r45 => skip
          refine Mem.tkY 40 ?v46 (hy := Or.inl ⟨by rfl, ?y46⟩) (hS := by assumption) (h := ?r46)
          case y46 => (intro w hSw; clear hSw; go_simp; try with_reducible rfl)
          case' r46 => skip
          refine Mem.tkY 41 ?v47 (hy := Or.inl ⟨by rfl, ?y47⟩) (hS := by assumption) (h := ?r47)
          case y47 => (intro w hSw; clear hSw; go_simp; try with_reducible rfl)
          case' r47 => skip
          try simp only [List.getElem_toArray, List.getElem_cons_succ, List.getElem_cons_zero, Act.put, List.setIfInBounds_toArray, List.set_cons_zero, List.set_cons_succ]
          first | refine Mem.tkY 42 undef (hy := Or.inr ⟨by rfl, rfl⟩) (hS := by assumption) (h := ?r48) | (refine Mem.tkY 42 ?v48 (hy := Or.inl ⟨by rfl, ?y48⟩) (hS := by assumption) (h := ?r48); case y48 => (intro w hSw; clear hSw; go_simp; try with_reducible rfl))
          case' r48 => skip
          try simp only [List.getElem_toArray, List.getElem_cons_succ, List.getElem_cons_zero, Act.put, List.setIfInBounds_toArray, List.set_cons_zero, List.set_cons_succ]
          first | refine Mem.tkY 43 undef (hy := Or.inr ⟨by rfl, rfl⟩) (hS := by assumption) (h := ?r49) | (refine Mem.tkY 43 ?v49 (hy := Or.inl ⟨by rfl, ?y49⟩) (hS := by assumption) (h := ?r49); case y49 => (intro w hSw; clear hSw; go_simp; try with_reducible rfl))
          case' r49 => skip
          try simp only [List.getElem_toArray, List.getElem_cons_succ, List.getElem_cons_zero, Act.put, List.setIfInBounds_toArray, List.set_cons_zero, List.set_cons_succ]
          first | refine Mem.tkY 44 undef (hy := Or.inr ⟨by rfl, rfl⟩) (hS := by assumption) (h := ?r50) | (refine Mem.tkY 44 ?v50 (hy := Or.inl ⟨by rfl, ?y50⟩) (hS := by assumption) (h := ?r50); case y50 => (intro w hSw; clear hSw; go_simp; try with_reducible rfl))
          case' r50 => skip
          try simp only [List.getElem_toArray, List.getElem_cons_succ, List.getElem_cons_zero, Act.put, List.setIfInBounds_toArray, List.set_cons_zero, List.set_cons_succ]
          first | refine Mem.tkY 45 undef (hy := Or.inr ⟨by rfl, rfl⟩) (hS := by assumption) (h := ?r51) | (refine Mem.tkY 45 ?v51 (hy := Or.inl ⟨by rfl, ?y51⟩) (hS := by assumption) (h := ?r51); case y51 => (intro w hSw; clear hSw; go_simp; try with_reducible rfl))
          case' r51 => skip
          try simp only [List.getElem_toArray, List.getElem_cons_succ, List.getElem_cons_zero, Act.put, List.setIfInBounds_toArray, List.set_cons_zero, List.set_cons_succ]
          first | refine Mem.tkY 46 undef (hy := Or.inr ⟨by rfl, rfl⟩) (hS := by assumption) (h := ?r52) | (refine Mem.tkY 46 ?v52 (hy := Or.inl ⟨by rfl, ?y52⟩) (hS := by assumption) (h := ?r52); case y52 => (intro w hSw; obtain ⟨hT0, hT1, hT2, hT3, hT4⟩ := hCl.out w hSw; clear hSw; go_simp; try with_reducible rfl))
          case' r52 => skip
          try simp only [List.getElem_toArray, List.getElem_cons_succ, List.getElem_cons_zero, Act.put, List.setIfInBounds_toArray, List.set_cons_zero, List.set_cons_succ]
          first | refine Mem.tkY 47 undef (hy := Or.inr ⟨by rfl, rfl⟩) (hS := by assumption) (h := ?r53) | (refine Mem.tkY 47 ?v53 (hy := Or.inl ⟨by rfl, ?y53⟩) (hS := by assumption) (h := ?r53); case y53 => (intro w hSw; clear hSw; go_simp; try with_reducible rfl))
          case' r53 => skip
          try simp only [List.getElem_toArray, List.getElem_cons_succ, List.getElem_cons_zero, Act.put, List.setIfInBounds_toArray, List.set_cons_zero, List.set_cons_succ]
          first | refine Mem.tkY 48 undef (hy := Or.inr ⟨by rfl, rfl⟩) (hS := by assumption) (h := ?r54) | (refine Mem.tkY 48 ?v54 (hy := Or.inl ⟨by rfl, ?y54⟩) (hS := by assumption) (h := ?r54); case y54 => (intro w hSw; clear hSw; go_simp; try with_reducible rfl))
          case' r54 => skip
          try simp only [List.getElem_toArray, List.getElem_cons_succ, List.getElem_cons_zero, Act.put, List.setIfInBounds_toArray, List.set_cons_zero, List.set_cons_succ]
          first | refine Mem.tkY 49 undef (hy := Or.inr ⟨by rfl, rfl⟩) (hS := by assumption) (h := ?r55) | (refine Mem.tkY 49 ?v55 (hy := Or.inl ⟨by rfl, ?y55⟩) (hS := by assumption) (h := ?r55); case y55 => (intro w hSw; clear hSw; go_simp; try with_reducible rfl))
          case' r55 => skip
          try simp only [List.getElem_toArray, List.getElem_cons_succ, List.getElem_cons_zero, Act.put, List.setIfInBounds_toArray, List.set_cons_zero, List.set_cons_succ]
          first | refine Mem.tkY 50 undef (hy := Or.inr ⟨by rfl, rfl⟩) (hS := by assumption) (h := ?r56) | (refine Mem.tkY 50 ?v56 (hy := Or.inl ⟨by rfl, ?y56⟩) (hS := by assumption) (h := ?r56); case y56 => (intro w hSw; clear hSw; go_simp; try with_reducible rfl))
          case' r56 => skip
          try simp only [List.getElem_toArray, List.getElem_cons_succ, List.getElem_cons_zero, Act.put, List.setIfInBounds_toArray, List.set_cons_zero, List.set_cons_succ]
          first | refine Mem.tkY 51 undef (hy := Or.inr ⟨by rfl, rfl⟩) (hS := by assumption) (h := ?r57) | (refine Mem.tkY 51 ?v57 (hy := Or.inl ⟨by rfl, ?y57⟩) (hS := by assumption) (h := ?r57); case y57 => (intro w hSw; obtain ⟨hT0, hT1, hT2, hT3, hT4⟩ := hCl.out w hSw; clear hSw; go_simp; try with_reducible rfl))
          case' r57 => skip
          try simp only [List.getElem_toArray, List.getElem_cons_succ, List.getElem_cons_zero, Act.put, List.setIfInBounds_toArray, List.set_cons_zero, List.set_cons_succ]
          first | refine Mem.tkY 52 undef (hy := Or.inr ⟨by rfl, rfl⟩) (hS := by assumption) (h := ?r58) | (refine Mem.tkY 52 ?v58 (hy := Or.inl ⟨by rfl, ?y58⟩) (hS := by assumption) (h := ?r58); case y58 => (intro w hSw; clear hSw; go_simp; try with_reducible rfl))
          case' r58 => skip
          try simp only [List.getElem_toArray, List.getElem_cons_succ, List.getElem_cons_zero, Act.put, List.setIfInBounds_toArray, List.set_cons_zero, List.set_cons_succ]
          first | refine Mem.tkY 53 undef (hy := Or.inr ⟨by rfl, rfl⟩) (hS := by assumption) (h := ?r59) | (refine Mem.tkY 53 ?v59 (hy := Or.inl ⟨by rfl, ?y59⟩) (hS := by assumption) (h := ?r59); case y59 => (intro w hSw; clear hSw; go_simp; try with_reducible rfl))
          case' r59 => skip
          refine Mem.tkY 54 ?v60 (hy := Or.inl ⟨by rfl, ?y60⟩) (hS := by assumption) (h := ?r60)
          case y60 => (intro w hSw; clear hSw; go_simp; try with_reducible rfl)
          case' r60 => skip
          try simp only [List.getElem_toArray, List.getElem_cons_succ, List.getElem_cons_zero, Act.put, List.setIfInBounds_toArray, List.set_cons_zero, List.set_cons_succ]
          refine wpAnyH_done (by kernel_rfl) ?_ _
          clear hCl
          go_wp2_with fail
          go_ret
          exact ⟨ret_bool HV.out.symm, hbr.trans (((Below.refl _ _).drew.trans hHeld).mono hbr.size)⟩
        have d1 : decide (x.id < 1) = false := decide_eq_false h1
        have X1 : Hid (¬ x.id ≤ 0) := Lib.hid (by omega)
        have X2 : Hid (0 ≤ x.id) := Lib.hid (by omega)
        clear h1
        by_cases h2 : x.blk < 0
        · rw [mayF_blk h2] at hv
          have HV := Lib.hid hv
          have d2 : decide (x.blk < 0) = true := decide_eq_true h2
          clear hv h2
          go_wp2_with fail
          refine wp_region_held_drew (S := Go.RowKit.Below ((wr.drew).heap.size) (wr.drew)) (by kernel_rfl) ?hb65 (fun hHeld => ?rest65)
          case hb65 =>
            exact Go.RowKit.Below.refl _ _
          case' rest65 => skip
          have hCl := fun (wS : World) (hSw : Go.RowKit.Below ((wr.drew).heap.size) (wr.drew) wS) => And.intro (Mem.bl_cell hSw e0 (by first | omega | (dsimp only; omega) | exact World.block_lt_of_cell? _ _ e0 | (simp <;> omega))) <| And.intro (Mem.bl_cell hSw e1 (by first | omega | (dsimp only; omega) | exact World.block_lt_of_cell? _ _ e1 | (simp <;> omega))) <| And.intro (Mem.bl_cell hSw e2 (by first | omega | (dsimp only; omega) | exact World.block_lt_of_cell? _ _ e2 | (simp <;> omega))) <| And.intro (Mem.bl_cell hSw e3 (by first | omega | (dsimp only; omega) | exact World.block_lt_of_cell? _ _ e3 | (simp <;> omega))) <| Mem.bl_cell hSw e4 (by first | omega | (dsimp only; omega) | exact World.block_lt_of_cell? _ _ e4 | (simp <;> omega))
          replace hCl := Go.Lib.hid hCl
          refine Mem.tkY 0 ?v66 (hy := Or.inl ⟨by rfl, ?y66⟩) (hS := by assumption) (h := ?r66)
          case y66 => (intro w hSw; clear hSw; go_simp; try with_reducible rfl)
          case' r66 => skip
          refine Mem.tkY 1 ?v67 (hy := Or.inl ⟨by rfl, ?y67⟩) (hS := by assumption) (h := ?r67)
          case y67 => (intro w hSw; clear hSw; go_simp; try with_reducible rfl)
          case' r67 => skip
          refine Mem.tkY 2 ?v68 (hy := Or.inl ⟨by rfl, ?y68⟩) (hS := by assumption) (h := ?r68)
          case y68 => (intro w hSw; clear hSw; go_simp; try with_reducible rfl)
          case' r68 => skip
          try simp only [List.getElem_toArray, List.getElem_cons_succ, List.getElem_cons_zero, Act.put, List.setIfInBounds_toArray, List.set_cons_zero, List.set_cons_succ]
          refine Mem.tkY 3 ?v69 (hy := Or.inl ⟨by rfl, ?y69⟩) (hS := by assumption) (h := ?r69)
          case y69 => (intro w hSw; clear hSw; go_simp; try with_reducible rfl)
          case' r69 => skip
          refine Mem.tkY 4 ?v70 (hy := Or.inl ⟨by rfl, ?y70⟩) (hS := by assumption) (h := ?r70)
          case y70 => (intro w hSw; obtain ⟨hT0, hT1, hT2, hT3, hT4⟩ := hCl.out w hSw; clear hSw; go_simp; try with_reducible rfl)
          case' r70 => skip
          refine Mem.tkY 5 ?v71 (hy := Or.inl ⟨by rfl, ?y71⟩) (hS := by assumption) (h := ?r71)
          case y71 => (intro w hSw; clear hSw; go_simp; try with_reducible rfl)
          case' r71 => skip
          try simp only [List.getElem_toArray, List.getElem_cons_succ, List.getElem_cons_zero, Act.put, List.setIfInBounds_toArray, List.set_cons_zero, List.set_cons_succ]
          refine Mem.tkY 6 ?v72 (hy := Or.inl ⟨by rfl, ?y72⟩) (hS := by assumption) (h := ?r72)
          case y72 => (intro w hSw; clear hSw; go_simp; try with_reducible rfl)
          case' r72 => skip
          try simp only [List.getElem_toArray, List.getElem_cons_succ, List.getElem_cons_zero, Act.put, List.setIfInBounds_toArray, List.set_cons_zero, List.set_cons_succ]
          first | refine Mem.tkY 7 undef (hy := Or.inr ⟨by rfl, rfl⟩) (hS := by assumption) (h := ?r73) | (refine Mem.tkY 7 ?v73 (hy := Or.inl ⟨by rfl, ?y73⟩) (hS := by assumption) (h := ?r73); case y73 => (intro w hSw; clear hSw; go_simp; try with_reducible rfl))
          case' r73 => skip
          try simp only [List.getElem_toArray, List.getElem_cons_succ, List.getElem_cons_zero, Act.put, List.setIfInBounds_toArray, List.set_cons_zero, List.set_cons_succ]
          first | refine Mem.tkY 8 undef (hy := Or.inr ⟨by rfl, rfl⟩) (hS := by assumption) (h := ?r74) | (refine Mem.tkY 8 ?v74 (hy := Or.inl ⟨by rfl, ?y74⟩) (hS := by assumption) (h := ?r74); case y74 => (intro w hSw; clear hSw; go_simp; try with_reducible rfl))
          case' r74 => skip
          try simp only [List.getElem_toArray, List.getElem_cons_succ, List.getElem_cons_zero, Act.put, List.setIfInBounds_toArray, List.set_cons_zero, List.set_cons_succ]
          first | refine Mem.tkY 9 undef (hy := Or.inr ⟨by rfl, rfl⟩) (hS := by assumption) (h := ?r75) | (refine Mem.tkY 9 ?v75 (hy := Or.inl ⟨by rfl, ?y75⟩) (hS := by assumption) (h := ?r75); case y75 => (intro w hSw; clear hSw; go_simp; try with_reducible rfl))
          case' r75 => skip
          try simp only [List.getElem_toArray, List.getElem_cons_succ, List.getElem_cons_zero, Act.put, List.setIfInBounds_toArray, List.set_cons_zero, List.set_cons_succ]
          first | refine Mem.tkY 10 undef (hy := Or.inr ⟨by rfl, rfl⟩) (hS := by assumption) (h := ?r76) | (refine Mem.tkY 10 ?v76 (hy := Or.inl ⟨by rfl, ?y76⟩) (hS := by assumption) (h := ?r76); case y76 => (intro w hSw; clear hSw; go_simp; try with_reducible rfl))
          case' r76 => skip
          try simp only [List.getElem_toArray, List.getElem_cons_succ, List.getElem_cons_zero, Act.put, List.setIfInBounds_toArray, List.set_cons_zero, List.set_cons_succ]
          first | refine Mem.tkY 11 undef (hy := Or.inr ⟨by rfl, rfl⟩) (hS := by assumption) (h := ?r77) | (refine Mem.tkY 11 ?v77 (hy := Or.inl ⟨by rfl, ?y77⟩) (hS := by assumption) (h := ?r77); case y77 => (intro w hSw; clear hSw; go_simp; try with_reducible rfl))
          case' r77 => skip
          try simp only [List.getElem_toArray, List.getElem_cons_succ, List.getElem_cons_zero, Act.put, List.setIfInBounds_toArray, List.set_cons_zero, List.set_cons_succ]
          first | refine Mem.tkY 12 undef (hy := Or.inr ⟨by rfl, rfl⟩) (hS := by assumption) (h := ?r78) | (refine Mem.tkY 12 ?v78 (hy := Or.inl ⟨by rfl, ?y78⟩) (hS := by assumption) (h := ?r78); case y78 => (intro w hSw; clear hSw; go_simp; try with_reducible rfl))
          case' r78 => skip
          try simp only [List.getElem_toArray, List.getElem_cons_succ, List.getElem_cons_zero, Act.put, List.setIfInBounds_toArray, List.set_cons_zero, List.set_cons_succ]
          first | refine Mem.tkY 13 undef (hy := Or.inr ⟨by rfl, rfl⟩) (hS := by assumption) (h := ?r79) | (refine Mem.tkY 13 ?v79 (hy := Or.inl ⟨by rfl, ?y79⟩) (hS := by assumption) (h := ?r79); case y79 => (intro w hSw; clear hSw; go_simp; try with_reducible rfl))
          case' r79 => skip
          try simp only [List.getElem_toArray, List.getElem_cons_succ, List.getElem_cons_zero, Act.put, List.setIfInBounds_toArray, List.set_cons_zero, List.set_cons_succ]
          first | refine Mem.tkY 14 undef (hy := Or.inr ⟨by rfl, rfl⟩) (hS := by assumption) (h := ?r80) | (refine Mem.tkY 14 ?v80 (hy := Or.inl ⟨by rfl, ?y80⟩) (hS := by assumption) (h := ?r80); case y80 => (intro w hSw; obtain ⟨hT0, hT1, hT2, hT3, hT4⟩ := hCl.out w hSw; clear hSw; go_simp; try with_reducible rfl))
          case' r80 => skip
          try simp only [List.getElem_toArray, List.getElem_cons_succ, List.getElem_cons_zero, Act.put, List.setIfInBounds_toArray, List.set_cons_zero, List.set_cons_succ]
          first | refine Mem.tkY 15 undef (hy := Or.inr ⟨by rfl, rfl⟩) (hS := by assumption) (h := ?r81) | (refine Mem.tkY 15 ?v81 (hy := Or.inl ⟨by rfl, ?y81⟩) (hS := by assumption) (h := ?r81); case y81 => (intro w hSw; clear hSw; go_simp; try with_reducible rfl))
          case' r81 => skip
          try simp only [List.getElem_toArray, List.getElem_cons_succ, List.getElem_cons_zero, Act.put, List.setIfInBounds_toArray, List.set_cons_zero, List.set_cons_succ]
          first | refine Mem.tkY 16 undef (hy := Or.inr ⟨by rfl, rfl⟩) (hS := by assumption) (h := ?r82) | (refine Mem.tkY 16 ?v82 (hy := Or.inl ⟨by rfl, ?y82⟩) (hS := by assumption) (h := ?r82); case y82 => (intro w hSw; clear hSw; go_simp; try with_reducible rfl))
          case' r82 => skip
          try simp only [List.getElem_toArray, List.getElem_cons_succ, List.getElem_cons_zero, Act.put, List.setIfInBounds_toArray, List.set_cons_zero, List.set_cons_succ]
          first | refine Mem.tkY 17 undef (hy := Or.inr ⟨by rfl, rfl⟩) (hS := by assumption) (h := ?r83) | (refine Mem.tkY 17 ?v83 (hy := Or.inl ⟨by rfl, ?y83⟩) (hS := by assumption) (h := ?r83); case y83 => (intro w hSw; clear hSw; go_simp; try with_reducible rfl))
          case' r83 => skip
          try simp only [List.getElem_toArray, List.getElem_cons_succ, List.getElem_cons_zero, Act.put, List.setIfInBounds_toArray, List.set_cons_zero, List.set_cons_succ]
          first | refine Mem.tkY 18 undef (hy := Or.inr ⟨by rfl, rfl⟩) (hS := by assumption) (h := ?r84) | (refine Mem.tkY 18 ?v84 (hy := Or.inl ⟨by rfl, ?y84⟩) (hS := by assumption) (h := ?r84); case y84 => (intro w hSw; clear hSw; go_simp; try with_reducible rfl))
          case' r84 => skip
          try simp only [List.getElem_toArray, List.getElem_cons_succ, List.getElem_cons_zero, Act.put, List.setIfInBounds_toArray, List.set_cons_zero, List.set_cons_succ]
          first | refine Mem.tkY 19 undef (hy := Or.inr ⟨by rfl, rfl⟩) (hS := by assumption) (h := ?r85) | (refine Mem.tkY 19 ?v85 (hy := Or.inl ⟨by rfl, ?y85⟩) (hS := by assumption) (h := ?r85); case y85 => (intro w hSw; clear hSw; go_simp; try with_reducible rfl))
          case' r85 => skip
          try simp only [List.getElem_toArray, List.getElem_cons_succ, List.getElem_cons_zero, Act.put, List.setIfInBounds_toArray, List.set_cons_zero, List.set_cons_succ]
          first | refine Mem.tkY 20 undef (hy := Or.inr ⟨by rfl, rfl⟩) (hS := by assumption) (h := ?r86) | (refine Mem.tkY 20 ?v86 (hy := Or.inl ⟨by rfl, ?y86⟩) (hS := by assumption) (h := ?r86); case y86 => (intro w hSw; obtain ⟨hT0, hT1, hT2, hT3, hT4⟩ := hCl.out w hSw; clear hSw; go_simp; try with_reducible rfl))
          case' r86 => skip
          try simp only [List.getElem_toArray, List.getElem_cons_succ, List.getElem_cons_zero, Act.put, List.setIfInBounds_toArray, List.set_cons_zero, List.set_cons_succ]
          first | refine Mem.tkY 21 undef (hy := Or.inr ⟨by rfl, rfl⟩) (hS := by assumption) (h := ?r87) | (refine Mem.tkY 21 ?v87 (hy := Or.inl ⟨by rfl, ?y87⟩) (hS := by assumption) (h := ?r87); case y87 => (intro w hSw; clear hSw; go_simp; try with_reducible rfl))
          case' r87 => skip
          try simp only [List.getElem_toArray, List.getElem_cons_succ, List.getElem_cons_zero, Act.put, List.setIfInBounds_toArray, List.set_cons_zero, List.set_cons_succ]
          first | refine Mem.tkY 22 undef (hy := Or.inr ⟨by rfl, rfl⟩) (hS := by assumption) (h := ?r88) | (refine Mem.tkY 22 ?v88 (hy := Or.inl ⟨by rfl, ?y88⟩) (hS := by assumption) (h := ?r88); case y88 => (intro w hSw; clear hSw; go_simp; try with_reducible rfl))
          case' r88 => skip
          refine Mem.tkY 23 ?v89 (hy := Or.inl ⟨by rfl, ?y89⟩) (hS := by assumption) (h := ?r89)
          case y89 => (intro w hSw; clear hSw; go_simp; try with_reducible rfl)
          case' r89 => skip
          refine Mem.tkY 24 ?v90 (hy := Or.inl ⟨by rfl, ?y90⟩) (hS := by assumption) (h := ?r90)
          case y90 => (intro w hSw; clear hSw; go_simp; try with_reducible rfl)
          case' r90 => skip
          try simp only [List.getElem_toArray, List.getElem_cons_succ, List.getElem_cons_zero, Act.put, List.setIfInBounds_toArray, List.set_cons_zero, List.set_cons_succ]
          first | refine Mem.tkY 25 undef (hy := Or.inr ⟨by rfl, rfl⟩) (hS := by assumption) (h := ?r91) | (refine Mem.tkY 25 ?v91 (hy := Or.inl ⟨by rfl, ?y91⟩) (hS := by assumption) (h := ?r91); case y91 => (intro w hSw; clear hSw; go_simp; try with_reducible rfl))
          case' r91 => skip
          try simp only [List.getElem_toArray, List.getElem_cons_succ, List.getElem_cons_zero, Act.put, List.setIfInBounds_toArray, List.set_cons_zero, List.set_cons_succ]
          first | refine Mem.tkY 26 undef (hy := Or.inr ⟨by rfl, rfl⟩) (hS := by assumption) (h := ?r92) | (refine Mem.tkY 26 ?v92 (hy := Or.inl ⟨by rfl, ?y92⟩) (hS := by assumption) (h := ?r92); case y92 => (intro w hSw; clear hSw; go_simp; try with_reducible rfl))
          case' r92 => skip
          try simp only [List.getElem_toArray, List.getElem_cons_succ, List.getElem_cons_zero, Act.put, List.setIfInBounds_toArray, List.set_cons_zero, List.set_cons_succ]
          first | refine Mem.tkY 27 undef (hy := Or.inr ⟨by rfl, rfl⟩) (hS := by assumption) (h := ?r93) | (refine Mem.tkY 27 ?v93 (hy := Or.inl ⟨by rfl, ?y93⟩) (hS := by assumption) (h := ?r93); case y93 => (intro w hSw; clear hSw; go_simp; try with_reducible rfl))
          case' r93 => skip
          try simp only [List.getElem_toArray, List.getElem_cons_succ, List.getElem_cons_zero, Act.put, List.setIfInBounds_toArray, List.set_cons_zero, List.set_cons_succ]
          first | refine Mem.tkY 28 undef (hy := Or.inr ⟨by rfl, rfl⟩) (hS := by assumption) (h := ?r94) | (refine Mem.tkY 28 ?v94 (hy := Or.inl ⟨by rfl, ?y94⟩) (hS := by assumption) (h := ?r94); case y94 => (intro w hSw; clear hSw; go_simp; try with_reducible rfl))
          case' r94 => skip
          try simp only [List.getElem_toArray, List.getElem_cons_succ, List.getElem_cons_zero, Act.put, List.setIfInBounds_toArray, List.set_cons_zero, List.set_cons_succ]
          first | refine Mem.tkY 29 undef (hy := Or.inr ⟨by rfl, rfl⟩) (hS := by assumption) (h := ?r95) | (refine Mem.tkY 29 ?v95 (hy := Or.inl ⟨by rfl, ?y95⟩) (hS := by assumption) (h := ?r95); case y95 => (intro w hSw; obtain ⟨hT0, hT1, hT2, hT3, hT4⟩ := hCl.out w hSw; clear hSw; go_simp; try with_reducible rfl))
          case' r95 => skip
          try simp only [List.getElem_toArray, List.getElem_cons_succ, List.getElem_cons_zero, Act.put, List.setIfInBounds_toArray, List.set_cons_zero, List.set_cons_succ]
          first | refine Mem.tkY 30 undef (hy := Or.inr ⟨by rfl, rfl⟩) (hS := by assumption) (h := ?r96) | (refine Mem.tkY 30 ?v96 (hy := Or.inl ⟨by rfl, ?y96⟩) (hS := by assumption) (h := ?r96); case y96 => (intro w hSw; clear hSw; go_simp; try with_reducible rfl))
          case' r96 => skip
          refine Mem.tkY 31 ?v97 (hy := Or.inl ⟨by rfl, ?y97⟩) (hS := by assumption) (h := ?r97)
          case y97 => (intro w hSw; clear hSw; go_simp; try with_reducible rfl)
          case' r97 => skip
          refine Mem.tkY 32 ?v98 (hy := Or.inl ⟨by rfl, ?y98⟩) (hS := by assumption) (h := ?r98)
          case y98 => (intro w hSw; clear hSw; go_simp; try with_reducible rfl)
          case' r98 => skip
          try simp only [List.getElem_toArray, List.getElem_cons_succ, List.getElem_cons_zero, Act.put, List.setIfInBounds_toArray, List.set_cons_zero, List.set_cons_succ]
          first | refine Mem.tkY 33 undef (hy := Or.inr ⟨by rfl, rfl⟩) (hS := by assumption) (h := ?r99) | (refine Mem.tkY 33 ?v99 (hy := Or.inl ⟨by rfl, ?y99⟩) (hS := by assumption) (h := ?r99); case y99 => (intro w hSw; clear hSw; go_simp; try with_reducible rfl))
          case' r99 => skip
          try simp only [List.getElem_toArray, List.getElem_cons_succ, List.getElem_cons_zero, Act.put, List.setIfInBounds_toArray, List.set_cons_zero, List.set_cons_succ]
          first | refine Mem.tkY 34 undef (hy := Or.inr ⟨by rfl, rfl⟩) (hS := by assumption) (h := ?r100) | (refine Mem.tkY 34 ?v100 (hy := Or.inl ⟨by rfl, ?y100⟩) (hS := by assumption) (h := ?r100); case y100 => (intro w hSw; clear hSw; go_simp; try with_reducible rfl))
          case' r100 => skip
          try simp only [List.getElem_toArray, List.getElem_cons_succ, List.getElem_cons_zero, Act.put, List.setIfInBounds_toArray, List.set_cons_zero, List.set_cons_succ]
          first | refine Mem.tkY 35 undef (hy := Or.inr ⟨by rfl, rfl⟩) (hS := by assumption) (h := ?r101) | (refine Mem.tkY 35 ?v101 (hy := Or.inl ⟨by rfl, ?y101⟩) (hS := by assumption) (h := ?r101); case y101 => (intro w hSw; clear hSw; go_simp; try with_reducible rfl))
          case' r101 => skip
          try simp only [List.getElem_toArray, List.getElem_cons_succ, List.getElem_cons_zero, Act.put, List.setIfInBounds_toArray, List.set_cons_zero, List.set_cons_succ]
          first | refine Mem.tkY 36 undef (hy := Or.inr ⟨by rfl, rfl⟩) (hS := by assumption) (h := ?r102) | (refine Mem.tkY 36 ?v102 (hy := Or.inl ⟨by rfl, ?y102⟩) (hS := by assumption) (h := ?r102); case y102 => (intro w hSw; clear hSw; go_simp; try with_reducible rfl))
          case' r102 => skip
          try simp only [List.getElem_toArray, List.getElem_cons_succ, List.getElem_cons_zero, Act.put, List.setIfInBounds_toArray, List.set_cons_zero, List.set_cons_succ]
          first | refine Mem.tkY 37 undef (hy := Or.inr ⟨by rfl, rfl⟩) (hS := by assumption) (h := ?r103) | (refine Mem.tkY 37 ?v103 (hy := Or.inl ⟨by rfl, ?y103⟩) (hS := by assumption) (h := ?r103); case y103 => (intro w hSw; obtain ⟨hT0, hT1, hT2, hT3, hT4⟩ := hCl.out w hSw; clear hSw; go_simp; try with_reducible rfl))
          case' r103 => skip
          try simp only [List.getElem_toArray, List.getElem_cons_succ, List.getElem_cons_zero, Act.put, List.setIfInBounds_toArray, List.set_cons_zero, List.set_cons_succ]
          first | refine Mem.tkY 38 undef (hy := Or.inr ⟨by rfl, rfl⟩) (hS := by assumption) (h := ?r104) | (refine Mem.tkY 38 ?v104 (hy := Or.inl ⟨by rfl, ?y104⟩) (hS := by assumption) (h := ?r104); case y104 => (intro w hSw; clear hSw; go_simp; try with_reducible rfl))
          case' r104 => skip
          try simp only [List.getElem_toArray, List.getElem_cons_succ, List.getElem_cons_zero, Act.put, List.setIfInBounds_toArray, List.set_cons_zero, List.set_cons_succ]
          first | refine Mem.tkY 39 undef (hy := Or.inr ⟨by rfl, rfl⟩) (hS := by assumption) (h := ?r105) | (refine Mem.tkY 39 ?v105 (hy := Or.inl ⟨by rfl, ?y105⟩) (hS := by assumption) (h := ?r105); case y105 => (intro w hSw; clear hSw; go_simp; try with_reducible rfl))
          case' r105 => skip
          refine Mem.tkY 40 ?v106 (hy := Or.inl ⟨by rfl, ?y106⟩) (hS := by assumption) (h := ?r106)
          case y106 => (intro w hSw; clear hSw; go_simp; try with_reducible rfl)
          case' r106 => skip
          refine Mem.tkY 41 ?v107 (hy := Or.inl ⟨by rfl, ?y107⟩) (hS := by assumption) (h := ?r107)
          case y107 => (intro w hSw; clear hSw; go_simp; try with_reducible rfl)
          case' r107 => skip
          try simp only [List.getElem_toArray, List.getElem_cons_succ, List.getElem_cons_zero, Act.put, List.setIfInBounds_toArray, List.set_cons_zero, List.set_cons_succ]
          first | refine Mem.tkY 42 undef (hy := Or.inr ⟨by rfl, rfl⟩) (hS := by assumption) (h := ?r108) | (refine Mem.tkY 42 ?v108 (hy := Or.inl ⟨by rfl, ?y108⟩) (hS := by assumption) (h := ?r108); case y108 => (intro w hSw; clear hSw; go_simp; try with_reducible rfl))
          case' r108 => skip
          try simp only [List.getElem_toArray, List.getElem_cons_succ, List.getElem_cons_zero, Act.put, List.setIfInBounds_toArray, List.set_cons_zero, List.set_cons_succ]
          first | refine Mem.tkY 43 undef (hy := Or.inr ⟨by rfl, rfl⟩) (hS := by assumption) (h := ?r109) | (refine Mem.tkY 43 ?v109 (hy := Or.inl ⟨by rfl, ?y109⟩) (hS := by assumption) (h := ?r109); case y109 => (intro w hSw; clear hSw; go_simp; try with_reducible rfl))
          case' r109 => skip
          try simp only [List.getElem_toArray, List.getElem_cons_succ, List.getElem_cons_zero, Act.put, List.setIfInBounds_toArray, List.set_cons_zero, List.set_cons_succ]
          first | refine Mem.tkY 44 undef (hy := Or.inr ⟨by rfl, rfl⟩) (hS := by assumption) (h := ?r110) | (refine Mem.tkY 44 ?v110 (hy := Or.inl ⟨by rfl, ?y110⟩) (hS := by assumption) (h := ?r110); case y110 => (intro w hSw; clear hSw; go_simp; try with_reducible rfl))
          case' r110 => skip
          try simp only [List.getElem_toArray, List.getElem_cons_succ, List.getElem_cons_zero, Act.put, List.setIfInBounds_toArray, List.set_cons_zero, List.set_cons_succ]
          first | refine Mem.tkY 45 undef (hy := Or.inr ⟨by rfl, rfl⟩) (hS := by assumption) (h := ?r111) | (refine Mem.tkY 45 ?v111 (hy := Or.inl ⟨by rfl, ?y111⟩) (hS := by assumption) (h := ?r111); case y111 => (intro w hSw; clear hSw; go_simp; try with_reducible rfl))
          case' r111 => skip
          try simp only [List.getElem_toArray, List.getElem_cons_succ, List.getElem_cons_zero, Act.put, List.setIfInBounds_toArray, List.set_cons_zero, List.set_cons_succ]
          first | refine Mem.tkY 46 undef (hy := Or.inr ⟨by rfl, rfl⟩) (hS := by assumption) (h := ?r112) | (refine Mem.tkY 46 ?v112 (hy := Or.inl ⟨by rfl, ?y112⟩) (hS := by assumption) (h := ?r112); case y112 => (intro w hSw; obtain ⟨hT0, hT1, hT2, hT3, hT4⟩ := hCl.out w hSw; clear hSw; go_simp; try with_reducible rfl))
          case' r112 => skip
          try simp only [List.getElem_toArray, List.getElem_cons_succ, List.getElem_cons_zero, Act.put, List.setIfInBounds_toArray, List.set_cons_zero, List.set_cons_succ]
          first | refine Mem.tkY 47 undef (hy := Or.inr ⟨by rfl, rfl⟩) (hS := by assumption) (h := ?r113) | (refine Mem.tkY 47 ?v113 (hy := Or.inl ⟨by rfl, ?y113⟩) (hS := by assumption) (h := ?r113); case y113 => (intro w hSw; clear hSw; go_simp; try with_reducible rfl))
          case' r113 => skip
          try simp only [List.getElem_toArray, List.getElem_cons_succ, List.getElem_cons_zero, Act.put, List.setIfInBounds_toArray, List.set_cons_zero, List.set_cons_succ]
          first | refine Mem.tkY 48 undef (hy := Or.inr ⟨by rfl, rfl⟩) (hS := by assumption) (h := ?r114) | (refine Mem.tkY 48 ?v114 (hy := Or.inl ⟨by rfl, ?y114⟩) (hS := by assumption) (h := ?r114); case y114 => (intro w hSw; clear hSw; go_simp; try with_reducible rfl))
          case' r114 => skip
          try simp only [List.getElem_toArray, List.getElem_cons_succ, List.getElem_cons_zero, Act.put, List.setIfInBounds_toArray, List.set_cons_zero, List.set_cons_succ]
          first | refine Mem.tkY 49 undef (hy := Or.inr ⟨by rfl, rfl⟩) (hS := by assumption) (h := ?r115) | (refine Mem.tkY 49 ?v115 (hy := Or.inl ⟨by rfl, ?y115⟩) (hS := by assumption) (h := ?r115); case y115 => (intro w hSw; clear hSw; go_simp; try with_reducible rfl))
          case' r115 => skip
          try simp only [List.getElem_toArray, List.getElem_cons_succ, List.getElem_cons_zero, Act.put, List.setIfInBounds_toArray, List.set_cons_zero, List.set_cons_succ]
          first | refine Mem.tkY 50 undef (hy := Or.inr ⟨by rfl, rfl⟩) (hS := by assumption) (h := ?r116) | (refine Mem.tkY 50 ?v116 (hy := Or.inl ⟨by rfl, ?y116⟩) (hS := by assumption) (h := ?r116); case y116 => (intro w hSw; clear hSw; go_simp; try with_reducible rfl))
          case' r116 => skip
          try simp only [List.getElem_toArray, List.getElem_cons_succ, List.getElem_cons_zero, Act.put, List.setIfInBounds_toArray, List.set_cons_zero, List.set_cons_succ]
          first | refine Mem.tkY 51 undef (hy := Or.inr ⟨by rfl, rfl⟩) (hS := by assumption) (h := ?r117) | (refine Mem.tkY 51 ?v117 (hy := Or.inl ⟨by rfl, ?y117⟩) (hS := by assumption) (h := ?r117); case y117 => (intro w hSw; obtain ⟨hT0, hT1, hT2, hT3, hT4⟩ := hCl.out w hSw; clear hSw; go_simp; try with_reducible rfl))
          case' r117 => skip
          try simp only [List.getElem_toArray, List.getElem_cons_succ, List.getElem_cons_zero, Act.put, List.setIfInBounds_toArray, List.set_cons_zero, List.set_cons_succ]
          first | refine Mem.tkY 52 undef (hy := Or.inr ⟨by rfl, rfl⟩) (hS := by assumption) (h := ?r118) | (refine Mem.tkY 52 ?v118 (hy := Or.inl ⟨by rfl, ?y118⟩) (hS := by assumption) (h := ?r118); case y118 => (intro w hSw; clear hSw; go_simp; try with_reducible rfl))
          case' r118 => skip
          try simp only [List.getElem_toArray, List.getElem_cons_succ, List.getElem_cons_zero, Act.put, List.setIfInBounds_toArray, List.set_cons_zero, List.set_cons_succ]
          first | refine Mem.tkY 53 undef (hy := Or.inr ⟨by rfl, rfl⟩) (hS := by assumption) (h := ?r119) | (refine Mem.tkY 53 ?v119 (hy := Or.inl ⟨by rfl, ?y119⟩) (hS := by assumption) (h := ?r119); case y119 => (intro w hSw; clear hSw; go_simp; try with_reducible rfl))
          case' r119 => skip
          refine Mem.tkY 54 ?v120 (hy := Or.inl ⟨by rfl, ?y120⟩) (hS := by assumption) (h := ?r120)
          case y120 => (intro w hSw; clear hSw; go_simp; try with_reducible rfl)
          case' r120 => skip
          try simp only [List.getElem_toArray, List.getElem_cons_succ, List.getElem_cons_zero, Act.put, List.setIfInBounds_toArray, List.set_cons_zero, List.set_cons_succ]
          refine wpAnyH_done (by kernel_rfl) ?_ _
          clear hCl
          go_wp2_with fail
          go_ret
          exact ⟨ret_bool HV.out.symm, hbr.trans (((Below.refl _ _).drew.trans hHeld).mono hbr.size)⟩
        have d2 : decide (x.blk < 0) = false := decide_eq_false h2
        cases h5 : rightN x.pa x.pd.length with
        | false =>
          rw [mayF_p h5] at hv
          have HV := Lib.hid hv
          have CC := Lib.hid (fun w' => right_any x.pa A1 x.pd.length c1 w' hp1)
          rw [h5] at CC
          clear hv h5 h2
          go_wp2_with fail
          refine wp_region_held_drew (S := Go.RowKit.Below ((wr.drew).heap.size) (wr.drew)) (by kernel_rfl) ?hb126 (fun hHeld => ?rest126)
          case hb126 =>
            exact Go.RowKit.Below.refl _ _
          case' rest126 => skip
          have hCl := fun (wS : World) (hSw : Go.RowKit.Below ((wr.drew).heap.size) (wr.drew) wS) => And.intro (Mem.bl_cell hSw e0 (by first | omega | (dsimp only; omega) | exact World.block_lt_of_cell? _ _ e0 | (simp <;> omega))) <| And.intro (Mem.bl_cell hSw e1 (by first | omega | (dsimp only; omega) | exact World.block_lt_of_cell? _ _ e1 | (simp <;> omega))) <| And.intro (Mem.bl_cell hSw e2 (by first | omega | (dsimp only; omega) | exact World.block_lt_of_cell? _ _ e2 | (simp <;> omega))) <| And.intro (Mem.bl_cell hSw e3 (by first | omega | (dsimp only; omega) | exact World.block_lt_of_cell? _ _ e3 | (simp <;> omega))) <| Mem.bl_cell hSw e4 (by first | omega | (dsimp only; omega) | exact World.block_lt_of_cell? _ _ e4 | (simp <;> omega))
          replace hCl := Go.Lib.hid hCl
          refine Mem.tkY 0 ?v127 (hy := Or.inl ⟨by rfl, ?y127⟩) (hS := by assumption) (h := ?r127)
          case y127 => (intro w hSw; clear hSw; go_simp; try with_reducible rfl)
          case' r127 => skip
          refine Mem.tkY 1 ?v128 (hy := Or.inl ⟨by rfl, ?y128⟩) (hS := by assumption) (h := ?r128)
          case y128 => (intro w hSw; clear hSw; go_simp; try with_reducible rfl)
          case' r128 => skip
          refine Mem.tkY 2 ?v129 (hy := Or.inl ⟨by rfl, ?y129⟩) (hS := by assumption) (h := ?r129)
          case y129 => (intro w hSw; clear hSw; go_simp; try with_reducible rfl)
          case' r129 => skip
          try simp only [List.getElem_toArray, List.getElem_cons_succ, List.getElem_cons_zero, Act.put, List.setIfInBounds_toArray, List.set_cons_zero, List.set_cons_succ]
          refine Mem.tkY 3 ?v130 (hy := Or.inl ⟨by rfl, ?y130⟩) (hS := by assumption) (h := ?r130)
          case y130 => (intro w hSw; clear hSw; go_simp; try with_reducible rfl)
          case' r130 => skip
          refine Mem.tkY 4 ?v131 (hy := Or.inl ⟨by rfl, ?y131⟩) (hS := by assumption) (h := ?r131)
          case y131 => (intro w hSw; obtain ⟨hT0, hT1, hT2, hT3, hT4⟩ := hCl.out w hSw; clear hSw; go_simp; try with_reducible rfl)
          case' r131 => skip
          refine Mem.tkY 5 ?v132 (hy := Or.inl ⟨by rfl, ?y132⟩) (hS := by assumption) (h := ?r132)
          case y132 => (intro w hSw; clear hSw; go_simp; try with_reducible rfl)
          case' r132 => skip
          try simp only [List.getElem_toArray, List.getElem_cons_succ, List.getElem_cons_zero, Act.put, List.setIfInBounds_toArray, List.set_cons_zero, List.set_cons_succ]
          refine Mem.tkY 6 ?v133 (hy := Or.inl ⟨by rfl, ?y133⟩) (hS := by assumption) (h := ?r133)
          case y133 => (intro w hSw; clear hSw; go_simp; try with_reducible rfl)
          case' r133 => skip
          try simp only [List.getElem_toArray, List.getElem_cons_succ, List.getElem_cons_zero, Act.put, List.setIfInBounds_toArray, List.set_cons_zero, List.set_cons_succ]
          first | refine Mem.tkY 7 undef (hy := Or.inr ⟨by rfl, rfl⟩) (hS := by assumption) (h := ?r134) | (refine Mem.tkY 7 ?v134 (hy := Or.inl ⟨by rfl, ?y134⟩) (hS := by assumption) (h := ?r134); case y134 => (intro w hSw; clear hSw; go_simp; try with_reducible rfl))
          case' r134 => skip
          try simp only [List.getElem_toArray, List.getElem_cons_succ, List.getElem_cons_zero, Act.put, List.setIfInBounds_toArray, List.set_cons_zero, List.set_cons_succ]
          first | refine Mem.tkY 8 undef (hy := Or.inr ⟨by rfl, rfl⟩) (hS := by assumption) (h := ?r135) | (refine Mem.tkY 8 ?v135 (hy := Or.inl ⟨by rfl, ?y135⟩) (hS := by assumption) (h := ?r135); case y135 => (intro w hSw; clear hSw; go_simp; try with_reducible rfl))
          case' r135 => skip
          try simp only [List.getElem_toArray, List.getElem_cons_succ, List.getElem_cons_zero, Act.put, List.setIfInBounds_toArray, List.set_cons_zero, List.set_cons_succ]
          first | refine Mem.tkY 9 undef (hy := Or.inr ⟨by rfl, rfl⟩) (hS := by assumption) (h := ?r136) | (refine Mem.tkY 9 ?v136 (hy := Or.inl ⟨by rfl, ?y136⟩) (hS := by assumption) (h := ?r136); case y136 => (intro w hSw; clear hSw; go_simp; try with_reducible rfl))
          case' r136 => skip
          try simp only [List.getElem_toArray, List.getElem_cons_succ, List.getElem_cons_zero, Act.put, List.setIfInBounds_toArray, List.set_cons_zero, List.set_cons_succ]
          first | refine Mem.tkY 10 undef (hy := Or.inr ⟨by rfl, rfl⟩) (hS := by assumption) (h := ?r137) | (refine Mem.tkY 10 ?v137 (hy := Or.inl ⟨by rfl, ?y137⟩) (hS := by assumption) (h := ?r137); case y137 => (intro w hSw; clear hSw; go_simp; try with_reducible rfl))
          case' r137 => skip
          try simp only [List.getElem_toArray, List.getElem_cons_succ, List.getElem_cons_zero, Act.put, List.setIfInBounds_toArray, List.set_cons_zero, List.set_cons_succ]
          first | refine Mem.tkY 11 undef (hy := Or.inr ⟨by rfl, rfl⟩) (hS := by assumption) (h := ?r138) | (refine Mem.tkY 11 ?v138 (hy := Or.inl ⟨by rfl, ?y138⟩) (hS := by assumption) (h := ?r138); case y138 => (intro w hSw; clear hSw; go_simp; try with_reducible rfl))
          case' r138 => skip
          try simp only [List.getElem_toArray, List.getElem_cons_succ, List.getElem_cons_zero, Act.put, List.setIfInBounds_toArray, List.set_cons_zero, List.set_cons_succ]
          first | refine Mem.tkY 12 undef (hy := Or.inr ⟨by rfl, rfl⟩) (hS := by assumption) (h := ?r139) | (refine Mem.tkY 12 ?v139 (hy := Or.inl ⟨by rfl, ?y139⟩) (hS := by assumption) (h := ?r139); case y139 => (intro w hSw; clear hSw; go_simp; try with_reducible rfl))
          case' r139 => skip
          try simp only [List.getElem_toArray, List.getElem_cons_succ, List.getElem_cons_zero, Act.put, List.setIfInBounds_toArray, List.set_cons_zero, List.set_cons_succ]
          first | refine Mem.tkY 13 undef (hy := Or.inr ⟨by rfl, rfl⟩) (hS := by assumption) (h := ?r140) | (refine Mem.tkY 13 ?v140 (hy := Or.inl ⟨by rfl, ?y140⟩) (hS := by assumption) (h := ?r140); case y140 => (intro w hSw; clear hSw; go_simp; try with_reducible rfl))
          case' r140 => skip
          try simp only [List.getElem_toArray, List.getElem_cons_succ, List.getElem_cons_zero, Act.put, List.setIfInBounds_toArray, List.set_cons_zero, List.set_cons_succ]
          first | refine Mem.tkY 14 undef (hy := Or.inr ⟨by rfl, rfl⟩) (hS := by assumption) (h := ?r141) | (refine Mem.tkY 14 ?v141 (hy := Or.inl ⟨by rfl, ?y141⟩) (hS := by assumption) (h := ?r141); case y141 => (intro w hSw; obtain ⟨hT0, hT1, hT2, hT3, hT4⟩ := hCl.out w hSw; clear hSw; go_simp; try with_reducible rfl))
          case' r141 => skip
          try simp only [List.getElem_toArray, List.getElem_cons_succ, List.getElem_cons_zero, Act.put, List.setIfInBounds_toArray, List.set_cons_zero, List.set_cons_succ]
          first | refine Mem.tkY 15 undef (hy := Or.inr ⟨by rfl, rfl⟩) (hS := by assumption) (h := ?r142) | (refine Mem.tkY 15 ?v142 (hy := Or.inl ⟨by rfl, ?y142⟩) (hS := by assumption) (h := ?r142); case y142 => (intro w hSw; clear hSw; go_simp; try with_reducible rfl))
          case' r142 => skip
          try simp only [List.getElem_toArray, List.getElem_cons_succ, List.getElem_cons_zero, Act.put, List.setIfInBounds_toArray, List.set_cons_zero, List.set_cons_succ]
          first | refine Mem.tkY 16 undef (hy := Or.inr ⟨by rfl, rfl⟩) (hS := by assumption) (h := ?r143) | (refine Mem.tkY 16 ?v143 (hy := Or.inl ⟨by rfl, ?y143⟩) (hS := by assumption) (h := ?r143); case y143 => (intro w hSw; clear hSw; go_simp; try with_reducible rfl))
          case' r143 => skip
          try simp only [List.getElem_toArray, List.getElem_cons_succ, List.getElem_cons_zero, Act.put, List.setIfInBounds_toArray, List.set_cons_zero, List.set_cons_succ]
          first | refine Mem.tkY 17 undef (hy := Or.inr ⟨by rfl, rfl⟩) (hS := by assumption) (h := ?r144) | (refine Mem.tkY 17 ?v144 (hy := Or.inl ⟨by rfl, ?y144⟩) (hS := by assumption) (h := ?r144); case y144 => (intro w hSw; clear hSw; go_simp; try with_reducible rfl))
          case' r144 => skip
          try simp only [List.getElem_toArray, List.getElem_cons_succ, List.getElem_cons_zero, Act.put, List.setIfInBounds_toArray, List.set_cons_zero, List.set_cons_succ]
          first | refine Mem.tkY 18 undef (hy := Or.inr ⟨by rfl, rfl⟩) (hS := by assumption) (h := ?r145) | (refine Mem.tkY 18 ?v145 (hy := Or.inl ⟨by rfl, ?y145⟩) (hS := by assumption) (h := ?r145); case y145 => (intro w hSw; clear hSw; go_simp; try with_reducible rfl))
          case' r145 => skip
          try simp only [List.getElem_toArray, List.getElem_cons_succ, List.getElem_cons_zero, Act.put, List.setIfInBounds_toArray, List.set_cons_zero, List.set_cons_succ]
          first | refine Mem.tkY 19 undef (hy := Or.inr ⟨by rfl, rfl⟩) (hS := by assumption) (h := ?r146) | (refine Mem.tkY 19 ?v146 (hy := Or.inl ⟨by rfl, ?y146⟩) (hS := by assumption) (h := ?r146); case y146 => (intro w hSw; clear hSw; go_simp; try with_reducible rfl))
          case' r146 => skip
          try simp only [List.getElem_toArray, List.getElem_cons_succ, List.getElem_cons_zero, Act.put, List.setIfInBounds_toArray, List.set_cons_zero, List.set_cons_succ]
          first | refine Mem.tkY 20 undef (hy := Or.inr ⟨by rfl, rfl⟩) (hS := by assumption) (h := ?r147) | (refine Mem.tkY 20 ?v147 (hy := Or.inl ⟨by rfl, ?y147⟩) (hS := by assumption) (h := ?r147); case y147 => (intro w hSw; obtain ⟨hT0, hT1, hT2, hT3, hT4⟩ := hCl.out w hSw; clear hSw; go_simp; try with_reducible rfl))
          case' r147 => skip
          try simp only [List.getElem_toArray, List.getElem_cons_succ, List.getElem_cons_zero, Act.put, List.setIfInBounds_toArray, List.set_cons_zero, List.set_cons_succ]
          first | refine Mem.tkY 21 undef (hy := Or.inr ⟨by rfl, rfl⟩) (hS := by assumption) (h := ?r148) | (refine Mem.tkY 21 ?v148 (hy := Or.inl ⟨by rfl, ?y148⟩) (hS := by assumption) (h := ?r148); case y148 => (intro w hSw; clear hSw; go_simp; try with_reducible rfl))
          case' r148 => skip
          try simp only [List.getElem_toArray, List.getElem_cons_succ, List.getElem_cons_zero, Act.put, List.setIfInBounds_toArray, List.set_cons_zero, List.set_cons_succ]
          first | refine Mem.tkY 22 undef (hy := Or.inr ⟨by rfl, rfl⟩) (hS := by assumption) (h := ?r149) | (refine Mem.tkY 22 ?v149 (hy := Or.inl ⟨by rfl, ?y149⟩) (hS := by assumption) (h := ?r149); case y149 => (intro w hSw; clear hSw; go_simp; try with_reducible rfl))
          case' r149 => skip
          refine Mem.tkY 23 ?v150 (hy := Or.inl ⟨by rfl, ?y150⟩) (hS := by assumption) (h := ?r150)
          case y150 => (intro w hSw; clear hSw; go_simp; try with_reducible rfl)
          case' r150 => skip
          refine Mem.tkY 24 ?v151 (hy := Or.inl ⟨by rfl, ?y151⟩) (hS := by assumption) (h := ?r151)
          case y151 => (intro w hSw; clear hSw; go_simp; try with_reducible rfl)
          case' r151 => skip
          try simp only [List.getElem_toArray, List.getElem_cons_succ, List.getElem_cons_zero, Act.put, List.setIfInBounds_toArray, List.set_cons_zero, List.set_cons_succ]
          first | refine Mem.tkY 25 undef (hy := Or.inr ⟨by rfl, rfl⟩) (hS := by assumption) (h := ?r152) | (refine Mem.tkY 25 ?v152 (hy := Or.inl ⟨by rfl, ?y152⟩) (hS := by assumption) (h := ?r152); case y152 => (intro w hSw; clear hSw; go_simp; try with_reducible rfl))
          case' r152 => skip
          try simp only [List.getElem_toArray, List.getElem_cons_succ, List.getElem_cons_zero, Act.put, List.setIfInBounds_toArray, List.set_cons_zero, List.set_cons_succ]
          first | refine Mem.tkY 26 undef (hy := Or.inr ⟨by rfl, rfl⟩) (hS := by assumption) (h := ?r153) | (refine Mem.tkY 26 ?v153 (hy := Or.inl ⟨by rfl, ?y153⟩) (hS := by assumption) (h := ?r153); case y153 => (intro w hSw; clear hSw; go_simp; try with_reducible rfl))
          case' r153 => skip
          try simp only [List.getElem_toArray, List.getElem_cons_succ, List.getElem_cons_zero, Act.put, List.setIfInBounds_toArray, List.set_cons_zero, List.set_cons_succ]
          first | refine Mem.tkY 27 undef (hy := Or.inr ⟨by rfl, rfl⟩) (hS := by assumption) (h := ?r154) | (refine Mem.tkY 27 ?v154 (hy := Or.inl ⟨by rfl, ?y154⟩) (hS := by assumption) (h := ?r154); case y154 => (intro w hSw; clear hSw; go_simp; try with_reducible rfl))
          case' r154 => skip
          try simp only [List.getElem_toArray, List.getElem_cons_succ, List.getElem_cons_zero, Act.put, List.setIfInBounds_toArray, List.set_cons_zero, List.set_cons_succ]
          first | refine Mem.tkY 28 undef (hy := Or.inr ⟨by rfl, rfl⟩) (hS := by assumption) (h := ?r155) | (refine Mem.tkY 28 ?v155 (hy := Or.inl ⟨by rfl, ?y155⟩) (hS := by assumption) (h := ?r155); case y155 => (intro w hSw; clear hSw; go_simp; try with_reducible rfl))
          case' r155 => skip
          try simp only [List.getElem_toArray, List.getElem_cons_succ, List.getElem_cons_zero, Act.put, List.setIfInBounds_toArray, List.set_cons_zero, List.set_cons_succ]
          first | refine Mem.tkY 29 undef (hy := Or.inr ⟨by rfl, rfl⟩) (hS := by assumption) (h := ?r156) | (refine Mem.tkY 29 ?v156 (hy := Or.inl ⟨by rfl, ?y156⟩) (hS := by assumption) (h := ?r156); case y156 => (intro w hSw; obtain ⟨hT0, hT1, hT2, hT3, hT4⟩ := hCl.out w hSw; clear hSw; go_simp; try with_reducible rfl))
          case' r156 => skip
          try simp only [List.getElem_toArray, List.getElem_cons_succ, List.getElem_cons_zero, Act.put, List.setIfInBounds_toArray, List.set_cons_zero, List.set_cons_succ]
          first | refine Mem.tkY 30 undef (hy := Or.inr ⟨by rfl, rfl⟩) (hS := by assumption) (h := ?r157) | (refine Mem.tkY 30 ?v157 (hy := Or.inl ⟨by rfl, ?y157⟩) (hS := by assumption) (h := ?r157); case y157 => (intro w hSw; clear hSw; go_simp; try with_reducible rfl))
          case' r157 => skip
          refine Mem.tkY 31 ?v158 (hy := Or.inl ⟨by rfl, ?y158⟩) (hS := by assumption) (h := ?r158)
          case y158 => (intro w hSw; clear hSw; go_simp; try with_reducible rfl)
          case' r158 => skip
          refine Mem.tkY 32 ?v159 (hy := Or.inl ⟨by rfl, ?y159⟩) (hS := by assumption) (h := ?r159)
          case y159 => (intro w hSw; clear hSw; go_simp; try with_reducible rfl)
          case' r159 => skip
          try simp only [List.getElem_toArray, List.getElem_cons_succ, List.getElem_cons_zero, Act.put, List.setIfInBounds_toArray, List.set_cons_zero, List.set_cons_succ]
          first | refine Mem.tkY 33 undef (hy := Or.inr ⟨by rfl, rfl⟩) (hS := by assumption) (h := ?r160) | (refine Mem.tkY 33 ?v160 (hy := Or.inl ⟨by rfl, ?y160⟩) (hS := by assumption) (h := ?r160); case y160 => (intro w hSw; clear hSw; go_simp; try with_reducible rfl))
          case' r160 => skip
          try simp only [List.getElem_toArray, List.getElem_cons_succ, List.getElem_cons_zero, Act.put, List.setIfInBounds_toArray, List.set_cons_zero, List.set_cons_succ]
          first | refine Mem.tkY 34 undef (hy := Or.inr ⟨by rfl, rfl⟩) (hS := by assumption) (h := ?r161) | (refine Mem.tkY 34 ?v161 (hy := Or.inl ⟨by rfl, ?y161⟩) (hS := by assumption) (h := ?r161); case y161 => (intro w hSw; clear hSw; go_simp; try with_reducible rfl))
          case' r161 => skip
          try simp only [List.getElem_toArray, List.getElem_cons_succ, List.getElem_cons_zero, Act.put, List.setIfInBounds_toArray, List.set_cons_zero, List.set_cons_succ]
          first | refine Mem.tkY 35 undef (hy := Or.inr ⟨by rfl, rfl⟩) (hS := by assumption) (h := ?r162) | (refine Mem.tkY 35 ?v162 (hy := Or.inl ⟨by rfl, ?y162⟩) (hS := by assumption) (h := ?r162); case y162 => (intro w hSw; clear hSw; go_simp; try with_reducible rfl))
          case' r162 => skip
          try simp only [List.getElem_toArray, List.getElem_cons_succ, List.getElem_cons_zero, Act.put, List.setIfInBounds_toArray, List.set_cons_zero, List.set_cons_succ]
          first | refine Mem.tkY 36 undef (hy := Or.inr ⟨by rfl, rfl⟩) (hS := by assumption) (h := ?r163) | (refine Mem.tkY 36 ?v163 (hy := Or.inl ⟨by rfl, ?y163⟩) (hS := by assumption) (h := ?r163); case y163 => (intro w hSw; clear hSw; go_simp; try with_reducible rfl))
          case' r163 => skip
          try simp only [List.getElem_toArray, List.getElem_cons_succ, List.getElem_cons_zero, Act.put, List.setIfInBounds_toArray, List.set_cons_zero, List.set_cons_succ]
          first | refine Mem.tkY 37 undef (hy := Or.inr ⟨by rfl, rfl⟩) (hS := by assumption) (h := ?r164) | (refine Mem.tkY 37 ?v164 (hy := Or.inl ⟨by rfl, ?y164⟩) (hS := by assumption) (h := ?r164); case y164 => (intro w hSw; obtain ⟨hT0, hT1, hT2, hT3, hT4⟩ := hCl.out w hSw; clear hSw; go_simp; try with_reducible rfl))
          case' r164 => skip
          try simp only [List.getElem_toArray, List.getElem_cons_succ, List.getElem_cons_zero, Act.put, List.setIfInBounds_toArray, List.set_cons_zero, List.set_cons_succ]
          refine wpAnyH_ready (rs := [38]) (by kernel_rfl) (by simp) ?_
          refine AllReadyH.cons rfl (fun K hK => ?_) AllReadyH.nil
          go_simp
          (refine (CC.out _).mono ?_; rintro e wb ⟨rfl, hbl⟩)
          try go_wp2_with fail
          have hSnew := Mem.bl_step hHeld hbl (by first | exact Nat.le_refl _ | omega | (simp <;> omega))
          refine hK.out _ _ ?_ (fun hHeld2 => ?_)
          · exact hSnew
          try replace hn := hn.below hbl
          clear hbl
          clear hK K hHeld hSnew
          have hHeld := hHeld2
          clear hHeld2
          try simp only [List.getElem_toArray, List.getElem_cons_succ, List.getElem_cons_zero, Act.put, List.setIfInBounds_toArray, List.set_cons_zero, List.set_cons_succ]
          first | refine Mem.tkY 39 undef (hy := Or.inr ⟨by rfl, rfl⟩) (hS := by assumption) (h := ?r165) | (refine Mem.tkY 39 ?v165 (hy := Or.inl ⟨by rfl, ?y165⟩) (hS := by assumption) (h := ?r165); case y165 => (intro w hSw; clear hSw; go_simp; try with_reducible rfl))
          case' r165 => skip
          refine Mem.tkY 40 ?v166 (hy := Or.inl ⟨by rfl, ?y166⟩) (hS := by assumption) (h := ?r166)
          case y166 => (intro w hSw; clear hSw; go_simp; try with_reducible rfl)
          case' r166 => skip
          refine Mem.tkY 41 ?v167 (hy := Or.inl ⟨by rfl, ?y167⟩) (hS := by assumption) (h := ?r167)
          case y167 => (intro w hSw; clear hSw; go_simp; try with_reducible rfl)
          case' r167 => skip
          try simp only [List.getElem_toArray, List.getElem_cons_succ, List.getElem_cons_zero, Act.put, List.setIfInBounds_toArray, List.set_cons_zero, List.set_cons_succ]
          first | refine Mem.tkY 42 undef (hy := Or.inr ⟨by rfl, rfl⟩) (hS := by assumption) (h := ?r168) | (refine Mem.tkY 42 ?v168 (hy := Or.inl ⟨by rfl, ?y168⟩) (hS := by assumption) (h := ?r168); case y168 => (intro w hSw; clear hSw; go_simp; try with_reducible rfl))
          case' r168 => skip
          try simp only [List.getElem_toArray, List.getElem_cons_succ, List.getElem_cons_zero, Act.put, List.setIfInBounds_toArray, List.set_cons_zero, List.set_cons_succ]
          first | refine Mem.tkY 43 undef (hy := Or.inr ⟨by rfl, rfl⟩) (hS := by assumption) (h := ?r169) | (refine Mem.tkY 43 ?v169 (hy := Or.inl ⟨by rfl, ?y169⟩) (hS := by assumption) (h := ?r169); case y169 => (intro w hSw; clear hSw; go_simp; try with_reducible rfl))
          case' r169 => skip
          try simp only [List.getElem_toArray, List.getElem_cons_succ, List.getElem_cons_zero, Act.put, List.setIfInBounds_toArray, List.set_cons_zero, List.set_cons_succ]
          first | refine Mem.tkY 44 undef (hy := Or.inr ⟨by rfl, rfl⟩) (hS := by assumption) (h := ?r170) | (refine Mem.tkY 44 ?v170 (hy := Or.inl ⟨by rfl, ?y170⟩) (hS := by assumption) (h := ?r170); case y170 => (intro w hSw; clear hSw; go_simp; try with_reducible rfl))
          case' r170 => skip
          try simp only [List.getElem_toArray, List.getElem_cons_succ, List.getElem_cons_zero, Act.put, List.setIfInBounds_toArray, List.set_cons_zero, List.set_cons_succ]
          first | refine Mem.tkY 45 undef (hy := Or.inr ⟨by rfl, rfl⟩) (hS := by assumption) (h := ?r171) | (refine Mem.tkY 45 ?v171 (hy := Or.inl ⟨by rfl, ?y171⟩) (hS := by assumption) (h := ?r171); case y171 => (intro w hSw; clear hSw; go_simp; try with_reducible rfl))
          case' r171 => skip
          try simp only [List.getElem_toArray, List.getElem_cons_succ, List.getElem_cons_zero, Act.put, List.setIfInBounds_toArray, List.set_cons_zero, List.set_cons_succ]
          first | refine Mem.tkY 46 undef (hy := Or.inr ⟨by rfl, rfl⟩) (hS := by assumption) (h := ?r172) | (refine Mem.tkY 46 ?v172 (hy := Or.inl ⟨by rfl, ?y172⟩) (hS := by assumption) (h := ?r172); case y172 => (intro w hSw; obtain ⟨hT0, hT1, hT2, hT3, hT4⟩ := hCl.out w hSw; clear hSw; go_simp; try with_reducible rfl))
          case' r172 => skip
          try simp only [List.getElem_toArray, List.getElem_cons_succ, List.getElem_cons_zero, Act.put, List.setIfInBounds_toArray, List.set_cons_zero, List.set_cons_succ]
          first | refine Mem.tkY 47 undef (hy := Or.inr ⟨by rfl, rfl⟩) (hS := by assumption) (h := ?r173) | (refine Mem.tkY 47 ?v173 (hy := Or.inl ⟨by rfl, ?y173⟩) (hS := by assumption) (h := ?r173); case y173 => (intro w hSw; clear hSw; go_simp; try with_reducible rfl))
          case' r173 => skip
          try simp only [List.getElem_toArray, List.getElem_cons_succ, List.getElem_cons_zero, Act.put, List.setIfInBounds_toArray, List.set_cons_zero, List.set_cons_succ]
          first | refine Mem.tkY 48 undef (hy := Or.inr ⟨by rfl, rfl⟩) (hS := by assumption) (h := ?r174) | (refine Mem.tkY 48 ?v174 (hy := Or.inl ⟨by rfl, ?y174⟩) (hS := by assumption) (h := ?r174); case y174 => (intro w hSw; clear hSw; go_simp; try with_reducible rfl))
          case' r174 => skip
          try simp only [List.getElem_toArray, List.getElem_cons_succ, List.getElem_cons_zero, Act.put, List.setIfInBounds_toArray, List.set_cons_zero, List.set_cons_succ]
          first | refine Mem.tkY 49 undef (hy := Or.inr ⟨by rfl, rfl⟩) (hS := by assumption) (h := ?r175) | (refine Mem.tkY 49 ?v175 (hy := Or.inl ⟨by rfl, ?y175⟩) (hS := by assumption) (h := ?r175); case y175 => (intro w hSw; clear hSw; go_simp; try with_reducible rfl))
          case' r175 => skip
          try simp only [List.getElem_toArray, List.getElem_cons_succ, List.getElem_cons_zero, Act.put, List.setIfInBounds_toArray, List.set_cons_zero, List.set_cons_succ]
          first | refine Mem.tkY 50 undef (hy := Or.inr ⟨by rfl, rfl⟩) (hS := by assumption) (h := ?r176) | (refine Mem.tkY 50 ?v176 (hy := Or.inl ⟨by rfl, ?y176⟩) (hS := by assumption) (h := ?r176); case y176 => (intro w hSw; clear hSw; go_simp; try with_reducible rfl))
          case' r176 => skip
          try simp only [List.getElem_toArray, List.getElem_cons_succ, List.getElem_cons_zero, Act.put, List.setIfInBounds_toArray, List.set_cons_zero, List.set_cons_succ]
          first | refine Mem.tkY 51 undef (hy := Or.inr ⟨by rfl, rfl⟩) (hS := by assumption) (h := ?r177) | (refine Mem.tkY 51 ?v177 (hy := Or.inl ⟨by rfl, ?y177⟩) (hS := by assumption) (h := ?r177); case y177 => (intro w hSw; obtain ⟨hT0, hT1, hT2, hT3, hT4⟩ := hCl.out w hSw; clear hSw; go_simp; try with_reducible rfl))
          case' r177 => skip
          try simp only [List.getElem_toArray, List.getElem_cons_succ, List.getElem_cons_zero, Act.put, List.setIfInBounds_toArray, List.set_cons_zero, List.set_cons_succ]
          first | refine Mem.tkY 52 undef (hy := Or.inr ⟨by rfl, rfl⟩) (hS := by assumption) (h := ?r178) | (refine Mem.tkY 52 ?v178 (hy := Or.inl ⟨by rfl, ?y178⟩) (hS := by assumption) (h := ?r178); case y178 => (intro w hSw; clear hSw; go_simp; try with_reducible rfl))
          case' r178 => skip
          try simp only [List.getElem_toArray, List.getElem_cons_succ, List.getElem_cons_zero, Act.put, List.setIfInBounds_toArray, List.set_cons_zero, List.set_cons_succ]
          first | refine Mem.tkY 53 undef (hy := Or.inr ⟨by rfl, rfl⟩) (hS := by assumption) (h := ?r179) | (refine Mem.tkY 53 ?v179 (hy := Or.inl ⟨by rfl, ?y179⟩) (hS := by assumption) (h := ?r179); case y179 => (intro w hSw; clear hSw; go_simp; try with_reducible rfl))
          case' r179 => skip
          refine Mem.tkY 54 ?v180 (hy := Or.inl ⟨by rfl, ?y180⟩) (hS := by assumption) (h := ?r180)
          case y180 => (intro w hSw; clear hSw; go_simp; try with_reducible rfl)
          case' r180 => skip
          try simp only [List.getElem_toArray, List.getElem_cons_succ, List.getElem_cons_zero, Act.put, List.setIfInBounds_toArray, List.set_cons_zero, List.set_cons_succ]
          refine wpAnyH_done (by kernel_rfl) ?_ _
          clear hCl
          go_wp2_with fail
          go_ret
          exact ⟨ret_bool HV.out.symm, hbr.trans (((Below.refl _ _).drew.trans hHeld).mono hbr.size)⟩
        | true =>
          have CC := Lib.hid (fun w' => right_any x.pa A1 x.pd.length c1 w' hp1)
          have CR := Lib.hid (fun w' h => rrise_any A2 c2 x.needs x.id w' h)
          rw [h5] at CC
          cases h6 : riseF x.id 0 x.needs with
          | false =>
            rw [mayF_n h6] at hv
            rw [h6] at CR
            have HV := Lib.hid hv
            clear hv h5 h6 h2
            go_wp2_with fail
            refine wp_region_held_drew (S := Go.RowKit.Below ((wr.drew).heap.size) (wr.drew)) (by kernel_rfl) ?hb187 (fun hHeld => ?rest187)
            case hb187 =>
              exact Go.RowKit.Below.refl _ _
            case' rest187 => skip
            have hCl := fun (wS : World) (hSw : Go.RowKit.Below ((wr.drew).heap.size) (wr.drew) wS) => And.intro (Mem.bl_cell hSw e0 (by first | omega | (dsimp only; omega) | exact World.block_lt_of_cell? _ _ e0 | (simp <;> omega))) <| And.intro (Mem.bl_cell hSw e1 (by first | omega | (dsimp only; omega) | exact World.block_lt_of_cell? _ _ e1 | (simp <;> omega))) <| And.intro (Mem.bl_cell hSw e2 (by first | omega | (dsimp only; omega) | exact World.block_lt_of_cell? _ _ e2 | (simp <;> omega))) <| And.intro (Mem.bl_cell hSw e3 (by first | omega | (dsimp only; omega) | exact World.block_lt_of_cell? _ _ e3 | (simp <;> omega))) <| Mem.bl_cell hSw e4 (by first | omega | (dsimp only; omega) | exact World.block_lt_of_cell? _ _ e4 | (simp <;> omega))
            replace hCl := Go.Lib.hid hCl
            refine Mem.tkY 0 ?v188 (hy := Or.inl ⟨by rfl, ?y188⟩) (hS := by assumption) (h := ?r188)
            case y188 => (intro w hSw; clear hSw; go_simp; try with_reducible rfl)
            case' r188 => skip
            refine Mem.tkY 1 ?v189 (hy := Or.inl ⟨by rfl, ?y189⟩) (hS := by assumption) (h := ?r189)
            case y189 => (intro w hSw; clear hSw; go_simp; try with_reducible rfl)
            case' r189 => skip
            refine Mem.tkY 2 ?v190 (hy := Or.inl ⟨by rfl, ?y190⟩) (hS := by assumption) (h := ?r190)
            case y190 => (intro w hSw; clear hSw; go_simp; try with_reducible rfl)
            case' r190 => skip
            try simp only [List.getElem_toArray, List.getElem_cons_succ, List.getElem_cons_zero, Act.put, List.setIfInBounds_toArray, List.set_cons_zero, List.set_cons_succ]
            refine Mem.tkY 3 ?v191 (hy := Or.inl ⟨by rfl, ?y191⟩) (hS := by assumption) (h := ?r191)
            case y191 => (intro w hSw; clear hSw; go_simp; try with_reducible rfl)
            case' r191 => skip
            refine Mem.tkY 4 ?v192 (hy := Or.inl ⟨by rfl, ?y192⟩) (hS := by assumption) (h := ?r192)
            case y192 => (intro w hSw; obtain ⟨hT0, hT1, hT2, hT3, hT4⟩ := hCl.out w hSw; clear hSw; go_simp; try with_reducible rfl)
            case' r192 => skip
            refine Mem.tkY 5 ?v193 (hy := Or.inl ⟨by rfl, ?y193⟩) (hS := by assumption) (h := ?r193)
            case y193 => (intro w hSw; clear hSw; go_simp; try with_reducible rfl)
            case' r193 => skip
            try simp only [List.getElem_toArray, List.getElem_cons_succ, List.getElem_cons_zero, Act.put, List.setIfInBounds_toArray, List.set_cons_zero, List.set_cons_succ]
            refine Mem.tkY 6 ?v194 (hy := Or.inl ⟨by rfl, ?y194⟩) (hS := by assumption) (h := ?r194)
            case y194 => (intro w hSw; clear hSw; go_simp; try with_reducible rfl)
            case' r194 => skip
            try simp only [List.getElem_toArray, List.getElem_cons_succ, List.getElem_cons_zero, Act.put, List.setIfInBounds_toArray, List.set_cons_zero, List.set_cons_succ]
            first | refine Mem.tkY 7 undef (hy := Or.inr ⟨by rfl, rfl⟩) (hS := by assumption) (h := ?r195) | (refine Mem.tkY 7 ?v195 (hy := Or.inl ⟨by rfl, ?y195⟩) (hS := by assumption) (h := ?r195); case y195 => (intro w hSw; clear hSw; go_simp; try with_reducible rfl))
            case' r195 => skip
            try simp only [List.getElem_toArray, List.getElem_cons_succ, List.getElem_cons_zero, Act.put, List.setIfInBounds_toArray, List.set_cons_zero, List.set_cons_succ]
            first | refine Mem.tkY 8 undef (hy := Or.inr ⟨by rfl, rfl⟩) (hS := by assumption) (h := ?r196) | (refine Mem.tkY 8 ?v196 (hy := Or.inl ⟨by rfl, ?y196⟩) (hS := by assumption) (h := ?r196); case y196 => (intro w hSw; clear hSw; go_simp; try with_reducible rfl))
            case' r196 => skip
            try simp only [List.getElem_toArray, List.getElem_cons_succ, List.getElem_cons_zero, Act.put, List.setIfInBounds_toArray, List.set_cons_zero, List.set_cons_succ]
            first | refine Mem.tkY 9 undef (hy := Or.inr ⟨by rfl, rfl⟩) (hS := by assumption) (h := ?r197) | (refine Mem.tkY 9 ?v197 (hy := Or.inl ⟨by rfl, ?y197⟩) (hS := by assumption) (h := ?r197); case y197 => (intro w hSw; clear hSw; go_simp; try with_reducible rfl))
            case' r197 => skip
            try simp only [List.getElem_toArray, List.getElem_cons_succ, List.getElem_cons_zero, Act.put, List.setIfInBounds_toArray, List.set_cons_zero, List.set_cons_succ]
            first | refine Mem.tkY 10 undef (hy := Or.inr ⟨by rfl, rfl⟩) (hS := by assumption) (h := ?r198) | (refine Mem.tkY 10 ?v198 (hy := Or.inl ⟨by rfl, ?y198⟩) (hS := by assumption) (h := ?r198); case y198 => (intro w hSw; clear hSw; go_simp; try with_reducible rfl))
            case' r198 => skip
            try simp only [List.getElem_toArray, List.getElem_cons_succ, List.getElem_cons_zero, Act.put, List.setIfInBounds_toArray, List.set_cons_zero, List.set_cons_succ]
            first | refine Mem.tkY 11 undef (hy := Or.inr ⟨by rfl, rfl⟩) (hS := by assumption) (h := ?r199) | (refine Mem.tkY 11 ?v199 (hy := Or.inl ⟨by rfl, ?y199⟩) (hS := by assumption) (h := ?r199); case y199 => (intro w hSw; clear hSw; go_simp; try with_reducible rfl))
            case' r199 => skip
            try simp only [List.getElem_toArray, List.getElem_cons_succ, List.getElem_cons_zero, Act.put, List.setIfInBounds_toArray, List.set_cons_zero, List.set_cons_succ]
            first | refine Mem.tkY 12 undef (hy := Or.inr ⟨by rfl, rfl⟩) (hS := by assumption) (h := ?r200) | (refine Mem.tkY 12 ?v200 (hy := Or.inl ⟨by rfl, ?y200⟩) (hS := by assumption) (h := ?r200); case y200 => (intro w hSw; clear hSw; go_simp; try with_reducible rfl))
            case' r200 => skip
            try simp only [List.getElem_toArray, List.getElem_cons_succ, List.getElem_cons_zero, Act.put, List.setIfInBounds_toArray, List.set_cons_zero, List.set_cons_succ]
            first | refine Mem.tkY 13 undef (hy := Or.inr ⟨by rfl, rfl⟩) (hS := by assumption) (h := ?r201) | (refine Mem.tkY 13 ?v201 (hy := Or.inl ⟨by rfl, ?y201⟩) (hS := by assumption) (h := ?r201); case y201 => (intro w hSw; clear hSw; go_simp; try with_reducible rfl))
            case' r201 => skip
            try simp only [List.getElem_toArray, List.getElem_cons_succ, List.getElem_cons_zero, Act.put, List.setIfInBounds_toArray, List.set_cons_zero, List.set_cons_succ]
            first | refine Mem.tkY 14 undef (hy := Or.inr ⟨by rfl, rfl⟩) (hS := by assumption) (h := ?r202) | (refine Mem.tkY 14 ?v202 (hy := Or.inl ⟨by rfl, ?y202⟩) (hS := by assumption) (h := ?r202); case y202 => (intro w hSw; obtain ⟨hT0, hT1, hT2, hT3, hT4⟩ := hCl.out w hSw; clear hSw; go_simp; try with_reducible rfl))
            case' r202 => skip
            try simp only [List.getElem_toArray, List.getElem_cons_succ, List.getElem_cons_zero, Act.put, List.setIfInBounds_toArray, List.set_cons_zero, List.set_cons_succ]
            first | refine Mem.tkY 15 undef (hy := Or.inr ⟨by rfl, rfl⟩) (hS := by assumption) (h := ?r203) | (refine Mem.tkY 15 ?v203 (hy := Or.inl ⟨by rfl, ?y203⟩) (hS := by assumption) (h := ?r203); case y203 => (intro w hSw; clear hSw; go_simp; try with_reducible rfl))
            case' r203 => skip
            try simp only [List.getElem_toArray, List.getElem_cons_succ, List.getElem_cons_zero, Act.put, List.setIfInBounds_toArray, List.set_cons_zero, List.set_cons_succ]
            first | refine Mem.tkY 16 undef (hy := Or.inr ⟨by rfl, rfl⟩) (hS := by assumption) (h := ?r204) | (refine Mem.tkY 16 ?v204 (hy := Or.inl ⟨by rfl, ?y204⟩) (hS := by assumption) (h := ?r204); case y204 => (intro w hSw; clear hSw; go_simp; try with_reducible rfl))
            case' r204 => skip
            try simp only [List.getElem_toArray, List.getElem_cons_succ, List.getElem_cons_zero, Act.put, List.setIfInBounds_toArray, List.set_cons_zero, List.set_cons_succ]
            first | refine Mem.tkY 17 undef (hy := Or.inr ⟨by rfl, rfl⟩) (hS := by assumption) (h := ?r205) | (refine Mem.tkY 17 ?v205 (hy := Or.inl ⟨by rfl, ?y205⟩) (hS := by assumption) (h := ?r205); case y205 => (intro w hSw; clear hSw; go_simp; try with_reducible rfl))
            case' r205 => skip
            try simp only [List.getElem_toArray, List.getElem_cons_succ, List.getElem_cons_zero, Act.put, List.setIfInBounds_toArray, List.set_cons_zero, List.set_cons_succ]
            first | refine Mem.tkY 18 undef (hy := Or.inr ⟨by rfl, rfl⟩) (hS := by assumption) (h := ?r206) | (refine Mem.tkY 18 ?v206 (hy := Or.inl ⟨by rfl, ?y206⟩) (hS := by assumption) (h := ?r206); case y206 => (intro w hSw; clear hSw; go_simp; try with_reducible rfl))
            case' r206 => skip
            try simp only [List.getElem_toArray, List.getElem_cons_succ, List.getElem_cons_zero, Act.put, List.setIfInBounds_toArray, List.set_cons_zero, List.set_cons_succ]
            first | refine Mem.tkY 19 undef (hy := Or.inr ⟨by rfl, rfl⟩) (hS := by assumption) (h := ?r207) | (refine Mem.tkY 19 ?v207 (hy := Or.inl ⟨by rfl, ?y207⟩) (hS := by assumption) (h := ?r207); case y207 => (intro w hSw; clear hSw; go_simp; try with_reducible rfl))
            case' r207 => skip
            try simp only [List.getElem_toArray, List.getElem_cons_succ, List.getElem_cons_zero, Act.put, List.setIfInBounds_toArray, List.set_cons_zero, List.set_cons_succ]
            first | refine Mem.tkY 20 undef (hy := Or.inr ⟨by rfl, rfl⟩) (hS := by assumption) (h := ?r208) | (refine Mem.tkY 20 ?v208 (hy := Or.inl ⟨by rfl, ?y208⟩) (hS := by assumption) (h := ?r208); case y208 => (intro w hSw; obtain ⟨hT0, hT1, hT2, hT3, hT4⟩ := hCl.out w hSw; clear hSw; go_simp; try with_reducible rfl))
            case' r208 => skip
            try simp only [List.getElem_toArray, List.getElem_cons_succ, List.getElem_cons_zero, Act.put, List.setIfInBounds_toArray, List.set_cons_zero, List.set_cons_succ]
            first | refine Mem.tkY 21 undef (hy := Or.inr ⟨by rfl, rfl⟩) (hS := by assumption) (h := ?r209) | (refine Mem.tkY 21 ?v209 (hy := Or.inl ⟨by rfl, ?y209⟩) (hS := by assumption) (h := ?r209); case y209 => (intro w hSw; clear hSw; go_simp; try with_reducible rfl))
            case' r209 => skip
            try simp only [List.getElem_toArray, List.getElem_cons_succ, List.getElem_cons_zero, Act.put, List.setIfInBounds_toArray, List.set_cons_zero, List.set_cons_succ]
            first | refine Mem.tkY 22 undef (hy := Or.inr ⟨by rfl, rfl⟩) (hS := by assumption) (h := ?r210) | (refine Mem.tkY 22 ?v210 (hy := Or.inl ⟨by rfl, ?y210⟩) (hS := by assumption) (h := ?r210); case y210 => (intro w hSw; clear hSw; go_simp; try with_reducible rfl))
            case' r210 => skip
            refine Mem.tkY 23 ?v211 (hy := Or.inl ⟨by rfl, ?y211⟩) (hS := by assumption) (h := ?r211)
            case y211 => (intro w hSw; clear hSw; go_simp; try with_reducible rfl)
            case' r211 => skip
            refine Mem.tkY 24 ?v212 (hy := Or.inl ⟨by rfl, ?y212⟩) (hS := by assumption) (h := ?r212)
            case y212 => (intro w hSw; clear hSw; go_simp; try with_reducible rfl)
            case' r212 => skip
            try simp only [List.getElem_toArray, List.getElem_cons_succ, List.getElem_cons_zero, Act.put, List.setIfInBounds_toArray, List.set_cons_zero, List.set_cons_succ]
            first | refine Mem.tkY 25 undef (hy := Or.inr ⟨by rfl, rfl⟩) (hS := by assumption) (h := ?r213) | (refine Mem.tkY 25 ?v213 (hy := Or.inl ⟨by rfl, ?y213⟩) (hS := by assumption) (h := ?r213); case y213 => (intro w hSw; clear hSw; go_simp; try with_reducible rfl))
            case' r213 => skip
            try simp only [List.getElem_toArray, List.getElem_cons_succ, List.getElem_cons_zero, Act.put, List.setIfInBounds_toArray, List.set_cons_zero, List.set_cons_succ]
            first | refine Mem.tkY 26 undef (hy := Or.inr ⟨by rfl, rfl⟩) (hS := by assumption) (h := ?r214) | (refine Mem.tkY 26 ?v214 (hy := Or.inl ⟨by rfl, ?y214⟩) (hS := by assumption) (h := ?r214); case y214 => (intro w hSw; clear hSw; go_simp; try with_reducible rfl))
            case' r214 => skip
            try simp only [List.getElem_toArray, List.getElem_cons_succ, List.getElem_cons_zero, Act.put, List.setIfInBounds_toArray, List.set_cons_zero, List.set_cons_succ]
            first | refine Mem.tkY 27 undef (hy := Or.inr ⟨by rfl, rfl⟩) (hS := by assumption) (h := ?r215) | (refine Mem.tkY 27 ?v215 (hy := Or.inl ⟨by rfl, ?y215⟩) (hS := by assumption) (h := ?r215); case y215 => (intro w hSw; clear hSw; go_simp; try with_reducible rfl))
            case' r215 => skip
            try simp only [List.getElem_toArray, List.getElem_cons_succ, List.getElem_cons_zero, Act.put, List.setIfInBounds_toArray, List.set_cons_zero, List.set_cons_succ]
            first | refine Mem.tkY 28 undef (hy := Or.inr ⟨by rfl, rfl⟩) (hS := by assumption) (h := ?r216) | (refine Mem.tkY 28 ?v216 (hy := Or.inl ⟨by rfl, ?y216⟩) (hS := by assumption) (h := ?r216); case y216 => (intro w hSw; clear hSw; go_simp; try with_reducible rfl))
            case' r216 => skip
            try simp only [List.getElem_toArray, List.getElem_cons_succ, List.getElem_cons_zero, Act.put, List.setIfInBounds_toArray, List.set_cons_zero, List.set_cons_succ]
            first | refine Mem.tkY 29 undef (hy := Or.inr ⟨by rfl, rfl⟩) (hS := by assumption) (h := ?r217) | (refine Mem.tkY 29 ?v217 (hy := Or.inl ⟨by rfl, ?y217⟩) (hS := by assumption) (h := ?r217); case y217 => (intro w hSw; obtain ⟨hT0, hT1, hT2, hT3, hT4⟩ := hCl.out w hSw; clear hSw; go_simp; try with_reducible rfl))
            case' r217 => skip
            try simp only [List.getElem_toArray, List.getElem_cons_succ, List.getElem_cons_zero, Act.put, List.setIfInBounds_toArray, List.set_cons_zero, List.set_cons_succ]
            first | refine Mem.tkY 30 undef (hy := Or.inr ⟨by rfl, rfl⟩) (hS := by assumption) (h := ?r218) | (refine Mem.tkY 30 ?v218 (hy := Or.inl ⟨by rfl, ?y218⟩) (hS := by assumption) (h := ?r218); case y218 => (intro w hSw; clear hSw; go_simp; try with_reducible rfl))
            case' r218 => skip
            refine Mem.tkY 31 ?v219 (hy := Or.inl ⟨by rfl, ?y219⟩) (hS := by assumption) (h := ?r219)
            case y219 => (intro w hSw; clear hSw; go_simp; try with_reducible rfl)
            case' r219 => skip
            refine Mem.tkY 32 ?v220 (hy := Or.inl ⟨by rfl, ?y220⟩) (hS := by assumption) (h := ?r220)
            case y220 => (intro w hSw; clear hSw; go_simp; try with_reducible rfl)
            case' r220 => skip
            try simp only [List.getElem_toArray, List.getElem_cons_succ, List.getElem_cons_zero, Act.put, List.setIfInBounds_toArray, List.set_cons_zero, List.set_cons_succ]
            first | refine Mem.tkY 33 undef (hy := Or.inr ⟨by rfl, rfl⟩) (hS := by assumption) (h := ?r221) | (refine Mem.tkY 33 ?v221 (hy := Or.inl ⟨by rfl, ?y221⟩) (hS := by assumption) (h := ?r221); case y221 => (intro w hSw; clear hSw; go_simp; try with_reducible rfl))
            case' r221 => skip
            try simp only [List.getElem_toArray, List.getElem_cons_succ, List.getElem_cons_zero, Act.put, List.setIfInBounds_toArray, List.set_cons_zero, List.set_cons_succ]
            first | refine Mem.tkY 34 undef (hy := Or.inr ⟨by rfl, rfl⟩) (hS := by assumption) (h := ?r222) | (refine Mem.tkY 34 ?v222 (hy := Or.inl ⟨by rfl, ?y222⟩) (hS := by assumption) (h := ?r222); case y222 => (intro w hSw; clear hSw; go_simp; try with_reducible rfl))
            case' r222 => skip
            try simp only [List.getElem_toArray, List.getElem_cons_succ, List.getElem_cons_zero, Act.put, List.setIfInBounds_toArray, List.set_cons_zero, List.set_cons_succ]
            first | refine Mem.tkY 35 undef (hy := Or.inr ⟨by rfl, rfl⟩) (hS := by assumption) (h := ?r223) | (refine Mem.tkY 35 ?v223 (hy := Or.inl ⟨by rfl, ?y223⟩) (hS := by assumption) (h := ?r223); case y223 => (intro w hSw; clear hSw; go_simp; try with_reducible rfl))
            case' r223 => skip
            try simp only [List.getElem_toArray, List.getElem_cons_succ, List.getElem_cons_zero, Act.put, List.setIfInBounds_toArray, List.set_cons_zero, List.set_cons_succ]
            first | refine Mem.tkY 36 undef (hy := Or.inr ⟨by rfl, rfl⟩) (hS := by assumption) (h := ?r224) | (refine Mem.tkY 36 ?v224 (hy := Or.inl ⟨by rfl, ?y224⟩) (hS := by assumption) (h := ?r224); case y224 => (intro w hSw; clear hSw; go_simp; try with_reducible rfl))
            case' r224 => skip
            try simp only [List.getElem_toArray, List.getElem_cons_succ, List.getElem_cons_zero, Act.put, List.setIfInBounds_toArray, List.set_cons_zero, List.set_cons_succ]
            first | refine Mem.tkY 37 undef (hy := Or.inr ⟨by rfl, rfl⟩) (hS := by assumption) (h := ?r225) | (refine Mem.tkY 37 ?v225 (hy := Or.inl ⟨by rfl, ?y225⟩) (hS := by assumption) (h := ?r225); case y225 => (intro w hSw; obtain ⟨hT0, hT1, hT2, hT3, hT4⟩ := hCl.out w hSw; clear hSw; go_simp; try with_reducible rfl))
            case' r225 => skip
            try simp only [List.getElem_toArray, List.getElem_cons_succ, List.getElem_cons_zero, Act.put, List.setIfInBounds_toArray, List.set_cons_zero, List.set_cons_succ]
            refine wpAnyH_ready (rs := [38]) (by kernel_rfl) (by simp) ?_
            refine AllReadyH.cons rfl (fun K hK => ?_) AllReadyH.nil
            go_simp
            (refine (CC.out _).mono ?_; rintro e wb ⟨rfl, hbl⟩)
            try go_wp2_with fail
            have hSnew := Mem.bl_step hHeld hbl (by first | exact Nat.le_refl _ | omega | (simp <;> omega))
            refine hK.out _ _ ?_ (fun hHeld2 => ?_)
            · exact hSnew
            try replace hn := hn.below hbl
            clear hbl
            clear hK K hHeld hSnew
            have hHeld := hHeld2
            clear hHeld2
            try simp only [List.getElem_toArray, List.getElem_cons_succ, List.getElem_cons_zero, Act.put, List.setIfInBounds_toArray, List.set_cons_zero, List.set_cons_succ]
            first | refine Mem.tkY 39 undef (hy := Or.inr ⟨by rfl, rfl⟩) (hS := by assumption) (h := ?r226) | (refine Mem.tkY 39 ?v226 (hy := Or.inl ⟨by rfl, ?y226⟩) (hS := by assumption) (h := ?r226); case y226 => (intro w hSw; clear hSw; go_simp; try with_reducible rfl))
            case' r226 => skip
            refine Mem.tkY 40 ?v227 (hy := Or.inl ⟨by rfl, ?y227⟩) (hS := by assumption) (h := ?r227)
            case y227 => (intro w hSw; clear hSw; go_simp; try with_reducible rfl)
            case' r227 => skip
            refine Mem.tkY 41 ?v228 (hy := Or.inl ⟨by rfl, ?y228⟩) (hS := by assumption) (h := ?r228)
            case y228 => (intro w hSw; clear hSw; go_simp; try with_reducible rfl)
            case' r228 => skip
            try simp only [List.getElem_toArray, List.getElem_cons_succ, List.getElem_cons_zero, Act.put, List.setIfInBounds_toArray, List.set_cons_zero, List.set_cons_succ]
            first | refine Mem.tkY 42 undef (hy := Or.inr ⟨by rfl, rfl⟩) (hS := by assumption) (h := ?r229) | (refine Mem.tkY 42 ?v229 (hy := Or.inl ⟨by rfl, ?y229⟩) (hS := by assumption) (h := ?r229); case y229 => (intro w hSw; clear hSw; go_simp; try with_reducible rfl))
            case' r229 => skip
            try simp only [List.getElem_toArray, List.getElem_cons_succ, List.getElem_cons_zero, Act.put, List.setIfInBounds_toArray, List.set_cons_zero, List.set_cons_succ]
            first | refine Mem.tkY 43 undef (hy := Or.inr ⟨by rfl, rfl⟩) (hS := by assumption) (h := ?r230) | (refine Mem.tkY 43 ?v230 (hy := Or.inl ⟨by rfl, ?y230⟩) (hS := by assumption) (h := ?r230); case y230 => (intro w hSw; clear hSw; go_simp; try with_reducible rfl))
            case' r230 => skip
            try simp only [List.getElem_toArray, List.getElem_cons_succ, List.getElem_cons_zero, Act.put, List.setIfInBounds_toArray, List.set_cons_zero, List.set_cons_succ]
            first | refine Mem.tkY 44 undef (hy := Or.inr ⟨by rfl, rfl⟩) (hS := by assumption) (h := ?r231) | (refine Mem.tkY 44 ?v231 (hy := Or.inl ⟨by rfl, ?y231⟩) (hS := by assumption) (h := ?r231); case y231 => (intro w hSw; clear hSw; go_simp; try with_reducible rfl))
            case' r231 => skip
            try simp only [List.getElem_toArray, List.getElem_cons_succ, List.getElem_cons_zero, Act.put, List.setIfInBounds_toArray, List.set_cons_zero, List.set_cons_succ]
            first | refine Mem.tkY 45 undef (hy := Or.inr ⟨by rfl, rfl⟩) (hS := by assumption) (h := ?r232) | (refine Mem.tkY 45 ?v232 (hy := Or.inl ⟨by rfl, ?y232⟩) (hS := by assumption) (h := ?r232); case y232 => (intro w hSw; clear hSw; go_simp; try with_reducible rfl))
            case' r232 => skip
            try simp only [List.getElem_toArray, List.getElem_cons_succ, List.getElem_cons_zero, Act.put, List.setIfInBounds_toArray, List.set_cons_zero, List.set_cons_succ]
            first | refine Mem.tkY 46 undef (hy := Or.inr ⟨by rfl, rfl⟩) (hS := by assumption) (h := ?r233) | (refine Mem.tkY 46 ?v233 (hy := Or.inl ⟨by rfl, ?y233⟩) (hS := by assumption) (h := ?r233); case y233 => (intro w hSw; obtain ⟨hT0, hT1, hT2, hT3, hT4⟩ := hCl.out w hSw; clear hSw; go_simp; try with_reducible rfl))
            case' r233 => skip
            try simp only [List.getElem_toArray, List.getElem_cons_succ, List.getElem_cons_zero, Act.put, List.setIfInBounds_toArray, List.set_cons_zero, List.set_cons_succ]
            first | refine Mem.tkY 47 undef (hy := Or.inr ⟨by rfl, rfl⟩) (hS := by assumption) (h := ?r234) | (refine Mem.tkY 47 ?v234 (hy := Or.inl ⟨by rfl, ?y234⟩) (hS := by assumption) (h := ?r234); case y234 => (intro w hSw; clear hSw; go_simp; try with_reducible rfl))
            case' r234 => skip
            try simp only [List.getElem_toArray, List.getElem_cons_succ, List.getElem_cons_zero, Act.put, List.setIfInBounds_toArray, List.set_cons_zero, List.set_cons_succ]
            first | refine Mem.tkY 48 undef (hy := Or.inr ⟨by rfl, rfl⟩) (hS := by assumption) (h := ?r235) | (refine Mem.tkY 48 ?v235 (hy := Or.inl ⟨by rfl, ?y235⟩) (hS := by assumption) (h := ?r235); case y235 => (intro w hSw; clear hSw; go_simp; try with_reducible rfl))
            case' r235 => skip
            try simp only [List.getElem_toArray, List.getElem_cons_succ, List.getElem_cons_zero, Act.put, List.setIfInBounds_toArray, List.set_cons_zero, List.set_cons_succ]
            first | refine Mem.tkY 49 undef (hy := Or.inr ⟨by rfl, rfl⟩) (hS := by assumption) (h := ?r236) | (refine Mem.tkY 49 ?v236 (hy := Or.inl ⟨by rfl, ?y236⟩) (hS := by assumption) (h := ?r236); case y236 => (intro w hSw; clear hSw; go_simp; try with_reducible rfl))
            case' r236 => skip
            try simp only [List.getElem_toArray, List.getElem_cons_succ, List.getElem_cons_zero, Act.put, List.setIfInBounds_toArray, List.set_cons_zero, List.set_cons_succ]
            first | refine Mem.tkY 50 undef (hy := Or.inr ⟨by rfl, rfl⟩) (hS := by assumption) (h := ?r237) | (refine Mem.tkY 50 ?v237 (hy := Or.inl ⟨by rfl, ?y237⟩) (hS := by assumption) (h := ?r237); case y237 => (intro w hSw; clear hSw; go_simp; try with_reducible rfl))
            case' r237 => skip
            try simp only [List.getElem_toArray, List.getElem_cons_succ, List.getElem_cons_zero, Act.put, List.setIfInBounds_toArray, List.set_cons_zero, List.set_cons_succ]
            first | refine Mem.tkY 51 undef (hy := Or.inr ⟨by rfl, rfl⟩) (hS := by assumption) (h := ?r238) | (refine Mem.tkY 51 ?v238 (hy := Or.inl ⟨by rfl, ?y238⟩) (hS := by assumption) (h := ?r238); case y238 => (intro w hSw; obtain ⟨hT0, hT1, hT2, hT3, hT4⟩ := hCl.out w hSw; clear hSw; go_simp; try with_reducible rfl))
            case' r238 => skip
            try simp only [List.getElem_toArray, List.getElem_cons_succ, List.getElem_cons_zero, Act.put, List.setIfInBounds_toArray, List.set_cons_zero, List.set_cons_succ]
            refine wpAnyH_ready (rs := [52]) (by kernel_rfl) (by simp) ?_
            refine AllReadyH.cons rfl (fun K hK => ?_) AllReadyH.nil
            go_simp
            (refine (CR.out _ hn).mono ?_; rintro e wb ⟨rfl, hbl⟩)
            try go_wp2_with fail
            have hSnew := Mem.bl_step hHeld hbl (by first | exact Nat.le_refl _ | omega | (simp <;> omega))
            refine hK.out _ _ ?_ (fun hHeld2 => ?_)
            · exact hSnew
            try replace hn := hn.below hbl
            clear hbl
            clear hK K hHeld hSnew
            have hHeld := hHeld2
            clear hHeld2
            try simp only [List.getElem_toArray, List.getElem_cons_succ, List.getElem_cons_zero, Act.put, List.setIfInBounds_toArray, List.set_cons_zero, List.set_cons_succ]
            first | refine Mem.tkY 53 undef (hy := Or.inr ⟨by rfl, rfl⟩) (hS := by assumption) (h := ?r239) | (refine Mem.tkY 53 ?v239 (hy := Or.inl ⟨by rfl, ?y239⟩) (hS := by assumption) (h := ?r239); case y239 => (intro w hSw; clear hSw; go_simp; try with_reducible rfl))
            case' r239 => skip
            refine Mem.tkY 54 ?v240 (hy := Or.inl ⟨by rfl, ?y240⟩) (hS := by assumption) (h := ?r240)
            case y240 => (intro w hSw; clear hSw; go_simp; try with_reducible rfl)
            case' r240 => skip
            try simp only [List.getElem_toArray, List.getElem_cons_succ, List.getElem_cons_zero, Act.put, List.setIfInBounds_toArray, List.set_cons_zero, List.set_cons_succ]
            refine wpAnyH_done (by kernel_rfl) ?_ _
            clear hCl
            go_wp2_with fail
            go_ret
            exact ⟨ret_bool HV.out.symm, hbr.trans (((Below.refl _ _).drew.trans hHeld).mono hbr.size)⟩
          | true =>
            rw [mayF_on (by have := X1.out; omega) h2 h5 h6] at hv
            rw [h6] at CR
            have HV := Lib.hid hv
            clear hv h5 h6 h2
            go_wp2_with fail
            refine wp_region_held_drew (S := Go.RowKit.Below ((wr.drew).heap.size) (wr.drew)) (by kernel_rfl) ?hb248 (fun hHeld => ?rest248)
            case hb248 =>
              exact Go.RowKit.Below.refl _ _
            case' rest248 => skip
            have hCl := fun (wS : World) (hSw : Go.RowKit.Below ((wr.drew).heap.size) (wr.drew) wS) => And.intro (Mem.bl_cell hSw e0 (by first | omega | (dsimp only; omega) | exact World.block_lt_of_cell? _ _ e0 | (simp <;> omega))) <| And.intro (Mem.bl_cell hSw e1 (by first | omega | (dsimp only; omega) | exact World.block_lt_of_cell? _ _ e1 | (simp <;> omega))) <| And.intro (Mem.bl_cell hSw e2 (by first | omega | (dsimp only; omega) | exact World.block_lt_of_cell? _ _ e2 | (simp <;> omega))) <| And.intro (Mem.bl_cell hSw e3 (by first | omega | (dsimp only; omega) | exact World.block_lt_of_cell? _ _ e3 | (simp <;> omega))) <| Mem.bl_cell hSw e4 (by first | omega | (dsimp only; omega) | exact World.block_lt_of_cell? _ _ e4 | (simp <;> omega))
            replace hCl := Go.Lib.hid hCl
            refine Mem.tkY 0 ?v249 (hy := Or.inl ⟨by rfl, ?y249⟩) (hS := by assumption) (h := ?r249)
            case y249 => (intro w hSw; clear hSw; go_simp; try with_reducible rfl)
            case' r249 => skip
            refine Mem.tkY 1 ?v250 (hy := Or.inl ⟨by rfl, ?y250⟩) (hS := by assumption) (h := ?r250)
            case y250 => (intro w hSw; clear hSw; go_simp; try with_reducible rfl)
            case' r250 => skip
            refine Mem.tkY 2 ?v251 (hy := Or.inl ⟨by rfl, ?y251⟩) (hS := by assumption) (h := ?r251)
            case y251 => (intro w hSw; clear hSw; go_simp; try with_reducible rfl)
            case' r251 => skip
            try simp only [List.getElem_toArray, List.getElem_cons_succ, List.getElem_cons_zero, Act.put, List.setIfInBounds_toArray, List.set_cons_zero, List.set_cons_succ]
            refine Mem.tkY 3 ?v252 (hy := Or.inl ⟨by rfl, ?y252⟩) (hS := by assumption) (h := ?r252)
            case y252 => (intro w hSw; clear hSw; go_simp; try with_reducible rfl)
            case' r252 => skip
            refine Mem.tkY 4 ?v253 (hy := Or.inl ⟨by rfl, ?y253⟩) (hS := by assumption) (h := ?r253)
            case y253 => (intro w hSw; obtain ⟨hT0, hT1, hT2, hT3, hT4⟩ := hCl.out w hSw; clear hSw; go_simp; try with_reducible rfl)
            case' r253 => skip
            refine Mem.tkY 5 ?v254 (hy := Or.inl ⟨by rfl, ?y254⟩) (hS := by assumption) (h := ?r254)
            case y254 => (intro w hSw; clear hSw; go_simp; try with_reducible rfl)
            case' r254 => skip
            try simp only [List.getElem_toArray, List.getElem_cons_succ, List.getElem_cons_zero, Act.put, List.setIfInBounds_toArray, List.set_cons_zero, List.set_cons_succ]
            refine Mem.tkY 6 ?v255 (hy := Or.inl ⟨by rfl, ?y255⟩) (hS := by assumption) (h := ?r255)
            case y255 => (intro w hSw; clear hSw; go_simp; try with_reducible rfl)
            case' r255 => skip
            try simp only [List.getElem_toArray, List.getElem_cons_succ, List.getElem_cons_zero, Act.put, List.setIfInBounds_toArray, List.set_cons_zero, List.set_cons_succ]
            first | refine Mem.tkY 7 undef (hy := Or.inr ⟨by rfl, rfl⟩) (hS := by assumption) (h := ?r256) | (refine Mem.tkY 7 ?v256 (hy := Or.inl ⟨by rfl, ?y256⟩) (hS := by assumption) (h := ?r256); case y256 => (intro w hSw; clear hSw; go_simp; try with_reducible rfl))
            case' r256 => skip
            try simp only [List.getElem_toArray, List.getElem_cons_succ, List.getElem_cons_zero, Act.put, List.setIfInBounds_toArray, List.set_cons_zero, List.set_cons_succ]
            first | refine Mem.tkY 8 undef (hy := Or.inr ⟨by rfl, rfl⟩) (hS := by assumption) (h := ?r257) | (refine Mem.tkY 8 ?v257 (hy := Or.inl ⟨by rfl, ?y257⟩) (hS := by assumption) (h := ?r257); case y257 => (intro w hSw; clear hSw; go_simp; try with_reducible rfl))
            case' r257 => skip
            try simp only [List.getElem_toArray, List.getElem_cons_succ, List.getElem_cons_zero, Act.put, List.setIfInBounds_toArray, List.set_cons_zero, List.set_cons_succ]
            first | refine Mem.tkY 9 undef (hy := Or.inr ⟨by rfl, rfl⟩) (hS := by assumption) (h := ?r258) | (refine Mem.tkY 9 ?v258 (hy := Or.inl ⟨by rfl, ?y258⟩) (hS := by assumption) (h := ?r258); case y258 => (intro w hSw; clear hSw; go_simp; try with_reducible rfl))
            case' r258 => skip
            try simp only [List.getElem_toArray, List.getElem_cons_succ, List.getElem_cons_zero, Act.put, List.setIfInBounds_toArray, List.set_cons_zero, List.set_cons_succ]
            first | refine Mem.tkY 10 undef (hy := Or.inr ⟨by rfl, rfl⟩) (hS := by assumption) (h := ?r259) | (refine Mem.tkY 10 ?v259 (hy := Or.inl ⟨by rfl, ?y259⟩) (hS := by assumption) (h := ?r259); case y259 => (intro w hSw; clear hSw; go_simp; try with_reducible rfl))
            case' r259 => skip
            try simp only [List.getElem_toArray, List.getElem_cons_succ, List.getElem_cons_zero, Act.put, List.setIfInBounds_toArray, List.set_cons_zero, List.set_cons_succ]
            first | refine Mem.tkY 11 undef (hy := Or.inr ⟨by rfl, rfl⟩) (hS := by assumption) (h := ?r260) | (refine Mem.tkY 11 ?v260 (hy := Or.inl ⟨by rfl, ?y260⟩) (hS := by assumption) (h := ?r260); case y260 => (intro w hSw; clear hSw; go_simp; try with_reducible rfl))
            case' r260 => skip
            try simp only [List.getElem_toArray, List.getElem_cons_succ, List.getElem_cons_zero, Act.put, List.setIfInBounds_toArray, List.set_cons_zero, List.set_cons_succ]
            first | refine Mem.tkY 12 undef (hy := Or.inr ⟨by rfl, rfl⟩) (hS := by assumption) (h := ?r261) | (refine Mem.tkY 12 ?v261 (hy := Or.inl ⟨by rfl, ?y261⟩) (hS := by assumption) (h := ?r261); case y261 => (intro w hSw; clear hSw; go_simp; try with_reducible rfl))
            case' r261 => skip
            try simp only [List.getElem_toArray, List.getElem_cons_succ, List.getElem_cons_zero, Act.put, List.setIfInBounds_toArray, List.set_cons_zero, List.set_cons_succ]
            first | refine Mem.tkY 13 undef (hy := Or.inr ⟨by rfl, rfl⟩) (hS := by assumption) (h := ?r262) | (refine Mem.tkY 13 ?v262 (hy := Or.inl ⟨by rfl, ?y262⟩) (hS := by assumption) (h := ?r262); case y262 => (intro w hSw; clear hSw; go_simp; try with_reducible rfl))
            case' r262 => skip
            try simp only [List.getElem_toArray, List.getElem_cons_succ, List.getElem_cons_zero, Act.put, List.setIfInBounds_toArray, List.set_cons_zero, List.set_cons_succ]
            first | refine Mem.tkY 14 undef (hy := Or.inr ⟨by rfl, rfl⟩) (hS := by assumption) (h := ?r263) | (refine Mem.tkY 14 ?v263 (hy := Or.inl ⟨by rfl, ?y263⟩) (hS := by assumption) (h := ?r263); case y263 => (intro w hSw; obtain ⟨hT0, hT1, hT2, hT3, hT4⟩ := hCl.out w hSw; clear hSw; go_simp; try with_reducible rfl))
            case' r263 => skip
            try simp only [List.getElem_toArray, List.getElem_cons_succ, List.getElem_cons_zero, Act.put, List.setIfInBounds_toArray, List.set_cons_zero, List.set_cons_succ]
            first | refine Mem.tkY 15 undef (hy := Or.inr ⟨by rfl, rfl⟩) (hS := by assumption) (h := ?r264) | (refine Mem.tkY 15 ?v264 (hy := Or.inl ⟨by rfl, ?y264⟩) (hS := by assumption) (h := ?r264); case y264 => (intro w hSw; clear hSw; go_simp; try with_reducible rfl))
            case' r264 => skip
            try simp only [List.getElem_toArray, List.getElem_cons_succ, List.getElem_cons_zero, Act.put, List.setIfInBounds_toArray, List.set_cons_zero, List.set_cons_succ]
            first | refine Mem.tkY 16 undef (hy := Or.inr ⟨by rfl, rfl⟩) (hS := by assumption) (h := ?r265) | (refine Mem.tkY 16 ?v265 (hy := Or.inl ⟨by rfl, ?y265⟩) (hS := by assumption) (h := ?r265); case y265 => (intro w hSw; clear hSw; go_simp; try with_reducible rfl))
            case' r265 => skip
            try simp only [List.getElem_toArray, List.getElem_cons_succ, List.getElem_cons_zero, Act.put, List.setIfInBounds_toArray, List.set_cons_zero, List.set_cons_succ]
            first | refine Mem.tkY 17 undef (hy := Or.inr ⟨by rfl, rfl⟩) (hS := by assumption) (h := ?r266) | (refine Mem.tkY 17 ?v266 (hy := Or.inl ⟨by rfl, ?y266⟩) (hS := by assumption) (h := ?r266); case y266 => (intro w hSw; clear hSw; go_simp; try with_reducible rfl))
            case' r266 => skip
            try simp only [List.getElem_toArray, List.getElem_cons_succ, List.getElem_cons_zero, Act.put, List.setIfInBounds_toArray, List.set_cons_zero, List.set_cons_succ]
            first | refine Mem.tkY 18 undef (hy := Or.inr ⟨by rfl, rfl⟩) (hS := by assumption) (h := ?r267) | (refine Mem.tkY 18 ?v267 (hy := Or.inl ⟨by rfl, ?y267⟩) (hS := by assumption) (h := ?r267); case y267 => (intro w hSw; clear hSw; go_simp; try with_reducible rfl))
            case' r267 => skip
            try simp only [List.getElem_toArray, List.getElem_cons_succ, List.getElem_cons_zero, Act.put, List.setIfInBounds_toArray, List.set_cons_zero, List.set_cons_succ]
            first | refine Mem.tkY 19 undef (hy := Or.inr ⟨by rfl, rfl⟩) (hS := by assumption) (h := ?r268) | (refine Mem.tkY 19 ?v268 (hy := Or.inl ⟨by rfl, ?y268⟩) (hS := by assumption) (h := ?r268); case y268 => (intro w hSw; clear hSw; go_simp; try with_reducible rfl))
            case' r268 => skip
            try simp only [List.getElem_toArray, List.getElem_cons_succ, List.getElem_cons_zero, Act.put, List.setIfInBounds_toArray, List.set_cons_zero, List.set_cons_succ]
            first | refine Mem.tkY 20 undef (hy := Or.inr ⟨by rfl, rfl⟩) (hS := by assumption) (h := ?r269) | (refine Mem.tkY 20 ?v269 (hy := Or.inl ⟨by rfl, ?y269⟩) (hS := by assumption) (h := ?r269); case y269 => (intro w hSw; obtain ⟨hT0, hT1, hT2, hT3, hT4⟩ := hCl.out w hSw; clear hSw; go_simp; try with_reducible rfl))
            case' r269 => skip
            try simp only [List.getElem_toArray, List.getElem_cons_succ, List.getElem_cons_zero, Act.put, List.setIfInBounds_toArray, List.set_cons_zero, List.set_cons_succ]
            first | refine Mem.tkY 21 undef (hy := Or.inr ⟨by rfl, rfl⟩) (hS := by assumption) (h := ?r270) | (refine Mem.tkY 21 ?v270 (hy := Or.inl ⟨by rfl, ?y270⟩) (hS := by assumption) (h := ?r270); case y270 => (intro w hSw; clear hSw; go_simp; try with_reducible rfl))
            case' r270 => skip
            try simp only [List.getElem_toArray, List.getElem_cons_succ, List.getElem_cons_zero, Act.put, List.setIfInBounds_toArray, List.set_cons_zero, List.set_cons_succ]
            first | refine Mem.tkY 22 undef (hy := Or.inr ⟨by rfl, rfl⟩) (hS := by assumption) (h := ?r271) | (refine Mem.tkY 22 ?v271 (hy := Or.inl ⟨by rfl, ?y271⟩) (hS := by assumption) (h := ?r271); case y271 => (intro w hSw; clear hSw; go_simp; try with_reducible rfl))
            case' r271 => skip
            refine Mem.tkY 23 ?v272 (hy := Or.inl ⟨by rfl, ?y272⟩) (hS := by assumption) (h := ?r272)
            case y272 => (intro w hSw; clear hSw; go_simp; try with_reducible rfl)
            case' r272 => skip
            refine Mem.tkY 24 ?v273 (hy := Or.inl ⟨by rfl, ?y273⟩) (hS := by assumption) (h := ?r273)
            case y273 => (intro w hSw; clear hSw; go_simp; try with_reducible rfl)
            case' r273 => skip
            try simp only [List.getElem_toArray, List.getElem_cons_succ, List.getElem_cons_zero, Act.put, List.setIfInBounds_toArray, List.set_cons_zero, List.set_cons_succ]
            first | refine Mem.tkY 25 undef (hy := Or.inr ⟨by rfl, rfl⟩) (hS := by assumption) (h := ?r274) | (refine Mem.tkY 25 ?v274 (hy := Or.inl ⟨by rfl, ?y274⟩) (hS := by assumption) (h := ?r274); case y274 => (intro w hSw; clear hSw; go_simp; try with_reducible rfl))
            case' r274 => skip
            try simp only [List.getElem_toArray, List.getElem_cons_succ, List.getElem_cons_zero, Act.put, List.setIfInBounds_toArray, List.set_cons_zero, List.set_cons_succ]
            first | refine Mem.tkY 26 undef (hy := Or.inr ⟨by rfl, rfl⟩) (hS := by assumption) (h := ?r275) | (refine Mem.tkY 26 ?v275 (hy := Or.inl ⟨by rfl, ?y275⟩) (hS := by assumption) (h := ?r275); case y275 => (intro w hSw; clear hSw; go_simp; try with_reducible rfl))
            case' r275 => skip
            try simp only [List.getElem_toArray, List.getElem_cons_succ, List.getElem_cons_zero, Act.put, List.setIfInBounds_toArray, List.set_cons_zero, List.set_cons_succ]
            first | refine Mem.tkY 27 undef (hy := Or.inr ⟨by rfl, rfl⟩) (hS := by assumption) (h := ?r276) | (refine Mem.tkY 27 ?v276 (hy := Or.inl ⟨by rfl, ?y276⟩) (hS := by assumption) (h := ?r276); case y276 => (intro w hSw; clear hSw; go_simp; try with_reducible rfl))
            case' r276 => skip
            try simp only [List.getElem_toArray, List.getElem_cons_succ, List.getElem_cons_zero, Act.put, List.setIfInBounds_toArray, List.set_cons_zero, List.set_cons_succ]
            first | refine Mem.tkY 28 undef (hy := Or.inr ⟨by rfl, rfl⟩) (hS := by assumption) (h := ?r277) | (refine Mem.tkY 28 ?v277 (hy := Or.inl ⟨by rfl, ?y277⟩) (hS := by assumption) (h := ?r277); case y277 => (intro w hSw; clear hSw; go_simp; try with_reducible rfl))
            case' r277 => skip
            try simp only [List.getElem_toArray, List.getElem_cons_succ, List.getElem_cons_zero, Act.put, List.setIfInBounds_toArray, List.set_cons_zero, List.set_cons_succ]
            first | refine Mem.tkY 29 undef (hy := Or.inr ⟨by rfl, rfl⟩) (hS := by assumption) (h := ?r278) | (refine Mem.tkY 29 ?v278 (hy := Or.inl ⟨by rfl, ?y278⟩) (hS := by assumption) (h := ?r278); case y278 => (intro w hSw; obtain ⟨hT0, hT1, hT2, hT3, hT4⟩ := hCl.out w hSw; clear hSw; go_simp; try with_reducible rfl))
            case' r278 => skip
            try simp only [List.getElem_toArray, List.getElem_cons_succ, List.getElem_cons_zero, Act.put, List.setIfInBounds_toArray, List.set_cons_zero, List.set_cons_succ]
            first | refine Mem.tkY 30 undef (hy := Or.inr ⟨by rfl, rfl⟩) (hS := by assumption) (h := ?r279) | (refine Mem.tkY 30 ?v279 (hy := Or.inl ⟨by rfl, ?y279⟩) (hS := by assumption) (h := ?r279); case y279 => (intro w hSw; clear hSw; go_simp; try with_reducible rfl))
            case' r279 => skip
            refine Mem.tkY 31 ?v280 (hy := Or.inl ⟨by rfl, ?y280⟩) (hS := by assumption) (h := ?r280)
            case y280 => (intro w hSw; clear hSw; go_simp; try with_reducible rfl)
            case' r280 => skip
            refine Mem.tkY 32 ?v281 (hy := Or.inl ⟨by rfl, ?y281⟩) (hS := by assumption) (h := ?r281)
            case y281 => (intro w hSw; clear hSw; go_simp; try with_reducible rfl)
            case' r281 => skip
            try simp only [List.getElem_toArray, List.getElem_cons_succ, List.getElem_cons_zero, Act.put, List.setIfInBounds_toArray, List.set_cons_zero, List.set_cons_succ]
            first | refine Mem.tkY 33 undef (hy := Or.inr ⟨by rfl, rfl⟩) (hS := by assumption) (h := ?r282) | (refine Mem.tkY 33 ?v282 (hy := Or.inl ⟨by rfl, ?y282⟩) (hS := by assumption) (h := ?r282); case y282 => (intro w hSw; clear hSw; go_simp; try with_reducible rfl))
            case' r282 => skip
            try simp only [List.getElem_toArray, List.getElem_cons_succ, List.getElem_cons_zero, Act.put, List.setIfInBounds_toArray, List.set_cons_zero, List.set_cons_succ]
            first | refine Mem.tkY 34 undef (hy := Or.inr ⟨by rfl, rfl⟩) (hS := by assumption) (h := ?r283) | (refine Mem.tkY 34 ?v283 (hy := Or.inl ⟨by rfl, ?y283⟩) (hS := by assumption) (h := ?r283); case y283 => (intro w hSw; clear hSw; go_simp; try with_reducible rfl))
            case' r283 => skip
            try simp only [List.getElem_toArray, List.getElem_cons_succ, List.getElem_cons_zero, Act.put, List.setIfInBounds_toArray, List.set_cons_zero, List.set_cons_succ]
            first | refine Mem.tkY 35 undef (hy := Or.inr ⟨by rfl, rfl⟩) (hS := by assumption) (h := ?r284) | (refine Mem.tkY 35 ?v284 (hy := Or.inl ⟨by rfl, ?y284⟩) (hS := by assumption) (h := ?r284); case y284 => (intro w hSw; clear hSw; go_simp; try with_reducible rfl))
            case' r284 => skip
            try simp only [List.getElem_toArray, List.getElem_cons_succ, List.getElem_cons_zero, Act.put, List.setIfInBounds_toArray, List.set_cons_zero, List.set_cons_succ]
            first | refine Mem.tkY 36 undef (hy := Or.inr ⟨by rfl, rfl⟩) (hS := by assumption) (h := ?r285) | (refine Mem.tkY 36 ?v285 (hy := Or.inl ⟨by rfl, ?y285⟩) (hS := by assumption) (h := ?r285); case y285 => (intro w hSw; clear hSw; go_simp; try with_reducible rfl))
            case' r285 => skip
            try simp only [List.getElem_toArray, List.getElem_cons_succ, List.getElem_cons_zero, Act.put, List.setIfInBounds_toArray, List.set_cons_zero, List.set_cons_succ]
            first | refine Mem.tkY 37 undef (hy := Or.inr ⟨by rfl, rfl⟩) (hS := by assumption) (h := ?r286) | (refine Mem.tkY 37 ?v286 (hy := Or.inl ⟨by rfl, ?y286⟩) (hS := by assumption) (h := ?r286); case y286 => (intro w hSw; obtain ⟨hT0, hT1, hT2, hT3, hT4⟩ := hCl.out w hSw; clear hSw; go_simp; try with_reducible rfl))
            case' r286 => skip
            try simp only [List.getElem_toArray, List.getElem_cons_succ, List.getElem_cons_zero, Act.put, List.setIfInBounds_toArray, List.set_cons_zero, List.set_cons_succ]
            refine wpAnyH_ready (rs := [38]) (by kernel_rfl) (by simp) ?_
            refine AllReadyH.cons rfl (fun K hK => ?_) AllReadyH.nil
            go_simp
            (refine (CC.out _).mono ?_; rintro e wb ⟨rfl, hbl⟩)
            try go_wp2_with fail
            have hSnew := Mem.bl_step hHeld hbl (by first | exact Nat.le_refl _ | omega | (simp <;> omega))
            refine hK.out _ _ ?_ (fun hHeld2 => ?_)
            · exact hSnew
            try replace hn := hn.below hbl
            clear hbl
            clear hK K hHeld hSnew
            have hHeld := hHeld2
            clear hHeld2
            try simp only [List.getElem_toArray, List.getElem_cons_succ, List.getElem_cons_zero, Act.put, List.setIfInBounds_toArray, List.set_cons_zero, List.set_cons_succ]
            first | refine Mem.tkY 39 undef (hy := Or.inr ⟨by rfl, rfl⟩) (hS := by assumption) (h := ?r287) | (refine Mem.tkY 39 ?v287 (hy := Or.inl ⟨by rfl, ?y287⟩) (hS := by assumption) (h := ?r287); case y287 => (intro w hSw; clear hSw; go_simp; try with_reducible rfl))
            case' r287 => skip
            refine Mem.tkY 40 ?v288 (hy := Or.inl ⟨by rfl, ?y288⟩) (hS := by assumption) (h := ?r288)
            case y288 => (intro w hSw; clear hSw; go_simp; try with_reducible rfl)
            case' r288 => skip
            refine Mem.tkY 41 ?v289 (hy := Or.inl ⟨by rfl, ?y289⟩) (hS := by assumption) (h := ?r289)
            case y289 => (intro w hSw; clear hSw; go_simp; try with_reducible rfl)
            case' r289 => skip
            try simp only [List.getElem_toArray, List.getElem_cons_succ, List.getElem_cons_zero, Act.put, List.setIfInBounds_toArray, List.set_cons_zero, List.set_cons_succ]
            first | refine Mem.tkY 42 undef (hy := Or.inr ⟨by rfl, rfl⟩) (hS := by assumption) (h := ?r290) | (refine Mem.tkY 42 ?v290 (hy := Or.inl ⟨by rfl, ?y290⟩) (hS := by assumption) (h := ?r290); case y290 => (intro w hSw; clear hSw; go_simp; try with_reducible rfl))
            case' r290 => skip
            try simp only [List.getElem_toArray, List.getElem_cons_succ, List.getElem_cons_zero, Act.put, List.setIfInBounds_toArray, List.set_cons_zero, List.set_cons_succ]
            first | refine Mem.tkY 43 undef (hy := Or.inr ⟨by rfl, rfl⟩) (hS := by assumption) (h := ?r291) | (refine Mem.tkY 43 ?v291 (hy := Or.inl ⟨by rfl, ?y291⟩) (hS := by assumption) (h := ?r291); case y291 => (intro w hSw; clear hSw; go_simp; try with_reducible rfl))
            case' r291 => skip
            try simp only [List.getElem_toArray, List.getElem_cons_succ, List.getElem_cons_zero, Act.put, List.setIfInBounds_toArray, List.set_cons_zero, List.set_cons_succ]
            first | refine Mem.tkY 44 undef (hy := Or.inr ⟨by rfl, rfl⟩) (hS := by assumption) (h := ?r292) | (refine Mem.tkY 44 ?v292 (hy := Or.inl ⟨by rfl, ?y292⟩) (hS := by assumption) (h := ?r292); case y292 => (intro w hSw; clear hSw; go_simp; try with_reducible rfl))
            case' r292 => skip
            try simp only [List.getElem_toArray, List.getElem_cons_succ, List.getElem_cons_zero, Act.put, List.setIfInBounds_toArray, List.set_cons_zero, List.set_cons_succ]
            first | refine Mem.tkY 45 undef (hy := Or.inr ⟨by rfl, rfl⟩) (hS := by assumption) (h := ?r293) | (refine Mem.tkY 45 ?v293 (hy := Or.inl ⟨by rfl, ?y293⟩) (hS := by assumption) (h := ?r293); case y293 => (intro w hSw; clear hSw; go_simp; try with_reducible rfl))
            case' r293 => skip
            try simp only [List.getElem_toArray, List.getElem_cons_succ, List.getElem_cons_zero, Act.put, List.setIfInBounds_toArray, List.set_cons_zero, List.set_cons_succ]
            first | refine Mem.tkY 46 undef (hy := Or.inr ⟨by rfl, rfl⟩) (hS := by assumption) (h := ?r294) | (refine Mem.tkY 46 ?v294 (hy := Or.inl ⟨by rfl, ?y294⟩) (hS := by assumption) (h := ?r294); case y294 => (intro w hSw; obtain ⟨hT0, hT1, hT2, hT3, hT4⟩ := hCl.out w hSw; clear hSw; go_simp; try with_reducible rfl))
            case' r294 => skip
            try simp only [List.getElem_toArray, List.getElem_cons_succ, List.getElem_cons_zero, Act.put, List.setIfInBounds_toArray, List.set_cons_zero, List.set_cons_succ]
            first | refine Mem.tkY 47 undef (hy := Or.inr ⟨by rfl, rfl⟩) (hS := by assumption) (h := ?r295) | (refine Mem.tkY 47 ?v295 (hy := Or.inl ⟨by rfl, ?y295⟩) (hS := by assumption) (h := ?r295); case y295 => (intro w hSw; clear hSw; go_simp; try with_reducible rfl))
            case' r295 => skip
            try simp only [List.getElem_toArray, List.getElem_cons_succ, List.getElem_cons_zero, Act.put, List.setIfInBounds_toArray, List.set_cons_zero, List.set_cons_succ]
            first | refine Mem.tkY 48 undef (hy := Or.inr ⟨by rfl, rfl⟩) (hS := by assumption) (h := ?r296) | (refine Mem.tkY 48 ?v296 (hy := Or.inl ⟨by rfl, ?y296⟩) (hS := by assumption) (h := ?r296); case y296 => (intro w hSw; clear hSw; go_simp; try with_reducible rfl))
            case' r296 => skip
            try simp only [List.getElem_toArray, List.getElem_cons_succ, List.getElem_cons_zero, Act.put, List.setIfInBounds_toArray, List.set_cons_zero, List.set_cons_succ]
            first | refine Mem.tkY 49 undef (hy := Or.inr ⟨by rfl, rfl⟩) (hS := by assumption) (h := ?r297) | (refine Mem.tkY 49 ?v297 (hy := Or.inl ⟨by rfl, ?y297⟩) (hS := by assumption) (h := ?r297); case y297 => (intro w hSw; clear hSw; go_simp; try with_reducible rfl))
            case' r297 => skip
            try simp only [List.getElem_toArray, List.getElem_cons_succ, List.getElem_cons_zero, Act.put, List.setIfInBounds_toArray, List.set_cons_zero, List.set_cons_succ]
            first | refine Mem.tkY 50 undef (hy := Or.inr ⟨by rfl, rfl⟩) (hS := by assumption) (h := ?r298) | (refine Mem.tkY 50 ?v298 (hy := Or.inl ⟨by rfl, ?y298⟩) (hS := by assumption) (h := ?r298); case y298 => (intro w hSw; clear hSw; go_simp; try with_reducible rfl))
            case' r298 => skip
            try simp only [List.getElem_toArray, List.getElem_cons_succ, List.getElem_cons_zero, Act.put, List.setIfInBounds_toArray, List.set_cons_zero, List.set_cons_succ]
            first | refine Mem.tkY 51 undef (hy := Or.inr ⟨by rfl, rfl⟩) (hS := by assumption) (h := ?r299) | (refine Mem.tkY 51 ?v299 (hy := Or.inl ⟨by rfl, ?y299⟩) (hS := by assumption) (h := ?r299); case y299 => (intro w hSw; obtain ⟨hT0, hT1, hT2, hT3, hT4⟩ := hCl.out w hSw; clear hSw; go_simp; try with_reducible rfl))
            case' r299 => skip
            try simp only [List.getElem_toArray, List.getElem_cons_succ, List.getElem_cons_zero, Act.put, List.setIfInBounds_toArray, List.set_cons_zero, List.set_cons_succ]
            refine wpAnyH_ready (rs := [52]) (by kernel_rfl) (by simp) ?_
            refine AllReadyH.cons rfl (fun K hK => ?_) AllReadyH.nil
            go_simp
            (refine (CR.out _ hn).mono ?_; rintro e wb ⟨rfl, hbl⟩)
            try go_wp2_with fail
            have hSnew := Mem.bl_step hHeld hbl (by first | exact Nat.le_refl _ | omega | (simp <;> omega))
            refine hK.out _ _ ?_ (fun hHeld2 => ?_)
            · exact hSnew
            try replace hn := hn.below hbl
            clear hbl
            clear hK K hHeld hSnew
            have hHeld := hHeld2
            clear hHeld2
            try simp only [List.getElem_toArray, List.getElem_cons_succ, List.getElem_cons_zero, Act.put, List.setIfInBounds_toArray, List.set_cons_zero, List.set_cons_succ]
            first | refine Mem.tkY 53 undef (hy := Or.inr ⟨by rfl, rfl⟩) (hS := by assumption) (h := ?r300) | (refine Mem.tkY 53 ?v300 (hy := Or.inl ⟨by rfl, ?y300⟩) (hS := by assumption) (h := ?r300); case y300 => (intro w hSw; clear hSw; go_simp; try with_reducible rfl))
            case' r300 => skip
            refine Mem.tkY 54 ?v301 (hy := Or.inl ⟨by rfl, ?y301⟩) (hS := by assumption) (h := ?r301)
            case y301 => (intro w hSw; clear hSw; go_simp; try with_reducible rfl)
            case' r301 => skip
            try simp only [List.getElem_toArray, List.getElem_cons_succ, List.getElem_cons_zero, Act.put, List.setIfInBounds_toArray, List.set_cons_zero, List.set_cons_succ]
            refine wpAnyH_done (by kernel_rfl) ?_ _
            clear hCl
            go_wp2_with fail
            go_roundw
            case rel => exact ⟨k + 1, x.id, by omega, by go_num, HV, by have := X2.out; omega, .inr ⟨by omega, by rw [Nat.add_sub_cancel, HX.out]; rfl⟩, hbr.trans (((Below.refl _ _).drew.trans hHeld).mono hbr.size)⟩
            case measure => simp [intOf]; omega
      · obtain ⟨j, rfl⟩ : ∃ j, k = j + 1 := ⟨k - 1, by omega⟩
        have hjl : j < xs.length := by omega
        rw [Nat.add_sub_cancel, List.getElem?_eq_getElem hjl] at hw
        injection hw with hw
        simp only at hw
        obtain ⟨_, _, _, _, hat1⟩ := ch_at hx j hjl
        have e5 : wr.drew.cell? ⟨g, o + j * 5, none⟩ = some (.int .i64 xs[j].id) := (hat1.below hbr).v0
        rw [hw] at e5
        clear hat1 hw hk0
        have hj0 : (0 : Int) ≤ (j : Int) + 1 := by omega
        have hwj : IntKind.i64.wrap (j : Int) = (j : Int) := by rw [IntKind.wrap_i64]; omega
        have hjA : (0 : Int) ≤ (j : Int) := by omega
        have hjB : (j : Int) < (xs.length : Int) := by omega
        by_cases h3 : x.id < 1
        · rw [mayF_id (by omega)] at hv
          have HV := Lib.hid hv
          have d1 : decide (x.id < 1) = true := decide_eq_true h3
          clear hv h3
          go_wp2_with fail
          refine wp_region_held_drew (S := Go.RowKit.Below ((wr.drew).heap.size) (wr.drew)) (by kernel_rfl) ?hb306 (fun hHeld => ?rest306)
          case hb306 =>
            exact Go.RowKit.Below.refl _ _
          case' rest306 => skip
          have hCl := fun (wS : World) (hSw : Go.RowKit.Below ((wr.drew).heap.size) (wr.drew) wS) => And.intro (Mem.bl_cell hSw e0 (by first | omega | (dsimp only; omega) | exact World.block_lt_of_cell? _ _ e0 | (simp <;> omega))) <| And.intro (Mem.bl_cell hSw e1 (by first | omega | (dsimp only; omega) | exact World.block_lt_of_cell? _ _ e1 | (simp <;> omega))) <| And.intro (Mem.bl_cell hSw e2 (by first | omega | (dsimp only; omega) | exact World.block_lt_of_cell? _ _ e2 | (simp <;> omega))) <| And.intro (Mem.bl_cell hSw e3 (by first | omega | (dsimp only; omega) | exact World.block_lt_of_cell? _ _ e3 | (simp <;> omega))) <| And.intro (Mem.bl_cell hSw e4 (by first | omega | (dsimp only; omega) | exact World.block_lt_of_cell? _ _ e4 | (simp <;> omega))) <| Mem.bl_cell hSw e5 (by first | omega | (dsimp only; omega) | exact World.block_lt_of_cell? _ _ e5 | (simp <;> omega))
          replace hCl := Go.Lib.hid hCl
          refine Mem.tkY 0 ?v307 (hy := Or.inl ⟨by rfl, ?y307⟩) (hS := by assumption) (h := ?r307)
          case y307 => (intro w hSw; clear hSw; go_simp; try with_reducible rfl)
          case' r307 => skip
          refine Mem.tkY 1 ?v308 (hy := Or.inl ⟨by rfl, ?y308⟩) (hS := by assumption) (h := ?r308)
          case y308 => (intro w hSw; clear hSw; go_simp; try with_reducible rfl)
          case' r308 => skip
          refine Mem.tkY 2 ?v309 (hy := Or.inl ⟨by rfl, ?y309⟩) (hS := by assumption) (h := ?r309)
          case y309 => (intro w hSw; clear hSw; go_simp; try with_reducible rfl)
          case' r309 => skip
          try simp only [List.getElem_toArray, List.getElem_cons_succ, List.getElem_cons_zero, Act.put, List.setIfInBounds_toArray, List.set_cons_zero, List.set_cons_succ]
          refine Mem.tkY 3 ?v310 (hy := Or.inl ⟨by rfl, ?y310⟩) (hS := by assumption) (h := ?r310)
          case y310 => (intro w hSw; clear hSw; go_simp; try with_reducible rfl)
          case' r310 => skip
          refine Mem.tkY 4 ?v311 (hy := Or.inl ⟨by rfl, ?y311⟩) (hS := by assumption) (h := ?r311)
          case y311 => (intro w hSw; obtain ⟨hT0, hT1, hT2, hT3, hT4, hT5⟩ := hCl.out w hSw; clear hSw; go_simp; try with_reducible rfl)
          case' r311 => skip
          refine Mem.tkY 5 ?v312 (hy := Or.inl ⟨by rfl, ?y312⟩) (hS := by assumption) (h := ?r312)
          case y312 => (intro w hSw; clear hSw; go_simp; try with_reducible rfl)
          case' r312 => skip
          try simp only [List.getElem_toArray, List.getElem_cons_succ, List.getElem_cons_zero, Act.put, List.setIfInBounds_toArray, List.set_cons_zero, List.set_cons_succ]
          refine Mem.tkY 6 ?v313 (hy := Or.inl ⟨by rfl, ?y313⟩) (hS := by assumption) (h := ?r313)
          case y313 => (intro w hSw; clear hSw; go_simp; try with_reducible rfl)
          case' r313 => skip
          try simp only [List.getElem_toArray, List.getElem_cons_succ, List.getElem_cons_zero, Act.put, List.setIfInBounds_toArray, List.set_cons_zero, List.set_cons_succ]
          first | refine Mem.tkY 7 undef (hy := Or.inr ⟨by rfl, rfl⟩) (hS := by assumption) (h := ?r314) | (refine Mem.tkY 7 ?v314 (hy := Or.inl ⟨by rfl, ?y314⟩) (hS := by assumption) (h := ?r314); case y314 => (intro w hSw; clear hSw; go_simp; try with_reducible rfl))
          case' r314 => skip
          try simp only [List.getElem_toArray, List.getElem_cons_succ, List.getElem_cons_zero, Act.put, List.setIfInBounds_toArray, List.set_cons_zero, List.set_cons_succ]
          first | refine Mem.tkY 8 undef (hy := Or.inr ⟨by rfl, rfl⟩) (hS := by assumption) (h := ?r315) | (refine Mem.tkY 8 ?v315 (hy := Or.inl ⟨by rfl, ?y315⟩) (hS := by assumption) (h := ?r315); case y315 => (intro w hSw; clear hSw; go_simp; try with_reducible rfl))
          case' r315 => skip
          try simp only [List.getElem_toArray, List.getElem_cons_succ, List.getElem_cons_zero, Act.put, List.setIfInBounds_toArray, List.set_cons_zero, List.set_cons_succ]
          first | refine Mem.tkY 9 undef (hy := Or.inr ⟨by rfl, rfl⟩) (hS := by assumption) (h := ?r316) | (refine Mem.tkY 9 ?v316 (hy := Or.inl ⟨by rfl, ?y316⟩) (hS := by assumption) (h := ?r316); case y316 => (intro w hSw; clear hSw; go_simp; try with_reducible rfl))
          case' r316 => skip
          try simp only [List.getElem_toArray, List.getElem_cons_succ, List.getElem_cons_zero, Act.put, List.setIfInBounds_toArray, List.set_cons_zero, List.set_cons_succ]
          first | refine Mem.tkY 10 undef (hy := Or.inr ⟨by rfl, rfl⟩) (hS := by assumption) (h := ?r317) | (refine Mem.tkY 10 ?v317 (hy := Or.inl ⟨by rfl, ?y317⟩) (hS := by assumption) (h := ?r317); case y317 => (intro w hSw; clear hSw; go_simp; try with_reducible rfl))
          case' r317 => skip
          try simp only [List.getElem_toArray, List.getElem_cons_succ, List.getElem_cons_zero, Act.put, List.setIfInBounds_toArray, List.set_cons_zero, List.set_cons_succ]
          first | refine Mem.tkY 11 undef (hy := Or.inr ⟨by rfl, rfl⟩) (hS := by assumption) (h := ?r318) | (refine Mem.tkY 11 ?v318 (hy := Or.inl ⟨by rfl, ?y318⟩) (hS := by assumption) (h := ?r318); case y318 => (intro w hSw; clear hSw; go_simp; try with_reducible rfl))
          case' r318 => skip
          try simp only [List.getElem_toArray, List.getElem_cons_succ, List.getElem_cons_zero, Act.put, List.setIfInBounds_toArray, List.set_cons_zero, List.set_cons_succ]
          first | refine Mem.tkY 12 undef (hy := Or.inr ⟨by rfl, rfl⟩) (hS := by assumption) (h := ?r319) | (refine Mem.tkY 12 ?v319 (hy := Or.inl ⟨by rfl, ?y319⟩) (hS := by assumption) (h := ?r319); case y319 => (intro w hSw; clear hSw; go_simp; try with_reducible rfl))
          case' r319 => skip
          try simp only [List.getElem_toArray, List.getElem_cons_succ, List.getElem_cons_zero, Act.put, List.setIfInBounds_toArray, List.set_cons_zero, List.set_cons_succ]
          first | refine Mem.tkY 13 undef (hy := Or.inr ⟨by rfl, rfl⟩) (hS := by assumption) (h := ?r320) | (refine Mem.tkY 13 ?v320 (hy := Or.inl ⟨by rfl, ?y320⟩) (hS := by assumption) (h := ?r320); case y320 => (intro w hSw; clear hSw; go_simp; try with_reducible rfl))
          case' r320 => skip
          try simp only [List.getElem_toArray, List.getElem_cons_succ, List.getElem_cons_zero, Act.put, List.setIfInBounds_toArray, List.set_cons_zero, List.set_cons_succ]
          first | refine Mem.tkY 14 undef (hy := Or.inr ⟨by rfl, rfl⟩) (hS := by assumption) (h := ?r321) | (refine Mem.tkY 14 ?v321 (hy := Or.inl ⟨by rfl, ?y321⟩) (hS := by assumption) (h := ?r321); case y321 => (intro w hSw; obtain ⟨hT0, hT1, hT2, hT3, hT4, hT5⟩ := hCl.out w hSw; clear hSw; go_simp; try with_reducible rfl))
          case' r321 => skip
          try simp only [List.getElem_toArray, List.getElem_cons_succ, List.getElem_cons_zero, Act.put, List.setIfInBounds_toArray, List.set_cons_zero, List.set_cons_succ]
          first | refine Mem.tkY 15 undef (hy := Or.inr ⟨by rfl, rfl⟩) (hS := by assumption) (h := ?r322) | (refine Mem.tkY 15 ?v322 (hy := Or.inl ⟨by rfl, ?y322⟩) (hS := by assumption) (h := ?r322); case y322 => (intro w hSw; clear hSw; go_simp; try with_reducible rfl))
          case' r322 => skip
          try simp only [List.getElem_toArray, List.getElem_cons_succ, List.getElem_cons_zero, Act.put, List.setIfInBounds_toArray, List.set_cons_zero, List.set_cons_succ]
          first | refine Mem.tkY 16 undef (hy := Or.inr ⟨by rfl, rfl⟩) (hS := by assumption) (h := ?r323) | (refine Mem.tkY 16 ?v323 (hy := Or.inl ⟨by rfl, ?y323⟩) (hS := by assumption) (h := ?r323); case y323 => (intro w hSw; clear hSw; go_simp; try with_reducible rfl))
          case' r323 => skip
          try simp only [List.getElem_toArray, List.getElem_cons_succ, List.getElem_cons_zero, Act.put, List.setIfInBounds_toArray, List.set_cons_zero, List.set_cons_succ]
          first | refine Mem.tkY 17 undef (hy := Or.inr ⟨by rfl, rfl⟩) (hS := by assumption) (h := ?r324) | (refine Mem.tkY 17 ?v324 (hy := Or.inl ⟨by rfl, ?y324⟩) (hS := by assumption) (h := ?r324); case y324 => (intro w hSw; clear hSw; go_simp; try with_reducible rfl))
          case' r324 => skip
          try simp only [List.getElem_toArray, List.getElem_cons_succ, List.getElem_cons_zero, Act.put, List.setIfInBounds_toArray, List.set_cons_zero, List.set_cons_succ]
          first | refine Mem.tkY 18 undef (hy := Or.inr ⟨by rfl, rfl⟩) (hS := by assumption) (h := ?r325) | (refine Mem.tkY 18 ?v325 (hy := Or.inl ⟨by rfl, ?y325⟩) (hS := by assumption) (h := ?r325); case y325 => (intro w hSw; clear hSw; go_simp; try with_reducible rfl))
          case' r325 => skip
          try simp only [List.getElem_toArray, List.getElem_cons_succ, List.getElem_cons_zero, Act.put, List.setIfInBounds_toArray, List.set_cons_zero, List.set_cons_succ]
          first | refine Mem.tkY 19 undef (hy := Or.inr ⟨by rfl, rfl⟩) (hS := by assumption) (h := ?r326) | (refine Mem.tkY 19 ?v326 (hy := Or.inl ⟨by rfl, ?y326⟩) (hS := by assumption) (h := ?r326); case y326 => (intro w hSw; clear hSw; go_simp; try with_reducible rfl))
          case' r326 => skip
          try simp only [List.getElem_toArray, List.getElem_cons_succ, List.getElem_cons_zero, Act.put, List.setIfInBounds_toArray, List.set_cons_zero, List.set_cons_succ]
          first | refine Mem.tkY 20 undef (hy := Or.inr ⟨by rfl, rfl⟩) (hS := by assumption) (h := ?r327) | (refine Mem.tkY 20 ?v327 (hy := Or.inl ⟨by rfl, ?y327⟩) (hS := by assumption) (h := ?r327); case y327 => (intro w hSw; obtain ⟨hT0, hT1, hT2, hT3, hT4, hT5⟩ := hCl.out w hSw; clear hSw; go_simp; try with_reducible rfl))
          case' r327 => skip
          try simp only [List.getElem_toArray, List.getElem_cons_succ, List.getElem_cons_zero, Act.put, List.setIfInBounds_toArray, List.set_cons_zero, List.set_cons_succ]
          first | refine Mem.tkY 21 undef (hy := Or.inr ⟨by rfl, rfl⟩) (hS := by assumption) (h := ?r328) | (refine Mem.tkY 21 ?v328 (hy := Or.inl ⟨by rfl, ?y328⟩) (hS := by assumption) (h := ?r328); case y328 => (intro w hSw; clear hSw; go_simp; try with_reducible rfl))
          case' r328 => skip
          try simp only [List.getElem_toArray, List.getElem_cons_succ, List.getElem_cons_zero, Act.put, List.setIfInBounds_toArray, List.set_cons_zero, List.set_cons_succ]
          first | refine Mem.tkY 22 undef (hy := Or.inr ⟨by rfl, rfl⟩) (hS := by assumption) (h := ?r329) | (refine Mem.tkY 22 ?v329 (hy := Or.inl ⟨by rfl, ?y329⟩) (hS := by assumption) (h := ?r329); case y329 => (intro w hSw; clear hSw; go_simp; try with_reducible rfl))
          case' r329 => skip
          refine Mem.tkY 23 ?v330 (hy := Or.inl ⟨by rfl, ?y330⟩) (hS := by assumption) (h := ?r330)
          case y330 => (intro w hSw; clear hSw; go_simp; try with_reducible rfl)
          case' r330 => skip
          refine Mem.tkY 24 ?v331 (hy := Or.inl ⟨by rfl, ?y331⟩) (hS := by assumption) (h := ?r331)
          case y331 => (intro w hSw; clear hSw; go_simp; try with_reducible rfl)
          case' r331 => skip
          try simp only [List.getElem_toArray, List.getElem_cons_succ, List.getElem_cons_zero, Act.put, List.setIfInBounds_toArray, List.set_cons_zero, List.set_cons_succ]
          first | refine Mem.tkY 25 undef (hy := Or.inr ⟨by rfl, rfl⟩) (hS := by assumption) (h := ?r332) | (refine Mem.tkY 25 ?v332 (hy := Or.inl ⟨by rfl, ?y332⟩) (hS := by assumption) (h := ?r332); case y332 => (intro w hSw; clear hSw; go_simp; try with_reducible rfl))
          case' r332 => skip
          try simp only [List.getElem_toArray, List.getElem_cons_succ, List.getElem_cons_zero, Act.put, List.setIfInBounds_toArray, List.set_cons_zero, List.set_cons_succ]
          first | refine Mem.tkY 26 undef (hy := Or.inr ⟨by rfl, rfl⟩) (hS := by assumption) (h := ?r333) | (refine Mem.tkY 26 ?v333 (hy := Or.inl ⟨by rfl, ?y333⟩) (hS := by assumption) (h := ?r333); case y333 => (intro w hSw; clear hSw; go_simp; try with_reducible rfl))
          case' r333 => skip
          try simp only [List.getElem_toArray, List.getElem_cons_succ, List.getElem_cons_zero, Act.put, List.setIfInBounds_toArray, List.set_cons_zero, List.set_cons_succ]
          first | refine Mem.tkY 27 undef (hy := Or.inr ⟨by rfl, rfl⟩) (hS := by assumption) (h := ?r334) | (refine Mem.tkY 27 ?v334 (hy := Or.inl ⟨by rfl, ?y334⟩) (hS := by assumption) (h := ?r334); case y334 => (intro w hSw; clear hSw; go_simp; try with_reducible rfl))
          case' r334 => skip
          try simp only [List.getElem_toArray, List.getElem_cons_succ, List.getElem_cons_zero, Act.put, List.setIfInBounds_toArray, List.set_cons_zero, List.set_cons_succ]
          first | refine Mem.tkY 28 undef (hy := Or.inr ⟨by rfl, rfl⟩) (hS := by assumption) (h := ?r335) | (refine Mem.tkY 28 ?v335 (hy := Or.inl ⟨by rfl, ?y335⟩) (hS := by assumption) (h := ?r335); case y335 => (intro w hSw; clear hSw; go_simp; try with_reducible rfl))
          case' r335 => skip
          try simp only [List.getElem_toArray, List.getElem_cons_succ, List.getElem_cons_zero, Act.put, List.setIfInBounds_toArray, List.set_cons_zero, List.set_cons_succ]
          first | refine Mem.tkY 29 undef (hy := Or.inr ⟨by rfl, rfl⟩) (hS := by assumption) (h := ?r336) | (refine Mem.tkY 29 ?v336 (hy := Or.inl ⟨by rfl, ?y336⟩) (hS := by assumption) (h := ?r336); case y336 => (intro w hSw; obtain ⟨hT0, hT1, hT2, hT3, hT4, hT5⟩ := hCl.out w hSw; clear hSw; go_simp; try with_reducible rfl))
          case' r336 => skip
          try simp only [List.getElem_toArray, List.getElem_cons_succ, List.getElem_cons_zero, Act.put, List.setIfInBounds_toArray, List.set_cons_zero, List.set_cons_succ]
          first | refine Mem.tkY 30 undef (hy := Or.inr ⟨by rfl, rfl⟩) (hS := by assumption) (h := ?r337) | (refine Mem.tkY 30 ?v337 (hy := Or.inl ⟨by rfl, ?y337⟩) (hS := by assumption) (h := ?r337); case y337 => (intro w hSw; clear hSw; go_simp; try with_reducible rfl))
          case' r337 => skip
          refine Mem.tkY 31 ?v338 (hy := Or.inl ⟨by rfl, ?y338⟩) (hS := by assumption) (h := ?r338)
          case y338 => (intro w hSw; clear hSw; go_simp; try with_reducible rfl)
          case' r338 => skip
          refine Mem.tkY 32 ?v339 (hy := Or.inl ⟨by rfl, ?y339⟩) (hS := by assumption) (h := ?r339)
          case y339 => (intro w hSw; clear hSw; go_simp; try with_reducible rfl)
          case' r339 => skip
          try simp only [List.getElem_toArray, List.getElem_cons_succ, List.getElem_cons_zero, Act.put, List.setIfInBounds_toArray, List.set_cons_zero, List.set_cons_succ]
          first | refine Mem.tkY 33 undef (hy := Or.inr ⟨by rfl, rfl⟩) (hS := by assumption) (h := ?r340) | (refine Mem.tkY 33 ?v340 (hy := Or.inl ⟨by rfl, ?y340⟩) (hS := by assumption) (h := ?r340); case y340 => (intro w hSw; clear hSw; go_simp; try with_reducible rfl))
          case' r340 => skip
          try simp only [List.getElem_toArray, List.getElem_cons_succ, List.getElem_cons_zero, Act.put, List.setIfInBounds_toArray, List.set_cons_zero, List.set_cons_succ]
          first | refine Mem.tkY 34 undef (hy := Or.inr ⟨by rfl, rfl⟩) (hS := by assumption) (h := ?r341) | (refine Mem.tkY 34 ?v341 (hy := Or.inl ⟨by rfl, ?y341⟩) (hS := by assumption) (h := ?r341); case y341 => (intro w hSw; clear hSw; go_simp; try with_reducible rfl))
          case' r341 => skip
          try simp only [List.getElem_toArray, List.getElem_cons_succ, List.getElem_cons_zero, Act.put, List.setIfInBounds_toArray, List.set_cons_zero, List.set_cons_succ]
          first | refine Mem.tkY 35 undef (hy := Or.inr ⟨by rfl, rfl⟩) (hS := by assumption) (h := ?r342) | (refine Mem.tkY 35 ?v342 (hy := Or.inl ⟨by rfl, ?y342⟩) (hS := by assumption) (h := ?r342); case y342 => (intro w hSw; clear hSw; go_simp; try with_reducible rfl))
          case' r342 => skip
          try simp only [List.getElem_toArray, List.getElem_cons_succ, List.getElem_cons_zero, Act.put, List.setIfInBounds_toArray, List.set_cons_zero, List.set_cons_succ]
          first | refine Mem.tkY 36 undef (hy := Or.inr ⟨by rfl, rfl⟩) (hS := by assumption) (h := ?r343) | (refine Mem.tkY 36 ?v343 (hy := Or.inl ⟨by rfl, ?y343⟩) (hS := by assumption) (h := ?r343); case y343 => (intro w hSw; clear hSw; go_simp; try with_reducible rfl))
          case' r343 => skip
          try simp only [List.getElem_toArray, List.getElem_cons_succ, List.getElem_cons_zero, Act.put, List.setIfInBounds_toArray, List.set_cons_zero, List.set_cons_succ]
          first | refine Mem.tkY 37 undef (hy := Or.inr ⟨by rfl, rfl⟩) (hS := by assumption) (h := ?r344) | (refine Mem.tkY 37 ?v344 (hy := Or.inl ⟨by rfl, ?y344⟩) (hS := by assumption) (h := ?r344); case y344 => (intro w hSw; obtain ⟨hT0, hT1, hT2, hT3, hT4, hT5⟩ := hCl.out w hSw; clear hSw; go_simp; try with_reducible rfl))
          case' r344 => skip
          try simp only [List.getElem_toArray, List.getElem_cons_succ, List.getElem_cons_zero, Act.put, List.setIfInBounds_toArray, List.set_cons_zero, List.set_cons_succ]
          first | refine Mem.tkY 38 undef (hy := Or.inr ⟨by rfl, rfl⟩) (hS := by assumption) (h := ?r345) | (refine Mem.tkY 38 ?v345 (hy := Or.inl ⟨by rfl, ?y345⟩) (hS := by assumption) (h := ?r345); case y345 => (intro w hSw; clear hSw; go_simp; try with_reducible rfl))
          case' r345 => skip
          try simp only [List.getElem_toArray, List.getElem_cons_succ, List.getElem_cons_zero, Act.put, List.setIfInBounds_toArray, List.set_cons_zero, List.set_cons_succ]
          first | refine Mem.tkY 39 undef (hy := Or.inr ⟨by rfl, rfl⟩) (hS := by assumption) (h := ?r346) | (refine Mem.tkY 39 ?v346 (hy := Or.inl ⟨by rfl, ?y346⟩) (hS := by assumption) (h := ?r346); case y346 => (intro w hSw; clear hSw; go_simp; try with_reducible rfl))
          case' r346 => skip
          refine Mem.tkY 40 ?v347 (hy := Or.inl ⟨by rfl, ?y347⟩) (hS := by assumption) (h := ?r347)
          case y347 => (intro w hSw; clear hSw; go_simp; try with_reducible rfl)
          case' r347 => skip
          refine Mem.tkY 41 ?v348 (hy := Or.inl ⟨by rfl, ?y348⟩) (hS := by assumption) (h := ?r348)
          case y348 => (intro w hSw; clear hSw; go_simp; try with_reducible rfl)
          case' r348 => skip
          try simp only [List.getElem_toArray, List.getElem_cons_succ, List.getElem_cons_zero, Act.put, List.setIfInBounds_toArray, List.set_cons_zero, List.set_cons_succ]
          first | refine Mem.tkY 42 undef (hy := Or.inr ⟨by rfl, rfl⟩) (hS := by assumption) (h := ?r349) | (refine Mem.tkY 42 ?v349 (hy := Or.inl ⟨by rfl, ?y349⟩) (hS := by assumption) (h := ?r349); case y349 => (intro w hSw; clear hSw; go_simp; try with_reducible rfl))
          case' r349 => skip
          try simp only [List.getElem_toArray, List.getElem_cons_succ, List.getElem_cons_zero, Act.put, List.setIfInBounds_toArray, List.set_cons_zero, List.set_cons_succ]
          first | refine Mem.tkY 43 undef (hy := Or.inr ⟨by rfl, rfl⟩) (hS := by assumption) (h := ?r350) | (refine Mem.tkY 43 ?v350 (hy := Or.inl ⟨by rfl, ?y350⟩) (hS := by assumption) (h := ?r350); case y350 => (intro w hSw; clear hSw; go_simp; try with_reducible rfl))
          case' r350 => skip
          try simp only [List.getElem_toArray, List.getElem_cons_succ, List.getElem_cons_zero, Act.put, List.setIfInBounds_toArray, List.set_cons_zero, List.set_cons_succ]
          first | refine Mem.tkY 44 undef (hy := Or.inr ⟨by rfl, rfl⟩) (hS := by assumption) (h := ?r351) | (refine Mem.tkY 44 ?v351 (hy := Or.inl ⟨by rfl, ?y351⟩) (hS := by assumption) (h := ?r351); case y351 => (intro w hSw; clear hSw; go_simp; try with_reducible rfl))
          case' r351 => skip
          try simp only [List.getElem_toArray, List.getElem_cons_succ, List.getElem_cons_zero, Act.put, List.setIfInBounds_toArray, List.set_cons_zero, List.set_cons_succ]
          first | refine Mem.tkY 45 undef (hy := Or.inr ⟨by rfl, rfl⟩) (hS := by assumption) (h := ?r352) | (refine Mem.tkY 45 ?v352 (hy := Or.inl ⟨by rfl, ?y352⟩) (hS := by assumption) (h := ?r352); case y352 => (intro w hSw; clear hSw; go_simp; try with_reducible rfl))
          case' r352 => skip
          try simp only [List.getElem_toArray, List.getElem_cons_succ, List.getElem_cons_zero, Act.put, List.setIfInBounds_toArray, List.set_cons_zero, List.set_cons_succ]
          first | refine Mem.tkY 46 undef (hy := Or.inr ⟨by rfl, rfl⟩) (hS := by assumption) (h := ?r353) | (refine Mem.tkY 46 ?v353 (hy := Or.inl ⟨by rfl, ?y353⟩) (hS := by assumption) (h := ?r353); case y353 => (intro w hSw; obtain ⟨hT0, hT1, hT2, hT3, hT4, hT5⟩ := hCl.out w hSw; clear hSw; go_simp; try with_reducible rfl))
          case' r353 => skip
          try simp only [List.getElem_toArray, List.getElem_cons_succ, List.getElem_cons_zero, Act.put, List.setIfInBounds_toArray, List.set_cons_zero, List.set_cons_succ]
          first | refine Mem.tkY 47 undef (hy := Or.inr ⟨by rfl, rfl⟩) (hS := by assumption) (h := ?r354) | (refine Mem.tkY 47 ?v354 (hy := Or.inl ⟨by rfl, ?y354⟩) (hS := by assumption) (h := ?r354); case y354 => (intro w hSw; clear hSw; go_simp; try with_reducible rfl))
          case' r354 => skip
          try simp only [List.getElem_toArray, List.getElem_cons_succ, List.getElem_cons_zero, Act.put, List.setIfInBounds_toArray, List.set_cons_zero, List.set_cons_succ]
          first | refine Mem.tkY 48 undef (hy := Or.inr ⟨by rfl, rfl⟩) (hS := by assumption) (h := ?r355) | (refine Mem.tkY 48 ?v355 (hy := Or.inl ⟨by rfl, ?y355⟩) (hS := by assumption) (h := ?r355); case y355 => (intro w hSw; clear hSw; go_simp; try with_reducible rfl))
          case' r355 => skip
          try simp only [List.getElem_toArray, List.getElem_cons_succ, List.getElem_cons_zero, Act.put, List.setIfInBounds_toArray, List.set_cons_zero, List.set_cons_succ]
          first | refine Mem.tkY 49 undef (hy := Or.inr ⟨by rfl, rfl⟩) (hS := by assumption) (h := ?r356) | (refine Mem.tkY 49 ?v356 (hy := Or.inl ⟨by rfl, ?y356⟩) (hS := by assumption) (h := ?r356); case y356 => (intro w hSw; clear hSw; go_simp; try with_reducible rfl))
          case' r356 => skip
          try simp only [List.getElem_toArray, List.getElem_cons_succ, List.getElem_cons_zero, Act.put, List.setIfInBounds_toArray, List.set_cons_zero, List.set_cons_succ]
          first | refine Mem.tkY 50 undef (hy := Or.inr ⟨by rfl, rfl⟩) (hS := by assumption) (h := ?r357) | (refine Mem.tkY 50 ?v357 (hy := Or.inl ⟨by rfl, ?y357⟩) (hS := by assumption) (h := ?r357); case y357 => (intro w hSw; clear hSw; go_simp; try with_reducible rfl))
          case' r357 => skip
          try simp only [List.getElem_toArray, List.getElem_cons_succ, List.getElem_cons_zero, Act.put, List.setIfInBounds_toArray, List.set_cons_zero, List.set_cons_succ]
          first | refine Mem.tkY 51 undef (hy := Or.inr ⟨by rfl, rfl⟩) (hS := by assumption) (h := ?r358) | (refine Mem.tkY 51 ?v358 (hy := Or.inl ⟨by rfl, ?y358⟩) (hS := by assumption) (h := ?r358); case y358 => (intro w hSw; obtain ⟨hT0, hT1, hT2, hT3, hT4, hT5⟩ := hCl.out w hSw; clear hSw; go_simp; try with_reducible rfl))
          case' r358 => skip
          try simp only [List.getElem_toArray, List.getElem_cons_succ, List.getElem_cons_zero, Act.put, List.setIfInBounds_toArray, List.set_cons_zero, List.set_cons_succ]
          first | refine Mem.tkY 52 undef (hy := Or.inr ⟨by rfl, rfl⟩) (hS := by assumption) (h := ?r359) | (refine Mem.tkY 52 ?v359 (hy := Or.inl ⟨by rfl, ?y359⟩) (hS := by assumption) (h := ?r359); case y359 => (intro w hSw; clear hSw; go_simp; try with_reducible rfl))
          case' r359 => skip
          try simp only [List.getElem_toArray, List.getElem_cons_succ, List.getElem_cons_zero, Act.put, List.setIfInBounds_toArray, List.set_cons_zero, List.set_cons_succ]
          first | refine Mem.tkY 53 undef (hy := Or.inr ⟨by rfl, rfl⟩) (hS := by assumption) (h := ?r360) | (refine Mem.tkY 53 ?v360 (hy := Or.inl ⟨by rfl, ?y360⟩) (hS := by assumption) (h := ?r360); case y360 => (intro w hSw; clear hSw; go_simp; try with_reducible rfl))
          case' r360 => skip
          refine Mem.tkY 54 ?v361 (hy := Or.inl ⟨by rfl, ?y361⟩) (hS := by assumption) (h := ?r361)
          case y361 => (intro w hSw; clear hSw; go_simp; try with_reducible rfl)
          case' r361 => skip
          try simp only [List.getElem_toArray, List.getElem_cons_succ, List.getElem_cons_zero, Act.put, List.setIfInBounds_toArray, List.set_cons_zero, List.set_cons_succ]
          refine wpAnyH_done (by kernel_rfl) ?_ _
          clear hCl
          go_wp2_with fail
          go_ret
          exact ⟨ret_bool HV.out.symm, hbr.trans (((Below.refl _ _).drew.trans hHeld).mono hbr.size)⟩
        have d1 : decide (x.id < 1) = false := decide_eq_false h3
        by_cases h1 : x.id ≤ was
        · rw [mayF_id h1] at hv
          have HV := Lib.hid hv
          have d3 : decide (x.id ≤ was) = true := decide_eq_true h1
          clear hv h1 h3
          go_wp2_with fail
          refine wp_region_held_drew (S := Go.RowKit.Below ((wr.drew).heap.size) (wr.drew)) (by kernel_rfl) ?hb366 (fun hHeld => ?rest366)
          case hb366 =>
            exact Go.RowKit.Below.refl _ _
          case' rest366 => skip
          have hCl := fun (wS : World) (hSw : Go.RowKit.Below ((wr.drew).heap.size) (wr.drew) wS) => And.intro (Mem.bl_cell hSw e0 (by first | omega | (dsimp only; omega) | exact World.block_lt_of_cell? _ _ e0 | (simp <;> omega))) <| And.intro (Mem.bl_cell hSw e1 (by first | omega | (dsimp only; omega) | exact World.block_lt_of_cell? _ _ e1 | (simp <;> omega))) <| And.intro (Mem.bl_cell hSw e2 (by first | omega | (dsimp only; omega) | exact World.block_lt_of_cell? _ _ e2 | (simp <;> omega))) <| And.intro (Mem.bl_cell hSw e3 (by first | omega | (dsimp only; omega) | exact World.block_lt_of_cell? _ _ e3 | (simp <;> omega))) <| And.intro (Mem.bl_cell hSw e4 (by first | omega | (dsimp only; omega) | exact World.block_lt_of_cell? _ _ e4 | (simp <;> omega))) <| Mem.bl_cell hSw e5 (by first | omega | (dsimp only; omega) | exact World.block_lt_of_cell? _ _ e5 | (simp <;> omega))
          replace hCl := Go.Lib.hid hCl
          refine Mem.tkY 0 ?v367 (hy := Or.inl ⟨by rfl, ?y367⟩) (hS := by assumption) (h := ?r367)
          case y367 => (intro w hSw; clear hSw; go_simp; try with_reducible rfl)
          case' r367 => skip
          refine Mem.tkY 1 ?v368 (hy := Or.inl ⟨by rfl, ?y368⟩) (hS := by assumption) (h := ?r368)
          case y368 => (intro w hSw; clear hSw; go_simp; try with_reducible rfl)
          case' r368 => skip
          refine Mem.tkY 2 ?v369 (hy := Or.inl ⟨by rfl, ?y369⟩) (hS := by assumption) (h := ?r369)
          case y369 => (intro w hSw; clear hSw; go_simp; try with_reducible rfl)
          case' r369 => skip
          try simp only [List.getElem_toArray, List.getElem_cons_succ, List.getElem_cons_zero, Act.put, List.setIfInBounds_toArray, List.set_cons_zero, List.set_cons_succ]
          refine Mem.tkY 3 ?v370 (hy := Or.inl ⟨by rfl, ?y370⟩) (hS := by assumption) (h := ?r370)
          case y370 => (intro w hSw; clear hSw; go_simp; try with_reducible rfl)
          case' r370 => skip
          refine Mem.tkY 4 ?v371 (hy := Or.inl ⟨by rfl, ?y371⟩) (hS := by assumption) (h := ?r371)
          case y371 => (intro w hSw; obtain ⟨hT0, hT1, hT2, hT3, hT4, hT5⟩ := hCl.out w hSw; clear hSw; go_simp; try with_reducible rfl)
          case' r371 => skip
          refine Mem.tkY 5 ?v372 (hy := Or.inl ⟨by rfl, ?y372⟩) (hS := by assumption) (h := ?r372)
          case y372 => (intro w hSw; clear hSw; go_simp; try with_reducible rfl)
          case' r372 => skip
          try simp only [List.getElem_toArray, List.getElem_cons_succ, List.getElem_cons_zero, Act.put, List.setIfInBounds_toArray, List.set_cons_zero, List.set_cons_succ]
          refine Mem.tkY 6 ?v373 (hy := Or.inl ⟨by rfl, ?y373⟩) (hS := by assumption) (h := ?r373)
          case y373 => (intro w hSw; clear hSw; go_simp; try with_reducible rfl)
          case' r373 => skip
          try simp only [List.getElem_toArray, List.getElem_cons_succ, List.getElem_cons_zero, Act.put, List.setIfInBounds_toArray, List.set_cons_zero, List.set_cons_succ]
          first | refine Mem.tkY 7 undef (hy := Or.inr ⟨by rfl, rfl⟩) (hS := by assumption) (h := ?r374) | (refine Mem.tkY 7 ?v374 (hy := Or.inl ⟨by rfl, ?y374⟩) (hS := by assumption) (h := ?r374); case y374 => (intro w hSw; clear hSw; go_simp; try with_reducible rfl))
          case' r374 => skip
          try simp only [List.getElem_toArray, List.getElem_cons_succ, List.getElem_cons_zero, Act.put, List.setIfInBounds_toArray, List.set_cons_zero, List.set_cons_succ]
          first | refine Mem.tkY 8 undef (hy := Or.inr ⟨by rfl, rfl⟩) (hS := by assumption) (h := ?r375) | (refine Mem.tkY 8 ?v375 (hy := Or.inl ⟨by rfl, ?y375⟩) (hS := by assumption) (h := ?r375); case y375 => (intro w hSw; clear hSw; go_simp; try with_reducible rfl))
          case' r375 => skip
          try simp only [List.getElem_toArray, List.getElem_cons_succ, List.getElem_cons_zero, Act.put, List.setIfInBounds_toArray, List.set_cons_zero, List.set_cons_succ]
          first | refine Mem.tkY 9 undef (hy := Or.inr ⟨by rfl, rfl⟩) (hS := by assumption) (h := ?r376) | (refine Mem.tkY 9 ?v376 (hy := Or.inl ⟨by rfl, ?y376⟩) (hS := by assumption) (h := ?r376); case y376 => (intro w hSw; clear hSw; go_simp; try with_reducible rfl))
          case' r376 => skip
          try simp only [List.getElem_toArray, List.getElem_cons_succ, List.getElem_cons_zero, Act.put, List.setIfInBounds_toArray, List.set_cons_zero, List.set_cons_succ]
          first | refine Mem.tkY 10 undef (hy := Or.inr ⟨by rfl, rfl⟩) (hS := by assumption) (h := ?r377) | (refine Mem.tkY 10 ?v377 (hy := Or.inl ⟨by rfl, ?y377⟩) (hS := by assumption) (h := ?r377); case y377 => (intro w hSw; clear hSw; go_simp; try with_reducible rfl))
          case' r377 => skip
          try simp only [List.getElem_toArray, List.getElem_cons_succ, List.getElem_cons_zero, Act.put, List.setIfInBounds_toArray, List.set_cons_zero, List.set_cons_succ]
          first | refine Mem.tkY 11 undef (hy := Or.inr ⟨by rfl, rfl⟩) (hS := by assumption) (h := ?r378) | (refine Mem.tkY 11 ?v378 (hy := Or.inl ⟨by rfl, ?y378⟩) (hS := by assumption) (h := ?r378); case y378 => (intro w hSw; clear hSw; go_simp; try with_reducible rfl))
          case' r378 => skip
          try simp only [List.getElem_toArray, List.getElem_cons_succ, List.getElem_cons_zero, Act.put, List.setIfInBounds_toArray, List.set_cons_zero, List.set_cons_succ]
          first | refine Mem.tkY 12 undef (hy := Or.inr ⟨by rfl, rfl⟩) (hS := by assumption) (h := ?r379) | (refine Mem.tkY 12 ?v379 (hy := Or.inl ⟨by rfl, ?y379⟩) (hS := by assumption) (h := ?r379); case y379 => (intro w hSw; clear hSw; go_simp; try with_reducible rfl))
          case' r379 => skip
          try simp only [List.getElem_toArray, List.getElem_cons_succ, List.getElem_cons_zero, Act.put, List.setIfInBounds_toArray, List.set_cons_zero, List.set_cons_succ]
          first | refine Mem.tkY 13 undef (hy := Or.inr ⟨by rfl, rfl⟩) (hS := by assumption) (h := ?r380) | (refine Mem.tkY 13 ?v380 (hy := Or.inl ⟨by rfl, ?y380⟩) (hS := by assumption) (h := ?r380); case y380 => (intro w hSw; clear hSw; go_simp; try with_reducible rfl))
          case' r380 => skip
          try simp only [List.getElem_toArray, List.getElem_cons_succ, List.getElem_cons_zero, Act.put, List.setIfInBounds_toArray, List.set_cons_zero, List.set_cons_succ]
          first | refine Mem.tkY 14 undef (hy := Or.inr ⟨by rfl, rfl⟩) (hS := by assumption) (h := ?r381) | (refine Mem.tkY 14 ?v381 (hy := Or.inl ⟨by rfl, ?y381⟩) (hS := by assumption) (h := ?r381); case y381 => (intro w hSw; obtain ⟨hT0, hT1, hT2, hT3, hT4, hT5⟩ := hCl.out w hSw; clear hSw; go_simp; try with_reducible rfl))
          case' r381 => skip
          try simp only [List.getElem_toArray, List.getElem_cons_succ, List.getElem_cons_zero, Act.put, List.setIfInBounds_toArray, List.set_cons_zero, List.set_cons_succ]
          first | refine Mem.tkY 15 undef (hy := Or.inr ⟨by rfl, rfl⟩) (hS := by assumption) (h := ?r382) | (refine Mem.tkY 15 ?v382 (hy := Or.inl ⟨by rfl, ?y382⟩) (hS := by assumption) (h := ?r382); case y382 => (intro w hSw; clear hSw; go_simp; try with_reducible rfl))
          case' r382 => skip
          try simp only [List.getElem_toArray, List.getElem_cons_succ, List.getElem_cons_zero, Act.put, List.setIfInBounds_toArray, List.set_cons_zero, List.set_cons_succ]
          first | refine Mem.tkY 16 undef (hy := Or.inr ⟨by rfl, rfl⟩) (hS := by assumption) (h := ?r383) | (refine Mem.tkY 16 ?v383 (hy := Or.inl ⟨by rfl, ?y383⟩) (hS := by assumption) (h := ?r383); case y383 => (intro w hSw; clear hSw; go_simp; try with_reducible rfl))
          case' r383 => skip
          try simp only [List.getElem_toArray, List.getElem_cons_succ, List.getElem_cons_zero, Act.put, List.setIfInBounds_toArray, List.set_cons_zero, List.set_cons_succ]
          first | refine Mem.tkY 17 undef (hy := Or.inr ⟨by rfl, rfl⟩) (hS := by assumption) (h := ?r384) | (refine Mem.tkY 17 ?v384 (hy := Or.inl ⟨by rfl, ?y384⟩) (hS := by assumption) (h := ?r384); case y384 => (intro w hSw; clear hSw; go_simp; try with_reducible rfl))
          case' r384 => skip
          try simp only [List.getElem_toArray, List.getElem_cons_succ, List.getElem_cons_zero, Act.put, List.setIfInBounds_toArray, List.set_cons_zero, List.set_cons_succ]
          first | refine Mem.tkY 18 undef (hy := Or.inr ⟨by rfl, rfl⟩) (hS := by assumption) (h := ?r385) | (refine Mem.tkY 18 ?v385 (hy := Or.inl ⟨by rfl, ?y385⟩) (hS := by assumption) (h := ?r385); case y385 => (intro w hSw; clear hSw; go_simp; try with_reducible rfl))
          case' r385 => skip
          try simp only [List.getElem_toArray, List.getElem_cons_succ, List.getElem_cons_zero, Act.put, List.setIfInBounds_toArray, List.set_cons_zero, List.set_cons_succ]
          first | refine Mem.tkY 19 undef (hy := Or.inr ⟨by rfl, rfl⟩) (hS := by assumption) (h := ?r386) | (refine Mem.tkY 19 ?v386 (hy := Or.inl ⟨by rfl, ?y386⟩) (hS := by assumption) (h := ?r386); case y386 => (intro w hSw; clear hSw; go_simp; try with_reducible rfl))
          case' r386 => skip
          try simp only [List.getElem_toArray, List.getElem_cons_succ, List.getElem_cons_zero, Act.put, List.setIfInBounds_toArray, List.set_cons_zero, List.set_cons_succ]
          first | refine Mem.tkY 20 undef (hy := Or.inr ⟨by rfl, rfl⟩) (hS := by assumption) (h := ?r387) | (refine Mem.tkY 20 ?v387 (hy := Or.inl ⟨by rfl, ?y387⟩) (hS := by assumption) (h := ?r387); case y387 => (intro w hSw; obtain ⟨hT0, hT1, hT2, hT3, hT4, hT5⟩ := hCl.out w hSw; clear hSw; go_simp; try with_reducible rfl))
          case' r387 => skip
          try simp only [List.getElem_toArray, List.getElem_cons_succ, List.getElem_cons_zero, Act.put, List.setIfInBounds_toArray, List.set_cons_zero, List.set_cons_succ]
          first | refine Mem.tkY 21 undef (hy := Or.inr ⟨by rfl, rfl⟩) (hS := by assumption) (h := ?r388) | (refine Mem.tkY 21 ?v388 (hy := Or.inl ⟨by rfl, ?y388⟩) (hS := by assumption) (h := ?r388); case y388 => (intro w hSw; clear hSw; go_simp; try with_reducible rfl))
          case' r388 => skip
          try simp only [List.getElem_toArray, List.getElem_cons_succ, List.getElem_cons_zero, Act.put, List.setIfInBounds_toArray, List.set_cons_zero, List.set_cons_succ]
          first | refine Mem.tkY 22 undef (hy := Or.inr ⟨by rfl, rfl⟩) (hS := by assumption) (h := ?r389) | (refine Mem.tkY 22 ?v389 (hy := Or.inl ⟨by rfl, ?y389⟩) (hS := by assumption) (h := ?r389); case y389 => (intro w hSw; clear hSw; go_simp; try with_reducible rfl))
          case' r389 => skip
          refine Mem.tkY 23 ?v390 (hy := Or.inl ⟨by rfl, ?y390⟩) (hS := by assumption) (h := ?r390)
          case y390 => (intro w hSw; clear hSw; go_simp; try with_reducible rfl)
          case' r390 => skip
          refine Mem.tkY 24 ?v391 (hy := Or.inl ⟨by rfl, ?y391⟩) (hS := by assumption) (h := ?r391)
          case y391 => (intro w hSw; clear hSw; go_simp; try with_reducible rfl)
          case' r391 => skip
          try simp only [List.getElem_toArray, List.getElem_cons_succ, List.getElem_cons_zero, Act.put, List.setIfInBounds_toArray, List.set_cons_zero, List.set_cons_succ]
          first | refine Mem.tkY 25 undef (hy := Or.inr ⟨by rfl, rfl⟩) (hS := by assumption) (h := ?r392) | (refine Mem.tkY 25 ?v392 (hy := Or.inl ⟨by rfl, ?y392⟩) (hS := by assumption) (h := ?r392); case y392 => (intro w hSw; clear hSw; go_simp; try with_reducible rfl))
          case' r392 => skip
          try simp only [List.getElem_toArray, List.getElem_cons_succ, List.getElem_cons_zero, Act.put, List.setIfInBounds_toArray, List.set_cons_zero, List.set_cons_succ]
          first | refine Mem.tkY 26 undef (hy := Or.inr ⟨by rfl, rfl⟩) (hS := by assumption) (h := ?r393) | (refine Mem.tkY 26 ?v393 (hy := Or.inl ⟨by rfl, ?y393⟩) (hS := by assumption) (h := ?r393); case y393 => (intro w hSw; clear hSw; go_simp; try with_reducible rfl))
          case' r393 => skip
          try simp only [List.getElem_toArray, List.getElem_cons_succ, List.getElem_cons_zero, Act.put, List.setIfInBounds_toArray, List.set_cons_zero, List.set_cons_succ]
          first | refine Mem.tkY 27 undef (hy := Or.inr ⟨by rfl, rfl⟩) (hS := by assumption) (h := ?r394) | (refine Mem.tkY 27 ?v394 (hy := Or.inl ⟨by rfl, ?y394⟩) (hS := by assumption) (h := ?r394); case y394 => (intro w hSw; clear hSw; go_simp; try with_reducible rfl))
          case' r394 => skip
          try simp only [List.getElem_toArray, List.getElem_cons_succ, List.getElem_cons_zero, Act.put, List.setIfInBounds_toArray, List.set_cons_zero, List.set_cons_succ]
          first | refine Mem.tkY 28 undef (hy := Or.inr ⟨by rfl, rfl⟩) (hS := by assumption) (h := ?r395) | (refine Mem.tkY 28 ?v395 (hy := Or.inl ⟨by rfl, ?y395⟩) (hS := by assumption) (h := ?r395); case y395 => (intro w hSw; clear hSw; go_simp; try with_reducible rfl))
          case' r395 => skip
          try simp only [List.getElem_toArray, List.getElem_cons_succ, List.getElem_cons_zero, Act.put, List.setIfInBounds_toArray, List.set_cons_zero, List.set_cons_succ]
          first | refine Mem.tkY 29 undef (hy := Or.inr ⟨by rfl, rfl⟩) (hS := by assumption) (h := ?r396) | (refine Mem.tkY 29 ?v396 (hy := Or.inl ⟨by rfl, ?y396⟩) (hS := by assumption) (h := ?r396); case y396 => (intro w hSw; obtain ⟨hT0, hT1, hT2, hT3, hT4, hT5⟩ := hCl.out w hSw; clear hSw; go_simp; try with_reducible rfl))
          case' r396 => skip
          try simp only [List.getElem_toArray, List.getElem_cons_succ, List.getElem_cons_zero, Act.put, List.setIfInBounds_toArray, List.set_cons_zero, List.set_cons_succ]
          first | refine Mem.tkY 30 undef (hy := Or.inr ⟨by rfl, rfl⟩) (hS := by assumption) (h := ?r397) | (refine Mem.tkY 30 ?v397 (hy := Or.inl ⟨by rfl, ?y397⟩) (hS := by assumption) (h := ?r397); case y397 => (intro w hSw; clear hSw; go_simp; try with_reducible rfl))
          case' r397 => skip
          refine Mem.tkY 31 ?v398 (hy := Or.inl ⟨by rfl, ?y398⟩) (hS := by assumption) (h := ?r398)
          case y398 => (intro w hSw; clear hSw; go_simp; try with_reducible rfl)
          case' r398 => skip
          refine Mem.tkY 32 ?v399 (hy := Or.inl ⟨by rfl, ?y399⟩) (hS := by assumption) (h := ?r399)
          case y399 => (intro w hSw; clear hSw; go_simp; try with_reducible rfl)
          case' r399 => skip
          try simp only [List.getElem_toArray, List.getElem_cons_succ, List.getElem_cons_zero, Act.put, List.setIfInBounds_toArray, List.set_cons_zero, List.set_cons_succ]
          first | refine Mem.tkY 33 undef (hy := Or.inr ⟨by rfl, rfl⟩) (hS := by assumption) (h := ?r400) | (refine Mem.tkY 33 ?v400 (hy := Or.inl ⟨by rfl, ?y400⟩) (hS := by assumption) (h := ?r400); case y400 => (intro w hSw; clear hSw; go_simp; try with_reducible rfl))
          case' r400 => skip
          try simp only [List.getElem_toArray, List.getElem_cons_succ, List.getElem_cons_zero, Act.put, List.setIfInBounds_toArray, List.set_cons_zero, List.set_cons_succ]
          first | refine Mem.tkY 34 undef (hy := Or.inr ⟨by rfl, rfl⟩) (hS := by assumption) (h := ?r401) | (refine Mem.tkY 34 ?v401 (hy := Or.inl ⟨by rfl, ?y401⟩) (hS := by assumption) (h := ?r401); case y401 => (intro w hSw; clear hSw; go_simp; try with_reducible rfl))
          case' r401 => skip
          try simp only [List.getElem_toArray, List.getElem_cons_succ, List.getElem_cons_zero, Act.put, List.setIfInBounds_toArray, List.set_cons_zero, List.set_cons_succ]
          first | refine Mem.tkY 35 undef (hy := Or.inr ⟨by rfl, rfl⟩) (hS := by assumption) (h := ?r402) | (refine Mem.tkY 35 ?v402 (hy := Or.inl ⟨by rfl, ?y402⟩) (hS := by assumption) (h := ?r402); case y402 => (intro w hSw; clear hSw; go_simp; try with_reducible rfl))
          case' r402 => skip
          try simp only [List.getElem_toArray, List.getElem_cons_succ, List.getElem_cons_zero, Act.put, List.setIfInBounds_toArray, List.set_cons_zero, List.set_cons_succ]
          first | refine Mem.tkY 36 undef (hy := Or.inr ⟨by rfl, rfl⟩) (hS := by assumption) (h := ?r403) | (refine Mem.tkY 36 ?v403 (hy := Or.inl ⟨by rfl, ?y403⟩) (hS := by assumption) (h := ?r403); case y403 => (intro w hSw; clear hSw; go_simp; try with_reducible rfl))
          case' r403 => skip
          try simp only [List.getElem_toArray, List.getElem_cons_succ, List.getElem_cons_zero, Act.put, List.setIfInBounds_toArray, List.set_cons_zero, List.set_cons_succ]
          first | refine Mem.tkY 37 undef (hy := Or.inr ⟨by rfl, rfl⟩) (hS := by assumption) (h := ?r404) | (refine Mem.tkY 37 ?v404 (hy := Or.inl ⟨by rfl, ?y404⟩) (hS := by assumption) (h := ?r404); case y404 => (intro w hSw; obtain ⟨hT0, hT1, hT2, hT3, hT4, hT5⟩ := hCl.out w hSw; clear hSw; go_simp; try with_reducible rfl))
          case' r404 => skip
          try simp only [List.getElem_toArray, List.getElem_cons_succ, List.getElem_cons_zero, Act.put, List.setIfInBounds_toArray, List.set_cons_zero, List.set_cons_succ]
          first | refine Mem.tkY 38 undef (hy := Or.inr ⟨by rfl, rfl⟩) (hS := by assumption) (h := ?r405) | (refine Mem.tkY 38 ?v405 (hy := Or.inl ⟨by rfl, ?y405⟩) (hS := by assumption) (h := ?r405); case y405 => (intro w hSw; clear hSw; go_simp; try with_reducible rfl))
          case' r405 => skip
          try simp only [List.getElem_toArray, List.getElem_cons_succ, List.getElem_cons_zero, Act.put, List.setIfInBounds_toArray, List.set_cons_zero, List.set_cons_succ]
          first | refine Mem.tkY 39 undef (hy := Or.inr ⟨by rfl, rfl⟩) (hS := by assumption) (h := ?r406) | (refine Mem.tkY 39 ?v406 (hy := Or.inl ⟨by rfl, ?y406⟩) (hS := by assumption) (h := ?r406); case y406 => (intro w hSw; clear hSw; go_simp; try with_reducible rfl))
          case' r406 => skip
          refine Mem.tkY 40 ?v407 (hy := Or.inl ⟨by rfl, ?y407⟩) (hS := by assumption) (h := ?r407)
          case y407 => (intro w hSw; clear hSw; go_simp; try with_reducible rfl)
          case' r407 => skip
          refine Mem.tkY 41 ?v408 (hy := Or.inl ⟨by rfl, ?y408⟩) (hS := by assumption) (h := ?r408)
          case y408 => (intro w hSw; clear hSw; go_simp; try with_reducible rfl)
          case' r408 => skip
          try simp only [List.getElem_toArray, List.getElem_cons_succ, List.getElem_cons_zero, Act.put, List.setIfInBounds_toArray, List.set_cons_zero, List.set_cons_succ]
          first | refine Mem.tkY 42 undef (hy := Or.inr ⟨by rfl, rfl⟩) (hS := by assumption) (h := ?r409) | (refine Mem.tkY 42 ?v409 (hy := Or.inl ⟨by rfl, ?y409⟩) (hS := by assumption) (h := ?r409); case y409 => (intro w hSw; clear hSw; go_simp; try with_reducible rfl))
          case' r409 => skip
          try simp only [List.getElem_toArray, List.getElem_cons_succ, List.getElem_cons_zero, Act.put, List.setIfInBounds_toArray, List.set_cons_zero, List.set_cons_succ]
          first | refine Mem.tkY 43 undef (hy := Or.inr ⟨by rfl, rfl⟩) (hS := by assumption) (h := ?r410) | (refine Mem.tkY 43 ?v410 (hy := Or.inl ⟨by rfl, ?y410⟩) (hS := by assumption) (h := ?r410); case y410 => (intro w hSw; clear hSw; go_simp; try with_reducible rfl))
          case' r410 => skip
          try simp only [List.getElem_toArray, List.getElem_cons_succ, List.getElem_cons_zero, Act.put, List.setIfInBounds_toArray, List.set_cons_zero, List.set_cons_succ]
          first | refine Mem.tkY 44 undef (hy := Or.inr ⟨by rfl, rfl⟩) (hS := by assumption) (h := ?r411) | (refine Mem.tkY 44 ?v411 (hy := Or.inl ⟨by rfl, ?y411⟩) (hS := by assumption) (h := ?r411); case y411 => (intro w hSw; clear hSw; go_simp; try with_reducible rfl))
          case' r411 => skip
          try simp only [List.getElem_toArray, List.getElem_cons_succ, List.getElem_cons_zero, Act.put, List.setIfInBounds_toArray, List.set_cons_zero, List.set_cons_succ]
          first | refine Mem.tkY 45 undef (hy := Or.inr ⟨by rfl, rfl⟩) (hS := by assumption) (h := ?r412) | (refine Mem.tkY 45 ?v412 (hy := Or.inl ⟨by rfl, ?y412⟩) (hS := by assumption) (h := ?r412); case y412 => (intro w hSw; clear hSw; go_simp; try with_reducible rfl))
          case' r412 => skip
          try simp only [List.getElem_toArray, List.getElem_cons_succ, List.getElem_cons_zero, Act.put, List.setIfInBounds_toArray, List.set_cons_zero, List.set_cons_succ]
          first | refine Mem.tkY 46 undef (hy := Or.inr ⟨by rfl, rfl⟩) (hS := by assumption) (h := ?r413) | (refine Mem.tkY 46 ?v413 (hy := Or.inl ⟨by rfl, ?y413⟩) (hS := by assumption) (h := ?r413); case y413 => (intro w hSw; obtain ⟨hT0, hT1, hT2, hT3, hT4, hT5⟩ := hCl.out w hSw; clear hSw; go_simp; try with_reducible rfl))
          case' r413 => skip
          try simp only [List.getElem_toArray, List.getElem_cons_succ, List.getElem_cons_zero, Act.put, List.setIfInBounds_toArray, List.set_cons_zero, List.set_cons_succ]
          first | refine Mem.tkY 47 undef (hy := Or.inr ⟨by rfl, rfl⟩) (hS := by assumption) (h := ?r414) | (refine Mem.tkY 47 ?v414 (hy := Or.inl ⟨by rfl, ?y414⟩) (hS := by assumption) (h := ?r414); case y414 => (intro w hSw; clear hSw; go_simp; try with_reducible rfl))
          case' r414 => skip
          try simp only [List.getElem_toArray, List.getElem_cons_succ, List.getElem_cons_zero, Act.put, List.setIfInBounds_toArray, List.set_cons_zero, List.set_cons_succ]
          first | refine Mem.tkY 48 undef (hy := Or.inr ⟨by rfl, rfl⟩) (hS := by assumption) (h := ?r415) | (refine Mem.tkY 48 ?v415 (hy := Or.inl ⟨by rfl, ?y415⟩) (hS := by assumption) (h := ?r415); case y415 => (intro w hSw; clear hSw; go_simp; try with_reducible rfl))
          case' r415 => skip
          try simp only [List.getElem_toArray, List.getElem_cons_succ, List.getElem_cons_zero, Act.put, List.setIfInBounds_toArray, List.set_cons_zero, List.set_cons_succ]
          first | refine Mem.tkY 49 undef (hy := Or.inr ⟨by rfl, rfl⟩) (hS := by assumption) (h := ?r416) | (refine Mem.tkY 49 ?v416 (hy := Or.inl ⟨by rfl, ?y416⟩) (hS := by assumption) (h := ?r416); case y416 => (intro w hSw; clear hSw; go_simp; try with_reducible rfl))
          case' r416 => skip
          try simp only [List.getElem_toArray, List.getElem_cons_succ, List.getElem_cons_zero, Act.put, List.setIfInBounds_toArray, List.set_cons_zero, List.set_cons_succ]
          first | refine Mem.tkY 50 undef (hy := Or.inr ⟨by rfl, rfl⟩) (hS := by assumption) (h := ?r417) | (refine Mem.tkY 50 ?v417 (hy := Or.inl ⟨by rfl, ?y417⟩) (hS := by assumption) (h := ?r417); case y417 => (intro w hSw; clear hSw; go_simp; try with_reducible rfl))
          case' r417 => skip
          try simp only [List.getElem_toArray, List.getElem_cons_succ, List.getElem_cons_zero, Act.put, List.setIfInBounds_toArray, List.set_cons_zero, List.set_cons_succ]
          first | refine Mem.tkY 51 undef (hy := Or.inr ⟨by rfl, rfl⟩) (hS := by assumption) (h := ?r418) | (refine Mem.tkY 51 ?v418 (hy := Or.inl ⟨by rfl, ?y418⟩) (hS := by assumption) (h := ?r418); case y418 => (intro w hSw; obtain ⟨hT0, hT1, hT2, hT3, hT4, hT5⟩ := hCl.out w hSw; clear hSw; go_simp; try with_reducible rfl))
          case' r418 => skip
          try simp only [List.getElem_toArray, List.getElem_cons_succ, List.getElem_cons_zero, Act.put, List.setIfInBounds_toArray, List.set_cons_zero, List.set_cons_succ]
          first | refine Mem.tkY 52 undef (hy := Or.inr ⟨by rfl, rfl⟩) (hS := by assumption) (h := ?r419) | (refine Mem.tkY 52 ?v419 (hy := Or.inl ⟨by rfl, ?y419⟩) (hS := by assumption) (h := ?r419); case y419 => (intro w hSw; clear hSw; go_simp; try with_reducible rfl))
          case' r419 => skip
          try simp only [List.getElem_toArray, List.getElem_cons_succ, List.getElem_cons_zero, Act.put, List.setIfInBounds_toArray, List.set_cons_zero, List.set_cons_succ]
          first | refine Mem.tkY 53 undef (hy := Or.inr ⟨by rfl, rfl⟩) (hS := by assumption) (h := ?r420) | (refine Mem.tkY 53 ?v420 (hy := Or.inl ⟨by rfl, ?y420⟩) (hS := by assumption) (h := ?r420); case y420 => (intro w hSw; clear hSw; go_simp; try with_reducible rfl))
          case' r420 => skip
          refine Mem.tkY 54 ?v421 (hy := Or.inl ⟨by rfl, ?y421⟩) (hS := by assumption) (h := ?r421)
          case y421 => (intro w hSw; clear hSw; go_simp; try with_reducible rfl)
          case' r421 => skip
          try simp only [List.getElem_toArray, List.getElem_cons_succ, List.getElem_cons_zero, Act.put, List.setIfInBounds_toArray, List.set_cons_zero, List.set_cons_succ]
          refine wpAnyH_done (by kernel_rfl) ?_ _
          clear hCl
          go_wp2_with fail
          go_ret
          exact ⟨ret_bool HV.out.symm, hbr.trans (((Below.refl _ _).drew.trans hHeld).mono hbr.size)⟩
        have d3 : decide (x.id ≤ was) = false := decide_eq_false h1
        have X1 : Hid (¬ x.id ≤ was) := Lib.hid h1
        have X2 : Hid (0 ≤ x.id) := Lib.hid (by omega)
        clear h1 h3
        by_cases h2 : x.blk < 0
        · rw [mayF_blk h2] at hv
          have HV := Lib.hid hv
          have d2 : decide (x.blk < 0) = true := decide_eq_true h2
          clear hv h2
          go_wp2_with fail
          refine wp_region_held_drew (S := Go.RowKit.Below ((wr.drew).heap.size) (wr.drew)) (by kernel_rfl) ?hb426 (fun hHeld => ?rest426)
          case hb426 =>
            exact Go.RowKit.Below.refl _ _
          case' rest426 => skip
          have hCl := fun (wS : World) (hSw : Go.RowKit.Below ((wr.drew).heap.size) (wr.drew) wS) => And.intro (Mem.bl_cell hSw e0 (by first | omega | (dsimp only; omega) | exact World.block_lt_of_cell? _ _ e0 | (simp <;> omega))) <| And.intro (Mem.bl_cell hSw e1 (by first | omega | (dsimp only; omega) | exact World.block_lt_of_cell? _ _ e1 | (simp <;> omega))) <| And.intro (Mem.bl_cell hSw e2 (by first | omega | (dsimp only; omega) | exact World.block_lt_of_cell? _ _ e2 | (simp <;> omega))) <| And.intro (Mem.bl_cell hSw e3 (by first | omega | (dsimp only; omega) | exact World.block_lt_of_cell? _ _ e3 | (simp <;> omega))) <| And.intro (Mem.bl_cell hSw e4 (by first | omega | (dsimp only; omega) | exact World.block_lt_of_cell? _ _ e4 | (simp <;> omega))) <| Mem.bl_cell hSw e5 (by first | omega | (dsimp only; omega) | exact World.block_lt_of_cell? _ _ e5 | (simp <;> omega))
          replace hCl := Go.Lib.hid hCl
          refine Mem.tkY 0 ?v427 (hy := Or.inl ⟨by rfl, ?y427⟩) (hS := by assumption) (h := ?r427)
          case y427 => (intro w hSw; clear hSw; go_simp; try with_reducible rfl)
          case' r427 => skip
          refine Mem.tkY 1 ?v428 (hy := Or.inl ⟨by rfl, ?y428⟩) (hS := by assumption) (h := ?r428)
          case y428 => (intro w hSw; clear hSw; go_simp; try with_reducible rfl)
          case' r428 => skip
          refine Mem.tkY 2 ?v429 (hy := Or.inl ⟨by rfl, ?y429⟩) (hS := by assumption) (h := ?r429)
          case y429 => (intro w hSw; clear hSw; go_simp; try with_reducible rfl)
          case' r429 => skip
          try simp only [List.getElem_toArray, List.getElem_cons_succ, List.getElem_cons_zero, Act.put, List.setIfInBounds_toArray, List.set_cons_zero, List.set_cons_succ]
          refine Mem.tkY 3 ?v430 (hy := Or.inl ⟨by rfl, ?y430⟩) (hS := by assumption) (h := ?r430)
          case y430 => (intro w hSw; clear hSw; go_simp; try with_reducible rfl)
          case' r430 => skip
          refine Mem.tkY 4 ?v431 (hy := Or.inl ⟨by rfl, ?y431⟩) (hS := by assumption) (h := ?r431)
          case y431 => (intro w hSw; obtain ⟨hT0, hT1, hT2, hT3, hT4, hT5⟩ := hCl.out w hSw; clear hSw; go_simp; try with_reducible rfl)
          case' r431 => skip
          refine Mem.tkY 5 ?v432 (hy := Or.inl ⟨by rfl, ?y432⟩) (hS := by assumption) (h := ?r432)
          case y432 => (intro w hSw; clear hSw; go_simp; try with_reducible rfl)
          case' r432 => skip
          try simp only [List.getElem_toArray, List.getElem_cons_succ, List.getElem_cons_zero, Act.put, List.setIfInBounds_toArray, List.set_cons_zero, List.set_cons_succ]
          refine Mem.tkY 6 ?v433 (hy := Or.inl ⟨by rfl, ?y433⟩) (hS := by assumption) (h := ?r433)
          case y433 => (intro w hSw; clear hSw; go_simp; try with_reducible rfl)
          case' r433 => skip
          try simp only [List.getElem_toArray, List.getElem_cons_succ, List.getElem_cons_zero, Act.put, List.setIfInBounds_toArray, List.set_cons_zero, List.set_cons_succ]
          first | refine Mem.tkY 7 undef (hy := Or.inr ⟨by rfl, rfl⟩) (hS := by assumption) (h := ?r434) | (refine Mem.tkY 7 ?v434 (hy := Or.inl ⟨by rfl, ?y434⟩) (hS := by assumption) (h := ?r434); case y434 => (intro w hSw; clear hSw; go_simp; try with_reducible rfl))
          case' r434 => skip
          try simp only [List.getElem_toArray, List.getElem_cons_succ, List.getElem_cons_zero, Act.put, List.setIfInBounds_toArray, List.set_cons_zero, List.set_cons_succ]
          first | refine Mem.tkY 8 undef (hy := Or.inr ⟨by rfl, rfl⟩) (hS := by assumption) (h := ?r435) | (refine Mem.tkY 8 ?v435 (hy := Or.inl ⟨by rfl, ?y435⟩) (hS := by assumption) (h := ?r435); case y435 => (intro w hSw; clear hSw; go_simp; try with_reducible rfl))
          case' r435 => skip
          try simp only [List.getElem_toArray, List.getElem_cons_succ, List.getElem_cons_zero, Act.put, List.setIfInBounds_toArray, List.set_cons_zero, List.set_cons_succ]
          first | refine Mem.tkY 9 undef (hy := Or.inr ⟨by rfl, rfl⟩) (hS := by assumption) (h := ?r436) | (refine Mem.tkY 9 ?v436 (hy := Or.inl ⟨by rfl, ?y436⟩) (hS := by assumption) (h := ?r436); case y436 => (intro w hSw; clear hSw; go_simp; try with_reducible rfl))
          case' r436 => skip
          try simp only [List.getElem_toArray, List.getElem_cons_succ, List.getElem_cons_zero, Act.put, List.setIfInBounds_toArray, List.set_cons_zero, List.set_cons_succ]
          first | refine Mem.tkY 10 undef (hy := Or.inr ⟨by rfl, rfl⟩) (hS := by assumption) (h := ?r437) | (refine Mem.tkY 10 ?v437 (hy := Or.inl ⟨by rfl, ?y437⟩) (hS := by assumption) (h := ?r437); case y437 => (intro w hSw; clear hSw; go_simp; try with_reducible rfl))
          case' r437 => skip
          try simp only [List.getElem_toArray, List.getElem_cons_succ, List.getElem_cons_zero, Act.put, List.setIfInBounds_toArray, List.set_cons_zero, List.set_cons_succ]
          first | refine Mem.tkY 11 undef (hy := Or.inr ⟨by rfl, rfl⟩) (hS := by assumption) (h := ?r438) | (refine Mem.tkY 11 ?v438 (hy := Or.inl ⟨by rfl, ?y438⟩) (hS := by assumption) (h := ?r438); case y438 => (intro w hSw; clear hSw; go_simp; try with_reducible rfl))
          case' r438 => skip
          try simp only [List.getElem_toArray, List.getElem_cons_succ, List.getElem_cons_zero, Act.put, List.setIfInBounds_toArray, List.set_cons_zero, List.set_cons_succ]
          first | refine Mem.tkY 12 undef (hy := Or.inr ⟨by rfl, rfl⟩) (hS := by assumption) (h := ?r439) | (refine Mem.tkY 12 ?v439 (hy := Or.inl ⟨by rfl, ?y439⟩) (hS := by assumption) (h := ?r439); case y439 => (intro w hSw; clear hSw; go_simp; try with_reducible rfl))
          case' r439 => skip
          try simp only [List.getElem_toArray, List.getElem_cons_succ, List.getElem_cons_zero, Act.put, List.setIfInBounds_toArray, List.set_cons_zero, List.set_cons_succ]
          first | refine Mem.tkY 13 undef (hy := Or.inr ⟨by rfl, rfl⟩) (hS := by assumption) (h := ?r440) | (refine Mem.tkY 13 ?v440 (hy := Or.inl ⟨by rfl, ?y440⟩) (hS := by assumption) (h := ?r440); case y440 => (intro w hSw; clear hSw; go_simp; try with_reducible rfl))
          case' r440 => skip
          try simp only [List.getElem_toArray, List.getElem_cons_succ, List.getElem_cons_zero, Act.put, List.setIfInBounds_toArray, List.set_cons_zero, List.set_cons_succ]
          first | refine Mem.tkY 14 undef (hy := Or.inr ⟨by rfl, rfl⟩) (hS := by assumption) (h := ?r441) | (refine Mem.tkY 14 ?v441 (hy := Or.inl ⟨by rfl, ?y441⟩) (hS := by assumption) (h := ?r441); case y441 => (intro w hSw; obtain ⟨hT0, hT1, hT2, hT3, hT4, hT5⟩ := hCl.out w hSw; clear hSw; go_simp; try with_reducible rfl))
          case' r441 => skip
          try simp only [List.getElem_toArray, List.getElem_cons_succ, List.getElem_cons_zero, Act.put, List.setIfInBounds_toArray, List.set_cons_zero, List.set_cons_succ]
          first | refine Mem.tkY 15 undef (hy := Or.inr ⟨by rfl, rfl⟩) (hS := by assumption) (h := ?r442) | (refine Mem.tkY 15 ?v442 (hy := Or.inl ⟨by rfl, ?y442⟩) (hS := by assumption) (h := ?r442); case y442 => (intro w hSw; clear hSw; go_simp; try with_reducible rfl))
          case' r442 => skip
          try simp only [List.getElem_toArray, List.getElem_cons_succ, List.getElem_cons_zero, Act.put, List.setIfInBounds_toArray, List.set_cons_zero, List.set_cons_succ]
          first | refine Mem.tkY 16 undef (hy := Or.inr ⟨by rfl, rfl⟩) (hS := by assumption) (h := ?r443) | (refine Mem.tkY 16 ?v443 (hy := Or.inl ⟨by rfl, ?y443⟩) (hS := by assumption) (h := ?r443); case y443 => (intro w hSw; clear hSw; go_simp; try with_reducible rfl))
          case' r443 => skip
          try simp only [List.getElem_toArray, List.getElem_cons_succ, List.getElem_cons_zero, Act.put, List.setIfInBounds_toArray, List.set_cons_zero, List.set_cons_succ]
          first | refine Mem.tkY 17 undef (hy := Or.inr ⟨by rfl, rfl⟩) (hS := by assumption) (h := ?r444) | (refine Mem.tkY 17 ?v444 (hy := Or.inl ⟨by rfl, ?y444⟩) (hS := by assumption) (h := ?r444); case y444 => (intro w hSw; clear hSw; go_simp; try with_reducible rfl))
          case' r444 => skip
          try simp only [List.getElem_toArray, List.getElem_cons_succ, List.getElem_cons_zero, Act.put, List.setIfInBounds_toArray, List.set_cons_zero, List.set_cons_succ]
          first | refine Mem.tkY 18 undef (hy := Or.inr ⟨by rfl, rfl⟩) (hS := by assumption) (h := ?r445) | (refine Mem.tkY 18 ?v445 (hy := Or.inl ⟨by rfl, ?y445⟩) (hS := by assumption) (h := ?r445); case y445 => (intro w hSw; clear hSw; go_simp; try with_reducible rfl))
          case' r445 => skip
          try simp only [List.getElem_toArray, List.getElem_cons_succ, List.getElem_cons_zero, Act.put, List.setIfInBounds_toArray, List.set_cons_zero, List.set_cons_succ]
          first | refine Mem.tkY 19 undef (hy := Or.inr ⟨by rfl, rfl⟩) (hS := by assumption) (h := ?r446) | (refine Mem.tkY 19 ?v446 (hy := Or.inl ⟨by rfl, ?y446⟩) (hS := by assumption) (h := ?r446); case y446 => (intro w hSw; clear hSw; go_simp; try with_reducible rfl))
          case' r446 => skip
          try simp only [List.getElem_toArray, List.getElem_cons_succ, List.getElem_cons_zero, Act.put, List.setIfInBounds_toArray, List.set_cons_zero, List.set_cons_succ]
          first | refine Mem.tkY 20 undef (hy := Or.inr ⟨by rfl, rfl⟩) (hS := by assumption) (h := ?r447) | (refine Mem.tkY 20 ?v447 (hy := Or.inl ⟨by rfl, ?y447⟩) (hS := by assumption) (h := ?r447); case y447 => (intro w hSw; obtain ⟨hT0, hT1, hT2, hT3, hT4, hT5⟩ := hCl.out w hSw; clear hSw; go_simp; try with_reducible rfl))
          case' r447 => skip
          try simp only [List.getElem_toArray, List.getElem_cons_succ, List.getElem_cons_zero, Act.put, List.setIfInBounds_toArray, List.set_cons_zero, List.set_cons_succ]
          first | refine Mem.tkY 21 undef (hy := Or.inr ⟨by rfl, rfl⟩) (hS := by assumption) (h := ?r448) | (refine Mem.tkY 21 ?v448 (hy := Or.inl ⟨by rfl, ?y448⟩) (hS := by assumption) (h := ?r448); case y448 => (intro w hSw; clear hSw; go_simp; try with_reducible rfl))
          case' r448 => skip
          try simp only [List.getElem_toArray, List.getElem_cons_succ, List.getElem_cons_zero, Act.put, List.setIfInBounds_toArray, List.set_cons_zero, List.set_cons_succ]
          first | refine Mem.tkY 22 undef (hy := Or.inr ⟨by rfl, rfl⟩) (hS := by assumption) (h := ?r449) | (refine Mem.tkY 22 ?v449 (hy := Or.inl ⟨by rfl, ?y449⟩) (hS := by assumption) (h := ?r449); case y449 => (intro w hSw; clear hSw; go_simp; try with_reducible rfl))
          case' r449 => skip
          refine Mem.tkY 23 ?v450 (hy := Or.inl ⟨by rfl, ?y450⟩) (hS := by assumption) (h := ?r450)
          case y450 => (intro w hSw; clear hSw; go_simp; try with_reducible rfl)
          case' r450 => skip
          refine Mem.tkY 24 ?v451 (hy := Or.inl ⟨by rfl, ?y451⟩) (hS := by assumption) (h := ?r451)
          case y451 => (intro w hSw; clear hSw; go_simp; try with_reducible rfl)
          case' r451 => skip
          try simp only [List.getElem_toArray, List.getElem_cons_succ, List.getElem_cons_zero, Act.put, List.setIfInBounds_toArray, List.set_cons_zero, List.set_cons_succ]
          first | refine Mem.tkY 25 undef (hy := Or.inr ⟨by rfl, rfl⟩) (hS := by assumption) (h := ?r452) | (refine Mem.tkY 25 ?v452 (hy := Or.inl ⟨by rfl, ?y452⟩) (hS := by assumption) (h := ?r452); case y452 => (intro w hSw; clear hSw; go_simp; try with_reducible rfl))
          case' r452 => skip
          try simp only [List.getElem_toArray, List.getElem_cons_succ, List.getElem_cons_zero, Act.put, List.setIfInBounds_toArray, List.set_cons_zero, List.set_cons_succ]
          first | refine Mem.tkY 26 undef (hy := Or.inr ⟨by rfl, rfl⟩) (hS := by assumption) (h := ?r453) | (refine Mem.tkY 26 ?v453 (hy := Or.inl ⟨by rfl, ?y453⟩) (hS := by assumption) (h := ?r453); case y453 => (intro w hSw; clear hSw; go_simp; try with_reducible rfl))
          case' r453 => skip
          try simp only [List.getElem_toArray, List.getElem_cons_succ, List.getElem_cons_zero, Act.put, List.setIfInBounds_toArray, List.set_cons_zero, List.set_cons_succ]
          first | refine Mem.tkY 27 undef (hy := Or.inr ⟨by rfl, rfl⟩) (hS := by assumption) (h := ?r454) | (refine Mem.tkY 27 ?v454 (hy := Or.inl ⟨by rfl, ?y454⟩) (hS := by assumption) (h := ?r454); case y454 => (intro w hSw; clear hSw; go_simp; try with_reducible rfl))
          case' r454 => skip
          try simp only [List.getElem_toArray, List.getElem_cons_succ, List.getElem_cons_zero, Act.put, List.setIfInBounds_toArray, List.set_cons_zero, List.set_cons_succ]
          first | refine Mem.tkY 28 undef (hy := Or.inr ⟨by rfl, rfl⟩) (hS := by assumption) (h := ?r455) | (refine Mem.tkY 28 ?v455 (hy := Or.inl ⟨by rfl, ?y455⟩) (hS := by assumption) (h := ?r455); case y455 => (intro w hSw; clear hSw; go_simp; try with_reducible rfl))
          case' r455 => skip
          try simp only [List.getElem_toArray, List.getElem_cons_succ, List.getElem_cons_zero, Act.put, List.setIfInBounds_toArray, List.set_cons_zero, List.set_cons_succ]
          first | refine Mem.tkY 29 undef (hy := Or.inr ⟨by rfl, rfl⟩) (hS := by assumption) (h := ?r456) | (refine Mem.tkY 29 ?v456 (hy := Or.inl ⟨by rfl, ?y456⟩) (hS := by assumption) (h := ?r456); case y456 => (intro w hSw; obtain ⟨hT0, hT1, hT2, hT3, hT4, hT5⟩ := hCl.out w hSw; clear hSw; go_simp; try with_reducible rfl))
          case' r456 => skip
          try simp only [List.getElem_toArray, List.getElem_cons_succ, List.getElem_cons_zero, Act.put, List.setIfInBounds_toArray, List.set_cons_zero, List.set_cons_succ]
          first | refine Mem.tkY 30 undef (hy := Or.inr ⟨by rfl, rfl⟩) (hS := by assumption) (h := ?r457) | (refine Mem.tkY 30 ?v457 (hy := Or.inl ⟨by rfl, ?y457⟩) (hS := by assumption) (h := ?r457); case y457 => (intro w hSw; clear hSw; go_simp; try with_reducible rfl))
          case' r457 => skip
          refine Mem.tkY 31 ?v458 (hy := Or.inl ⟨by rfl, ?y458⟩) (hS := by assumption) (h := ?r458)
          case y458 => (intro w hSw; clear hSw; go_simp; try with_reducible rfl)
          case' r458 => skip
          refine Mem.tkY 32 ?v459 (hy := Or.inl ⟨by rfl, ?y459⟩) (hS := by assumption) (h := ?r459)
          case y459 => (intro w hSw; clear hSw; go_simp; try with_reducible rfl)
          case' r459 => skip
          try simp only [List.getElem_toArray, List.getElem_cons_succ, List.getElem_cons_zero, Act.put, List.setIfInBounds_toArray, List.set_cons_zero, List.set_cons_succ]
          first | refine Mem.tkY 33 undef (hy := Or.inr ⟨by rfl, rfl⟩) (hS := by assumption) (h := ?r460) | (refine Mem.tkY 33 ?v460 (hy := Or.inl ⟨by rfl, ?y460⟩) (hS := by assumption) (h := ?r460); case y460 => (intro w hSw; clear hSw; go_simp; try with_reducible rfl))
          case' r460 => skip
          try simp only [List.getElem_toArray, List.getElem_cons_succ, List.getElem_cons_zero, Act.put, List.setIfInBounds_toArray, List.set_cons_zero, List.set_cons_succ]
          first | refine Mem.tkY 34 undef (hy := Or.inr ⟨by rfl, rfl⟩) (hS := by assumption) (h := ?r461) | (refine Mem.tkY 34 ?v461 (hy := Or.inl ⟨by rfl, ?y461⟩) (hS := by assumption) (h := ?r461); case y461 => (intro w hSw; clear hSw; go_simp; try with_reducible rfl))
          case' r461 => skip
          try simp only [List.getElem_toArray, List.getElem_cons_succ, List.getElem_cons_zero, Act.put, List.setIfInBounds_toArray, List.set_cons_zero, List.set_cons_succ]
          first | refine Mem.tkY 35 undef (hy := Or.inr ⟨by rfl, rfl⟩) (hS := by assumption) (h := ?r462) | (refine Mem.tkY 35 ?v462 (hy := Or.inl ⟨by rfl, ?y462⟩) (hS := by assumption) (h := ?r462); case y462 => (intro w hSw; clear hSw; go_simp; try with_reducible rfl))
          case' r462 => skip
          try simp only [List.getElem_toArray, List.getElem_cons_succ, List.getElem_cons_zero, Act.put, List.setIfInBounds_toArray, List.set_cons_zero, List.set_cons_succ]
          first | refine Mem.tkY 36 undef (hy := Or.inr ⟨by rfl, rfl⟩) (hS := by assumption) (h := ?r463) | (refine Mem.tkY 36 ?v463 (hy := Or.inl ⟨by rfl, ?y463⟩) (hS := by assumption) (h := ?r463); case y463 => (intro w hSw; clear hSw; go_simp; try with_reducible rfl))
          case' r463 => skip
          try simp only [List.getElem_toArray, List.getElem_cons_succ, List.getElem_cons_zero, Act.put, List.setIfInBounds_toArray, List.set_cons_zero, List.set_cons_succ]
          first | refine Mem.tkY 37 undef (hy := Or.inr ⟨by rfl, rfl⟩) (hS := by assumption) (h := ?r464) | (refine Mem.tkY 37 ?v464 (hy := Or.inl ⟨by rfl, ?y464⟩) (hS := by assumption) (h := ?r464); case y464 => (intro w hSw; obtain ⟨hT0, hT1, hT2, hT3, hT4, hT5⟩ := hCl.out w hSw; clear hSw; go_simp; try with_reducible rfl))
          case' r464 => skip
          try simp only [List.getElem_toArray, List.getElem_cons_succ, List.getElem_cons_zero, Act.put, List.setIfInBounds_toArray, List.set_cons_zero, List.set_cons_succ]
          first | refine Mem.tkY 38 undef (hy := Or.inr ⟨by rfl, rfl⟩) (hS := by assumption) (h := ?r465) | (refine Mem.tkY 38 ?v465 (hy := Or.inl ⟨by rfl, ?y465⟩) (hS := by assumption) (h := ?r465); case y465 => (intro w hSw; clear hSw; go_simp; try with_reducible rfl))
          case' r465 => skip
          try simp only [List.getElem_toArray, List.getElem_cons_succ, List.getElem_cons_zero, Act.put, List.setIfInBounds_toArray, List.set_cons_zero, List.set_cons_succ]
          first | refine Mem.tkY 39 undef (hy := Or.inr ⟨by rfl, rfl⟩) (hS := by assumption) (h := ?r466) | (refine Mem.tkY 39 ?v466 (hy := Or.inl ⟨by rfl, ?y466⟩) (hS := by assumption) (h := ?r466); case y466 => (intro w hSw; clear hSw; go_simp; try with_reducible rfl))
          case' r466 => skip
          refine Mem.tkY 40 ?v467 (hy := Or.inl ⟨by rfl, ?y467⟩) (hS := by assumption) (h := ?r467)
          case y467 => (intro w hSw; clear hSw; go_simp; try with_reducible rfl)
          case' r467 => skip
          refine Mem.tkY 41 ?v468 (hy := Or.inl ⟨by rfl, ?y468⟩) (hS := by assumption) (h := ?r468)
          case y468 => (intro w hSw; clear hSw; go_simp; try with_reducible rfl)
          case' r468 => skip
          try simp only [List.getElem_toArray, List.getElem_cons_succ, List.getElem_cons_zero, Act.put, List.setIfInBounds_toArray, List.set_cons_zero, List.set_cons_succ]
          first | refine Mem.tkY 42 undef (hy := Or.inr ⟨by rfl, rfl⟩) (hS := by assumption) (h := ?r469) | (refine Mem.tkY 42 ?v469 (hy := Or.inl ⟨by rfl, ?y469⟩) (hS := by assumption) (h := ?r469); case y469 => (intro w hSw; clear hSw; go_simp; try with_reducible rfl))
          case' r469 => skip
          try simp only [List.getElem_toArray, List.getElem_cons_succ, List.getElem_cons_zero, Act.put, List.setIfInBounds_toArray, List.set_cons_zero, List.set_cons_succ]
          first | refine Mem.tkY 43 undef (hy := Or.inr ⟨by rfl, rfl⟩) (hS := by assumption) (h := ?r470) | (refine Mem.tkY 43 ?v470 (hy := Or.inl ⟨by rfl, ?y470⟩) (hS := by assumption) (h := ?r470); case y470 => (intro w hSw; clear hSw; go_simp; try with_reducible rfl))
          case' r470 => skip
          try simp only [List.getElem_toArray, List.getElem_cons_succ, List.getElem_cons_zero, Act.put, List.setIfInBounds_toArray, List.set_cons_zero, List.set_cons_succ]
          first | refine Mem.tkY 44 undef (hy := Or.inr ⟨by rfl, rfl⟩) (hS := by assumption) (h := ?r471) | (refine Mem.tkY 44 ?v471 (hy := Or.inl ⟨by rfl, ?y471⟩) (hS := by assumption) (h := ?r471); case y471 => (intro w hSw; clear hSw; go_simp; try with_reducible rfl))
          case' r471 => skip
          try simp only [List.getElem_toArray, List.getElem_cons_succ, List.getElem_cons_zero, Act.put, List.setIfInBounds_toArray, List.set_cons_zero, List.set_cons_succ]
          first | refine Mem.tkY 45 undef (hy := Or.inr ⟨by rfl, rfl⟩) (hS := by assumption) (h := ?r472) | (refine Mem.tkY 45 ?v472 (hy := Or.inl ⟨by rfl, ?y472⟩) (hS := by assumption) (h := ?r472); case y472 => (intro w hSw; clear hSw; go_simp; try with_reducible rfl))
          case' r472 => skip
          try simp only [List.getElem_toArray, List.getElem_cons_succ, List.getElem_cons_zero, Act.put, List.setIfInBounds_toArray, List.set_cons_zero, List.set_cons_succ]
          first | refine Mem.tkY 46 undef (hy := Or.inr ⟨by rfl, rfl⟩) (hS := by assumption) (h := ?r473) | (refine Mem.tkY 46 ?v473 (hy := Or.inl ⟨by rfl, ?y473⟩) (hS := by assumption) (h := ?r473); case y473 => (intro w hSw; obtain ⟨hT0, hT1, hT2, hT3, hT4, hT5⟩ := hCl.out w hSw; clear hSw; go_simp; try with_reducible rfl))
          case' r473 => skip
          try simp only [List.getElem_toArray, List.getElem_cons_succ, List.getElem_cons_zero, Act.put, List.setIfInBounds_toArray, List.set_cons_zero, List.set_cons_succ]
          first | refine Mem.tkY 47 undef (hy := Or.inr ⟨by rfl, rfl⟩) (hS := by assumption) (h := ?r474) | (refine Mem.tkY 47 ?v474 (hy := Or.inl ⟨by rfl, ?y474⟩) (hS := by assumption) (h := ?r474); case y474 => (intro w hSw; clear hSw; go_simp; try with_reducible rfl))
          case' r474 => skip
          try simp only [List.getElem_toArray, List.getElem_cons_succ, List.getElem_cons_zero, Act.put, List.setIfInBounds_toArray, List.set_cons_zero, List.set_cons_succ]
          first | refine Mem.tkY 48 undef (hy := Or.inr ⟨by rfl, rfl⟩) (hS := by assumption) (h := ?r475) | (refine Mem.tkY 48 ?v475 (hy := Or.inl ⟨by rfl, ?y475⟩) (hS := by assumption) (h := ?r475); case y475 => (intro w hSw; clear hSw; go_simp; try with_reducible rfl))
          case' r475 => skip
          try simp only [List.getElem_toArray, List.getElem_cons_succ, List.getElem_cons_zero, Act.put, List.setIfInBounds_toArray, List.set_cons_zero, List.set_cons_succ]
          first | refine Mem.tkY 49 undef (hy := Or.inr ⟨by rfl, rfl⟩) (hS := by assumption) (h := ?r476) | (refine Mem.tkY 49 ?v476 (hy := Or.inl ⟨by rfl, ?y476⟩) (hS := by assumption) (h := ?r476); case y476 => (intro w hSw; clear hSw; go_simp; try with_reducible rfl))
          case' r476 => skip
          try simp only [List.getElem_toArray, List.getElem_cons_succ, List.getElem_cons_zero, Act.put, List.setIfInBounds_toArray, List.set_cons_zero, List.set_cons_succ]
          first | refine Mem.tkY 50 undef (hy := Or.inr ⟨by rfl, rfl⟩) (hS := by assumption) (h := ?r477) | (refine Mem.tkY 50 ?v477 (hy := Or.inl ⟨by rfl, ?y477⟩) (hS := by assumption) (h := ?r477); case y477 => (intro w hSw; clear hSw; go_simp; try with_reducible rfl))
          case' r477 => skip
          try simp only [List.getElem_toArray, List.getElem_cons_succ, List.getElem_cons_zero, Act.put, List.setIfInBounds_toArray, List.set_cons_zero, List.set_cons_succ]
          first | refine Mem.tkY 51 undef (hy := Or.inr ⟨by rfl, rfl⟩) (hS := by assumption) (h := ?r478) | (refine Mem.tkY 51 ?v478 (hy := Or.inl ⟨by rfl, ?y478⟩) (hS := by assumption) (h := ?r478); case y478 => (intro w hSw; obtain ⟨hT0, hT1, hT2, hT3, hT4, hT5⟩ := hCl.out w hSw; clear hSw; go_simp; try with_reducible rfl))
          case' r478 => skip
          try simp only [List.getElem_toArray, List.getElem_cons_succ, List.getElem_cons_zero, Act.put, List.setIfInBounds_toArray, List.set_cons_zero, List.set_cons_succ]
          first | refine Mem.tkY 52 undef (hy := Or.inr ⟨by rfl, rfl⟩) (hS := by assumption) (h := ?r479) | (refine Mem.tkY 52 ?v479 (hy := Or.inl ⟨by rfl, ?y479⟩) (hS := by assumption) (h := ?r479); case y479 => (intro w hSw; clear hSw; go_simp; try with_reducible rfl))
          case' r479 => skip
          try simp only [List.getElem_toArray, List.getElem_cons_succ, List.getElem_cons_zero, Act.put, List.setIfInBounds_toArray, List.set_cons_zero, List.set_cons_succ]
          first | refine Mem.tkY 53 undef (hy := Or.inr ⟨by rfl, rfl⟩) (hS := by assumption) (h := ?r480) | (refine Mem.tkY 53 ?v480 (hy := Or.inl ⟨by rfl, ?y480⟩) (hS := by assumption) (h := ?r480); case y480 => (intro w hSw; clear hSw; go_simp; try with_reducible rfl))
          case' r480 => skip
          refine Mem.tkY 54 ?v481 (hy := Or.inl ⟨by rfl, ?y481⟩) (hS := by assumption) (h := ?r481)
          case y481 => (intro w hSw; clear hSw; go_simp; try with_reducible rfl)
          case' r481 => skip
          try simp only [List.getElem_toArray, List.getElem_cons_succ, List.getElem_cons_zero, Act.put, List.setIfInBounds_toArray, List.set_cons_zero, List.set_cons_succ]
          refine wpAnyH_done (by kernel_rfl) ?_ _
          clear hCl
          go_wp2_with fail
          go_ret
          exact ⟨ret_bool HV.out.symm, hbr.trans (((Below.refl _ _).drew.trans hHeld).mono hbr.size)⟩
        have d2 : decide (x.blk < 0) = false := decide_eq_false h2
        cases h5 : rightN x.pa x.pd.length with
        | false =>
          rw [mayF_p h5] at hv
          have HV := Lib.hid hv
          have CC := Lib.hid (fun w' => right_any x.pa A1 x.pd.length c1 w' hp1)
          rw [h5] at CC
          clear hv h5 h2
          go_wp2_with fail
          refine wp_region_held_drew (S := Go.RowKit.Below ((wr.drew).heap.size) (wr.drew)) (by kernel_rfl) ?hb487 (fun hHeld => ?rest487)
          case hb487 =>
            exact Go.RowKit.Below.refl _ _
          case' rest487 => skip
          have hCl := fun (wS : World) (hSw : Go.RowKit.Below ((wr.drew).heap.size) (wr.drew) wS) => And.intro (Mem.bl_cell hSw e0 (by first | omega | (dsimp only; omega) | exact World.block_lt_of_cell? _ _ e0 | (simp <;> omega))) <| And.intro (Mem.bl_cell hSw e1 (by first | omega | (dsimp only; omega) | exact World.block_lt_of_cell? _ _ e1 | (simp <;> omega))) <| And.intro (Mem.bl_cell hSw e2 (by first | omega | (dsimp only; omega) | exact World.block_lt_of_cell? _ _ e2 | (simp <;> omega))) <| And.intro (Mem.bl_cell hSw e3 (by first | omega | (dsimp only; omega) | exact World.block_lt_of_cell? _ _ e3 | (simp <;> omega))) <| And.intro (Mem.bl_cell hSw e4 (by first | omega | (dsimp only; omega) | exact World.block_lt_of_cell? _ _ e4 | (simp <;> omega))) <| Mem.bl_cell hSw e5 (by first | omega | (dsimp only; omega) | exact World.block_lt_of_cell? _ _ e5 | (simp <;> omega))
          replace hCl := Go.Lib.hid hCl
          refine Mem.tkY 0 ?v488 (hy := Or.inl ⟨by rfl, ?y488⟩) (hS := by assumption) (h := ?r488)
          case y488 => (intro w hSw; clear hSw; go_simp; try with_reducible rfl)
          case' r488 => skip
          refine Mem.tkY 1 ?v489 (hy := Or.inl ⟨by rfl, ?y489⟩) (hS := by assumption) (h := ?r489)
          case y489 => (intro w hSw; clear hSw; go_simp; try with_reducible rfl)
          case' r489 => skip
          refine Mem.tkY 2 ?v490 (hy := Or.inl ⟨by rfl, ?y490⟩) (hS := by assumption) (h := ?r490)
          case y490 => (intro w hSw; clear hSw; go_simp; try with_reducible rfl)
          case' r490 => skip
          try simp only [List.getElem_toArray, List.getElem_cons_succ, List.getElem_cons_zero, Act.put, List.setIfInBounds_toArray, List.set_cons_zero, List.set_cons_succ]
          refine Mem.tkY 3 ?v491 (hy := Or.inl ⟨by rfl, ?y491⟩) (hS := by assumption) (h := ?r491)
          case y491 => (intro w hSw; clear hSw; go_simp; try with_reducible rfl)
          case' r491 => skip
          refine Mem.tkY 4 ?v492 (hy := Or.inl ⟨by rfl, ?y492⟩) (hS := by assumption) (h := ?r492)
          case y492 => (intro w hSw; obtain ⟨hT0, hT1, hT2, hT3, hT4, hT5⟩ := hCl.out w hSw; clear hSw; go_simp; try with_reducible rfl)
          case' r492 => skip
          refine Mem.tkY 5 ?v493 (hy := Or.inl ⟨by rfl, ?y493⟩) (hS := by assumption) (h := ?r493)
          case y493 => (intro w hSw; clear hSw; go_simp; try with_reducible rfl)
          case' r493 => skip
          try simp only [List.getElem_toArray, List.getElem_cons_succ, List.getElem_cons_zero, Act.put, List.setIfInBounds_toArray, List.set_cons_zero, List.set_cons_succ]
          refine Mem.tkY 6 ?v494 (hy := Or.inl ⟨by rfl, ?y494⟩) (hS := by assumption) (h := ?r494)
          case y494 => (intro w hSw; clear hSw; go_simp; try with_reducible rfl)
          case' r494 => skip
          try simp only [List.getElem_toArray, List.getElem_cons_succ, List.getElem_cons_zero, Act.put, List.setIfInBounds_toArray, List.set_cons_zero, List.set_cons_succ]
          first | refine Mem.tkY 7 undef (hy := Or.inr ⟨by rfl, rfl⟩) (hS := by assumption) (h := ?r495) | (refine Mem.tkY 7 ?v495 (hy := Or.inl ⟨by rfl, ?y495⟩) (hS := by assumption) (h := ?r495); case y495 => (intro w hSw; clear hSw; go_simp; try with_reducible rfl))
          case' r495 => skip
          try simp only [List.getElem_toArray, List.getElem_cons_succ, List.getElem_cons_zero, Act.put, List.setIfInBounds_toArray, List.set_cons_zero, List.set_cons_succ]
          first | refine Mem.tkY 8 undef (hy := Or.inr ⟨by rfl, rfl⟩) (hS := by assumption) (h := ?r496) | (refine Mem.tkY 8 ?v496 (hy := Or.inl ⟨by rfl, ?y496⟩) (hS := by assumption) (h := ?r496); case y496 => (intro w hSw; clear hSw; go_simp; try with_reducible rfl))
          case' r496 => skip
          try simp only [List.getElem_toArray, List.getElem_cons_succ, List.getElem_cons_zero, Act.put, List.setIfInBounds_toArray, List.set_cons_zero, List.set_cons_succ]
          first | refine Mem.tkY 9 undef (hy := Or.inr ⟨by rfl, rfl⟩) (hS := by assumption) (h := ?r497) | (refine Mem.tkY 9 ?v497 (hy := Or.inl ⟨by rfl, ?y497⟩) (hS := by assumption) (h := ?r497); case y497 => (intro w hSw; clear hSw; go_simp; try with_reducible rfl))
          case' r497 => skip
          try simp only [List.getElem_toArray, List.getElem_cons_succ, List.getElem_cons_zero, Act.put, List.setIfInBounds_toArray, List.set_cons_zero, List.set_cons_succ]
          first | refine Mem.tkY 10 undef (hy := Or.inr ⟨by rfl, rfl⟩) (hS := by assumption) (h := ?r498) | (refine Mem.tkY 10 ?v498 (hy := Or.inl ⟨by rfl, ?y498⟩) (hS := by assumption) (h := ?r498); case y498 => (intro w hSw; clear hSw; go_simp; try with_reducible rfl))
          case' r498 => skip
          try simp only [List.getElem_toArray, List.getElem_cons_succ, List.getElem_cons_zero, Act.put, List.setIfInBounds_toArray, List.set_cons_zero, List.set_cons_succ]
          first | refine Mem.tkY 11 undef (hy := Or.inr ⟨by rfl, rfl⟩) (hS := by assumption) (h := ?r499) | (refine Mem.tkY 11 ?v499 (hy := Or.inl ⟨by rfl, ?y499⟩) (hS := by assumption) (h := ?r499); case y499 => (intro w hSw; clear hSw; go_simp; try with_reducible rfl))
          case' r499 => skip
          try simp only [List.getElem_toArray, List.getElem_cons_succ, List.getElem_cons_zero, Act.put, List.setIfInBounds_toArray, List.set_cons_zero, List.set_cons_succ]
          first | refine Mem.tkY 12 undef (hy := Or.inr ⟨by rfl, rfl⟩) (hS := by assumption) (h := ?r500) | (refine Mem.tkY 12 ?v500 (hy := Or.inl ⟨by rfl, ?y500⟩) (hS := by assumption) (h := ?r500); case y500 => (intro w hSw; clear hSw; go_simp; try with_reducible rfl))
          case' r500 => skip
          try simp only [List.getElem_toArray, List.getElem_cons_succ, List.getElem_cons_zero, Act.put, List.setIfInBounds_toArray, List.set_cons_zero, List.set_cons_succ]
          first | refine Mem.tkY 13 undef (hy := Or.inr ⟨by rfl, rfl⟩) (hS := by assumption) (h := ?r501) | (refine Mem.tkY 13 ?v501 (hy := Or.inl ⟨by rfl, ?y501⟩) (hS := by assumption) (h := ?r501); case y501 => (intro w hSw; clear hSw; go_simp; try with_reducible rfl))
          case' r501 => skip
          try simp only [List.getElem_toArray, List.getElem_cons_succ, List.getElem_cons_zero, Act.put, List.setIfInBounds_toArray, List.set_cons_zero, List.set_cons_succ]
          first | refine Mem.tkY 14 undef (hy := Or.inr ⟨by rfl, rfl⟩) (hS := by assumption) (h := ?r502) | (refine Mem.tkY 14 ?v502 (hy := Or.inl ⟨by rfl, ?y502⟩) (hS := by assumption) (h := ?r502); case y502 => (intro w hSw; obtain ⟨hT0, hT1, hT2, hT3, hT4, hT5⟩ := hCl.out w hSw; clear hSw; go_simp; try with_reducible rfl))
          case' r502 => skip
          try simp only [List.getElem_toArray, List.getElem_cons_succ, List.getElem_cons_zero, Act.put, List.setIfInBounds_toArray, List.set_cons_zero, List.set_cons_succ]
          first | refine Mem.tkY 15 undef (hy := Or.inr ⟨by rfl, rfl⟩) (hS := by assumption) (h := ?r503) | (refine Mem.tkY 15 ?v503 (hy := Or.inl ⟨by rfl, ?y503⟩) (hS := by assumption) (h := ?r503); case y503 => (intro w hSw; clear hSw; go_simp; try with_reducible rfl))
          case' r503 => skip
          try simp only [List.getElem_toArray, List.getElem_cons_succ, List.getElem_cons_zero, Act.put, List.setIfInBounds_toArray, List.set_cons_zero, List.set_cons_succ]
          first | refine Mem.tkY 16 undef (hy := Or.inr ⟨by rfl, rfl⟩) (hS := by assumption) (h := ?r504) | (refine Mem.tkY 16 ?v504 (hy := Or.inl ⟨by rfl, ?y504⟩) (hS := by assumption) (h := ?r504); case y504 => (intro w hSw; clear hSw; go_simp; try with_reducible rfl))
          case' r504 => skip
          try simp only [List.getElem_toArray, List.getElem_cons_succ, List.getElem_cons_zero, Act.put, List.setIfInBounds_toArray, List.set_cons_zero, List.set_cons_succ]
          first | refine Mem.tkY 17 undef (hy := Or.inr ⟨by rfl, rfl⟩) (hS := by assumption) (h := ?r505) | (refine Mem.tkY 17 ?v505 (hy := Or.inl ⟨by rfl, ?y505⟩) (hS := by assumption) (h := ?r505); case y505 => (intro w hSw; clear hSw; go_simp; try with_reducible rfl))
          case' r505 => skip
          try simp only [List.getElem_toArray, List.getElem_cons_succ, List.getElem_cons_zero, Act.put, List.setIfInBounds_toArray, List.set_cons_zero, List.set_cons_succ]
          first | refine Mem.tkY 18 undef (hy := Or.inr ⟨by rfl, rfl⟩) (hS := by assumption) (h := ?r506) | (refine Mem.tkY 18 ?v506 (hy := Or.inl ⟨by rfl, ?y506⟩) (hS := by assumption) (h := ?r506); case y506 => (intro w hSw; clear hSw; go_simp; try with_reducible rfl))
          case' r506 => skip
          try simp only [List.getElem_toArray, List.getElem_cons_succ, List.getElem_cons_zero, Act.put, List.setIfInBounds_toArray, List.set_cons_zero, List.set_cons_succ]
          first | refine Mem.tkY 19 undef (hy := Or.inr ⟨by rfl, rfl⟩) (hS := by assumption) (h := ?r507) | (refine Mem.tkY 19 ?v507 (hy := Or.inl ⟨by rfl, ?y507⟩) (hS := by assumption) (h := ?r507); case y507 => (intro w hSw; clear hSw; go_simp; try with_reducible rfl))
          case' r507 => skip
          try simp only [List.getElem_toArray, List.getElem_cons_succ, List.getElem_cons_zero, Act.put, List.setIfInBounds_toArray, List.set_cons_zero, List.set_cons_succ]
          first | refine Mem.tkY 20 undef (hy := Or.inr ⟨by rfl, rfl⟩) (hS := by assumption) (h := ?r508) | (refine Mem.tkY 20 ?v508 (hy := Or.inl ⟨by rfl, ?y508⟩) (hS := by assumption) (h := ?r508); case y508 => (intro w hSw; obtain ⟨hT0, hT1, hT2, hT3, hT4, hT5⟩ := hCl.out w hSw; clear hSw; go_simp; try with_reducible rfl))
          case' r508 => skip
          try simp only [List.getElem_toArray, List.getElem_cons_succ, List.getElem_cons_zero, Act.put, List.setIfInBounds_toArray, List.set_cons_zero, List.set_cons_succ]
          first | refine Mem.tkY 21 undef (hy := Or.inr ⟨by rfl, rfl⟩) (hS := by assumption) (h := ?r509) | (refine Mem.tkY 21 ?v509 (hy := Or.inl ⟨by rfl, ?y509⟩) (hS := by assumption) (h := ?r509); case y509 => (intro w hSw; clear hSw; go_simp; try with_reducible rfl))
          case' r509 => skip
          try simp only [List.getElem_toArray, List.getElem_cons_succ, List.getElem_cons_zero, Act.put, List.setIfInBounds_toArray, List.set_cons_zero, List.set_cons_succ]
          first | refine Mem.tkY 22 undef (hy := Or.inr ⟨by rfl, rfl⟩) (hS := by assumption) (h := ?r510) | (refine Mem.tkY 22 ?v510 (hy := Or.inl ⟨by rfl, ?y510⟩) (hS := by assumption) (h := ?r510); case y510 => (intro w hSw; clear hSw; go_simp; try with_reducible rfl))
          case' r510 => skip
          refine Mem.tkY 23 ?v511 (hy := Or.inl ⟨by rfl, ?y511⟩) (hS := by assumption) (h := ?r511)
          case y511 => (intro w hSw; clear hSw; go_simp; try with_reducible rfl)
          case' r511 => skip
          refine Mem.tkY 24 ?v512 (hy := Or.inl ⟨by rfl, ?y512⟩) (hS := by assumption) (h := ?r512)
          case y512 => (intro w hSw; clear hSw; go_simp; try with_reducible rfl)
          case' r512 => skip
          try simp only [List.getElem_toArray, List.getElem_cons_succ, List.getElem_cons_zero, Act.put, List.setIfInBounds_toArray, List.set_cons_zero, List.set_cons_succ]
          first | refine Mem.tkY 25 undef (hy := Or.inr ⟨by rfl, rfl⟩) (hS := by assumption) (h := ?r513) | (refine Mem.tkY 25 ?v513 (hy := Or.inl ⟨by rfl, ?y513⟩) (hS := by assumption) (h := ?r513); case y513 => (intro w hSw; clear hSw; go_simp; try with_reducible rfl))
          case' r513 => skip
          try simp only [List.getElem_toArray, List.getElem_cons_succ, List.getElem_cons_zero, Act.put, List.setIfInBounds_toArray, List.set_cons_zero, List.set_cons_succ]
          first | refine Mem.tkY 26 undef (hy := Or.inr ⟨by rfl, rfl⟩) (hS := by assumption) (h := ?r514) | (refine Mem.tkY 26 ?v514 (hy := Or.inl ⟨by rfl, ?y514⟩) (hS := by assumption) (h := ?r514); case y514 => (intro w hSw; clear hSw; go_simp; try with_reducible rfl))
          case' r514 => skip
          try simp only [List.getElem_toArray, List.getElem_cons_succ, List.getElem_cons_zero, Act.put, List.setIfInBounds_toArray, List.set_cons_zero, List.set_cons_succ]
          first | refine Mem.tkY 27 undef (hy := Or.inr ⟨by rfl, rfl⟩) (hS := by assumption) (h := ?r515) | (refine Mem.tkY 27 ?v515 (hy := Or.inl ⟨by rfl, ?y515⟩) (hS := by assumption) (h := ?r515); case y515 => (intro w hSw; clear hSw; go_simp; try with_reducible rfl))
          case' r515 => skip
          try simp only [List.getElem_toArray, List.getElem_cons_succ, List.getElem_cons_zero, Act.put, List.setIfInBounds_toArray, List.set_cons_zero, List.set_cons_succ]
          first | refine Mem.tkY 28 undef (hy := Or.inr ⟨by rfl, rfl⟩) (hS := by assumption) (h := ?r516) | (refine Mem.tkY 28 ?v516 (hy := Or.inl ⟨by rfl, ?y516⟩) (hS := by assumption) (h := ?r516); case y516 => (intro w hSw; clear hSw; go_simp; try with_reducible rfl))
          case' r516 => skip
          try simp only [List.getElem_toArray, List.getElem_cons_succ, List.getElem_cons_zero, Act.put, List.setIfInBounds_toArray, List.set_cons_zero, List.set_cons_succ]
          first | refine Mem.tkY 29 undef (hy := Or.inr ⟨by rfl, rfl⟩) (hS := by assumption) (h := ?r517) | (refine Mem.tkY 29 ?v517 (hy := Or.inl ⟨by rfl, ?y517⟩) (hS := by assumption) (h := ?r517); case y517 => (intro w hSw; obtain ⟨hT0, hT1, hT2, hT3, hT4, hT5⟩ := hCl.out w hSw; clear hSw; go_simp; try with_reducible rfl))
          case' r517 => skip
          try simp only [List.getElem_toArray, List.getElem_cons_succ, List.getElem_cons_zero, Act.put, List.setIfInBounds_toArray, List.set_cons_zero, List.set_cons_succ]
          first | refine Mem.tkY 30 undef (hy := Or.inr ⟨by rfl, rfl⟩) (hS := by assumption) (h := ?r518) | (refine Mem.tkY 30 ?v518 (hy := Or.inl ⟨by rfl, ?y518⟩) (hS := by assumption) (h := ?r518); case y518 => (intro w hSw; clear hSw; go_simp; try with_reducible rfl))
          case' r518 => skip
          refine Mem.tkY 31 ?v519 (hy := Or.inl ⟨by rfl, ?y519⟩) (hS := by assumption) (h := ?r519)
          case y519 => (intro w hSw; clear hSw; go_simp; try with_reducible rfl)
          case' r519 => skip
          refine Mem.tkY 32 ?v520 (hy := Or.inl ⟨by rfl, ?y520⟩) (hS := by assumption) (h := ?r520)
          case y520 => (intro w hSw; clear hSw; go_simp; try with_reducible rfl)
          case' r520 => skip
          try simp only [List.getElem_toArray, List.getElem_cons_succ, List.getElem_cons_zero, Act.put, List.setIfInBounds_toArray, List.set_cons_zero, List.set_cons_succ]
          first | refine Mem.tkY 33 undef (hy := Or.inr ⟨by rfl, rfl⟩) (hS := by assumption) (h := ?r521) | (refine Mem.tkY 33 ?v521 (hy := Or.inl ⟨by rfl, ?y521⟩) (hS := by assumption) (h := ?r521); case y521 => (intro w hSw; clear hSw; go_simp; try with_reducible rfl))
          case' r521 => skip
          try simp only [List.getElem_toArray, List.getElem_cons_succ, List.getElem_cons_zero, Act.put, List.setIfInBounds_toArray, List.set_cons_zero, List.set_cons_succ]
          first | refine Mem.tkY 34 undef (hy := Or.inr ⟨by rfl, rfl⟩) (hS := by assumption) (h := ?r522) | (refine Mem.tkY 34 ?v522 (hy := Or.inl ⟨by rfl, ?y522⟩) (hS := by assumption) (h := ?r522); case y522 => (intro w hSw; clear hSw; go_simp; try with_reducible rfl))
          case' r522 => skip
          try simp only [List.getElem_toArray, List.getElem_cons_succ, List.getElem_cons_zero, Act.put, List.setIfInBounds_toArray, List.set_cons_zero, List.set_cons_succ]
          first | refine Mem.tkY 35 undef (hy := Or.inr ⟨by rfl, rfl⟩) (hS := by assumption) (h := ?r523) | (refine Mem.tkY 35 ?v523 (hy := Or.inl ⟨by rfl, ?y523⟩) (hS := by assumption) (h := ?r523); case y523 => (intro w hSw; clear hSw; go_simp; try with_reducible rfl))
          case' r523 => skip
          try simp only [List.getElem_toArray, List.getElem_cons_succ, List.getElem_cons_zero, Act.put, List.setIfInBounds_toArray, List.set_cons_zero, List.set_cons_succ]
          first | refine Mem.tkY 36 undef (hy := Or.inr ⟨by rfl, rfl⟩) (hS := by assumption) (h := ?r524) | (refine Mem.tkY 36 ?v524 (hy := Or.inl ⟨by rfl, ?y524⟩) (hS := by assumption) (h := ?r524); case y524 => (intro w hSw; clear hSw; go_simp; try with_reducible rfl))
          case' r524 => skip
          try simp only [List.getElem_toArray, List.getElem_cons_succ, List.getElem_cons_zero, Act.put, List.setIfInBounds_toArray, List.set_cons_zero, List.set_cons_succ]
          first | refine Mem.tkY 37 undef (hy := Or.inr ⟨by rfl, rfl⟩) (hS := by assumption) (h := ?r525) | (refine Mem.tkY 37 ?v525 (hy := Or.inl ⟨by rfl, ?y525⟩) (hS := by assumption) (h := ?r525); case y525 => (intro w hSw; obtain ⟨hT0, hT1, hT2, hT3, hT4, hT5⟩ := hCl.out w hSw; clear hSw; go_simp; try with_reducible rfl))
          case' r525 => skip
          try simp only [List.getElem_toArray, List.getElem_cons_succ, List.getElem_cons_zero, Act.put, List.setIfInBounds_toArray, List.set_cons_zero, List.set_cons_succ]
          refine wpAnyH_ready (rs := [38]) (by kernel_rfl) (by simp) ?_
          refine AllReadyH.cons rfl (fun K hK => ?_) AllReadyH.nil
          go_simp
          (refine (CC.out _).mono ?_; rintro e wb ⟨rfl, hbl⟩)
          try go_wp2_with fail
          have hSnew := Mem.bl_step hHeld hbl (by first | exact Nat.le_refl _ | omega | (simp <;> omega))
          refine hK.out _ _ ?_ (fun hHeld2 => ?_)
          · exact hSnew
          try replace hn := hn.below hbl
          clear hbl
          clear hK K hHeld hSnew
          have hHeld := hHeld2
          clear hHeld2
          try simp only [List.getElem_toArray, List.getElem_cons_succ, List.getElem_cons_zero, Act.put, List.setIfInBounds_toArray, List.set_cons_zero, List.set_cons_succ]
          first | refine Mem.tkY 39 undef (hy := Or.inr ⟨by rfl, rfl⟩) (hS := by assumption) (h := ?r526) | (refine Mem.tkY 39 ?v526 (hy := Or.inl ⟨by rfl, ?y526⟩) (hS := by assumption) (h := ?r526); case y526 => (intro w hSw; clear hSw; go_simp; try with_reducible rfl))
          case' r526 => skip
          refine Mem.tkY 40 ?v527 (hy := Or.inl ⟨by rfl, ?y527⟩) (hS := by assumption) (h := ?r527)
          case y527 => (intro w hSw; clear hSw; go_simp; try with_reducible rfl)
          case' r527 => skip
          refine Mem.tkY 41 ?v528 (hy := Or.inl ⟨by rfl, ?y528⟩) (hS := by assumption) (h := ?r528)
          case y528 => (intro w hSw; clear hSw; go_simp; try with_reducible rfl)
          case' r528 => skip
          try simp only [List.getElem_toArray, List.getElem_cons_succ, List.getElem_cons_zero, Act.put, List.setIfInBounds_toArray, List.set_cons_zero, List.set_cons_succ]
          first | refine Mem.tkY 42 undef (hy := Or.inr ⟨by rfl, rfl⟩) (hS := by assumption) (h := ?r529) | (refine Mem.tkY 42 ?v529 (hy := Or.inl ⟨by rfl, ?y529⟩) (hS := by assumption) (h := ?r529); case y529 => (intro w hSw; clear hSw; go_simp; try with_reducible rfl))
          case' r529 => skip
          try simp only [List.getElem_toArray, List.getElem_cons_succ, List.getElem_cons_zero, Act.put, List.setIfInBounds_toArray, List.set_cons_zero, List.set_cons_succ]
          first | refine Mem.tkY 43 undef (hy := Or.inr ⟨by rfl, rfl⟩) (hS := by assumption) (h := ?r530) | (refine Mem.tkY 43 ?v530 (hy := Or.inl ⟨by rfl, ?y530⟩) (hS := by assumption) (h := ?r530); case y530 => (intro w hSw; clear hSw; go_simp; try with_reducible rfl))
          case' r530 => skip
          try simp only [List.getElem_toArray, List.getElem_cons_succ, List.getElem_cons_zero, Act.put, List.setIfInBounds_toArray, List.set_cons_zero, List.set_cons_succ]
          first | refine Mem.tkY 44 undef (hy := Or.inr ⟨by rfl, rfl⟩) (hS := by assumption) (h := ?r531) | (refine Mem.tkY 44 ?v531 (hy := Or.inl ⟨by rfl, ?y531⟩) (hS := by assumption) (h := ?r531); case y531 => (intro w hSw; clear hSw; go_simp; try with_reducible rfl))
          case' r531 => skip
          try simp only [List.getElem_toArray, List.getElem_cons_succ, List.getElem_cons_zero, Act.put, List.setIfInBounds_toArray, List.set_cons_zero, List.set_cons_succ]
          first | refine Mem.tkY 45 undef (hy := Or.inr ⟨by rfl, rfl⟩) (hS := by assumption) (h := ?r532) | (refine Mem.tkY 45 ?v532 (hy := Or.inl ⟨by rfl, ?y532⟩) (hS := by assumption) (h := ?r532); case y532 => (intro w hSw; clear hSw; go_simp; try with_reducible rfl))
          case' r532 => skip
          try simp only [List.getElem_toArray, List.getElem_cons_succ, List.getElem_cons_zero, Act.put, List.setIfInBounds_toArray, List.set_cons_zero, List.set_cons_succ]
          first | refine Mem.tkY 46 undef (hy := Or.inr ⟨by rfl, rfl⟩) (hS := by assumption) (h := ?r533) | (refine Mem.tkY 46 ?v533 (hy := Or.inl ⟨by rfl, ?y533⟩) (hS := by assumption) (h := ?r533); case y533 => (intro w hSw; obtain ⟨hT0, hT1, hT2, hT3, hT4, hT5⟩ := hCl.out w hSw; clear hSw; go_simp; try with_reducible rfl))
          case' r533 => skip
          try simp only [List.getElem_toArray, List.getElem_cons_succ, List.getElem_cons_zero, Act.put, List.setIfInBounds_toArray, List.set_cons_zero, List.set_cons_succ]
          first | refine Mem.tkY 47 undef (hy := Or.inr ⟨by rfl, rfl⟩) (hS := by assumption) (h := ?r534) | (refine Mem.tkY 47 ?v534 (hy := Or.inl ⟨by rfl, ?y534⟩) (hS := by assumption) (h := ?r534); case y534 => (intro w hSw; clear hSw; go_simp; try with_reducible rfl))
          case' r534 => skip
          try simp only [List.getElem_toArray, List.getElem_cons_succ, List.getElem_cons_zero, Act.put, List.setIfInBounds_toArray, List.set_cons_zero, List.set_cons_succ]
          first | refine Mem.tkY 48 undef (hy := Or.inr ⟨by rfl, rfl⟩) (hS := by assumption) (h := ?r535) | (refine Mem.tkY 48 ?v535 (hy := Or.inl ⟨by rfl, ?y535⟩) (hS := by assumption) (h := ?r535); case y535 => (intro w hSw; clear hSw; go_simp; try with_reducible rfl))
          case' r535 => skip
          try simp only [List.getElem_toArray, List.getElem_cons_succ, List.getElem_cons_zero, Act.put, List.setIfInBounds_toArray, List.set_cons_zero, List.set_cons_succ]
          first | refine Mem.tkY 49 undef (hy := Or.inr ⟨by rfl, rfl⟩) (hS := by assumption) (h := ?r536) | (refine Mem.tkY 49 ?v536 (hy := Or.inl ⟨by rfl, ?y536⟩) (hS := by assumption) (h := ?r536); case y536 => (intro w hSw; clear hSw; go_simp; try with_reducible rfl))
          case' r536 => skip
          try simp only [List.getElem_toArray, List.getElem_cons_succ, List.getElem_cons_zero, Act.put, List.setIfInBounds_toArray, List.set_cons_zero, List.set_cons_succ]
          first | refine Mem.tkY 50 undef (hy := Or.inr ⟨by rfl, rfl⟩) (hS := by assumption) (h := ?r537) | (refine Mem.tkY 50 ?v537 (hy := Or.inl ⟨by rfl, ?y537⟩) (hS := by assumption) (h := ?r537); case y537 => (intro w hSw; clear hSw; go_simp; try with_reducible rfl))
          case' r537 => skip
          try simp only [List.getElem_toArray, List.getElem_cons_succ, List.getElem_cons_zero, Act.put, List.setIfInBounds_toArray, List.set_cons_zero, List.set_cons_succ]
          first | refine Mem.tkY 51 undef (hy := Or.inr ⟨by rfl, rfl⟩) (hS := by assumption) (h := ?r538) | (refine Mem.tkY 51 ?v538 (hy := Or.inl ⟨by rfl, ?y538⟩) (hS := by assumption) (h := ?r538); case y538 => (intro w hSw; obtain ⟨hT0, hT1, hT2, hT3, hT4, hT5⟩ := hCl.out w hSw; clear hSw; go_simp; try with_reducible rfl))
          case' r538 => skip
          try simp only [List.getElem_toArray, List.getElem_cons_succ, List.getElem_cons_zero, Act.put, List.setIfInBounds_toArray, List.set_cons_zero, List.set_cons_succ]
          first | refine Mem.tkY 52 undef (hy := Or.inr ⟨by rfl, rfl⟩) (hS := by assumption) (h := ?r539) | (refine Mem.tkY 52 ?v539 (hy := Or.inl ⟨by rfl, ?y539⟩) (hS := by assumption) (h := ?r539); case y539 => (intro w hSw; clear hSw; go_simp; try with_reducible rfl))
          case' r539 => skip
          try simp only [List.getElem_toArray, List.getElem_cons_succ, List.getElem_cons_zero, Act.put, List.setIfInBounds_toArray, List.set_cons_zero, List.set_cons_succ]
          first | refine Mem.tkY 53 undef (hy := Or.inr ⟨by rfl, rfl⟩) (hS := by assumption) (h := ?r540) | (refine Mem.tkY 53 ?v540 (hy := Or.inl ⟨by rfl, ?y540⟩) (hS := by assumption) (h := ?r540); case y540 => (intro w hSw; clear hSw; go_simp; try with_reducible rfl))
          case' r540 => skip
          refine Mem.tkY 54 ?v541 (hy := Or.inl ⟨by rfl, ?y541⟩) (hS := by assumption) (h := ?r541)
          case y541 => (intro w hSw; clear hSw; go_simp; try with_reducible rfl)
          case' r541 => skip
          try simp only [List.getElem_toArray, List.getElem_cons_succ, List.getElem_cons_zero, Act.put, List.setIfInBounds_toArray, List.set_cons_zero, List.set_cons_succ]
          refine wpAnyH_done (by kernel_rfl) ?_ _
          clear hCl
          go_wp2_with fail
          go_ret
          exact ⟨ret_bool HV.out.symm, hbr.trans (((Below.refl _ _).drew.trans hHeld).mono hbr.size)⟩
        | true =>
          have CC := Lib.hid (fun w' => right_any x.pa A1 x.pd.length c1 w' hp1)
          have CR := Lib.hid (fun w' h => rrise_any A2 c2 x.needs x.id w' h)
          rw [h5] at CC
          cases h6 : riseF x.id 0 x.needs with
          | false =>
            rw [mayF_n h6] at hv
            rw [h6] at CR
            have HV := Lib.hid hv
            clear hv h5 h6 h2
            go_wp2_with fail
            refine wp_region_held_drew (S := Go.RowKit.Below ((wr.drew).heap.size) (wr.drew)) (by kernel_rfl) ?hb548 (fun hHeld => ?rest548)
            case hb548 =>
              exact Go.RowKit.Below.refl _ _
            case' rest548 => skip
            have hCl := fun (wS : World) (hSw : Go.RowKit.Below ((wr.drew).heap.size) (wr.drew) wS) => And.intro (Mem.bl_cell hSw e0 (by first | omega | (dsimp only; omega) | exact World.block_lt_of_cell? _ _ e0 | (simp <;> omega))) <| And.intro (Mem.bl_cell hSw e1 (by first | omega | (dsimp only; omega) | exact World.block_lt_of_cell? _ _ e1 | (simp <;> omega))) <| And.intro (Mem.bl_cell hSw e2 (by first | omega | (dsimp only; omega) | exact World.block_lt_of_cell? _ _ e2 | (simp <;> omega))) <| And.intro (Mem.bl_cell hSw e3 (by first | omega | (dsimp only; omega) | exact World.block_lt_of_cell? _ _ e3 | (simp <;> omega))) <| And.intro (Mem.bl_cell hSw e4 (by first | omega | (dsimp only; omega) | exact World.block_lt_of_cell? _ _ e4 | (simp <;> omega))) <| Mem.bl_cell hSw e5 (by first | omega | (dsimp only; omega) | exact World.block_lt_of_cell? _ _ e5 | (simp <;> omega))
            replace hCl := Go.Lib.hid hCl
            refine Mem.tkY 0 ?v549 (hy := Or.inl ⟨by rfl, ?y549⟩) (hS := by assumption) (h := ?r549)
            case y549 => (intro w hSw; clear hSw; go_simp; try with_reducible rfl)
            case' r549 => skip
            refine Mem.tkY 1 ?v550 (hy := Or.inl ⟨by rfl, ?y550⟩) (hS := by assumption) (h := ?r550)
            case y550 => (intro w hSw; clear hSw; go_simp; try with_reducible rfl)
            case' r550 => skip
            refine Mem.tkY 2 ?v551 (hy := Or.inl ⟨by rfl, ?y551⟩) (hS := by assumption) (h := ?r551)
            case y551 => (intro w hSw; clear hSw; go_simp; try with_reducible rfl)
            case' r551 => skip
            try simp only [List.getElem_toArray, List.getElem_cons_succ, List.getElem_cons_zero, Act.put, List.setIfInBounds_toArray, List.set_cons_zero, List.set_cons_succ]
            refine Mem.tkY 3 ?v552 (hy := Or.inl ⟨by rfl, ?y552⟩) (hS := by assumption) (h := ?r552)
            case y552 => (intro w hSw; clear hSw; go_simp; try with_reducible rfl)
            case' r552 => skip
            refine Mem.tkY 4 ?v553 (hy := Or.inl ⟨by rfl, ?y553⟩) (hS := by assumption) (h := ?r553)
            case y553 => (intro w hSw; obtain ⟨hT0, hT1, hT2, hT3, hT4, hT5⟩ := hCl.out w hSw; clear hSw; go_simp; try with_reducible rfl)
            case' r553 => skip
            refine Mem.tkY 5 ?v554 (hy := Or.inl ⟨by rfl, ?y554⟩) (hS := by assumption) (h := ?r554)
            case y554 => (intro w hSw; clear hSw; go_simp; try with_reducible rfl)
            case' r554 => skip
            try simp only [List.getElem_toArray, List.getElem_cons_succ, List.getElem_cons_zero, Act.put, List.setIfInBounds_toArray, List.set_cons_zero, List.set_cons_succ]
            refine Mem.tkY 6 ?v555 (hy := Or.inl ⟨by rfl, ?y555⟩) (hS := by assumption) (h := ?r555)
            case y555 => (intro w hSw; clear hSw; go_simp; try with_reducible rfl)
            case' r555 => skip
            try simp only [List.getElem_toArray, List.getElem_cons_succ, List.getElem_cons_zero, Act.put, List.setIfInBounds_toArray, List.set_cons_zero, List.set_cons_succ]
            first | refine Mem.tkY 7 undef (hy := Or.inr ⟨by rfl, rfl⟩) (hS := by assumption) (h := ?r556) | (refine Mem.tkY 7 ?v556 (hy := Or.inl ⟨by rfl, ?y556⟩) (hS := by assumption) (h := ?r556); case y556 => (intro w hSw; clear hSw; go_simp; try with_reducible rfl))
            case' r556 => skip
            try simp only [List.getElem_toArray, List.getElem_cons_succ, List.getElem_cons_zero, Act.put, List.setIfInBounds_toArray, List.set_cons_zero, List.set_cons_succ]
            first | refine Mem.tkY 8 undef (hy := Or.inr ⟨by rfl, rfl⟩) (hS := by assumption) (h := ?r557) | (refine Mem.tkY 8 ?v557 (hy := Or.inl ⟨by rfl, ?y557⟩) (hS := by assumption) (h := ?r557); case y557 => (intro w hSw; clear hSw; go_simp; try with_reducible rfl))
            case' r557 => skip
            try simp only [List.getElem_toArray, List.getElem_cons_succ, List.getElem_cons_zero, Act.put, List.setIfInBounds_toArray, List.set_cons_zero, List.set_cons_succ]
            first | refine Mem.tkY 9 undef (hy := Or.inr ⟨by rfl, rfl⟩) (hS := by assumption) (h := ?r558) | (refine Mem.tkY 9 ?v558 (hy := Or.inl ⟨by rfl, ?y558⟩) (hS := by assumption) (h := ?r558); case y558 => (intro w hSw; clear hSw; go_simp; try with_reducible rfl))
            case' r558 => skip
            try simp only [List.getElem_toArray, List.getElem_cons_succ, List.getElem_cons_zero, Act.put, List.setIfInBounds_toArray, List.set_cons_zero, List.set_cons_succ]
            first | refine Mem.tkY 10 undef (hy := Or.inr ⟨by rfl, rfl⟩) (hS := by assumption) (h := ?r559) | (refine Mem.tkY 10 ?v559 (hy := Or.inl ⟨by rfl, ?y559⟩) (hS := by assumption) (h := ?r559); case y559 => (intro w hSw; clear hSw; go_simp; try with_reducible rfl))
            case' r559 => skip
            try simp only [List.getElem_toArray, List.getElem_cons_succ, List.getElem_cons_zero, Act.put, List.setIfInBounds_toArray, List.set_cons_zero, List.set_cons_succ]
            first | refine Mem.tkY 11 undef (hy := Or.inr ⟨by rfl, rfl⟩) (hS := by assumption) (h := ?r560) | (refine Mem.tkY 11 ?v560 (hy := Or.inl ⟨by rfl, ?y560⟩) (hS := by assumption) (h := ?r560); case y560 => (intro w hSw; clear hSw; go_simp; try with_reducible rfl))
            case' r560 => skip
            try simp only [List.getElem_toArray, List.getElem_cons_succ, List.getElem_cons_zero, Act.put, List.setIfInBounds_toArray, List.set_cons_zero, List.set_cons_succ]
            first | refine Mem.tkY 12 undef (hy := Or.inr ⟨by rfl, rfl⟩) (hS := by assumption) (h := ?r561) | (refine Mem.tkY 12 ?v561 (hy := Or.inl ⟨by rfl, ?y561⟩) (hS := by assumption) (h := ?r561); case y561 => (intro w hSw; clear hSw; go_simp; try with_reducible rfl))
            case' r561 => skip
            try simp only [List.getElem_toArray, List.getElem_cons_succ, List.getElem_cons_zero, Act.put, List.setIfInBounds_toArray, List.set_cons_zero, List.set_cons_succ]
            first | refine Mem.tkY 13 undef (hy := Or.inr ⟨by rfl, rfl⟩) (hS := by assumption) (h := ?r562) | (refine Mem.tkY 13 ?v562 (hy := Or.inl ⟨by rfl, ?y562⟩) (hS := by assumption) (h := ?r562); case y562 => (intro w hSw; clear hSw; go_simp; try with_reducible rfl))
            case' r562 => skip
            try simp only [List.getElem_toArray, List.getElem_cons_succ, List.getElem_cons_zero, Act.put, List.setIfInBounds_toArray, List.set_cons_zero, List.set_cons_succ]
            first | refine Mem.tkY 14 undef (hy := Or.inr ⟨by rfl, rfl⟩) (hS := by assumption) (h := ?r563) | (refine Mem.tkY 14 ?v563 (hy := Or.inl ⟨by rfl, ?y563⟩) (hS := by assumption) (h := ?r563); case y563 => (intro w hSw; obtain ⟨hT0, hT1, hT2, hT3, hT4, hT5⟩ := hCl.out w hSw; clear hSw; go_simp; try with_reducible rfl))
            case' r563 => skip
            try simp only [List.getElem_toArray, List.getElem_cons_succ, List.getElem_cons_zero, Act.put, List.setIfInBounds_toArray, List.set_cons_zero, List.set_cons_succ]
            first | refine Mem.tkY 15 undef (hy := Or.inr ⟨by rfl, rfl⟩) (hS := by assumption) (h := ?r564) | (refine Mem.tkY 15 ?v564 (hy := Or.inl ⟨by rfl, ?y564⟩) (hS := by assumption) (h := ?r564); case y564 => (intro w hSw; clear hSw; go_simp; try with_reducible rfl))
            case' r564 => skip
            try simp only [List.getElem_toArray, List.getElem_cons_succ, List.getElem_cons_zero, Act.put, List.setIfInBounds_toArray, List.set_cons_zero, List.set_cons_succ]
            first | refine Mem.tkY 16 undef (hy := Or.inr ⟨by rfl, rfl⟩) (hS := by assumption) (h := ?r565) | (refine Mem.tkY 16 ?v565 (hy := Or.inl ⟨by rfl, ?y565⟩) (hS := by assumption) (h := ?r565); case y565 => (intro w hSw; clear hSw; go_simp; try with_reducible rfl))
            case' r565 => skip
            try simp only [List.getElem_toArray, List.getElem_cons_succ, List.getElem_cons_zero, Act.put, List.setIfInBounds_toArray, List.set_cons_zero, List.set_cons_succ]
            first | refine Mem.tkY 17 undef (hy := Or.inr ⟨by rfl, rfl⟩) (hS := by assumption) (h := ?r566) | (refine Mem.tkY 17 ?v566 (hy := Or.inl ⟨by rfl, ?y566⟩) (hS := by assumption) (h := ?r566); case y566 => (intro w hSw; clear hSw; go_simp; try with_reducible rfl))
            case' r566 => skip
            try simp only [List.getElem_toArray, List.getElem_cons_succ, List.getElem_cons_zero, Act.put, List.setIfInBounds_toArray, List.set_cons_zero, List.set_cons_succ]
            first | refine Mem.tkY 18 undef (hy := Or.inr ⟨by rfl, rfl⟩) (hS := by assumption) (h := ?r567) | (refine Mem.tkY 18 ?v567 (hy := Or.inl ⟨by rfl, ?y567⟩) (hS := by assumption) (h := ?r567); case y567 => (intro w hSw; clear hSw; go_simp; try with_reducible rfl))
            case' r567 => skip
            try simp only [List.getElem_toArray, List.getElem_cons_succ, List.getElem_cons_zero, Act.put, List.setIfInBounds_toArray, List.set_cons_zero, List.set_cons_succ]
            first | refine Mem.tkY 19 undef (hy := Or.inr ⟨by rfl, rfl⟩) (hS := by assumption) (h := ?r568) | (refine Mem.tkY 19 ?v568 (hy := Or.inl ⟨by rfl, ?y568⟩) (hS := by assumption) (h := ?r568); case y568 => (intro w hSw; clear hSw; go_simp; try with_reducible rfl))
            case' r568 => skip
            try simp only [List.getElem_toArray, List.getElem_cons_succ, List.getElem_cons_zero, Act.put, List.setIfInBounds_toArray, List.set_cons_zero, List.set_cons_succ]
            first | refine Mem.tkY 20 undef (hy := Or.inr ⟨by rfl, rfl⟩) (hS := by assumption) (h := ?r569) | (refine Mem.tkY 20 ?v569 (hy := Or.inl ⟨by rfl, ?y569⟩) (hS := by assumption) (h := ?r569); case y569 => (intro w hSw; obtain ⟨hT0, hT1, hT2, hT3, hT4, hT5⟩ := hCl.out w hSw; clear hSw; go_simp; try with_reducible rfl))
            case' r569 => skip
            try simp only [List.getElem_toArray, List.getElem_cons_succ, List.getElem_cons_zero, Act.put, List.setIfInBounds_toArray, List.set_cons_zero, List.set_cons_succ]
            first | refine Mem.tkY 21 undef (hy := Or.inr ⟨by rfl, rfl⟩) (hS := by assumption) (h := ?r570) | (refine Mem.tkY 21 ?v570 (hy := Or.inl ⟨by rfl, ?y570⟩) (hS := by assumption) (h := ?r570); case y570 => (intro w hSw; clear hSw; go_simp; try with_reducible rfl))
            case' r570 => skip
            try simp only [List.getElem_toArray, List.getElem_cons_succ, List.getElem_cons_zero, Act.put, List.setIfInBounds_toArray, List.set_cons_zero, List.set_cons_succ]
            first | refine Mem.tkY 22 undef (hy := Or.inr ⟨by rfl, rfl⟩) (hS := by assumption) (h := ?r571) | (refine Mem.tkY 22 ?v571 (hy := Or.inl ⟨by rfl, ?y571⟩) (hS := by assumption) (h := ?r571); case y571 => (intro w hSw; clear hSw; go_simp; try with_reducible rfl))
            case' r571 => skip
            refine Mem.tkY 23 ?v572 (hy := Or.inl ⟨by rfl, ?y572⟩) (hS := by assumption) (h := ?r572)
            case y572 => (intro w hSw; clear hSw; go_simp; try with_reducible rfl)
            case' r572 => skip
            refine Mem.tkY 24 ?v573 (hy := Or.inl ⟨by rfl, ?y573⟩) (hS := by assumption) (h := ?r573)
            case y573 => (intro w hSw; clear hSw; go_simp; try with_reducible rfl)
            case' r573 => skip
            try simp only [List.getElem_toArray, List.getElem_cons_succ, List.getElem_cons_zero, Act.put, List.setIfInBounds_toArray, List.set_cons_zero, List.set_cons_succ]
            first | refine Mem.tkY 25 undef (hy := Or.inr ⟨by rfl, rfl⟩) (hS := by assumption) (h := ?r574) | (refine Mem.tkY 25 ?v574 (hy := Or.inl ⟨by rfl, ?y574⟩) (hS := by assumption) (h := ?r574); case y574 => (intro w hSw; clear hSw; go_simp; try with_reducible rfl))
            case' r574 => skip
            try simp only [List.getElem_toArray, List.getElem_cons_succ, List.getElem_cons_zero, Act.put, List.setIfInBounds_toArray, List.set_cons_zero, List.set_cons_succ]
            first | refine Mem.tkY 26 undef (hy := Or.inr ⟨by rfl, rfl⟩) (hS := by assumption) (h := ?r575) | (refine Mem.tkY 26 ?v575 (hy := Or.inl ⟨by rfl, ?y575⟩) (hS := by assumption) (h := ?r575); case y575 => (intro w hSw; clear hSw; go_simp; try with_reducible rfl))
            case' r575 => skip
            try simp only [List.getElem_toArray, List.getElem_cons_succ, List.getElem_cons_zero, Act.put, List.setIfInBounds_toArray, List.set_cons_zero, List.set_cons_succ]
            first | refine Mem.tkY 27 undef (hy := Or.inr ⟨by rfl, rfl⟩) (hS := by assumption) (h := ?r576) | (refine Mem.tkY 27 ?v576 (hy := Or.inl ⟨by rfl, ?y576⟩) (hS := by assumption) (h := ?r576); case y576 => (intro w hSw; clear hSw; go_simp; try with_reducible rfl))
            case' r576 => skip
            try simp only [List.getElem_toArray, List.getElem_cons_succ, List.getElem_cons_zero, Act.put, List.setIfInBounds_toArray, List.set_cons_zero, List.set_cons_succ]
            first | refine Mem.tkY 28 undef (hy := Or.inr ⟨by rfl, rfl⟩) (hS := by assumption) (h := ?r577) | (refine Mem.tkY 28 ?v577 (hy := Or.inl ⟨by rfl, ?y577⟩) (hS := by assumption) (h := ?r577); case y577 => (intro w hSw; clear hSw; go_simp; try with_reducible rfl))
            case' r577 => skip
            try simp only [List.getElem_toArray, List.getElem_cons_succ, List.getElem_cons_zero, Act.put, List.setIfInBounds_toArray, List.set_cons_zero, List.set_cons_succ]
            first | refine Mem.tkY 29 undef (hy := Or.inr ⟨by rfl, rfl⟩) (hS := by assumption) (h := ?r578) | (refine Mem.tkY 29 ?v578 (hy := Or.inl ⟨by rfl, ?y578⟩) (hS := by assumption) (h := ?r578); case y578 => (intro w hSw; obtain ⟨hT0, hT1, hT2, hT3, hT4, hT5⟩ := hCl.out w hSw; clear hSw; go_simp; try with_reducible rfl))
            case' r578 => skip
            try simp only [List.getElem_toArray, List.getElem_cons_succ, List.getElem_cons_zero, Act.put, List.setIfInBounds_toArray, List.set_cons_zero, List.set_cons_succ]
            first | refine Mem.tkY 30 undef (hy := Or.inr ⟨by rfl, rfl⟩) (hS := by assumption) (h := ?r579) | (refine Mem.tkY 30 ?v579 (hy := Or.inl ⟨by rfl, ?y579⟩) (hS := by assumption) (h := ?r579); case y579 => (intro w hSw; clear hSw; go_simp; try with_reducible rfl))
            case' r579 => skip
            refine Mem.tkY 31 ?v580 (hy := Or.inl ⟨by rfl, ?y580⟩) (hS := by assumption) (h := ?r580)
            case y580 => (intro w hSw; clear hSw; go_simp; try with_reducible rfl)
            case' r580 => skip
            refine Mem.tkY 32 ?v581 (hy := Or.inl ⟨by rfl, ?y581⟩) (hS := by assumption) (h := ?r581)
            case y581 => (intro w hSw; clear hSw; go_simp; try with_reducible rfl)
            case' r581 => skip
            try simp only [List.getElem_toArray, List.getElem_cons_succ, List.getElem_cons_zero, Act.put, List.setIfInBounds_toArray, List.set_cons_zero, List.set_cons_succ]
            first | refine Mem.tkY 33 undef (hy := Or.inr ⟨by rfl, rfl⟩) (hS := by assumption) (h := ?r582) | (refine Mem.tkY 33 ?v582 (hy := Or.inl ⟨by rfl, ?y582⟩) (hS := by assumption) (h := ?r582); case y582 => (intro w hSw; clear hSw; go_simp; try with_reducible rfl))
            case' r582 => skip
            try simp only [List.getElem_toArray, List.getElem_cons_succ, List.getElem_cons_zero, Act.put, List.setIfInBounds_toArray, List.set_cons_zero, List.set_cons_succ]
            first | refine Mem.tkY 34 undef (hy := Or.inr ⟨by rfl, rfl⟩) (hS := by assumption) (h := ?r583) | (refine Mem.tkY 34 ?v583 (hy := Or.inl ⟨by rfl, ?y583⟩) (hS := by assumption) (h := ?r583); case y583 => (intro w hSw; clear hSw; go_simp; try with_reducible rfl))
            case' r583 => skip
            try simp only [List.getElem_toArray, List.getElem_cons_succ, List.getElem_cons_zero, Act.put, List.setIfInBounds_toArray, List.set_cons_zero, List.set_cons_succ]
            first | refine Mem.tkY 35 undef (hy := Or.inr ⟨by rfl, rfl⟩) (hS := by assumption) (h := ?r584) | (refine Mem.tkY 35 ?v584 (hy := Or.inl ⟨by rfl, ?y584⟩) (hS := by assumption) (h := ?r584); case y584 => (intro w hSw; clear hSw; go_simp; try with_reducible rfl))
            case' r584 => skip
            try simp only [List.getElem_toArray, List.getElem_cons_succ, List.getElem_cons_zero, Act.put, List.setIfInBounds_toArray, List.set_cons_zero, List.set_cons_succ]
            first | refine Mem.tkY 36 undef (hy := Or.inr ⟨by rfl, rfl⟩) (hS := by assumption) (h := ?r585) | (refine Mem.tkY 36 ?v585 (hy := Or.inl ⟨by rfl, ?y585⟩) (hS := by assumption) (h := ?r585); case y585 => (intro w hSw; clear hSw; go_simp; try with_reducible rfl))
            case' r585 => skip
            try simp only [List.getElem_toArray, List.getElem_cons_succ, List.getElem_cons_zero, Act.put, List.setIfInBounds_toArray, List.set_cons_zero, List.set_cons_succ]
            first | refine Mem.tkY 37 undef (hy := Or.inr ⟨by rfl, rfl⟩) (hS := by assumption) (h := ?r586) | (refine Mem.tkY 37 ?v586 (hy := Or.inl ⟨by rfl, ?y586⟩) (hS := by assumption) (h := ?r586); case y586 => (intro w hSw; obtain ⟨hT0, hT1, hT2, hT3, hT4, hT5⟩ := hCl.out w hSw; clear hSw; go_simp; try with_reducible rfl))
            case' r586 => skip
            try simp only [List.getElem_toArray, List.getElem_cons_succ, List.getElem_cons_zero, Act.put, List.setIfInBounds_toArray, List.set_cons_zero, List.set_cons_succ]
            refine wpAnyH_ready (rs := [38]) (by kernel_rfl) (by simp) ?_
            refine AllReadyH.cons rfl (fun K hK => ?_) AllReadyH.nil
            go_simp
            (refine (CC.out _).mono ?_; rintro e wb ⟨rfl, hbl⟩)
            try go_wp2_with fail
            have hSnew := Mem.bl_step hHeld hbl (by first | exact Nat.le_refl _ | omega | (simp <;> omega))
            refine hK.out _ _ ?_ (fun hHeld2 => ?_)
            · exact hSnew
            try replace hn := hn.below hbl
            clear hbl
            clear hK K hHeld hSnew
            have hHeld := hHeld2
            clear hHeld2
            try simp only [List.getElem_toArray, List.getElem_cons_succ, List.getElem_cons_zero, Act.put, List.setIfInBounds_toArray, List.set_cons_zero, List.set_cons_succ]
            first | refine Mem.tkY 39 undef (hy := Or.inr ⟨by rfl, rfl⟩) (hS := by assumption) (h := ?r587) | (refine Mem.tkY 39 ?v587 (hy := Or.inl ⟨by rfl, ?y587⟩) (hS := by assumption) (h := ?r587); case y587 => (intro w hSw; clear hSw; go_simp; try with_reducible rfl))
            case' r587 => skip
            refine Mem.tkY 40 ?v588 (hy := Or.inl ⟨by rfl, ?y588⟩) (hS := by assumption) (h := ?r588)
            case y588 => (intro w hSw; clear hSw; go_simp; try with_reducible rfl)
            case' r588 => skip
            refine Mem.tkY 41 ?v589 (hy := Or.inl ⟨by rfl, ?y589⟩) (hS := by assumption) (h := ?r589)
            case y589 => (intro w hSw; clear hSw; go_simp; try with_reducible rfl)
            case' r589 => skip
            try simp only [List.getElem_toArray, List.getElem_cons_succ, List.getElem_cons_zero, Act.put, List.setIfInBounds_toArray, List.set_cons_zero, List.set_cons_succ]
            first | refine Mem.tkY 42 undef (hy := Or.inr ⟨by rfl, rfl⟩) (hS := by assumption) (h := ?r590) | (refine Mem.tkY 42 ?v590 (hy := Or.inl ⟨by rfl, ?y590⟩) (hS := by assumption) (h := ?r590); case y590 => (intro w hSw; clear hSw; go_simp; try with_reducible rfl))
            case' r590 => skip
            try simp only [List.getElem_toArray, List.getElem_cons_succ, List.getElem_cons_zero, Act.put, List.setIfInBounds_toArray, List.set_cons_zero, List.set_cons_succ]
            first | refine Mem.tkY 43 undef (hy := Or.inr ⟨by rfl, rfl⟩) (hS := by assumption) (h := ?r591) | (refine Mem.tkY 43 ?v591 (hy := Or.inl ⟨by rfl, ?y591⟩) (hS := by assumption) (h := ?r591); case y591 => (intro w hSw; clear hSw; go_simp; try with_reducible rfl))
            case' r591 => skip
            try simp only [List.getElem_toArray, List.getElem_cons_succ, List.getElem_cons_zero, Act.put, List.setIfInBounds_toArray, List.set_cons_zero, List.set_cons_succ]
            first | refine Mem.tkY 44 undef (hy := Or.inr ⟨by rfl, rfl⟩) (hS := by assumption) (h := ?r592) | (refine Mem.tkY 44 ?v592 (hy := Or.inl ⟨by rfl, ?y592⟩) (hS := by assumption) (h := ?r592); case y592 => (intro w hSw; clear hSw; go_simp; try with_reducible rfl))
            case' r592 => skip
            try simp only [List.getElem_toArray, List.getElem_cons_succ, List.getElem_cons_zero, Act.put, List.setIfInBounds_toArray, List.set_cons_zero, List.set_cons_succ]
            first | refine Mem.tkY 45 undef (hy := Or.inr ⟨by rfl, rfl⟩) (hS := by assumption) (h := ?r593) | (refine Mem.tkY 45 ?v593 (hy := Or.inl ⟨by rfl, ?y593⟩) (hS := by assumption) (h := ?r593); case y593 => (intro w hSw; clear hSw; go_simp; try with_reducible rfl))
            case' r593 => skip
            try simp only [List.getElem_toArray, List.getElem_cons_succ, List.getElem_cons_zero, Act.put, List.setIfInBounds_toArray, List.set_cons_zero, List.set_cons_succ]
            first | refine Mem.tkY 46 undef (hy := Or.inr ⟨by rfl, rfl⟩) (hS := by assumption) (h := ?r594) | (refine Mem.tkY 46 ?v594 (hy := Or.inl ⟨by rfl, ?y594⟩) (hS := by assumption) (h := ?r594); case y594 => (intro w hSw; obtain ⟨hT0, hT1, hT2, hT3, hT4, hT5⟩ := hCl.out w hSw; clear hSw; go_simp; try with_reducible rfl))
            case' r594 => skip
            try simp only [List.getElem_toArray, List.getElem_cons_succ, List.getElem_cons_zero, Act.put, List.setIfInBounds_toArray, List.set_cons_zero, List.set_cons_succ]
            first | refine Mem.tkY 47 undef (hy := Or.inr ⟨by rfl, rfl⟩) (hS := by assumption) (h := ?r595) | (refine Mem.tkY 47 ?v595 (hy := Or.inl ⟨by rfl, ?y595⟩) (hS := by assumption) (h := ?r595); case y595 => (intro w hSw; clear hSw; go_simp; try with_reducible rfl))
            case' r595 => skip
            try simp only [List.getElem_toArray, List.getElem_cons_succ, List.getElem_cons_zero, Act.put, List.setIfInBounds_toArray, List.set_cons_zero, List.set_cons_succ]
            first | refine Mem.tkY 48 undef (hy := Or.inr ⟨by rfl, rfl⟩) (hS := by assumption) (h := ?r596) | (refine Mem.tkY 48 ?v596 (hy := Or.inl ⟨by rfl, ?y596⟩) (hS := by assumption) (h := ?r596); case y596 => (intro w hSw; clear hSw; go_simp; try with_reducible rfl))
            case' r596 => skip
            try simp only [List.getElem_toArray, List.getElem_cons_succ, List.getElem_cons_zero, Act.put, List.setIfInBounds_toArray, List.set_cons_zero, List.set_cons_succ]
            first | refine Mem.tkY 49 undef (hy := Or.inr ⟨by rfl, rfl⟩) (hS := by assumption) (h := ?r597) | (refine Mem.tkY 49 ?v597 (hy := Or.inl ⟨by rfl, ?y597⟩) (hS := by assumption) (h := ?r597); case y597 => (intro w hSw; clear hSw; go_simp; try with_reducible rfl))
            case' r597 => skip
            try simp only [List.getElem_toArray, List.getElem_cons_succ, List.getElem_cons_zero, Act.put, List.setIfInBounds_toArray, List.set_cons_zero, List.set_cons_succ]
            first | refine Mem.tkY 50 undef (hy := Or.inr ⟨by rfl, rfl⟩) (hS := by assumption) (h := ?r598) | (refine Mem.tkY 50 ?v598 (hy := Or.inl ⟨by rfl, ?y598⟩) (hS := by assumption) (h := ?r598); case y598 => (intro w hSw; clear hSw; go_simp; try with_reducible rfl))
            case' r598 => skip
            try simp only [List.getElem_toArray, List.getElem_cons_succ, List.getElem_cons_zero, Act.put, List.setIfInBounds_toArray, List.set_cons_zero, List.set_cons_succ]
            first | refine Mem.tkY 51 undef (hy := Or.inr ⟨by rfl, rfl⟩) (hS := by assumption) (h := ?r599) | (refine Mem.tkY 51 ?v599 (hy := Or.inl ⟨by rfl, ?y599⟩) (hS := by assumption) (h := ?r599); case y599 => (intro w hSw; obtain ⟨hT0, hT1, hT2, hT3, hT4, hT5⟩ := hCl.out w hSw; clear hSw; go_simp; try with_reducible rfl))
            case' r599 => skip
            try simp only [List.getElem_toArray, List.getElem_cons_succ, List.getElem_cons_zero, Act.put, List.setIfInBounds_toArray, List.set_cons_zero, List.set_cons_succ]
            refine wpAnyH_ready (rs := [52]) (by kernel_rfl) (by simp) ?_
            refine AllReadyH.cons rfl (fun K hK => ?_) AllReadyH.nil
            go_simp
            (refine (CR.out _ hn).mono ?_; rintro e wb ⟨rfl, hbl⟩)
            try go_wp2_with fail
            have hSnew := Mem.bl_step hHeld hbl (by first | exact Nat.le_refl _ | omega | (simp <;> omega))
            refine hK.out _ _ ?_ (fun hHeld2 => ?_)
            · exact hSnew
            try replace hn := hn.below hbl
            clear hbl
            clear hK K hHeld hSnew
            have hHeld := hHeld2
            clear hHeld2
            try simp only [List.getElem_toArray, List.getElem_cons_succ, List.getElem_cons_zero, Act.put, List.setIfInBounds_toArray, List.set_cons_zero, List.set_cons_succ]
            first | refine Mem.tkY 53 undef (hy := Or.inr ⟨by rfl, rfl⟩) (hS := by assumption) (h := ?r600) | (refine Mem.tkY 53 ?v600 (hy := Or.inl ⟨by rfl, ?y600⟩) (hS := by assumption) (h := ?r600); case y600 => (intro w hSw; clear hSw; go_simp; try with_reducible rfl))
            case' r600 => skip
            refine Mem.tkY 54 ?v601 (hy := Or.inl ⟨by rfl, ?y601⟩) (hS := by assumption) (h := ?r601)
            case y601 => (intro w hSw; clear hSw; go_simp; try with_reducible rfl)
            case' r601 => skip
            try simp only [List.getElem_toArray, List.getElem_cons_succ, List.getElem_cons_zero, Act.put, List.setIfInBounds_toArray, List.set_cons_zero, List.set_cons_succ]
            refine wpAnyH_done (by kernel_rfl) ?_ _
            clear hCl
            go_wp2_with fail
            go_ret
            exact ⟨ret_bool HV.out.symm, hbr.trans (((Below.refl _ _).drew.trans hHeld).mono hbr.size)⟩
          | true =>
            rw [mayF_on (by have := X1.out; omega) h2 h5 h6] at hv
            rw [h6] at CR
            have HV := Lib.hid hv
            clear hv h5 h6 h2
            go_wp2_with fail
            refine wp_region_held_drew (S := Go.RowKit.Below ((wr.drew).heap.size) (wr.drew)) (by kernel_rfl) ?hb609 (fun hHeld => ?rest609)
            case hb609 =>
              exact Go.RowKit.Below.refl _ _
            case' rest609 => skip
            have hCl := fun (wS : World) (hSw : Go.RowKit.Below ((wr.drew).heap.size) (wr.drew) wS) => And.intro (Mem.bl_cell hSw e0 (by first | omega | (dsimp only; omega) | exact World.block_lt_of_cell? _ _ e0 | (simp <;> omega))) <| And.intro (Mem.bl_cell hSw e1 (by first | omega | (dsimp only; omega) | exact World.block_lt_of_cell? _ _ e1 | (simp <;> omega))) <| And.intro (Mem.bl_cell hSw e2 (by first | omega | (dsimp only; omega) | exact World.block_lt_of_cell? _ _ e2 | (simp <;> omega))) <| And.intro (Mem.bl_cell hSw e3 (by first | omega | (dsimp only; omega) | exact World.block_lt_of_cell? _ _ e3 | (simp <;> omega))) <| And.intro (Mem.bl_cell hSw e4 (by first | omega | (dsimp only; omega) | exact World.block_lt_of_cell? _ _ e4 | (simp <;> omega))) <| Mem.bl_cell hSw e5 (by first | omega | (dsimp only; omega) | exact World.block_lt_of_cell? _ _ e5 | (simp <;> omega))
            replace hCl := Go.Lib.hid hCl
            refine Mem.tkY 0 ?v610 (hy := Or.inl ⟨by rfl, ?y610⟩) (hS := by assumption) (h := ?r610)
            case y610 => (intro w hSw; clear hSw; go_simp; try with_reducible rfl)
            case' r610 => skip
            refine Mem.tkY 1 ?v611 (hy := Or.inl ⟨by rfl, ?y611⟩) (hS := by assumption) (h := ?r611)
            case y611 => (intro w hSw; clear hSw; go_simp; try with_reducible rfl)
            case' r611 => skip
            refine Mem.tkY 2 ?v612 (hy := Or.inl ⟨by rfl, ?y612⟩) (hS := by assumption) (h := ?r612)
            case y612 => (intro w hSw; clear hSw; go_simp; try with_reducible rfl)
            case' r612 => skip
            try simp only [List.getElem_toArray, List.getElem_cons_succ, List.getElem_cons_zero, Act.put, List.setIfInBounds_toArray, List.set_cons_zero, List.set_cons_succ]
            refine Mem.tkY 3 ?v613 (hy := Or.inl ⟨by rfl, ?y613⟩) (hS := by assumption) (h := ?r613)
            case y613 => (intro w hSw; clear hSw; go_simp; try with_reducible rfl)
            case' r613 => skip
            refine Mem.tkY 4 ?v614 (hy := Or.inl ⟨by rfl, ?y614⟩) (hS := by assumption) (h := ?r614)
            case y614 => (intro w hSw; obtain ⟨hT0, hT1, hT2, hT3, hT4, hT5⟩ := hCl.out w hSw; clear hSw; go_simp; try with_reducible rfl)
            case' r614 => skip
            refine Mem.tkY 5 ?v615 (hy := Or.inl ⟨by rfl, ?y615⟩) (hS := by assumption) (h := ?r615)
            case y615 => (intro w hSw; clear hSw; go_simp; try with_reducible rfl)
            case' r615 => skip
            try simp only [List.getElem_toArray, List.getElem_cons_succ, List.getElem_cons_zero, Act.put, List.setIfInBounds_toArray, List.set_cons_zero, List.set_cons_succ]
            refine Mem.tkY 6 ?v616 (hy := Or.inl ⟨by rfl, ?y616⟩) (hS := by assumption) (h := ?r616)
            case y616 => (intro w hSw; clear hSw; go_simp; try with_reducible rfl)
            case' r616 => skip
            try simp only [List.getElem_toArray, List.getElem_cons_succ, List.getElem_cons_zero, Act.put, List.setIfInBounds_toArray, List.set_cons_zero, List.set_cons_succ]
            first | refine Mem.tkY 7 undef (hy := Or.inr ⟨by rfl, rfl⟩) (hS := by assumption) (h := ?r617) | (refine Mem.tkY 7 ?v617 (hy := Or.inl ⟨by rfl, ?y617⟩) (hS := by assumption) (h := ?r617); case y617 => (intro w hSw; clear hSw; go_simp; try with_reducible rfl))
            case' r617 => skip
            try simp only [List.getElem_toArray, List.getElem_cons_succ, List.getElem_cons_zero, Act.put, List.setIfInBounds_toArray, List.set_cons_zero, List.set_cons_succ]
            first | refine Mem.tkY 8 undef (hy := Or.inr ⟨by rfl, rfl⟩) (hS := by assumption) (h := ?r618) | (refine Mem.tkY 8 ?v618 (hy := Or.inl ⟨by rfl, ?y618⟩) (hS := by assumption) (h := ?r618); case y618 => (intro w hSw; clear hSw; go_simp; try with_reducible rfl))
            case' r618 => skip
            try simp only [List.getElem_toArray, List.getElem_cons_succ, List.getElem_cons_zero, Act.put, List.setIfInBounds_toArray, List.set_cons_zero, List.set_cons_succ]
            first | refine Mem.tkY 9 undef (hy := Or.inr ⟨by rfl, rfl⟩) (hS := by assumption) (h := ?r619) | (refine Mem.tkY 9 ?v619 (hy := Or.inl ⟨by rfl, ?y619⟩) (hS := by assumption) (h := ?r619); case y619 => (intro w hSw; clear hSw; go_simp; try with_reducible rfl))
            case' r619 => skip
            try simp only [List.getElem_toArray, List.getElem_cons_succ, List.getElem_cons_zero, Act.put, List.setIfInBounds_toArray, List.set_cons_zero, List.set_cons_succ]
            first | refine Mem.tkY 10 undef (hy := Or.inr ⟨by rfl, rfl⟩) (hS := by assumption) (h := ?r620) | (refine Mem.tkY 10 ?v620 (hy := Or.inl ⟨by rfl, ?y620⟩) (hS := by assumption) (h := ?r620); case y620 => (intro w hSw; clear hSw; go_simp; try with_reducible rfl))
            case' r620 => skip
            try simp only [List.getElem_toArray, List.getElem_cons_succ, List.getElem_cons_zero, Act.put, List.setIfInBounds_toArray, List.set_cons_zero, List.set_cons_succ]
            first | refine Mem.tkY 11 undef (hy := Or.inr ⟨by rfl, rfl⟩) (hS := by assumption) (h := ?r621) | (refine Mem.tkY 11 ?v621 (hy := Or.inl ⟨by rfl, ?y621⟩) (hS := by assumption) (h := ?r621); case y621 => (intro w hSw; clear hSw; go_simp; try with_reducible rfl))
            case' r621 => skip
            try simp only [List.getElem_toArray, List.getElem_cons_succ, List.getElem_cons_zero, Act.put, List.setIfInBounds_toArray, List.set_cons_zero, List.set_cons_succ]
            first | refine Mem.tkY 12 undef (hy := Or.inr ⟨by rfl, rfl⟩) (hS := by assumption) (h := ?r622) | (refine Mem.tkY 12 ?v622 (hy := Or.inl ⟨by rfl, ?y622⟩) (hS := by assumption) (h := ?r622); case y622 => (intro w hSw; clear hSw; go_simp; try with_reducible rfl))
            case' r622 => skip
            try simp only [List.getElem_toArray, List.getElem_cons_succ, List.getElem_cons_zero, Act.put, List.setIfInBounds_toArray, List.set_cons_zero, List.set_cons_succ]
            first | refine Mem.tkY 13 undef (hy := Or.inr ⟨by rfl, rfl⟩) (hS := by assumption) (h := ?r623) | (refine Mem.tkY 13 ?v623 (hy := Or.inl ⟨by rfl, ?y623⟩) (hS := by assumption) (h := ?r623); case y623 => (intro w hSw; clear hSw; go_simp; try with_reducible rfl))
            case' r623 => skip
            try simp only [List.getElem_toArray, List.getElem_cons_succ, List.getElem_cons_zero, Act.put, List.setIfInBounds_toArray, List.set_cons_zero, List.set_cons_succ]
            first | refine Mem.tkY 14 undef (hy := Or.inr ⟨by rfl, rfl⟩) (hS := by assumption) (h := ?r624) | (refine Mem.tkY 14 ?v624 (hy := Or.inl ⟨by rfl, ?y624⟩) (hS := by assumption) (h := ?r624); case y624 => (intro w hSw; obtain ⟨hT0, hT1, hT2, hT3, hT4, hT5⟩ := hCl.out w hSw; clear hSw; go_simp; try with_reducible rfl))
            case' r624 => skip
            try simp only [List.getElem_toArray, List.getElem_cons_succ, List.getElem_cons_zero, Act.put, List.setIfInBounds_toArray, List.set_cons_zero, List.set_cons_succ]
            first | refine Mem.tkY 15 undef (hy := Or.inr ⟨by rfl, rfl⟩) (hS := by assumption) (h := ?r625) | (refine Mem.tkY 15 ?v625 (hy := Or.inl ⟨by rfl, ?y625⟩) (hS := by assumption) (h := ?r625); case y625 => (intro w hSw; clear hSw; go_simp; try with_reducible rfl))
            case' r625 => skip
            try simp only [List.getElem_toArray, List.getElem_cons_succ, List.getElem_cons_zero, Act.put, List.setIfInBounds_toArray, List.set_cons_zero, List.set_cons_succ]
            first | refine Mem.tkY 16 undef (hy := Or.inr ⟨by rfl, rfl⟩) (hS := by assumption) (h := ?r626) | (refine Mem.tkY 16 ?v626 (hy := Or.inl ⟨by rfl, ?y626⟩) (hS := by assumption) (h := ?r626); case y626 => (intro w hSw; clear hSw; go_simp; try with_reducible rfl))
            case' r626 => skip
            try simp only [List.getElem_toArray, List.getElem_cons_succ, List.getElem_cons_zero, Act.put, List.setIfInBounds_toArray, List.set_cons_zero, List.set_cons_succ]
            first | refine Mem.tkY 17 undef (hy := Or.inr ⟨by rfl, rfl⟩) (hS := by assumption) (h := ?r627) | (refine Mem.tkY 17 ?v627 (hy := Or.inl ⟨by rfl, ?y627⟩) (hS := by assumption) (h := ?r627); case y627 => (intro w hSw; clear hSw; go_simp; try with_reducible rfl))
            case' r627 => skip
            try simp only [List.getElem_toArray, List.getElem_cons_succ, List.getElem_cons_zero, Act.put, List.setIfInBounds_toArray, List.set_cons_zero, List.set_cons_succ]
            first | refine Mem.tkY 18 undef (hy := Or.inr ⟨by rfl, rfl⟩) (hS := by assumption) (h := ?r628) | (refine Mem.tkY 18 ?v628 (hy := Or.inl ⟨by rfl, ?y628⟩) (hS := by assumption) (h := ?r628); case y628 => (intro w hSw; clear hSw; go_simp; try with_reducible rfl))
            case' r628 => skip
            try simp only [List.getElem_toArray, List.getElem_cons_succ, List.getElem_cons_zero, Act.put, List.setIfInBounds_toArray, List.set_cons_zero, List.set_cons_succ]
            first | refine Mem.tkY 19 undef (hy := Or.inr ⟨by rfl, rfl⟩) (hS := by assumption) (h := ?r629) | (refine Mem.tkY 19 ?v629 (hy := Or.inl ⟨by rfl, ?y629⟩) (hS := by assumption) (h := ?r629); case y629 => (intro w hSw; clear hSw; go_simp; try with_reducible rfl))
            case' r629 => skip
            try simp only [List.getElem_toArray, List.getElem_cons_succ, List.getElem_cons_zero, Act.put, List.setIfInBounds_toArray, List.set_cons_zero, List.set_cons_succ]
            first | refine Mem.tkY 20 undef (hy := Or.inr ⟨by rfl, rfl⟩) (hS := by assumption) (h := ?r630) | (refine Mem.tkY 20 ?v630 (hy := Or.inl ⟨by rfl, ?y630⟩) (hS := by assumption) (h := ?r630); case y630 => (intro w hSw; obtain ⟨hT0, hT1, hT2, hT3, hT4, hT5⟩ := hCl.out w hSw; clear hSw; go_simp; try with_reducible rfl))
            case' r630 => skip
            try simp only [List.getElem_toArray, List.getElem_cons_succ, List.getElem_cons_zero, Act.put, List.setIfInBounds_toArray, List.set_cons_zero, List.set_cons_succ]
            first | refine Mem.tkY 21 undef (hy := Or.inr ⟨by rfl, rfl⟩) (hS := by assumption) (h := ?r631) | (refine Mem.tkY 21 ?v631 (hy := Or.inl ⟨by rfl, ?y631⟩) (hS := by assumption) (h := ?r631); case y631 => (intro w hSw; clear hSw; go_simp; try with_reducible rfl))
            case' r631 => skip
            try simp only [List.getElem_toArray, List.getElem_cons_succ, List.getElem_cons_zero, Act.put, List.setIfInBounds_toArray, List.set_cons_zero, List.set_cons_succ]
            first | refine Mem.tkY 22 undef (hy := Or.inr ⟨by rfl, rfl⟩) (hS := by assumption) (h := ?r632) | (refine Mem.tkY 22 ?v632 (hy := Or.inl ⟨by rfl, ?y632⟩) (hS := by assumption) (h := ?r632); case y632 => (intro w hSw; clear hSw; go_simp; try with_reducible rfl))
            case' r632 => skip
            refine Mem.tkY 23 ?v633 (hy := Or.inl ⟨by rfl, ?y633⟩) (hS := by assumption) (h := ?r633)
            case y633 => (intro w hSw; clear hSw; go_simp; try with_reducible rfl)
            case' r633 => skip
            refine Mem.tkY 24 ?v634 (hy := Or.inl ⟨by rfl, ?y634⟩) (hS := by assumption) (h := ?r634)
            case y634 => (intro w hSw; clear hSw; go_simp; try with_reducible rfl)
            case' r634 => skip
            try simp only [List.getElem_toArray, List.getElem_cons_succ, List.getElem_cons_zero, Act.put, List.setIfInBounds_toArray, List.set_cons_zero, List.set_cons_succ]
            first | refine Mem.tkY 25 undef (hy := Or.inr ⟨by rfl, rfl⟩) (hS := by assumption) (h := ?r635) | (refine Mem.tkY 25 ?v635 (hy := Or.inl ⟨by rfl, ?y635⟩) (hS := by assumption) (h := ?r635); case y635 => (intro w hSw; clear hSw; go_simp; try with_reducible rfl))
            case' r635 => skip
            try simp only [List.getElem_toArray, List.getElem_cons_succ, List.getElem_cons_zero, Act.put, List.setIfInBounds_toArray, List.set_cons_zero, List.set_cons_succ]
            first | refine Mem.tkY 26 undef (hy := Or.inr ⟨by rfl, rfl⟩) (hS := by assumption) (h := ?r636) | (refine Mem.tkY 26 ?v636 (hy := Or.inl ⟨by rfl, ?y636⟩) (hS := by assumption) (h := ?r636); case y636 => (intro w hSw; clear hSw; go_simp; try with_reducible rfl))
            case' r636 => skip
            try simp only [List.getElem_toArray, List.getElem_cons_succ, List.getElem_cons_zero, Act.put, List.setIfInBounds_toArray, List.set_cons_zero, List.set_cons_succ]
            first | refine Mem.tkY 27 undef (hy := Or.inr ⟨by rfl, rfl⟩) (hS := by assumption) (h := ?r637) | (refine Mem.tkY 27 ?v637 (hy := Or.inl ⟨by rfl, ?y637⟩) (hS := by assumption) (h := ?r637); case y637 => (intro w hSw; clear hSw; go_simp; try with_reducible rfl))
            case' r637 => skip
            try simp only [List.getElem_toArray, List.getElem_cons_succ, List.getElem_cons_zero, Act.put, List.setIfInBounds_toArray, List.set_cons_zero, List.set_cons_succ]
            first | refine Mem.tkY 28 undef (hy := Or.inr ⟨by rfl, rfl⟩) (hS := by assumption) (h := ?r638) | (refine Mem.tkY 28 ?v638 (hy := Or.inl ⟨by rfl, ?y638⟩) (hS := by assumption) (h := ?r638); case y638 => (intro w hSw; clear hSw; go_simp; try with_reducible rfl))
            case' r638 => skip
            try simp only [List.getElem_toArray, List.getElem_cons_succ, List.getElem_cons_zero, Act.put, List.setIfInBounds_toArray, List.set_cons_zero, List.set_cons_succ]
            first | refine Mem.tkY 29 undef (hy := Or.inr ⟨by rfl, rfl⟩) (hS := by assumption) (h := ?r639) | (refine Mem.tkY 29 ?v639 (hy := Or.inl ⟨by rfl, ?y639⟩) (hS := by assumption) (h := ?r639); case y639 => (intro w hSw; obtain ⟨hT0, hT1, hT2, hT3, hT4, hT5⟩ := hCl.out w hSw; clear hSw; go_simp; try with_reducible rfl))
            case' r639 => skip
            try simp only [List.getElem_toArray, List.getElem_cons_succ, List.getElem_cons_zero, Act.put, List.setIfInBounds_toArray, List.set_cons_zero, List.set_cons_succ]
            first | refine Mem.tkY 30 undef (hy := Or.inr ⟨by rfl, rfl⟩) (hS := by assumption) (h := ?r640) | (refine Mem.tkY 30 ?v640 (hy := Or.inl ⟨by rfl, ?y640⟩) (hS := by assumption) (h := ?r640); case y640 => (intro w hSw; clear hSw; go_simp; try with_reducible rfl))
            case' r640 => skip
            refine Mem.tkY 31 ?v641 (hy := Or.inl ⟨by rfl, ?y641⟩) (hS := by assumption) (h := ?r641)
            case y641 => (intro w hSw; clear hSw; go_simp; try with_reducible rfl)
            case' r641 => skip
            refine Mem.tkY 32 ?v642 (hy := Or.inl ⟨by rfl, ?y642⟩) (hS := by assumption) (h := ?r642)
            case y642 => (intro w hSw; clear hSw; go_simp; try with_reducible rfl)
            case' r642 => skip
            try simp only [List.getElem_toArray, List.getElem_cons_succ, List.getElem_cons_zero, Act.put, List.setIfInBounds_toArray, List.set_cons_zero, List.set_cons_succ]
            first | refine Mem.tkY 33 undef (hy := Or.inr ⟨by rfl, rfl⟩) (hS := by assumption) (h := ?r643) | (refine Mem.tkY 33 ?v643 (hy := Or.inl ⟨by rfl, ?y643⟩) (hS := by assumption) (h := ?r643); case y643 => (intro w hSw; clear hSw; go_simp; try with_reducible rfl))
            case' r643 => skip
            try simp only [List.getElem_toArray, List.getElem_cons_succ, List.getElem_cons_zero, Act.put, List.setIfInBounds_toArray, List.set_cons_zero, List.set_cons_succ]
            first | refine Mem.tkY 34 undef (hy := Or.inr ⟨by rfl, rfl⟩) (hS := by assumption) (h := ?r644) | (refine Mem.tkY 34 ?v644 (hy := Or.inl ⟨by rfl, ?y644⟩) (hS := by assumption) (h := ?r644); case y644 => (intro w hSw; clear hSw; go_simp; try with_reducible rfl))
            case' r644 => skip
            try simp only [List.getElem_toArray, List.getElem_cons_succ, List.getElem_cons_zero, Act.put, List.setIfInBounds_toArray, List.set_cons_zero, List.set_cons_succ]
            first | refine Mem.tkY 35 undef (hy := Or.inr ⟨by rfl, rfl⟩) (hS := by assumption) (h := ?r645) | (refine Mem.tkY 35 ?v645 (hy := Or.inl ⟨by rfl, ?y645⟩) (hS := by assumption) (h := ?r645); case y645 => (intro w hSw; clear hSw; go_simp; try with_reducible rfl))
            case' r645 => skip
            try simp only [List.getElem_toArray, List.getElem_cons_succ, List.getElem_cons_zero, Act.put, List.setIfInBounds_toArray, List.set_cons_zero, List.set_cons_succ]
            first | refine Mem.tkY 36 undef (hy := Or.inr ⟨by rfl, rfl⟩) (hS := by assumption) (h := ?r646) | (refine Mem.tkY 36 ?v646 (hy := Or.inl ⟨by rfl, ?y646⟩) (hS := by assumption) (h := ?r646); case y646 => (intro w hSw; clear hSw; go_simp; try with_reducible rfl))
            case' r646 => skip
            try simp only [List.getElem_toArray, List.getElem_cons_succ, List.getElem_cons_zero, Act.put, List.setIfInBounds_toArray, List.set_cons_zero, List.set_cons_succ]
            first | refine Mem.tkY 37 undef (hy := Or.inr ⟨by rfl, rfl⟩) (hS := by assumption) (h := ?r647) | (refine Mem.tkY 37 ?v647 (hy := Or.inl ⟨by rfl, ?y647⟩) (hS := by assumption) (h := ?r647); case y647 => (intro w hSw; obtain ⟨hT0, hT1, hT2, hT3, hT4, hT5⟩ := hCl.out w hSw; clear hSw; go_simp; try with_reducible rfl))
            case' r647 => skip
            try simp only [List.getElem_toArray, List.getElem_cons_succ, List.getElem_cons_zero, Act.put, List.setIfInBounds_toArray, List.set_cons_zero, List.set_cons_succ]
            refine wpAnyH_ready (rs := [38]) (by kernel_rfl) (by simp) ?_
            refine AllReadyH.cons rfl (fun K hK => ?_) AllReadyH.nil
            go_simp
            (refine (CC.out _).mono ?_; rintro e wb ⟨rfl, hbl⟩)
            try go_wp2_with fail
            have hSnew := Mem.bl_step hHeld hbl (by first | exact Nat.le_refl _ | omega | (simp <;> omega))
            refine hK.out _ _ ?_ (fun hHeld2 => ?_)
            · exact hSnew
            try replace hn := hn.below hbl
            clear hbl
            clear hK K hHeld hSnew
            have hHeld := hHeld2
            clear hHeld2
            try simp only [List.getElem_toArray, List.getElem_cons_succ, List.getElem_cons_zero, Act.put, List.setIfInBounds_toArray, List.set_cons_zero, List.set_cons_succ]
            first | refine Mem.tkY 39 undef (hy := Or.inr ⟨by rfl, rfl⟩) (hS := by assumption) (h := ?r648) | (refine Mem.tkY 39 ?v648 (hy := Or.inl ⟨by rfl, ?y648⟩) (hS := by assumption) (h := ?r648); case y648 => (intro w hSw; clear hSw; go_simp; try with_reducible rfl))
            case' r648 => skip
            refine Mem.tkY 40 ?v649 (hy := Or.inl ⟨by rfl, ?y649⟩) (hS := by assumption) (h := ?r649)
            case y649 => (intro w hSw; clear hSw; go_simp; try with_reducible rfl)
            case' r649 => skip
            refine Mem.tkY 41 ?v650 (hy := Or.inl ⟨by rfl, ?y650⟩) (hS := by assumption) (h := ?r650)
            case y650 => (intro w hSw; clear hSw; go_simp; try with_reducible rfl)
            case' r650 => skip
            try simp only [List.getElem_toArray, List.getElem_cons_succ, List.getElem_cons_zero, Act.put, List.setIfInBounds_toArray, List.set_cons_zero, List.set_cons_succ]
            first | refine Mem.tkY 42 undef (hy := Or.inr ⟨by rfl, rfl⟩) (hS := by assumption) (h := ?r651) | (refine Mem.tkY 42 ?v651 (hy := Or.inl ⟨by rfl, ?y651⟩) (hS := by assumption) (h := ?r651); case y651 => (intro w hSw; clear hSw; go_simp; try with_reducible rfl))
            case' r651 => skip
            try simp only [List.getElem_toArray, List.getElem_cons_succ, List.getElem_cons_zero, Act.put, List.setIfInBounds_toArray, List.set_cons_zero, List.set_cons_succ]
            first | refine Mem.tkY 43 undef (hy := Or.inr ⟨by rfl, rfl⟩) (hS := by assumption) (h := ?r652) | (refine Mem.tkY 43 ?v652 (hy := Or.inl ⟨by rfl, ?y652⟩) (hS := by assumption) (h := ?r652); case y652 => (intro w hSw; clear hSw; go_simp; try with_reducible rfl))
            case' r652 => skip
            try simp only [List.getElem_toArray, List.getElem_cons_succ, List.getElem_cons_zero, Act.put, List.setIfInBounds_toArray, List.set_cons_zero, List.set_cons_succ]
            first | refine Mem.tkY 44 undef (hy := Or.inr ⟨by rfl, rfl⟩) (hS := by assumption) (h := ?r653) | (refine Mem.tkY 44 ?v653 (hy := Or.inl ⟨by rfl, ?y653⟩) (hS := by assumption) (h := ?r653); case y653 => (intro w hSw; clear hSw; go_simp; try with_reducible rfl))
            case' r653 => skip
            try simp only [List.getElem_toArray, List.getElem_cons_succ, List.getElem_cons_zero, Act.put, List.setIfInBounds_toArray, List.set_cons_zero, List.set_cons_succ]
            first | refine Mem.tkY 45 undef (hy := Or.inr ⟨by rfl, rfl⟩) (hS := by assumption) (h := ?r654) | (refine Mem.tkY 45 ?v654 (hy := Or.inl ⟨by rfl, ?y654⟩) (hS := by assumption) (h := ?r654); case y654 => (intro w hSw; clear hSw; go_simp; try with_reducible rfl))
            case' r654 => skip
            try simp only [List.getElem_toArray, List.getElem_cons_succ, List.getElem_cons_zero, Act.put, List.setIfInBounds_toArray, List.set_cons_zero, List.set_cons_succ]
            first | refine Mem.tkY 46 undef (hy := Or.inr ⟨by rfl, rfl⟩) (hS := by assumption) (h := ?r655) | (refine Mem.tkY 46 ?v655 (hy := Or.inl ⟨by rfl, ?y655⟩) (hS := by assumption) (h := ?r655); case y655 => (intro w hSw; obtain ⟨hT0, hT1, hT2, hT3, hT4, hT5⟩ := hCl.out w hSw; clear hSw; go_simp; try with_reducible rfl))
            case' r655 => skip
            try simp only [List.getElem_toArray, List.getElem_cons_succ, List.getElem_cons_zero, Act.put, List.setIfInBounds_toArray, List.set_cons_zero, List.set_cons_succ]
            first | refine Mem.tkY 47 undef (hy := Or.inr ⟨by rfl, rfl⟩) (hS := by assumption) (h := ?r656) | (refine Mem.tkY 47 ?v656 (hy := Or.inl ⟨by rfl, ?y656⟩) (hS := by assumption) (h := ?r656); case y656 => (intro w hSw; clear hSw; go_simp; try with_reducible rfl))
            case' r656 => skip
            try simp only [List.getElem_toArray, List.getElem_cons_succ, List.getElem_cons_zero, Act.put, List.setIfInBounds_toArray, List.set_cons_zero, List.set_cons_succ]
            first | refine Mem.tkY 48 undef (hy := Or.inr ⟨by rfl, rfl⟩) (hS := by assumption) (h := ?r657) | (refine Mem.tkY 48 ?v657 (hy := Or.inl ⟨by rfl, ?y657⟩) (hS := by assumption) (h := ?r657); case y657 => (intro w hSw; clear hSw; go_simp; try with_reducible rfl))
            case' r657 => skip
            try simp only [List.getElem_toArray, List.getElem_cons_succ, List.getElem_cons_zero, Act.put, List.setIfInBounds_toArray, List.set_cons_zero, List.set_cons_succ]
            first | refine Mem.tkY 49 undef (hy := Or.inr ⟨by rfl, rfl⟩) (hS := by assumption) (h := ?r658) | (refine Mem.tkY 49 ?v658 (hy := Or.inl ⟨by rfl, ?y658⟩) (hS := by assumption) (h := ?r658); case y658 => (intro w hSw; clear hSw; go_simp; try with_reducible rfl))
            case' r658 => skip
            try simp only [List.getElem_toArray, List.getElem_cons_succ, List.getElem_cons_zero, Act.put, List.setIfInBounds_toArray, List.set_cons_zero, List.set_cons_succ]
            first | refine Mem.tkY 50 undef (hy := Or.inr ⟨by rfl, rfl⟩) (hS := by assumption) (h := ?r659) | (refine Mem.tkY 50 ?v659 (hy := Or.inl ⟨by rfl, ?y659⟩) (hS := by assumption) (h := ?r659); case y659 => (intro w hSw; clear hSw; go_simp; try with_reducible rfl))
            case' r659 => skip
            try simp only [List.getElem_toArray, List.getElem_cons_succ, List.getElem_cons_zero, Act.put, List.setIfInBounds_toArray, List.set_cons_zero, List.set_cons_succ]
            first | refine Mem.tkY 51 undef (hy := Or.inr ⟨by rfl, rfl⟩) (hS := by assumption) (h := ?r660) | (refine Mem.tkY 51 ?v660 (hy := Or.inl ⟨by rfl, ?y660⟩) (hS := by assumption) (h := ?r660); case y660 => (intro w hSw; obtain ⟨hT0, hT1, hT2, hT3, hT4, hT5⟩ := hCl.out w hSw; clear hSw; go_simp; try with_reducible rfl))
            case' r660 => skip
            try simp only [List.getElem_toArray, List.getElem_cons_succ, List.getElem_cons_zero, Act.put, List.setIfInBounds_toArray, List.set_cons_zero, List.set_cons_succ]
            refine wpAnyH_ready (rs := [52]) (by kernel_rfl) (by simp) ?_
            refine AllReadyH.cons rfl (fun K hK => ?_) AllReadyH.nil
            go_simp
            (refine (CR.out _ hn).mono ?_; rintro e wb ⟨rfl, hbl⟩)
            try go_wp2_with fail
            have hSnew := Mem.bl_step hHeld hbl (by first | exact Nat.le_refl _ | omega | (simp <;> omega))
            refine hK.out _ _ ?_ (fun hHeld2 => ?_)
            · exact hSnew
            try replace hn := hn.below hbl
            clear hbl
            clear hK K hHeld hSnew
            have hHeld := hHeld2
            clear hHeld2
            try simp only [List.getElem_toArray, List.getElem_cons_succ, List.getElem_cons_zero, Act.put, List.setIfInBounds_toArray, List.set_cons_zero, List.set_cons_succ]
            first | refine Mem.tkY 53 undef (hy := Or.inr ⟨by rfl, rfl⟩) (hS := by assumption) (h := ?r661) | (refine Mem.tkY 53 ?v661 (hy := Or.inl ⟨by rfl, ?y661⟩) (hS := by assumption) (h := ?r661); case y661 => (intro w hSw; clear hSw; go_simp; try with_reducible rfl))
            case' r661 => skip
            refine Mem.tkY 54 ?v662 (hy := Or.inl ⟨by rfl, ?y662⟩) (hS := by assumption) (h := ?r662)
            case y662 => (intro w hSw; clear hSw; go_simp; try with_reducible rfl)
            case' r662 => skip
            try simp only [List.getElem_toArray, List.getElem_cons_succ, List.getElem_cons_zero, Act.put, List.setIfInBounds_toArray, List.set_cons_zero, List.set_cons_succ]
            refine wpAnyH_done (by kernel_rfl) ?_ _
            clear hCl
            go_wp2_with fail
            go_roundw
            case rel => exact ⟨j + 1 + 1, x.id, by omega, by go_num, HV, by have := X2.out; omega, .inr ⟨by omega, by rw [Nat.add_sub_cancel, HX.out]; rfl⟩, hbr.trans (((Below.refl _ _).drew.trans hHeld).mono hbr.size)⟩
            case measure => simp [intOf]; omega
    · obtain rfl : k = xs.length := by omega
      have hv := hv.out
      rw [drop_end] at hv
      have HV : Hid (mayF 0 xs = true) := Lib.hid hv
      clear hv hw
      go_wp2
      go_ret
      exact ⟨ret_bool HV.out.symm, hbr⟩
end Go.Proofs.Ytbamhiegabeicaa.Rd

