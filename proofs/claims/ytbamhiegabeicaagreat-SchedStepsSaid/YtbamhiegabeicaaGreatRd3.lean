/- The document's May. No statement is proved here. -/
import Derived.Test.YtbamhiegabeicaaGreatRd2
namespace Go.Proofs.YtbamhiegabeicaaGreat.Rd
open Go.RowKit Go.Proofs.YtbamhiegabeicaaGreat.Mem Go.Proofs.YtbamhiegabeicaaGreat.Open Go.Proofs.YtbamhiegabeicaaGreat.Kind Go.Proofs.YtbamhiegabeicaaGreat.Blk Go.Proofs.YtbamhiegabeicaaGreat.App Go.Proofs.YtbamhiegabeicaaGreat.Pat
set_option linter.unusedVariables false
set_option linter.unusedSimpArgs false
set_option maxHeartbeats 4000000 in
set_option maxRecDepth 100000 in
theorem may_any (A : Option Addr) (c : Nat) (xs : List Chg) (w : World) (hx : Chs w A xs) :
    Calls Tryz.prog 71 #[.slice A xs.length c] w fun r w' => r = .returned (.bool (mayF 0 xs)) ∧ Below w.heap.size w w' := by
  have hl := hx.2.1
  unfold M63 at hl
  go_enter Tryz.func71, Tryz.ntmps71
  go_wp2
  go_loopw [3] (fun i wr => ∃ (k : Nat) (was : Int), k ≤ xs.length ∧ i = .int .i64 k ∧ Hid (mayF 0 xs = mayF was (xs.drop k)) ∧ 0 ≤ was ∧ (k = 0 ∧ was = 0 ∨ 0 < k ∧ (xs[k - 1]?).map (·.id) = some was) ∧ Below w.heap.size w wr) (fun i _ => xs.length - (intOf i).toNat)
  case atStart => exact ⟨0, 0, by omega, rfl, Lib.hid rfl, by omega, .inl ⟨rfl, rfl⟩, Below.refl _ _⟩
  case round =>
    obtain ⟨k, was, hk, rfl, hv, h0, hw, hbr⟩ := hrel
    by_cases hlt : k < xs.length
    · obtain ⟨g, o, rfl, hg⟩ := ch_form hx (by omega)
      obtain ⟨A1, c1, A2, c2, hat0⟩ := ch_at hx k hlt
      have hat := hat0.below hbr
      have e0 : wr.drew.cell? ⟨g, o + k * 5, none⟩ = some (.int .i64 xs[k].id) := hat.v0
      have e1 : wr.drew.cell? ⟨g, o + k * 5 + 1, none⟩ = some (.int .i64 xs[k].blk) := hat.v1
      have e2 : wr.drew.cell? ⟨g, o + k * 5 + 2, none⟩ = some (.int .i64 xs[k].pa) := hat.v2
      have e3 : wr.drew.cell? ⟨g, o + k * 5 + 2 + 1, none⟩ = some (.slice A1 xs[k].pd.length c1) := hat.v3
      have e4 : wr.drew.cell? ⟨g, o + k * 5 + 4, none⟩ = some (.slice A2 xs[k].needs.length c2) := hat.v4
      have hp1 := hat.p.2.2.2.2.1
      have hn : Is wr.drew A2 xs[k].needs := hat.n.2.2.2.drew
      have hv := hv.out
      rw [drop_at hlt] at hv
      have HX := Lib.hid (List.getElem?_eq_getElem hlt)
      clear hat0 hat
      generalize xs[k] = x at *
      rcases hw with ⟨hk0, rfl⟩ | ⟨hk0, hw⟩
      · have d4 : decide (0 < k) = false := decide_eq_false (by omega)
        have HK := Lib.hid hk0
        clear h0 hk0
        by_cases h1 : x.id < 1
        · rw [mayF_id (by omega)] at hv
          have HV := Lib.hid hv
          have d1 : decide (x.id < 1) = true := decide_eq_true h1
          clear hv h1
          go_wp2_with fail
          refine wp_region_held_drew (S := Go.RowKit.Below ((wr.drew).heap.size) (wr.drew)) (by kernel_rfl) ?hb5 (fun hHeld => ?rest5)
          case hb5 =>
            exact Go.RowKit.Below.refl _ _
          case' rest5 => skip
          have hCl := fun (wS : World) (hSw : Go.RowKit.Below ((wr.drew).heap.size) (wr.drew) wS) => And.intro (Mem.bl_cell hSw e0 (by first | omega | (dsimp only; omega) | exact World.block_lt_of_cell? _ _ e0 | (simp <;> omega))) <| And.intro (Mem.bl_cell hSw e1 (by first | omega | (dsimp only; omega) | exact World.block_lt_of_cell? _ _ e1 | (simp <;> omega))) <| And.intro (Mem.bl_cell hSw e2 (by first | omega | (dsimp only; omega) | exact World.block_lt_of_cell? _ _ e2 | (simp <;> omega))) <| And.intro (Mem.bl_cell hSw e3 (by first | omega | (dsimp only; omega) | exact World.block_lt_of_cell? _ _ e3 | (simp <;> omega))) <| Mem.bl_cell hSw e4 (by first | omega | (dsimp only; omega) | exact World.block_lt_of_cell? _ _ e4 | (simp <;> omega))
          replace hCl := Go.Lib.hid hCl
          refine Mem.tkV 0 ?v6 ?y6 ?r6
          case y6 => (intro w hSw; clear hSw; go_simp; try with_reducible rfl)
          refine Mem.tkV 1 ?v7 ?y7 ?r7
          case y7 => (intro w hSw; clear hSw; go_simp; try with_reducible rfl)
          refine Mem.tkV 2 ?v8 ?y8 ?r8
          case y8 => (intro w hSw; clear hSw; go_simp; try with_reducible rfl)
          try simp only [Mem.pa, Mem.pb, Mem.pc, Act.put, Mem.pd, Mem.pe, Mem.pf]
          refine Mem.tkV 3 ?v9 ?y9 ?r9
          case y9 => (intro w hSw; clear hSw; go_simp; try with_reducible rfl)
          refine Mem.tkV 4 ?v10 ?y10 ?r10
          case y10 => (intro w hSw; obtain ⟨hT0, hT1, hT2, hT3, hT4⟩ := hCl.out w hSw; clear hSw; go_simp; try with_reducible rfl)
          refine Mem.tkV 5 ?v11 ?y11 ?r11
          case y11 => (intro w hSw; clear hSw; go_simp; try with_reducible rfl)
          try simp only [Mem.pa, Mem.pb, Mem.pc, Act.put, Mem.pd, Mem.pe, Mem.pf]
          refine Mem.tkV 6 ?v12 ?y12 ?r12
          case y12 => (intro w hSw; clear hSw; go_simp; try with_reducible rfl)
          try simp only [Mem.pa, Mem.pb, Mem.pc, Act.put, Mem.pd, Mem.pe, Mem.pf]
          first | refine Mem.tkN 7 ?r13 | (refine Mem.tkV 7 ?v13 ?y13 ?r13; case y13 => (intro w hSw; clear hSw; go_simp; try with_reducible rfl))
          try simp only [Mem.pa, Mem.pb, Mem.pc, Act.put, Mem.pd, Mem.pe, Mem.pf]
          first | refine Mem.tkN 8 ?r14 | (refine Mem.tkV 8 ?v14 ?y14 ?r14; case y14 => (intro w hSw; clear hSw; go_simp; try with_reducible rfl))
          try simp only [Mem.pa, Mem.pb, Mem.pc, Act.put, Mem.pd, Mem.pe, Mem.pf]
          first | refine Mem.tkN 9 ?r15 | (refine Mem.tkV 9 ?v15 ?y15 ?r15; case y15 => (intro w hSw; clear hSw; go_simp; try with_reducible rfl))
          try simp only [Mem.pa, Mem.pb, Mem.pc, Act.put, Mem.pd, Mem.pe, Mem.pf]
          first | refine Mem.tkN 10 ?r16 | (refine Mem.tkV 10 ?v16 ?y16 ?r16; case y16 => (intro w hSw; clear hSw; go_simp; try with_reducible rfl))
          try simp only [Mem.pa, Mem.pb, Mem.pc, Act.put, Mem.pd, Mem.pe, Mem.pf]
          first | refine Mem.tkN 11 ?r17 | (refine Mem.tkV 11 ?v17 ?y17 ?r17; case y17 => (intro w hSw; clear hSw; go_simp; try with_reducible rfl))
          try simp only [Mem.pa, Mem.pb, Mem.pc, Act.put, Mem.pd, Mem.pe, Mem.pf]
          first | refine Mem.tkN 12 ?r18 | (refine Mem.tkV 12 ?v18 ?y18 ?r18; case y18 => (intro w hSw; clear hSw; go_simp; try with_reducible rfl))
          try simp only [Mem.pa, Mem.pb, Mem.pc, Act.put, Mem.pd, Mem.pe, Mem.pf]
          first | refine Mem.tkN 13 ?r19 | (refine Mem.tkV 13 ?v19 ?y19 ?r19; case y19 => (intro w hSw; clear hSw; go_simp; try with_reducible rfl))
          try simp only [Mem.pa, Mem.pb, Mem.pc, Act.put, Mem.pd, Mem.pe, Mem.pf]
          first | refine Mem.tkN 14 ?r20 | (refine Mem.tkV 14 ?v20 ?y20 ?r20; case y20 => (intro w hSw; obtain ⟨hT0, hT1, hT2, hT3, hT4⟩ := hCl.out w hSw; clear hSw; go_simp; try with_reducible rfl))
          try simp only [Mem.pa, Mem.pb, Mem.pc, Act.put, Mem.pd, Mem.pe, Mem.pf]
          first | refine Mem.tkN 15 ?r21 | (refine Mem.tkV 15 ?v21 ?y21 ?r21; case y21 => (intro w hSw; clear hSw; go_simp; try with_reducible rfl))
          try simp only [Mem.pa, Mem.pb, Mem.pc, Act.put, Mem.pd, Mem.pe, Mem.pf]
          first | refine Mem.tkN 16 ?r22 | (refine Mem.tkV 16 ?v22 ?y22 ?r22; case y22 => (intro w hSw; clear hSw; go_simp; try with_reducible rfl))
          try simp only [Mem.pa, Mem.pb, Mem.pc, Act.put, Mem.pd, Mem.pe, Mem.pf]
          first | refine Mem.tkN 17 ?r23 | (refine Mem.tkV 17 ?v23 ?y23 ?r23; case y23 => (intro w hSw; clear hSw; go_simp; try with_reducible rfl))
          try simp only [Mem.pa, Mem.pb, Mem.pc, Act.put, Mem.pd, Mem.pe, Mem.pf]
          first | refine Mem.tkN 18 ?r24 | (refine Mem.tkV 18 ?v24 ?y24 ?r24; case y24 => (intro w hSw; clear hSw; go_simp; try with_reducible rfl))
          try simp only [Mem.pa, Mem.pb, Mem.pc, Act.put, Mem.pd, Mem.pe, Mem.pf]
          first | refine Mem.tkN 19 ?r25 | (refine Mem.tkV 19 ?v25 ?y25 ?r25; case y25 => (intro w hSw; clear hSw; go_simp; try with_reducible rfl))
          try simp only [Mem.pa, Mem.pb, Mem.pc, Act.put, Mem.pd, Mem.pe, Mem.pf]
          first | refine Mem.tkN 20 ?r26 | (refine Mem.tkV 20 ?v26 ?y26 ?r26; case y26 => (intro w hSw; obtain ⟨hT0, hT1, hT2, hT3, hT4⟩ := hCl.out w hSw; clear hSw; go_simp; try with_reducible rfl))
          try simp only [Mem.pa, Mem.pb, Mem.pc, Act.put, Mem.pd, Mem.pe, Mem.pf]
          first | refine Mem.tkN 21 ?r27 | (refine Mem.tkV 21 ?v27 ?y27 ?r27; case y27 => (intro w hSw; clear hSw; go_simp; try with_reducible rfl))
          try simp only [Mem.pa, Mem.pb, Mem.pc, Act.put, Mem.pd, Mem.pe, Mem.pf]
          first | refine Mem.tkN 22 ?r28 | (refine Mem.tkV 22 ?v28 ?y28 ?r28; case y28 => (intro w hSw; clear hSw; go_simp; try with_reducible rfl))
          refine Mem.tkV 23 ?v29 ?y29 ?r29
          case y29 => (intro w hSw; clear hSw; go_simp; try with_reducible rfl)
          refine Mem.tkV 24 ?v30 ?y30 ?r30
          case y30 => (intro w hSw; clear hSw; go_simp; try with_reducible rfl)
          try simp only [Mem.pa, Mem.pb, Mem.pc, Act.put, Mem.pd, Mem.pe, Mem.pf]
          first | refine Mem.tkN 25 ?r31 | (refine Mem.tkV 25 ?v31 ?y31 ?r31; case y31 => (intro w hSw; clear hSw; go_simp; try with_reducible rfl))
          try simp only [Mem.pa, Mem.pb, Mem.pc, Act.put, Mem.pd, Mem.pe, Mem.pf]
          first | refine Mem.tkN 26 ?r32 | (refine Mem.tkV 26 ?v32 ?y32 ?r32; case y32 => (intro w hSw; clear hSw; go_simp; try with_reducible rfl))
          try simp only [Mem.pa, Mem.pb, Mem.pc, Act.put, Mem.pd, Mem.pe, Mem.pf]
          first | refine Mem.tkN 27 ?r33 | (refine Mem.tkV 27 ?v33 ?y33 ?r33; case y33 => (intro w hSw; clear hSw; go_simp; try with_reducible rfl))
          try simp only [Mem.pa, Mem.pb, Mem.pc, Act.put, Mem.pd, Mem.pe, Mem.pf]
          first | refine Mem.tkN 28 ?r34 | (refine Mem.tkV 28 ?v34 ?y34 ?r34; case y34 => (intro w hSw; clear hSw; go_simp; try with_reducible rfl))
          try simp only [Mem.pa, Mem.pb, Mem.pc, Act.put, Mem.pd, Mem.pe, Mem.pf]
          first | refine Mem.tkN 29 ?r35 | (refine Mem.tkV 29 ?v35 ?y35 ?r35; case y35 => (intro w hSw; obtain ⟨hT0, hT1, hT2, hT3, hT4⟩ := hCl.out w hSw; clear hSw; go_simp; try with_reducible rfl))
          try simp only [Mem.pa, Mem.pb, Mem.pc, Act.put, Mem.pd, Mem.pe, Mem.pf]
          first | refine Mem.tkN 30 ?r36 | (refine Mem.tkV 30 ?v36 ?y36 ?r36; case y36 => (intro w hSw; clear hSw; go_simp; try with_reducible rfl))
          refine Mem.tkV 31 ?v37 ?y37 ?r37
          case y37 => (intro w hSw; clear hSw; go_simp; try with_reducible rfl)
          refine Mem.tkV 32 ?v38 ?y38 ?r38
          case y38 => (intro w hSw; clear hSw; go_simp; try with_reducible rfl)
          try simp only [Mem.pa, Mem.pb, Mem.pc, Act.put, Mem.pd, Mem.pe, Mem.pf]
          first | refine Mem.tkN 33 ?r39 | (refine Mem.tkV 33 ?v39 ?y39 ?r39; case y39 => (intro w hSw; clear hSw; go_simp; try with_reducible rfl))
          try simp only [Mem.pa, Mem.pb, Mem.pc, Act.put, Mem.pd, Mem.pe, Mem.pf]
          first | refine Mem.tkN 34 ?r40 | (refine Mem.tkV 34 ?v40 ?y40 ?r40; case y40 => (intro w hSw; clear hSw; go_simp; try with_reducible rfl))
          try simp only [Mem.pa, Mem.pb, Mem.pc, Act.put, Mem.pd, Mem.pe, Mem.pf]
          first | refine Mem.tkN 35 ?r41 | (refine Mem.tkV 35 ?v41 ?y41 ?r41; case y41 => (intro w hSw; clear hSw; go_simp; try with_reducible rfl))
          try simp only [Mem.pa, Mem.pb, Mem.pc, Act.put, Mem.pd, Mem.pe, Mem.pf]
          first | refine Mem.tkN 36 ?r42 | (refine Mem.tkV 36 ?v42 ?y42 ?r42; case y42 => (intro w hSw; clear hSw; go_simp; try with_reducible rfl))
          try simp only [Mem.pa, Mem.pb, Mem.pc, Act.put, Mem.pd, Mem.pe, Mem.pf]
          first | refine Mem.tkN 37 ?r43 | (refine Mem.tkV 37 ?v43 ?y43 ?r43; case y43 => (intro w hSw; obtain ⟨hT0, hT1, hT2, hT3, hT4⟩ := hCl.out w hSw; clear hSw; go_simp; try with_reducible rfl))
          try simp only [Mem.pa, Mem.pb, Mem.pc, Act.put, Mem.pd, Mem.pe, Mem.pf]
          first | refine Mem.tkN 38 ?r44 | (refine Mem.tkV 38 ?v44 ?y44 ?r44; case y44 => (intro w hSw; clear hSw; go_simp; try with_reducible rfl))
          try simp only [Mem.pa, Mem.pb, Mem.pc, Act.put, Mem.pd, Mem.pe, Mem.pf]
          first | refine Mem.tkN 39 ?r45 | (refine Mem.tkV 39 ?v45 ?y45 ?r45; case y45 => (intro w hSw; clear hSw; go_simp; try with_reducible rfl))
          refine Mem.tkV 40 ?v46 ?y46 ?r46
          case y46 => (intro w hSw; clear hSw; go_simp; try with_reducible rfl)
          refine Mem.tkV 41 ?v47 ?y47 ?r47
          case y47 => (intro w hSw; clear hSw; go_simp; try with_reducible rfl)
          try simp only [Mem.pa, Mem.pb, Mem.pc, Act.put, Mem.pd, Mem.pe, Mem.pf]
          first | refine Mem.tkN 42 ?r48 | (refine Mem.tkV 42 ?v48 ?y48 ?r48; case y48 => (intro w hSw; clear hSw; go_simp; try with_reducible rfl))
          try simp only [Mem.pa, Mem.pb, Mem.pc, Act.put, Mem.pd, Mem.pe, Mem.pf]
          first | refine Mem.tkN 43 ?r49 | (refine Mem.tkV 43 ?v49 ?y49 ?r49; case y49 => (intro w hSw; clear hSw; go_simp; try with_reducible rfl))
          try simp only [Mem.pa, Mem.pb, Mem.pc, Act.put, Mem.pd, Mem.pe, Mem.pf]
          first | refine Mem.tkN 44 ?r50 | (refine Mem.tkV 44 ?v50 ?y50 ?r50; case y50 => (intro w hSw; clear hSw; go_simp; try with_reducible rfl))
          try simp only [Mem.pa, Mem.pb, Mem.pc, Act.put, Mem.pd, Mem.pe, Mem.pf]
          first | refine Mem.tkN 45 ?r51 | (refine Mem.tkV 45 ?v51 ?y51 ?r51; case y51 => (intro w hSw; clear hSw; go_simp; try with_reducible rfl))
          try simp only [Mem.pa, Mem.pb, Mem.pc, Act.put, Mem.pd, Mem.pe, Mem.pf]
          first | refine Mem.tkN 46 ?r52 | (refine Mem.tkV 46 ?v52 ?y52 ?r52; case y52 => (intro w hSw; obtain ⟨hT0, hT1, hT2, hT3, hT4⟩ := hCl.out w hSw; clear hSw; go_simp; try with_reducible rfl))
          try simp only [Mem.pa, Mem.pb, Mem.pc, Act.put, Mem.pd, Mem.pe, Mem.pf]
          first | refine Mem.tkN 47 ?r53 | (refine Mem.tkV 47 ?v53 ?y53 ?r53; case y53 => (intro w hSw; clear hSw; go_simp; try with_reducible rfl))
          try simp only [Mem.pa, Mem.pb, Mem.pc, Act.put, Mem.pd, Mem.pe, Mem.pf]
          first | refine Mem.tkN 48 ?r54 | (refine Mem.tkV 48 ?v54 ?y54 ?r54; case y54 => (intro w hSw; clear hSw; go_simp; try with_reducible rfl))
          try simp only [Mem.pa, Mem.pb, Mem.pc, Act.put, Mem.pd, Mem.pe, Mem.pf]
          first | refine Mem.tkN 49 ?r55 | (refine Mem.tkV 49 ?v55 ?y55 ?r55; case y55 => (intro w hSw; clear hSw; go_simp; try with_reducible rfl))
          try simp only [Mem.pa, Mem.pb, Mem.pc, Act.put, Mem.pd, Mem.pe, Mem.pf]
          first | refine Mem.tkN 50 ?r56 | (refine Mem.tkV 50 ?v56 ?y56 ?r56; case y56 => (intro w hSw; clear hSw; go_simp; try with_reducible rfl))
          try simp only [Mem.pa, Mem.pb, Mem.pc, Act.put, Mem.pd, Mem.pe, Mem.pf]
          first | refine Mem.tkN 51 ?r57 | (refine Mem.tkV 51 ?v57 ?y57 ?r57; case y57 => (intro w hSw; obtain ⟨hT0, hT1, hT2, hT3, hT4⟩ := hCl.out w hSw; clear hSw; go_simp; try with_reducible rfl))
          try simp only [Mem.pa, Mem.pb, Mem.pc, Act.put, Mem.pd, Mem.pe, Mem.pf]
          first | refine Mem.tkN 52 ?r58 | (refine Mem.tkV 52 ?v58 ?y58 ?r58; case y58 => (intro w hSw; clear hSw; go_simp; try with_reducible rfl))
          try simp only [Mem.pa, Mem.pb, Mem.pc, Act.put, Mem.pd, Mem.pe, Mem.pf]
          first | refine Mem.tkN 53 ?r59 | (refine Mem.tkV 53 ?v59 ?y59 ?r59; case y59 => (intro w hSw; clear hSw; go_simp; try with_reducible rfl))
          refine Mem.tkV 54 ?v60 ?y60 ?r60
          case y60 => (intro w hSw; clear hSw; go_simp; try with_reducible rfl)
          try simp only [Mem.pa, Mem.pb, Mem.pc, Act.put, Mem.pd, Mem.pe, Mem.pf]
          refine wpAnyH_done (by kernel_rfl) ?_ _
          clear hCl
          go_wp2_with fail
          go_ret
          exact ⟨ret_bool HV.out.symm, hbr.trans (((Below.refl _ _).drew.trans hHeld).mono hbr.size)⟩
        have d1 : decide (x.id < 1) = false := decide_eq_false h1
        have X1 : Hid (¬ x.id ≤ 0) := Lib.hid (by omega)
        have X2 : Hid (0 ≤ x.id) := Lib.hid (by omega)
        clear h1
        by_cases h2 : x.blk < 0
        · rw [mayF_blk h2] at hv
          have HV := Lib.hid hv
          have d2 : decide (x.blk < 0) = true := decide_eq_true h2
          clear hv h2
          go_wp2_with fail
          refine wp_region_held_drew (S := Go.RowKit.Below ((wr.drew).heap.size) (wr.drew)) (by kernel_rfl) ?hb65 (fun hHeld => ?rest65)
          case hb65 =>
            exact Go.RowKit.Below.refl _ _
          case' rest65 => skip
          have hCl := fun (wS : World) (hSw : Go.RowKit.Below ((wr.drew).heap.size) (wr.drew) wS) => And.intro (Mem.bl_cell hSw e0 (by first | omega | (dsimp only; omega) | exact World.block_lt_of_cell? _ _ e0 | (simp <;> omega))) <| And.intro (Mem.bl_cell hSw e1 (by first | omega | (dsimp only; omega) | exact World.block_lt_of_cell? _ _ e1 | (simp <;> omega))) <| And.intro (Mem.bl_cell hSw e2 (by first | omega | (dsimp only; omega) | exact World.block_lt_of_cell? _ _ e2 | (simp <;> omega))) <| And.intro (Mem.bl_cell hSw e3 (by first | omega | (dsimp only; omega) | exact World.block_lt_of_cell? _ _ e3 | (simp <;> omega))) <| Mem.bl_cell hSw e4 (by first | omega | (dsimp only; omega) | exact World.block_lt_of_cell? _ _ e4 | (simp <;> omega))
          replace hCl := Go.Lib.hid hCl
          refine Mem.tkV 0 ?v66 ?y66 ?r66
          case y66 => (intro w hSw; clear hSw; go_simp; try with_reducible rfl)
          refine Mem.tkV 1 ?v67 ?y67 ?r67
          case y67 => (intro w hSw; clear hSw; go_simp; try with_reducible rfl)
          refine Mem.tkV 2 ?v68 ?y68 ?r68
          case y68 => (intro w hSw; clear hSw; go_simp; try with_reducible rfl)
          try simp only [Mem.pa, Mem.pb, Mem.pc, Act.put, Mem.pd, Mem.pe, Mem.pf]
          refine Mem.tkV 3 ?v69 ?y69 ?r69
          case y69 => (intro w hSw; clear hSw; go_simp; try with_reducible rfl)
          refine Mem.tkV 4 ?v70 ?y70 ?r70
          case y70 => (intro w hSw; obtain ⟨hT0, hT1, hT2, hT3, hT4⟩ := hCl.out w hSw; clear hSw; go_simp; try with_reducible rfl)
          refine Mem.tkV 5 ?v71 ?y71 ?r71
          case y71 => (intro w hSw; clear hSw; go_simp; try with_reducible rfl)
          try simp only [Mem.pa, Mem.pb, Mem.pc, Act.put, Mem.pd, Mem.pe, Mem.pf]
          refine Mem.tkV 6 ?v72 ?y72 ?r72
          case y72 => (intro w hSw; clear hSw; go_simp; try with_reducible rfl)
          try simp only [Mem.pa, Mem.pb, Mem.pc, Act.put, Mem.pd, Mem.pe, Mem.pf]
          first | refine Mem.tkN 7 ?r73 | (refine Mem.tkV 7 ?v73 ?y73 ?r73; case y73 => (intro w hSw; clear hSw; go_simp; try with_reducible rfl))
          try simp only [Mem.pa, Mem.pb, Mem.pc, Act.put, Mem.pd, Mem.pe, Mem.pf]
          first | refine Mem.tkN 8 ?r74 | (refine Mem.tkV 8 ?v74 ?y74 ?r74; case y74 => (intro w hSw; clear hSw; go_simp; try with_reducible rfl))
          try simp only [Mem.pa, Mem.pb, Mem.pc, Act.put, Mem.pd, Mem.pe, Mem.pf]
          first | refine Mem.tkN 9 ?r75 | (refine Mem.tkV 9 ?v75 ?y75 ?r75; case y75 => (intro w hSw; clear hSw; go_simp; try with_reducible rfl))
          try simp only [Mem.pa, Mem.pb, Mem.pc, Act.put, Mem.pd, Mem.pe, Mem.pf]
          first | refine Mem.tkN 10 ?r76 | (refine Mem.tkV 10 ?v76 ?y76 ?r76; case y76 => (intro w hSw; clear hSw; go_simp; try with_reducible rfl))
          try simp only [Mem.pa, Mem.pb, Mem.pc, Act.put, Mem.pd, Mem.pe, Mem.pf]
          first | refine Mem.tkN 11 ?r77 | (refine Mem.tkV 11 ?v77 ?y77 ?r77; case y77 => (intro w hSw; clear hSw; go_simp; try with_reducible rfl))
          try simp only [Mem.pa, Mem.pb, Mem.pc, Act.put, Mem.pd, Mem.pe, Mem.pf]
          first | refine Mem.tkN 12 ?r78 | (refine Mem.tkV 12 ?v78 ?y78 ?r78; case y78 => (intro w hSw; clear hSw; go_simp; try with_reducible rfl))
          try simp only [Mem.pa, Mem.pb, Mem.pc, Act.put, Mem.pd, Mem.pe, Mem.pf]
          first | refine Mem.tkN 13 ?r79 | (refine Mem.tkV 13 ?v79 ?y79 ?r79; case y79 => (intro w hSw; clear hSw; go_simp; try with_reducible rfl))
          try simp only [Mem.pa, Mem.pb, Mem.pc, Act.put, Mem.pd, Mem.pe, Mem.pf]
          first | refine Mem.tkN 14 ?r80 | (refine Mem.tkV 14 ?v80 ?y80 ?r80; case y80 => (intro w hSw; obtain ⟨hT0, hT1, hT2, hT3, hT4⟩ := hCl.out w hSw; clear hSw; go_simp; try with_reducible rfl))
          try simp only [Mem.pa, Mem.pb, Mem.pc, Act.put, Mem.pd, Mem.pe, Mem.pf]
          first | refine Mem.tkN 15 ?r81 | (refine Mem.tkV 15 ?v81 ?y81 ?r81; case y81 => (intro w hSw; clear hSw; go_simp; try with_reducible rfl))
          try simp only [Mem.pa, Mem.pb, Mem.pc, Act.put, Mem.pd, Mem.pe, Mem.pf]
          first | refine Mem.tkN 16 ?r82 | (refine Mem.tkV 16 ?v82 ?y82 ?r82; case y82 => (intro w hSw; clear hSw; go_simp; try with_reducible rfl))
          try simp only [Mem.pa, Mem.pb, Mem.pc, Act.put, Mem.pd, Mem.pe, Mem.pf]
          first | refine Mem.tkN 17 ?r83 | (refine Mem.tkV 17 ?v83 ?y83 ?r83; case y83 => (intro w hSw; clear hSw; go_simp; try with_reducible rfl))
          try simp only [Mem.pa, Mem.pb, Mem.pc, Act.put, Mem.pd, Mem.pe, Mem.pf]
          first | refine Mem.tkN 18 ?r84 | (refine Mem.tkV 18 ?v84 ?y84 ?r84; case y84 => (intro w hSw; clear hSw; go_simp; try with_reducible rfl))
          try simp only [Mem.pa, Mem.pb, Mem.pc, Act.put, Mem.pd, Mem.pe, Mem.pf]
          first | refine Mem.tkN 19 ?r85 | (refine Mem.tkV 19 ?v85 ?y85 ?r85; case y85 => (intro w hSw; clear hSw; go_simp; try with_reducible rfl))
          try simp only [Mem.pa, Mem.pb, Mem.pc, Act.put, Mem.pd, Mem.pe, Mem.pf]
          first | refine Mem.tkN 20 ?r86 | (refine Mem.tkV 20 ?v86 ?y86 ?r86; case y86 => (intro w hSw; obtain ⟨hT0, hT1, hT2, hT3, hT4⟩ := hCl.out w hSw; clear hSw; go_simp; try with_reducible rfl))
          try simp only [Mem.pa, Mem.pb, Mem.pc, Act.put, Mem.pd, Mem.pe, Mem.pf]
          first | refine Mem.tkN 21 ?r87 | (refine Mem.tkV 21 ?v87 ?y87 ?r87; case y87 => (intro w hSw; clear hSw; go_simp; try with_reducible rfl))
          try simp only [Mem.pa, Mem.pb, Mem.pc, Act.put, Mem.pd, Mem.pe, Mem.pf]
          first | refine Mem.tkN 22 ?r88 | (refine Mem.tkV 22 ?v88 ?y88 ?r88; case y88 => (intro w hSw; clear hSw; go_simp; try with_reducible rfl))
          refine Mem.tkV 23 ?v89 ?y89 ?r89
          case y89 => (intro w hSw; clear hSw; go_simp; try with_reducible rfl)
          refine Mem.tkV 24 ?v90 ?y90 ?r90
          case y90 => (intro w hSw; clear hSw; go_simp; try with_reducible rfl)
          try simp only [Mem.pa, Mem.pb, Mem.pc, Act.put, Mem.pd, Mem.pe, Mem.pf]
          first | refine Mem.tkN 25 ?r91 | (refine Mem.tkV 25 ?v91 ?y91 ?r91; case y91 => (intro w hSw; clear hSw; go_simp; try with_reducible rfl))
          try simp only [Mem.pa, Mem.pb, Mem.pc, Act.put, Mem.pd, Mem.pe, Mem.pf]
          first | refine Mem.tkN 26 ?r92 | (refine Mem.tkV 26 ?v92 ?y92 ?r92; case y92 => (intro w hSw; clear hSw; go_simp; try with_reducible rfl))
          try simp only [Mem.pa, Mem.pb, Mem.pc, Act.put, Mem.pd, Mem.pe, Mem.pf]
          first | refine Mem.tkN 27 ?r93 | (refine Mem.tkV 27 ?v93 ?y93 ?r93; case y93 => (intro w hSw; clear hSw; go_simp; try with_reducible rfl))
          try simp only [Mem.pa, Mem.pb, Mem.pc, Act.put, Mem.pd, Mem.pe, Mem.pf]
          first | refine Mem.tkN 28 ?r94 | (refine Mem.tkV 28 ?v94 ?y94 ?r94; case y94 => (intro w hSw; clear hSw; go_simp; try with_reducible rfl))
          try simp only [Mem.pa, Mem.pb, Mem.pc, Act.put, Mem.pd, Mem.pe, Mem.pf]
          first | refine Mem.tkN 29 ?r95 | (refine Mem.tkV 29 ?v95 ?y95 ?r95; case y95 => (intro w hSw; obtain ⟨hT0, hT1, hT2, hT3, hT4⟩ := hCl.out w hSw; clear hSw; go_simp; try with_reducible rfl))
          try simp only [Mem.pa, Mem.pb, Mem.pc, Act.put, Mem.pd, Mem.pe, Mem.pf]
          first | refine Mem.tkN 30 ?r96 | (refine Mem.tkV 30 ?v96 ?y96 ?r96; case y96 => (intro w hSw; clear hSw; go_simp; try with_reducible rfl))
          refine Mem.tkV 31 ?v97 ?y97 ?r97
          case y97 => (intro w hSw; clear hSw; go_simp; try with_reducible rfl)
          refine Mem.tkV 32 ?v98 ?y98 ?r98
          case y98 => (intro w hSw; clear hSw; go_simp; try with_reducible rfl)
          try simp only [Mem.pa, Mem.pb, Mem.pc, Act.put, Mem.pd, Mem.pe, Mem.pf]
          first | refine Mem.tkN 33 ?r99 | (refine Mem.tkV 33 ?v99 ?y99 ?r99; case y99 => (intro w hSw; clear hSw; go_simp; try with_reducible rfl))
          try simp only [Mem.pa, Mem.pb, Mem.pc, Act.put, Mem.pd, Mem.pe, Mem.pf]
          first | refine Mem.tkN 34 ?r100 | (refine Mem.tkV 34 ?v100 ?y100 ?r100; case y100 => (intro w hSw; clear hSw; go_simp; try with_reducible rfl))
          try simp only [Mem.pa, Mem.pb, Mem.pc, Act.put, Mem.pd, Mem.pe, Mem.pf]
          first | refine Mem.tkN 35 ?r101 | (refine Mem.tkV 35 ?v101 ?y101 ?r101; case y101 => (intro w hSw; clear hSw; go_simp; try with_reducible rfl))
          try simp only [Mem.pa, Mem.pb, Mem.pc, Act.put, Mem.pd, Mem.pe, Mem.pf]
          first | refine Mem.tkN 36 ?r102 | (refine Mem.tkV 36 ?v102 ?y102 ?r102; case y102 => (intro w hSw; clear hSw; go_simp; try with_reducible rfl))
          try simp only [Mem.pa, Mem.pb, Mem.pc, Act.put, Mem.pd, Mem.pe, Mem.pf]
          first | refine Mem.tkN 37 ?r103 | (refine Mem.tkV 37 ?v103 ?y103 ?r103; case y103 => (intro w hSw; obtain ⟨hT0, hT1, hT2, hT3, hT4⟩ := hCl.out w hSw; clear hSw; go_simp; try with_reducible rfl))
          try simp only [Mem.pa, Mem.pb, Mem.pc, Act.put, Mem.pd, Mem.pe, Mem.pf]
          first | refine Mem.tkN 38 ?r104 | (refine Mem.tkV 38 ?v104 ?y104 ?r104; case y104 => (intro w hSw; clear hSw; go_simp; try with_reducible rfl))
          try simp only [Mem.pa, Mem.pb, Mem.pc, Act.put, Mem.pd, Mem.pe, Mem.pf]
          first | refine Mem.tkN 39 ?r105 | (refine Mem.tkV 39 ?v105 ?y105 ?r105; case y105 => (intro w hSw; clear hSw; go_simp; try with_reducible rfl))
          refine Mem.tkV 40 ?v106 ?y106 ?r106
          case y106 => (intro w hSw; clear hSw; go_simp; try with_reducible rfl)
          refine Mem.tkV 41 ?v107 ?y107 ?r107
          case y107 => (intro w hSw; clear hSw; go_simp; try with_reducible rfl)
          try simp only [Mem.pa, Mem.pb, Mem.pc, Act.put, Mem.pd, Mem.pe, Mem.pf]
          first | refine Mem.tkN 42 ?r108 | (refine Mem.tkV 42 ?v108 ?y108 ?r108; case y108 => (intro w hSw; clear hSw; go_simp; try with_reducible rfl))
          try simp only [Mem.pa, Mem.pb, Mem.pc, Act.put, Mem.pd, Mem.pe, Mem.pf]
          first | refine Mem.tkN 43 ?r109 | (refine Mem.tkV 43 ?v109 ?y109 ?r109; case y109 => (intro w hSw; clear hSw; go_simp; try with_reducible rfl))
          try simp only [Mem.pa, Mem.pb, Mem.pc, Act.put, Mem.pd, Mem.pe, Mem.pf]
          first | refine Mem.tkN 44 ?r110 | (refine Mem.tkV 44 ?v110 ?y110 ?r110; case y110 => (intro w hSw; clear hSw; go_simp; try with_reducible rfl))
          try simp only [Mem.pa, Mem.pb, Mem.pc, Act.put, Mem.pd, Mem.pe, Mem.pf]
          first | refine Mem.tkN 45 ?r111 | (refine Mem.tkV 45 ?v111 ?y111 ?r111; case y111 => (intro w hSw; clear hSw; go_simp; try with_reducible rfl))
          try simp only [Mem.pa, Mem.pb, Mem.pc, Act.put, Mem.pd, Mem.pe, Mem.pf]
          first | refine Mem.tkN 46 ?r112 | (refine Mem.tkV 46 ?v112 ?y112 ?r112; case y112 => (intro w hSw; obtain ⟨hT0, hT1, hT2, hT3, hT4⟩ := hCl.out w hSw; clear hSw; go_simp; try with_reducible rfl))
          try simp only [Mem.pa, Mem.pb, Mem.pc, Act.put, Mem.pd, Mem.pe, Mem.pf]
          first | refine Mem.tkN 47 ?r113 | (refine Mem.tkV 47 ?v113 ?y113 ?r113; case y113 => (intro w hSw; clear hSw; go_simp; try with_reducible rfl))
          try simp only [Mem.pa, Mem.pb, Mem.pc, Act.put, Mem.pd, Mem.pe, Mem.pf]
          first | refine Mem.tkN 48 ?r114 | (refine Mem.tkV 48 ?v114 ?y114 ?r114; case y114 => (intro w hSw; clear hSw; go_simp; try with_reducible rfl))
          try simp only [Mem.pa, Mem.pb, Mem.pc, Act.put, Mem.pd, Mem.pe, Mem.pf]
          first | refine Mem.tkN 49 ?r115 | (refine Mem.tkV 49 ?v115 ?y115 ?r115; case y115 => (intro w hSw; clear hSw; go_simp; try with_reducible rfl))
          try simp only [Mem.pa, Mem.pb, Mem.pc, Act.put, Mem.pd, Mem.pe, Mem.pf]
          first | refine Mem.tkN 50 ?r116 | (refine Mem.tkV 50 ?v116 ?y116 ?r116; case y116 => (intro w hSw; clear hSw; go_simp; try with_reducible rfl))
          try simp only [Mem.pa, Mem.pb, Mem.pc, Act.put, Mem.pd, Mem.pe, Mem.pf]
          first | refine Mem.tkN 51 ?r117 | (refine Mem.tkV 51 ?v117 ?y117 ?r117; case y117 => (intro w hSw; obtain ⟨hT0, hT1, hT2, hT3, hT4⟩ := hCl.out w hSw; clear hSw; go_simp; try with_reducible rfl))
          try simp only [Mem.pa, Mem.pb, Mem.pc, Act.put, Mem.pd, Mem.pe, Mem.pf]
          first | refine Mem.tkN 52 ?r118 | (refine Mem.tkV 52 ?v118 ?y118 ?r118; case y118 => (intro w hSw; clear hSw; go_simp; try with_reducible rfl))
          try simp only [Mem.pa, Mem.pb, Mem.pc, Act.put, Mem.pd, Mem.pe, Mem.pf]
          first | refine Mem.tkN 53 ?r119 | (refine Mem.tkV 53 ?v119 ?y119 ?r119; case y119 => (intro w hSw; clear hSw; go_simp; try with_reducible rfl))
          refine Mem.tkV 54 ?v120 ?y120 ?r120
          case y120 => (intro w hSw; clear hSw; go_simp; try with_reducible rfl)
          try simp only [Mem.pa, Mem.pb, Mem.pc, Act.put, Mem.pd, Mem.pe, Mem.pf]
          refine wpAnyH_done (by kernel_rfl) ?_ _
          clear hCl
          go_wp2_with fail
          go_ret
          exact ⟨ret_bool HV.out.symm, hbr.trans (((Below.refl _ _).drew.trans hHeld).mono hbr.size)⟩
        have d2 : decide (x.blk < 0) = false := decide_eq_false h2
        cases h5 : rightN x.pa x.pd.length with
        | false =>
          rw [mayF_p h5] at hv
          have HV := Lib.hid hv
          have CC := Lib.hid (fun w' => right_any x.pa A1 x.pd.length c1 w' hp1)
          rw [h5] at CC
          clear hv h5 h2
          go_wp2_with fail
          refine wp_region_held_drew (S := Go.RowKit.Below ((wr.drew).heap.size) (wr.drew)) (by kernel_rfl) ?hb126 (fun hHeld => ?rest126)
          case hb126 =>
            exact Go.RowKit.Below.refl _ _
          case' rest126 => skip
          have hCl := fun (wS : World) (hSw : Go.RowKit.Below ((wr.drew).heap.size) (wr.drew) wS) => And.intro (Mem.bl_cell hSw e0 (by first | omega | (dsimp only; omega) | exact World.block_lt_of_cell? _ _ e0 | (simp <;> omega))) <| And.intro (Mem.bl_cell hSw e1 (by first | omega | (dsimp only; omega) | exact World.block_lt_of_cell? _ _ e1 | (simp <;> omega))) <| And.intro (Mem.bl_cell hSw e2 (by first | omega | (dsimp only; omega) | exact World.block_lt_of_cell? _ _ e2 | (simp <;> omega))) <| And.intro (Mem.bl_cell hSw e3 (by first | omega | (dsimp only; omega) | exact World.block_lt_of_cell? _ _ e3 | (simp <;> omega))) <| Mem.bl_cell hSw e4 (by first | omega | (dsimp only; omega) | exact World.block_lt_of_cell? _ _ e4 | (simp <;> omega))
          replace hCl := Go.Lib.hid hCl
          refine Mem.tkV 0 ?v127 ?y127 ?r127
          case y127 => (intro w hSw; clear hSw; go_simp; try with_reducible rfl)
          refine Mem.tkV 1 ?v128 ?y128 ?r128
          case y128 => (intro w hSw; clear hSw; go_simp; try with_reducible rfl)
          refine Mem.tkV 2 ?v129 ?y129 ?r129
          case y129 => (intro w hSw; clear hSw; go_simp; try with_reducible rfl)
          try simp only [Mem.pa, Mem.pb, Mem.pc, Act.put, Mem.pd, Mem.pe, Mem.pf]
          refine Mem.tkV 3 ?v130 ?y130 ?r130
          case y130 => (intro w hSw; clear hSw; go_simp; try with_reducible rfl)
          refine Mem.tkV 4 ?v131 ?y131 ?r131
          case y131 => (intro w hSw; obtain ⟨hT0, hT1, hT2, hT3, hT4⟩ := hCl.out w hSw; clear hSw; go_simp; try with_reducible rfl)
          refine Mem.tkV 5 ?v132 ?y132 ?r132
          case y132 => (intro w hSw; clear hSw; go_simp; try with_reducible rfl)
          try simp only [Mem.pa, Mem.pb, Mem.pc, Act.put, Mem.pd, Mem.pe, Mem.pf]
          refine Mem.tkV 6 ?v133 ?y133 ?r133
          case y133 => (intro w hSw; clear hSw; go_simp; try with_reducible rfl)
          try simp only [Mem.pa, Mem.pb, Mem.pc, Act.put, Mem.pd, Mem.pe, Mem.pf]
          first | refine Mem.tkN 7 ?r134 | (refine Mem.tkV 7 ?v134 ?y134 ?r134; case y134 => (intro w hSw; clear hSw; go_simp; try with_reducible rfl))
          try simp only [Mem.pa, Mem.pb, Mem.pc, Act.put, Mem.pd, Mem.pe, Mem.pf]
          first | refine Mem.tkN 8 ?r135 | (refine Mem.tkV 8 ?v135 ?y135 ?r135; case y135 => (intro w hSw; clear hSw; go_simp; try with_reducible rfl))
          try simp only [Mem.pa, Mem.pb, Mem.pc, Act.put, Mem.pd, Mem.pe, Mem.pf]
          first | refine Mem.tkN 9 ?r136 | (refine Mem.tkV 9 ?v136 ?y136 ?r136; case y136 => (intro w hSw; clear hSw; go_simp; try with_reducible rfl))
          try simp only [Mem.pa, Mem.pb, Mem.pc, Act.put, Mem.pd, Mem.pe, Mem.pf]
          first | refine Mem.tkN 10 ?r137 | (refine Mem.tkV 10 ?v137 ?y137 ?r137; case y137 => (intro w hSw; clear hSw; go_simp; try with_reducible rfl))
          try simp only [Mem.pa, Mem.pb, Mem.pc, Act.put, Mem.pd, Mem.pe, Mem.pf]
          first | refine Mem.tkN 11 ?r138 | (refine Mem.tkV 11 ?v138 ?y138 ?r138; case y138 => (intro w hSw; clear hSw; go_simp; try with_reducible rfl))
          try simp only [Mem.pa, Mem.pb, Mem.pc, Act.put, Mem.pd, Mem.pe, Mem.pf]
          first | refine Mem.tkN 12 ?r139 | (refine Mem.tkV 12 ?v139 ?y139 ?r139; case y139 => (intro w hSw; clear hSw; go_simp; try with_reducible rfl))
          try simp only [Mem.pa, Mem.pb, Mem.pc, Act.put, Mem.pd, Mem.pe, Mem.pf]
          first | refine Mem.tkN 13 ?r140 | (refine Mem.tkV 13 ?v140 ?y140 ?r140; case y140 => (intro w hSw; clear hSw; go_simp; try with_reducible rfl))
          try simp only [Mem.pa, Mem.pb, Mem.pc, Act.put, Mem.pd, Mem.pe, Mem.pf]
          first | refine Mem.tkN 14 ?r141 | (refine Mem.tkV 14 ?v141 ?y141 ?r141; case y141 => (intro w hSw; obtain ⟨hT0, hT1, hT2, hT3, hT4⟩ := hCl.out w hSw; clear hSw; go_simp; try with_reducible rfl))
          try simp only [Mem.pa, Mem.pb, Mem.pc, Act.put, Mem.pd, Mem.pe, Mem.pf]
          first | refine Mem.tkN 15 ?r142 | (refine Mem.tkV 15 ?v142 ?y142 ?r142; case y142 => (intro w hSw; clear hSw; go_simp; try with_reducible rfl))
          try simp only [Mem.pa, Mem.pb, Mem.pc, Act.put, Mem.pd, Mem.pe, Mem.pf]
          first | refine Mem.tkN 16 ?r143 | (refine Mem.tkV 16 ?v143 ?y143 ?r143; case y143 => (intro w hSw; clear hSw; go_simp; try with_reducible rfl))
          try simp only [Mem.pa, Mem.pb, Mem.pc, Act.put, Mem.pd, Mem.pe, Mem.pf]
          first | refine Mem.tkN 17 ?r144 | (refine Mem.tkV 17 ?v144 ?y144 ?r144; case y144 => (intro w hSw; clear hSw; go_simp; try with_reducible rfl))
          try simp only [Mem.pa, Mem.pb, Mem.pc, Act.put, Mem.pd, Mem.pe, Mem.pf]
          first | refine Mem.tkN 18 ?r145 | (refine Mem.tkV 18 ?v145 ?y145 ?r145; case y145 => (intro w hSw; clear hSw; go_simp; try with_reducible rfl))
          try simp only [Mem.pa, Mem.pb, Mem.pc, Act.put, Mem.pd, Mem.pe, Mem.pf]
          first | refine Mem.tkN 19 ?r146 | (refine Mem.tkV 19 ?v146 ?y146 ?r146; case y146 => (intro w hSw; clear hSw; go_simp; try with_reducible rfl))
          try simp only [Mem.pa, Mem.pb, Mem.pc, Act.put, Mem.pd, Mem.pe, Mem.pf]
          first | refine Mem.tkN 20 ?r147 | (refine Mem.tkV 20 ?v147 ?y147 ?r147; case y147 => (intro w hSw; obtain ⟨hT0, hT1, hT2, hT3, hT4⟩ := hCl.out w hSw; clear hSw; go_simp; try with_reducible rfl))
          try simp only [Mem.pa, Mem.pb, Mem.pc, Act.put, Mem.pd, Mem.pe, Mem.pf]
          first | refine Mem.tkN 21 ?r148 | (refine Mem.tkV 21 ?v148 ?y148 ?r148; case y148 => (intro w hSw; clear hSw; go_simp; try with_reducible rfl))
          try simp only [Mem.pa, Mem.pb, Mem.pc, Act.put, Mem.pd, Mem.pe, Mem.pf]
          first | refine Mem.tkN 22 ?r149 | (refine Mem.tkV 22 ?v149 ?y149 ?r149; case y149 => (intro w hSw; clear hSw; go_simp; try with_reducible rfl))
          refine Mem.tkV 23 ?v150 ?y150 ?r150
          case y150 => (intro w hSw; clear hSw; go_simp; try with_reducible rfl)
          refine Mem.tkV 24 ?v151 ?y151 ?r151
          case y151 => (intro w hSw; clear hSw; go_simp; try with_reducible rfl)
          try simp only [Mem.pa, Mem.pb, Mem.pc, Act.put, Mem.pd, Mem.pe, Mem.pf]
          first | refine Mem.tkN 25 ?r152 | (refine Mem.tkV 25 ?v152 ?y152 ?r152; case y152 => (intro w hSw; clear hSw; go_simp; try with_reducible rfl))
          try simp only [Mem.pa, Mem.pb, Mem.pc, Act.put, Mem.pd, Mem.pe, Mem.pf]
          first | refine Mem.tkN 26 ?r153 | (refine Mem.tkV 26 ?v153 ?y153 ?r153; case y153 => (intro w hSw; clear hSw; go_simp; try with_reducible rfl))
          try simp only [Mem.pa, Mem.pb, Mem.pc, Act.put, Mem.pd, Mem.pe, Mem.pf]
          first | refine Mem.tkN 27 ?r154 | (refine Mem.tkV 27 ?v154 ?y154 ?r154; case y154 => (intro w hSw; clear hSw; go_simp; try with_reducible rfl))
          try simp only [Mem.pa, Mem.pb, Mem.pc, Act.put, Mem.pd, Mem.pe, Mem.pf]
          first | refine Mem.tkN 28 ?r155 | (refine Mem.tkV 28 ?v155 ?y155 ?r155; case y155 => (intro w hSw; clear hSw; go_simp; try with_reducible rfl))
          try simp only [Mem.pa, Mem.pb, Mem.pc, Act.put, Mem.pd, Mem.pe, Mem.pf]
          first | refine Mem.tkN 29 ?r156 | (refine Mem.tkV 29 ?v156 ?y156 ?r156; case y156 => (intro w hSw; obtain ⟨hT0, hT1, hT2, hT3, hT4⟩ := hCl.out w hSw; clear hSw; go_simp; try with_reducible rfl))
          try simp only [Mem.pa, Mem.pb, Mem.pc, Act.put, Mem.pd, Mem.pe, Mem.pf]
          first | refine Mem.tkN 30 ?r157 | (refine Mem.tkV 30 ?v157 ?y157 ?r157; case y157 => (intro w hSw; clear hSw; go_simp; try with_reducible rfl))
          refine Mem.tkV 31 ?v158 ?y158 ?r158
          case y158 => (intro w hSw; clear hSw; go_simp; try with_reducible rfl)
          refine Mem.tkV 32 ?v159 ?y159 ?r159
          case y159 => (intro w hSw; clear hSw; go_simp; try with_reducible rfl)
          try simp only [Mem.pa, Mem.pb, Mem.pc, Act.put, Mem.pd, Mem.pe, Mem.pf]
          first | refine Mem.tkN 33 ?r160 | (refine Mem.tkV 33 ?v160 ?y160 ?r160; case y160 => (intro w hSw; clear hSw; go_simp; try with_reducible rfl))
          try simp only [Mem.pa, Mem.pb, Mem.pc, Act.put, Mem.pd, Mem.pe, Mem.pf]
          first | refine Mem.tkN 34 ?r161 | (refine Mem.tkV 34 ?v161 ?y161 ?r161; case y161 => (intro w hSw; clear hSw; go_simp; try with_reducible rfl))
          try simp only [Mem.pa, Mem.pb, Mem.pc, Act.put, Mem.pd, Mem.pe, Mem.pf]
          first | refine Mem.tkN 35 ?r162 | (refine Mem.tkV 35 ?v162 ?y162 ?r162; case y162 => (intro w hSw; clear hSw; go_simp; try with_reducible rfl))
          try simp only [Mem.pa, Mem.pb, Mem.pc, Act.put, Mem.pd, Mem.pe, Mem.pf]
          first | refine Mem.tkN 36 ?r163 | (refine Mem.tkV 36 ?v163 ?y163 ?r163; case y163 => (intro w hSw; clear hSw; go_simp; try with_reducible rfl))
          try simp only [Mem.pa, Mem.pb, Mem.pc, Act.put, Mem.pd, Mem.pe, Mem.pf]
          first | refine Mem.tkN 37 ?r164 | (refine Mem.tkV 37 ?v164 ?y164 ?r164; case y164 => (intro w hSw; obtain ⟨hT0, hT1, hT2, hT3, hT4⟩ := hCl.out w hSw; clear hSw; go_simp; try with_reducible rfl))
          try simp only [Mem.pa, Mem.pb, Mem.pc, Act.put, Mem.pd, Mem.pe, Mem.pf]
          refine wpAnyH_ready (rs := [38]) (by kernel_rfl) (by simp) ?_
          refine AllReadyH.cons rfl (fun K hK => ?_) AllReadyH.nil
          go_simp
          (refine (CC.out _).mono ?_; rintro e wb ⟨rfl, hbl⟩)
          try go_wp2_with fail
          have hSnew := Mem.bl_step hHeld hbl (by first | exact Nat.le_refl _ | omega | (simp <;> omega))
          refine hK.out _ _ ?_ (fun hHeld2 => ?_)
          · exact hSnew
          try replace hn := hn.below hbl
          clear hbl
          clear hK K hHeld hSnew
          have hHeld := hHeld2
          clear hHeld2
          try simp only [Mem.pa, Mem.pb, Mem.pc, Act.put, Mem.pd, Mem.pe, Mem.pf]
          first | refine Mem.tkN 39 ?r165 | (refine Mem.tkV 39 ?v165 ?y165 ?r165; case y165 => (intro w hSw; clear hSw; go_simp; try with_reducible rfl))
          refine Mem.tkV 40 ?v166 ?y166 ?r166
          case y166 => (intro w hSw; clear hSw; go_simp; try with_reducible rfl)
          refine Mem.tkV 41 ?v167 ?y167 ?r167
          case y167 => (intro w hSw; clear hSw; go_simp; try with_reducible rfl)
          try simp only [Mem.pa, Mem.pb, Mem.pc, Act.put, Mem.pd, Mem.pe, Mem.pf]
          first | refine Mem.tkN 42 ?r168 | (refine Mem.tkV 42 ?v168 ?y168 ?r168; case y168 => (intro w hSw; clear hSw; go_simp; try with_reducible rfl))
          try simp only [Mem.pa, Mem.pb, Mem.pc, Act.put, Mem.pd, Mem.pe, Mem.pf]
          first | refine Mem.tkN 43 ?r169 | (refine Mem.tkV 43 ?v169 ?y169 ?r169; case y169 => (intro w hSw; clear hSw; go_simp; try with_reducible rfl))
          try simp only [Mem.pa, Mem.pb, Mem.pc, Act.put, Mem.pd, Mem.pe, Mem.pf]
          first | refine Mem.tkN 44 ?r170 | (refine Mem.tkV 44 ?v170 ?y170 ?r170; case y170 => (intro w hSw; clear hSw; go_simp; try with_reducible rfl))
          try simp only [Mem.pa, Mem.pb, Mem.pc, Act.put, Mem.pd, Mem.pe, Mem.pf]
          first | refine Mem.tkN 45 ?r171 | (refine Mem.tkV 45 ?v171 ?y171 ?r171; case y171 => (intro w hSw; clear hSw; go_simp; try with_reducible rfl))
          try simp only [Mem.pa, Mem.pb, Mem.pc, Act.put, Mem.pd, Mem.pe, Mem.pf]
          first | refine Mem.tkN 46 ?r172 | (refine Mem.tkV 46 ?v172 ?y172 ?r172; case y172 => (intro w hSw; obtain ⟨hT0, hT1, hT2, hT3, hT4⟩ := hCl.out w hSw; clear hSw; go_simp; try with_reducible rfl))
          try simp only [Mem.pa, Mem.pb, Mem.pc, Act.put, Mem.pd, Mem.pe, Mem.pf]
          first | refine Mem.tkN 47 ?r173 | (refine Mem.tkV 47 ?v173 ?y173 ?r173; case y173 => (intro w hSw; clear hSw; go_simp; try with_reducible rfl))
          try simp only [Mem.pa, Mem.pb, Mem.pc, Act.put, Mem.pd, Mem.pe, Mem.pf]
          first | refine Mem.tkN 48 ?r174 | (refine Mem.tkV 48 ?v174 ?y174 ?r174; case y174 => (intro w hSw; clear hSw; go_simp; try with_reducible rfl))
          try simp only [Mem.pa, Mem.pb, Mem.pc, Act.put, Mem.pd, Mem.pe, Mem.pf]
          first | refine Mem.tkN 49 ?r175 | (refine Mem.tkV 49 ?v175 ?y175 ?r175; case y175 => (intro w hSw; clear hSw; go_simp; try with_reducible rfl))
          try simp only [Mem.pa, Mem.pb, Mem.pc, Act.put, Mem.pd, Mem.pe, Mem.pf]
          first | refine Mem.tkN 50 ?r176 | (refine Mem.tkV 50 ?v176 ?y176 ?r176; case y176 => (intro w hSw; clear hSw; go_simp; try with_reducible rfl))
          try simp only [Mem.pa, Mem.pb, Mem.pc, Act.put, Mem.pd, Mem.pe, Mem.pf]
          first | refine Mem.tkN 51 ?r177 | (refine Mem.tkV 51 ?v177 ?y177 ?r177; case y177 => (intro w hSw; obtain ⟨hT0, hT1, hT2, hT3, hT4⟩ := hCl.out w hSw; clear hSw; go_simp; try with_reducible rfl))
          try simp only [Mem.pa, Mem.pb, Mem.pc, Act.put, Mem.pd, Mem.pe, Mem.pf]
          first | refine Mem.tkN 52 ?r178 | (refine Mem.tkV 52 ?v178 ?y178 ?r178; case y178 => (intro w hSw; clear hSw; go_simp; try with_reducible rfl))
          try simp only [Mem.pa, Mem.pb, Mem.pc, Act.put, Mem.pd, Mem.pe, Mem.pf]
          first | refine Mem.tkN 53 ?r179 | (refine Mem.tkV 53 ?v179 ?y179 ?r179; case y179 => (intro w hSw; clear hSw; go_simp; try with_reducible rfl))
          refine Mem.tkV 54 ?v180 ?y180 ?r180
          case y180 => (intro w hSw; clear hSw; go_simp; try with_reducible rfl)
          try simp only [Mem.pa, Mem.pb, Mem.pc, Act.put, Mem.pd, Mem.pe, Mem.pf]
          refine wpAnyH_done (by kernel_rfl) ?_ _
          clear hCl
          go_wp2_with fail
          go_ret
          exact ⟨ret_bool HV.out.symm, hbr.trans (((Below.refl _ _).drew.trans hHeld).mono hbr.size)⟩
        | true =>
          have CC := Lib.hid (fun w' => right_any x.pa A1 x.pd.length c1 w' hp1)
          have CR := Lib.hid (fun w' h => rrise_any A2 c2 x.needs x.id w' h)
          rw [h5] at CC
          cases h6 : riseF x.id 0 x.needs with
          | false =>
            rw [mayF_n h6] at hv
            rw [h6] at CR
            have HV := Lib.hid hv
            clear hv h5 h6 h2
            go_wp2_with fail
            refine wp_region_held_drew (S := Go.RowKit.Below ((wr.drew).heap.size) (wr.drew)) (by kernel_rfl) ?hb187 (fun hHeld => ?rest187)
            case hb187 =>
              exact Go.RowKit.Below.refl _ _
            case' rest187 => skip
            have hCl := fun (wS : World) (hSw : Go.RowKit.Below ((wr.drew).heap.size) (wr.drew) wS) => And.intro (Mem.bl_cell hSw e0 (by first | omega | (dsimp only; omega) | exact World.block_lt_of_cell? _ _ e0 | (simp <;> omega))) <| And.intro (Mem.bl_cell hSw e1 (by first | omega | (dsimp only; omega) | exact World.block_lt_of_cell? _ _ e1 | (simp <;> omega))) <| And.intro (Mem.bl_cell hSw e2 (by first | omega | (dsimp only; omega) | exact World.block_lt_of_cell? _ _ e2 | (simp <;> omega))) <| And.intro (Mem.bl_cell hSw e3 (by first | omega | (dsimp only; omega) | exact World.block_lt_of_cell? _ _ e3 | (simp <;> omega))) <| Mem.bl_cell hSw e4 (by first | omega | (dsimp only; omega) | exact World.block_lt_of_cell? _ _ e4 | (simp <;> omega))
            replace hCl := Go.Lib.hid hCl
            refine Mem.tkV 0 ?v188 ?y188 ?r188
            case y188 => (intro w hSw; clear hSw; go_simp; try with_reducible rfl)
            refine Mem.tkV 1 ?v189 ?y189 ?r189
            case y189 => (intro w hSw; clear hSw; go_simp; try with_reducible rfl)
            refine Mem.tkV 2 ?v190 ?y190 ?r190
            case y190 => (intro w hSw; clear hSw; go_simp; try with_reducible rfl)
            try simp only [Mem.pa, Mem.pb, Mem.pc, Act.put, Mem.pd, Mem.pe, Mem.pf]
            refine Mem.tkV 3 ?v191 ?y191 ?r191
            case y191 => (intro w hSw; clear hSw; go_simp; try with_reducible rfl)
            refine Mem.tkV 4 ?v192 ?y192 ?r192
            case y192 => (intro w hSw; obtain ⟨hT0, hT1, hT2, hT3, hT4⟩ := hCl.out w hSw; clear hSw; go_simp; try with_reducible rfl)
            refine Mem.tkV 5 ?v193 ?y193 ?r193
            case y193 => (intro w hSw; clear hSw; go_simp; try with_reducible rfl)
            try simp only [Mem.pa, Mem.pb, Mem.pc, Act.put, Mem.pd, Mem.pe, Mem.pf]
            refine Mem.tkV 6 ?v194 ?y194 ?r194
            case y194 => (intro w hSw; clear hSw; go_simp; try with_reducible rfl)
            try simp only [Mem.pa, Mem.pb, Mem.pc, Act.put, Mem.pd, Mem.pe, Mem.pf]
            first | refine Mem.tkN 7 ?r195 | (refine Mem.tkV 7 ?v195 ?y195 ?r195; case y195 => (intro w hSw; clear hSw; go_simp; try with_reducible rfl))
            try simp only [Mem.pa, Mem.pb, Mem.pc, Act.put, Mem.pd, Mem.pe, Mem.pf]
            first | refine Mem.tkN 8 ?r196 | (refine Mem.tkV 8 ?v196 ?y196 ?r196; case y196 => (intro w hSw; clear hSw; go_simp; try with_reducible rfl))
            try simp only [Mem.pa, Mem.pb, Mem.pc, Act.put, Mem.pd, Mem.pe, Mem.pf]
            first | refine Mem.tkN 9 ?r197 | (refine Mem.tkV 9 ?v197 ?y197 ?r197; case y197 => (intro w hSw; clear hSw; go_simp; try with_reducible rfl))
            try simp only [Mem.pa, Mem.pb, Mem.pc, Act.put, Mem.pd, Mem.pe, Mem.pf]
            first | refine Mem.tkN 10 ?r198 | (refine Mem.tkV 10 ?v198 ?y198 ?r198; case y198 => (intro w hSw; clear hSw; go_simp; try with_reducible rfl))
            try simp only [Mem.pa, Mem.pb, Mem.pc, Act.put, Mem.pd, Mem.pe, Mem.pf]
            first | refine Mem.tkN 11 ?r199 | (refine Mem.tkV 11 ?v199 ?y199 ?r199; case y199 => (intro w hSw; clear hSw; go_simp; try with_reducible rfl))
            try simp only [Mem.pa, Mem.pb, Mem.pc, Act.put, Mem.pd, Mem.pe, Mem.pf]
            first | refine Mem.tkN 12 ?r200 | (refine Mem.tkV 12 ?v200 ?y200 ?r200; case y200 => (intro w hSw; clear hSw; go_simp; try with_reducible rfl))
            try simp only [Mem.pa, Mem.pb, Mem.pc, Act.put, Mem.pd, Mem.pe, Mem.pf]
            first | refine Mem.tkN 13 ?r201 | (refine Mem.tkV 13 ?v201 ?y201 ?r201; case y201 => (intro w hSw; clear hSw; go_simp; try with_reducible rfl))
            try simp only [Mem.pa, Mem.pb, Mem.pc, Act.put, Mem.pd, Mem.pe, Mem.pf]
            first | refine Mem.tkN 14 ?r202 | (refine Mem.tkV 14 ?v202 ?y202 ?r202; case y202 => (intro w hSw; obtain ⟨hT0, hT1, hT2, hT3, hT4⟩ := hCl.out w hSw; clear hSw; go_simp; try with_reducible rfl))
            try simp only [Mem.pa, Mem.pb, Mem.pc, Act.put, Mem.pd, Mem.pe, Mem.pf]
            first | refine Mem.tkN 15 ?r203 | (refine Mem.tkV 15 ?v203 ?y203 ?r203; case y203 => (intro w hSw; clear hSw; go_simp; try with_reducible rfl))
            try simp only [Mem.pa, Mem.pb, Mem.pc, Act.put, Mem.pd, Mem.pe, Mem.pf]
            first | refine Mem.tkN 16 ?r204 | (refine Mem.tkV 16 ?v204 ?y204 ?r204; case y204 => (intro w hSw; clear hSw; go_simp; try with_reducible rfl))
            try simp only [Mem.pa, Mem.pb, Mem.pc, Act.put, Mem.pd, Mem.pe, Mem.pf]
            first | refine Mem.tkN 17 ?r205 | (refine Mem.tkV 17 ?v205 ?y205 ?r205; case y205 => (intro w hSw; clear hSw; go_simp; try with_reducible rfl))
            try simp only [Mem.pa, Mem.pb, Mem.pc, Act.put, Mem.pd, Mem.pe, Mem.pf]
            first | refine Mem.tkN 18 ?r206 | (refine Mem.tkV 18 ?v206 ?y206 ?r206; case y206 => (intro w hSw; clear hSw; go_simp; try with_reducible rfl))
            try simp only [Mem.pa, Mem.pb, Mem.pc, Act.put, Mem.pd, Mem.pe, Mem.pf]
            first | refine Mem.tkN 19 ?r207 | (refine Mem.tkV 19 ?v207 ?y207 ?r207; case y207 => (intro w hSw; clear hSw; go_simp; try with_reducible rfl))
            try simp only [Mem.pa, Mem.pb, Mem.pc, Act.put, Mem.pd, Mem.pe, Mem.pf]
            first | refine Mem.tkN 20 ?r208 | (refine Mem.tkV 20 ?v208 ?y208 ?r208; case y208 => (intro w hSw; obtain ⟨hT0, hT1, hT2, hT3, hT4⟩ := hCl.out w hSw; clear hSw; go_simp; try with_reducible rfl))
            try simp only [Mem.pa, Mem.pb, Mem.pc, Act.put, Mem.pd, Mem.pe, Mem.pf]
            first | refine Mem.tkN 21 ?r209 | (refine Mem.tkV 21 ?v209 ?y209 ?r209; case y209 => (intro w hSw; clear hSw; go_simp; try with_reducible rfl))
            try simp only [Mem.pa, Mem.pb, Mem.pc, Act.put, Mem.pd, Mem.pe, Mem.pf]
            first | refine Mem.tkN 22 ?r210 | (refine Mem.tkV 22 ?v210 ?y210 ?r210; case y210 => (intro w hSw; clear hSw; go_simp; try with_reducible rfl))
            refine Mem.tkV 23 ?v211 ?y211 ?r211
            case y211 => (intro w hSw; clear hSw; go_simp; try with_reducible rfl)
            refine Mem.tkV 24 ?v212 ?y212 ?r212
            case y212 => (intro w hSw; clear hSw; go_simp; try with_reducible rfl)
            try simp only [Mem.pa, Mem.pb, Mem.pc, Act.put, Mem.pd, Mem.pe, Mem.pf]
            first | refine Mem.tkN 25 ?r213 | (refine Mem.tkV 25 ?v213 ?y213 ?r213; case y213 => (intro w hSw; clear hSw; go_simp; try with_reducible rfl))
            try simp only [Mem.pa, Mem.pb, Mem.pc, Act.put, Mem.pd, Mem.pe, Mem.pf]
            first | refine Mem.tkN 26 ?r214 | (refine Mem.tkV 26 ?v214 ?y214 ?r214; case y214 => (intro w hSw; clear hSw; go_simp; try with_reducible rfl))
            try simp only [Mem.pa, Mem.pb, Mem.pc, Act.put, Mem.pd, Mem.pe, Mem.pf]
            first | refine Mem.tkN 27 ?r215 | (refine Mem.tkV 27 ?v215 ?y215 ?r215; case y215 => (intro w hSw; clear hSw; go_simp; try with_reducible rfl))
            try simp only [Mem.pa, Mem.pb, Mem.pc, Act.put, Mem.pd, Mem.pe, Mem.pf]
            first | refine Mem.tkN 28 ?r216 | (refine Mem.tkV 28 ?v216 ?y216 ?r216; case y216 => (intro w hSw; clear hSw; go_simp; try with_reducible rfl))
            try simp only [Mem.pa, Mem.pb, Mem.pc, Act.put, Mem.pd, Mem.pe, Mem.pf]
            first | refine Mem.tkN 29 ?r217 | (refine Mem.tkV 29 ?v217 ?y217 ?r217; case y217 => (intro w hSw; obtain ⟨hT0, hT1, hT2, hT3, hT4⟩ := hCl.out w hSw; clear hSw; go_simp; try with_reducible rfl))
            try simp only [Mem.pa, Mem.pb, Mem.pc, Act.put, Mem.pd, Mem.pe, Mem.pf]
            first | refine Mem.tkN 30 ?r218 | (refine Mem.tkV 30 ?v218 ?y218 ?r218; case y218 => (intro w hSw; clear hSw; go_simp; try with_reducible rfl))
            refine Mem.tkV 31 ?v219 ?y219 ?r219
            case y219 => (intro w hSw; clear hSw; go_simp; try with_reducible rfl)
            refine Mem.tkV 32 ?v220 ?y220 ?r220
            case y220 => (intro w hSw; clear hSw; go_simp; try with_reducible rfl)
            try simp only [Mem.pa, Mem.pb, Mem.pc, Act.put, Mem.pd, Mem.pe, Mem.pf]
            first | refine Mem.tkN 33 ?r221 | (refine Mem.tkV 33 ?v221 ?y221 ?r221; case y221 => (intro w hSw; clear hSw; go_simp; try with_reducible rfl))
            try simp only [Mem.pa, Mem.pb, Mem.pc, Act.put, Mem.pd, Mem.pe, Mem.pf]
            first | refine Mem.tkN 34 ?r222 | (refine Mem.tkV 34 ?v222 ?y222 ?r222; case y222 => (intro w hSw; clear hSw; go_simp; try with_reducible rfl))
            try simp only [Mem.pa, Mem.pb, Mem.pc, Act.put, Mem.pd, Mem.pe, Mem.pf]
            first | refine Mem.tkN 35 ?r223 | (refine Mem.tkV 35 ?v223 ?y223 ?r223; case y223 => (intro w hSw; clear hSw; go_simp; try with_reducible rfl))
            try simp only [Mem.pa, Mem.pb, Mem.pc, Act.put, Mem.pd, Mem.pe, Mem.pf]
            first | refine Mem.tkN 36 ?r224 | (refine Mem.tkV 36 ?v224 ?y224 ?r224; case y224 => (intro w hSw; clear hSw; go_simp; try with_reducible rfl))
            try simp only [Mem.pa, Mem.pb, Mem.pc, Act.put, Mem.pd, Mem.pe, Mem.pf]
            first | refine Mem.tkN 37 ?r225 | (refine Mem.tkV 37 ?v225 ?y225 ?r225; case y225 => (intro w hSw; obtain ⟨hT0, hT1, hT2, hT3, hT4⟩ := hCl.out w hSw; clear hSw; go_simp; try with_reducible rfl))
            try simp only [Mem.pa, Mem.pb, Mem.pc, Act.put, Mem.pd, Mem.pe, Mem.pf]
            refine wpAnyH_ready (rs := [38]) (by kernel_rfl) (by simp) ?_
            refine AllReadyH.cons rfl (fun K hK => ?_) AllReadyH.nil
            go_simp
            (refine (CC.out _).mono ?_; rintro e wb ⟨rfl, hbl⟩)
            try go_wp2_with fail
            have hSnew := Mem.bl_step hHeld hbl (by first | exact Nat.le_refl _ | omega | (simp <;> omega))
            refine hK.out _ _ ?_ (fun hHeld2 => ?_)
            · exact hSnew
            try replace hn := hn.below hbl
            clear hbl
            clear hK K hHeld hSnew
            have hHeld := hHeld2
            clear hHeld2
            try simp only [Mem.pa, Mem.pb, Mem.pc, Act.put, Mem.pd, Mem.pe, Mem.pf]
            first | refine Mem.tkN 39 ?r226 | (refine Mem.tkV 39 ?v226 ?y226 ?r226; case y226 => (intro w hSw; clear hSw; go_simp; try with_reducible rfl))
            refine Mem.tkV 40 ?v227 ?y227 ?r227
            case y227 => (intro w hSw; clear hSw; go_simp; try with_reducible rfl)
            refine Mem.tkV 41 ?v228 ?y228 ?r228
            case y228 => (intro w hSw; clear hSw; go_simp; try with_reducible rfl)
            try simp only [Mem.pa, Mem.pb, Mem.pc, Act.put, Mem.pd, Mem.pe, Mem.pf]
            first | refine Mem.tkN 42 ?r229 | (refine Mem.tkV 42 ?v229 ?y229 ?r229; case y229 => (intro w hSw; clear hSw; go_simp; try with_reducible rfl))
            try simp only [Mem.pa, Mem.pb, Mem.pc, Act.put, Mem.pd, Mem.pe, Mem.pf]
            first | refine Mem.tkN 43 ?r230 | (refine Mem.tkV 43 ?v230 ?y230 ?r230; case y230 => (intro w hSw; clear hSw; go_simp; try with_reducible rfl))
            try simp only [Mem.pa, Mem.pb, Mem.pc, Act.put, Mem.pd, Mem.pe, Mem.pf]
            first | refine Mem.tkN 44 ?r231 | (refine Mem.tkV 44 ?v231 ?y231 ?r231; case y231 => (intro w hSw; clear hSw; go_simp; try with_reducible rfl))
            try simp only [Mem.pa, Mem.pb, Mem.pc, Act.put, Mem.pd, Mem.pe, Mem.pf]
            first | refine Mem.tkN 45 ?r232 | (refine Mem.tkV 45 ?v232 ?y232 ?r232; case y232 => (intro w hSw; clear hSw; go_simp; try with_reducible rfl))
            try simp only [Mem.pa, Mem.pb, Mem.pc, Act.put, Mem.pd, Mem.pe, Mem.pf]
            first | refine Mem.tkN 46 ?r233 | (refine Mem.tkV 46 ?v233 ?y233 ?r233; case y233 => (intro w hSw; obtain ⟨hT0, hT1, hT2, hT3, hT4⟩ := hCl.out w hSw; clear hSw; go_simp; try with_reducible rfl))
            try simp only [Mem.pa, Mem.pb, Mem.pc, Act.put, Mem.pd, Mem.pe, Mem.pf]
            first | refine Mem.tkN 47 ?r234 | (refine Mem.tkV 47 ?v234 ?y234 ?r234; case y234 => (intro w hSw; clear hSw; go_simp; try with_reducible rfl))
            try simp only [Mem.pa, Mem.pb, Mem.pc, Act.put, Mem.pd, Mem.pe, Mem.pf]
            first | refine Mem.tkN 48 ?r235 | (refine Mem.tkV 48 ?v235 ?y235 ?r235; case y235 => (intro w hSw; clear hSw; go_simp; try with_reducible rfl))
            try simp only [Mem.pa, Mem.pb, Mem.pc, Act.put, Mem.pd, Mem.pe, Mem.pf]
            first | refine Mem.tkN 49 ?r236 | (refine Mem.tkV 49 ?v236 ?y236 ?r236; case y236 => (intro w hSw; clear hSw; go_simp; try with_reducible rfl))
            try simp only [Mem.pa, Mem.pb, Mem.pc, Act.put, Mem.pd, Mem.pe, Mem.pf]
            first | refine Mem.tkN 50 ?r237 | (refine Mem.tkV 50 ?v237 ?y237 ?r237; case y237 => (intro w hSw; clear hSw; go_simp; try with_reducible rfl))
            try simp only [Mem.pa, Mem.pb, Mem.pc, Act.put, Mem.pd, Mem.pe, Mem.pf]
            first | refine Mem.tkN 51 ?r238 | (refine Mem.tkV 51 ?v238 ?y238 ?r238; case y238 => (intro w hSw; obtain ⟨hT0, hT1, hT2, hT3, hT4⟩ := hCl.out w hSw; clear hSw; go_simp; try with_reducible rfl))
            try simp only [Mem.pa, Mem.pb, Mem.pc, Act.put, Mem.pd, Mem.pe, Mem.pf]
            refine wpAnyH_ready (rs := [52]) (by kernel_rfl) (by simp) ?_
            refine AllReadyH.cons rfl (fun K hK => ?_) AllReadyH.nil
            go_simp
            (refine (CR.out _ hn).mono ?_; rintro e wb ⟨rfl, hbl⟩)
            try go_wp2_with fail
            have hSnew := Mem.bl_step hHeld hbl (by first | exact Nat.le_refl _ | omega | (simp <;> omega))
            refine hK.out _ _ ?_ (fun hHeld2 => ?_)
            · exact hSnew
            try replace hn := hn.below hbl
            clear hbl
            clear hK K hHeld hSnew
            have hHeld := hHeld2
            clear hHeld2
            try simp only [Mem.pa, Mem.pb, Mem.pc, Act.put, Mem.pd, Mem.pe, Mem.pf]
            first | refine Mem.tkN 53 ?r239 | (refine Mem.tkV 53 ?v239 ?y239 ?r239; case y239 => (intro w hSw; clear hSw; go_simp; try with_reducible rfl))
            refine Mem.tkV 54 ?v240 ?y240 ?r240
            case y240 => (intro w hSw; clear hSw; go_simp; try with_reducible rfl)
            try simp only [Mem.pa, Mem.pb, Mem.pc, Act.put, Mem.pd, Mem.pe, Mem.pf]
            refine wpAnyH_done (by kernel_rfl) ?_ _
            clear hCl
            go_wp2_with fail
            go_ret
            exact ⟨ret_bool HV.out.symm, hbr.trans (((Below.refl _ _).drew.trans hHeld).mono hbr.size)⟩
          | true =>
            rw [mayF_on (by have := X1.out; omega) h2 h5 h6] at hv
            rw [h6] at CR
            have HV := Lib.hid hv
            clear hv h5 h6 h2
            go_wp2_with fail
            refine wp_region_held_drew (S := Go.RowKit.Below ((wr.drew).heap.size) (wr.drew)) (by kernel_rfl) ?hb248 (fun hHeld => ?rest248)
            case hb248 =>
              exact Go.RowKit.Below.refl _ _
            case' rest248 => skip
            have hCl := fun (wS : World) (hSw : Go.RowKit.Below ((wr.drew).heap.size) (wr.drew) wS) => And.intro (Mem.bl_cell hSw e0 (by first | omega | (dsimp only; omega) | exact World.block_lt_of_cell? _ _ e0 | (simp <;> omega))) <| And.intro (Mem.bl_cell hSw e1 (by first | omega | (dsimp only; omega) | exact World.block_lt_of_cell? _ _ e1 | (simp <;> omega))) <| And.intro (Mem.bl_cell hSw e2 (by first | omega | (dsimp only; omega) | exact World.block_lt_of_cell? _ _ e2 | (simp <;> omega))) <| And.intro (Mem.bl_cell hSw e3 (by first | omega | (dsimp only; omega) | exact World.block_lt_of_cell? _ _ e3 | (simp <;> omega))) <| Mem.bl_cell hSw e4 (by first | omega | (dsimp only; omega) | exact World.block_lt_of_cell? _ _ e4 | (simp <;> omega))
            replace hCl := Go.Lib.hid hCl
            refine Mem.tkV 0 ?v249 ?y249 ?r249
            case y249 => (intro w hSw; clear hSw; go_simp; try with_reducible rfl)
            refine Mem.tkV 1 ?v250 ?y250 ?r250
            case y250 => (intro w hSw; clear hSw; go_simp; try with_reducible rfl)
            refine Mem.tkV 2 ?v251 ?y251 ?r251
            case y251 => (intro w hSw; clear hSw; go_simp; try with_reducible rfl)
            try simp only [Mem.pa, Mem.pb, Mem.pc, Act.put, Mem.pd, Mem.pe, Mem.pf]
            refine Mem.tkV 3 ?v252 ?y252 ?r252
            case y252 => (intro w hSw; clear hSw; go_simp; try with_reducible rfl)
            refine Mem.tkV 4 ?v253 ?y253 ?r253
            case y253 => (intro w hSw; obtain ⟨hT0, hT1, hT2, hT3, hT4⟩ := hCl.out w hSw; clear hSw; go_simp; try with_reducible rfl)
            refine Mem.tkV 5 ?v254 ?y254 ?r254
            case y254 => (intro w hSw; clear hSw; go_simp; try with_reducible rfl)
            try simp only [Mem.pa, Mem.pb, Mem.pc, Act.put, Mem.pd, Mem.pe, Mem.pf]
            refine Mem.tkV 6 ?v255 ?y255 ?r255
            case y255 => (intro w hSw; clear hSw; go_simp; try with_reducible rfl)
            try simp only [Mem.pa, Mem.pb, Mem.pc, Act.put, Mem.pd, Mem.pe, Mem.pf]
            first | refine Mem.tkN 7 ?r256 | (refine Mem.tkV 7 ?v256 ?y256 ?r256; case y256 => (intro w hSw; clear hSw; go_simp; try with_reducible rfl))
            try simp only [Mem.pa, Mem.pb, Mem.pc, Act.put, Mem.pd, Mem.pe, Mem.pf]
            first | refine Mem.tkN 8 ?r257 | (refine Mem.tkV 8 ?v257 ?y257 ?r257; case y257 => (intro w hSw; clear hSw; go_simp; try with_reducible rfl))
            try simp only [Mem.pa, Mem.pb, Mem.pc, Act.put, Mem.pd, Mem.pe, Mem.pf]
            first | refine Mem.tkN 9 ?r258 | (refine Mem.tkV 9 ?v258 ?y258 ?r258; case y258 => (intro w hSw; clear hSw; go_simp; try with_reducible rfl))
            try simp only [Mem.pa, Mem.pb, Mem.pc, Act.put, Mem.pd, Mem.pe, Mem.pf]
            first | refine Mem.tkN 10 ?r259 | (refine Mem.tkV 10 ?v259 ?y259 ?r259; case y259 => (intro w hSw; clear hSw; go_simp; try with_reducible rfl))
            try simp only [Mem.pa, Mem.pb, Mem.pc, Act.put, Mem.pd, Mem.pe, Mem.pf]
            first | refine Mem.tkN 11 ?r260 | (refine Mem.tkV 11 ?v260 ?y260 ?r260; case y260 => (intro w hSw; clear hSw; go_simp; try with_reducible rfl))
            try simp only [Mem.pa, Mem.pb, Mem.pc, Act.put, Mem.pd, Mem.pe, Mem.pf]
            first | refine Mem.tkN 12 ?r261 | (refine Mem.tkV 12 ?v261 ?y261 ?r261; case y261 => (intro w hSw; clear hSw; go_simp; try with_reducible rfl))
            try simp only [Mem.pa, Mem.pb, Mem.pc, Act.put, Mem.pd, Mem.pe, Mem.pf]
            first | refine Mem.tkN 13 ?r262 | (refine Mem.tkV 13 ?v262 ?y262 ?r262; case y262 => (intro w hSw; clear hSw; go_simp; try with_reducible rfl))
            try simp only [Mem.pa, Mem.pb, Mem.pc, Act.put, Mem.pd, Mem.pe, Mem.pf]
            first | refine Mem.tkN 14 ?r263 | (refine Mem.tkV 14 ?v263 ?y263 ?r263; case y263 => (intro w hSw; obtain ⟨hT0, hT1, hT2, hT3, hT4⟩ := hCl.out w hSw; clear hSw; go_simp; try with_reducible rfl))
            try simp only [Mem.pa, Mem.pb, Mem.pc, Act.put, Mem.pd, Mem.pe, Mem.pf]
            first | refine Mem.tkN 15 ?r264 | (refine Mem.tkV 15 ?v264 ?y264 ?r264; case y264 => (intro w hSw; clear hSw; go_simp; try with_reducible rfl))
            try simp only [Mem.pa, Mem.pb, Mem.pc, Act.put, Mem.pd, Mem.pe, Mem.pf]
            first | refine Mem.tkN 16 ?r265 | (refine Mem.tkV 16 ?v265 ?y265 ?r265; case y265 => (intro w hSw; clear hSw; go_simp; try with_reducible rfl))
            try simp only [Mem.pa, Mem.pb, Mem.pc, Act.put, Mem.pd, Mem.pe, Mem.pf]
            first | refine Mem.tkN 17 ?r266 | (refine Mem.tkV 17 ?v266 ?y266 ?r266; case y266 => (intro w hSw; clear hSw; go_simp; try with_reducible rfl))
            try simp only [Mem.pa, Mem.pb, Mem.pc, Act.put, Mem.pd, Mem.pe, Mem.pf]
            first | refine Mem.tkN 18 ?r267 | (refine Mem.tkV 18 ?v267 ?y267 ?r267; case y267 => (intro w hSw; clear hSw; go_simp; try with_reducible rfl))
            try simp only [Mem.pa, Mem.pb, Mem.pc, Act.put, Mem.pd, Mem.pe, Mem.pf]
            first | refine Mem.tkN 19 ?r268 | (refine Mem.tkV 19 ?v268 ?y268 ?r268; case y268 => (intro w hSw; clear hSw; go_simp; try with_reducible rfl))
            try simp only [Mem.pa, Mem.pb, Mem.pc, Act.put, Mem.pd, Mem.pe, Mem.pf]
            first | refine Mem.tkN 20 ?r269 | (refine Mem.tkV 20 ?v269 ?y269 ?r269; case y269 => (intro w hSw; obtain ⟨hT0, hT1, hT2, hT3, hT4⟩ := hCl.out w hSw; clear hSw; go_simp; try with_reducible rfl))
            try simp only [Mem.pa, Mem.pb, Mem.pc, Act.put, Mem.pd, Mem.pe, Mem.pf]
            first | refine Mem.tkN 21 ?r270 | (refine Mem.tkV 21 ?v270 ?y270 ?r270; case y270 => (intro w hSw; clear hSw; go_simp; try with_reducible rfl))
            try simp only [Mem.pa, Mem.pb, Mem.pc, Act.put, Mem.pd, Mem.pe, Mem.pf]
            first | refine Mem.tkN 22 ?r271 | (refine Mem.tkV 22 ?v271 ?y271 ?r271; case y271 => (intro w hSw; clear hSw; go_simp; try with_reducible rfl))
            refine Mem.tkV 23 ?v272 ?y272 ?r272
            case y272 => (intro w hSw; clear hSw; go_simp; try with_reducible rfl)
            refine Mem.tkV 24 ?v273 ?y273 ?r273
            case y273 => (intro w hSw; clear hSw; go_simp; try with_reducible rfl)
            try simp only [Mem.pa, Mem.pb, Mem.pc, Act.put, Mem.pd, Mem.pe, Mem.pf]
            first | refine Mem.tkN 25 ?r274 | (refine Mem.tkV 25 ?v274 ?y274 ?r274; case y274 => (intro w hSw; clear hSw; go_simp; try with_reducible rfl))
            try simp only [Mem.pa, Mem.pb, Mem.pc, Act.put, Mem.pd, Mem.pe, Mem.pf]
            first | refine Mem.tkN 26 ?r275 | (refine Mem.tkV 26 ?v275 ?y275 ?r275; case y275 => (intro w hSw; clear hSw; go_simp; try with_reducible rfl))
            try simp only [Mem.pa, Mem.pb, Mem.pc, Act.put, Mem.pd, Mem.pe, Mem.pf]
            first | refine Mem.tkN 27 ?r276 | (refine Mem.tkV 27 ?v276 ?y276 ?r276; case y276 => (intro w hSw; clear hSw; go_simp; try with_reducible rfl))
            try simp only [Mem.pa, Mem.pb, Mem.pc, Act.put, Mem.pd, Mem.pe, Mem.pf]
            first | refine Mem.tkN 28 ?r277 | (refine Mem.tkV 28 ?v277 ?y277 ?r277; case y277 => (intro w hSw; clear hSw; go_simp; try with_reducible rfl))
            try simp only [Mem.pa, Mem.pb, Mem.pc, Act.put, Mem.pd, Mem.pe, Mem.pf]
            first | refine Mem.tkN 29 ?r278 | (refine Mem.tkV 29 ?v278 ?y278 ?r278; case y278 => (intro w hSw; obtain ⟨hT0, hT1, hT2, hT3, hT4⟩ := hCl.out w hSw; clear hSw; go_simp; try with_reducible rfl))
            try simp only [Mem.pa, Mem.pb, Mem.pc, Act.put, Mem.pd, Mem.pe, Mem.pf]
            first | refine Mem.tkN 30 ?r279 | (refine Mem.tkV 30 ?v279 ?y279 ?r279; case y279 => (intro w hSw; clear hSw; go_simp; try with_reducible rfl))
            refine Mem.tkV 31 ?v280 ?y280 ?r280
            case y280 => (intro w hSw; clear hSw; go_simp; try with_reducible rfl)
            refine Mem.tkV 32 ?v281 ?y281 ?r281
            case y281 => (intro w hSw; clear hSw; go_simp; try with_reducible rfl)
            try simp only [Mem.pa, Mem.pb, Mem.pc, Act.put, Mem.pd, Mem.pe, Mem.pf]
            first | refine Mem.tkN 33 ?r282 | (refine Mem.tkV 33 ?v282 ?y282 ?r282; case y282 => (intro w hSw; clear hSw; go_simp; try with_reducible rfl))
            try simp only [Mem.pa, Mem.pb, Mem.pc, Act.put, Mem.pd, Mem.pe, Mem.pf]
            first | refine Mem.tkN 34 ?r283 | (refine Mem.tkV 34 ?v283 ?y283 ?r283; case y283 => (intro w hSw; clear hSw; go_simp; try with_reducible rfl))
            try simp only [Mem.pa, Mem.pb, Mem.pc, Act.put, Mem.pd, Mem.pe, Mem.pf]
            first | refine Mem.tkN 35 ?r284 | (refine Mem.tkV 35 ?v284 ?y284 ?r284; case y284 => (intro w hSw; clear hSw; go_simp; try with_reducible rfl))
            try simp only [Mem.pa, Mem.pb, Mem.pc, Act.put, Mem.pd, Mem.pe, Mem.pf]
            first | refine Mem.tkN 36 ?r285 | (refine Mem.tkV 36 ?v285 ?y285 ?r285; case y285 => (intro w hSw; clear hSw; go_simp; try with_reducible rfl))
            try simp only [Mem.pa, Mem.pb, Mem.pc, Act.put, Mem.pd, Mem.pe, Mem.pf]
            first | refine Mem.tkN 37 ?r286 | (refine Mem.tkV 37 ?v286 ?y286 ?r286; case y286 => (intro w hSw; obtain ⟨hT0, hT1, hT2, hT3, hT4⟩ := hCl.out w hSw; clear hSw; go_simp; try with_reducible rfl))
            try simp only [Mem.pa, Mem.pb, Mem.pc, Act.put, Mem.pd, Mem.pe, Mem.pf]
            refine wpAnyH_ready (rs := [38]) (by kernel_rfl) (by simp) ?_
            refine AllReadyH.cons rfl (fun K hK => ?_) AllReadyH.nil
            go_simp
            (refine (CC.out _).mono ?_; rintro e wb ⟨rfl, hbl⟩)
            try go_wp2_with fail
            have hSnew := Mem.bl_step hHeld hbl (by first | exact Nat.le_refl _ | omega | (simp <;> omega))
            refine hK.out _ _ ?_ (fun hHeld2 => ?_)
            · exact hSnew
            try replace hn := hn.below hbl
            clear hbl
            clear hK K hHeld hSnew
            have hHeld := hHeld2
            clear hHeld2
            try simp only [Mem.pa, Mem.pb, Mem.pc, Act.put, Mem.pd, Mem.pe, Mem.pf]
            first | refine Mem.tkN 39 ?r287 | (refine Mem.tkV 39 ?v287 ?y287 ?r287; case y287 => (intro w hSw; clear hSw; go_simp; try with_reducible rfl))
            refine Mem.tkV 40 ?v288 ?y288 ?r288
            case y288 => (intro w hSw; clear hSw; go_simp; try with_reducible rfl)
            refine Mem.tkV 41 ?v289 ?y289 ?r289
            case y289 => (intro w hSw; clear hSw; go_simp; try with_reducible rfl)
            try simp only [Mem.pa, Mem.pb, Mem.pc, Act.put, Mem.pd, Mem.pe, Mem.pf]
            first | refine Mem.tkN 42 ?r290 | (refine Mem.tkV 42 ?v290 ?y290 ?r290; case y290 => (intro w hSw; clear hSw; go_simp; try with_reducible rfl))
            try simp only [Mem.pa, Mem.pb, Mem.pc, Act.put, Mem.pd, Mem.pe, Mem.pf]
            first | refine Mem.tkN 43 ?r291 | (refine Mem.tkV 43 ?v291 ?y291 ?r291; case y291 => (intro w hSw; clear hSw; go_simp; try with_reducible rfl))
            try simp only [Mem.pa, Mem.pb, Mem.pc, Act.put, Mem.pd, Mem.pe, Mem.pf]
            first | refine Mem.tkN 44 ?r292 | (refine Mem.tkV 44 ?v292 ?y292 ?r292; case y292 => (intro w hSw; clear hSw; go_simp; try with_reducible rfl))
            try simp only [Mem.pa, Mem.pb, Mem.pc, Act.put, Mem.pd, Mem.pe, Mem.pf]
            first | refine Mem.tkN 45 ?r293 | (refine Mem.tkV 45 ?v293 ?y293 ?r293; case y293 => (intro w hSw; clear hSw; go_simp; try with_reducible rfl))
            try simp only [Mem.pa, Mem.pb, Mem.pc, Act.put, Mem.pd, Mem.pe, Mem.pf]
            first | refine Mem.tkN 46 ?r294 | (refine Mem.tkV 46 ?v294 ?y294 ?r294; case y294 => (intro w hSw; obtain ⟨hT0, hT1, hT2, hT3, hT4⟩ := hCl.out w hSw; clear hSw; go_simp; try with_reducible rfl))
            try simp only [Mem.pa, Mem.pb, Mem.pc, Act.put, Mem.pd, Mem.pe, Mem.pf]
            first | refine Mem.tkN 47 ?r295 | (refine Mem.tkV 47 ?v295 ?y295 ?r295; case y295 => (intro w hSw; clear hSw; go_simp; try with_reducible rfl))
            try simp only [Mem.pa, Mem.pb, Mem.pc, Act.put, Mem.pd, Mem.pe, Mem.pf]
            first | refine Mem.tkN 48 ?r296 | (refine Mem.tkV 48 ?v296 ?y296 ?r296; case y296 => (intro w hSw; clear hSw; go_simp; try with_reducible rfl))
            try simp only [Mem.pa, Mem.pb, Mem.pc, Act.put, Mem.pd, Mem.pe, Mem.pf]
            first | refine Mem.tkN 49 ?r297 | (refine Mem.tkV 49 ?v297 ?y297 ?r297; case y297 => (intro w hSw; clear hSw; go_simp; try with_reducible rfl))
            try simp only [Mem.pa, Mem.pb, Mem.pc, Act.put, Mem.pd, Mem.pe, Mem.pf]
            first | refine Mem.tkN 50 ?r298 | (refine Mem.tkV 50 ?v298 ?y298 ?r298; case y298 => (intro w hSw; clear hSw; go_simp; try with_reducible rfl))
            try simp only [Mem.pa, Mem.pb, Mem.pc, Act.put, Mem.pd, Mem.pe, Mem.pf]
            first | refine Mem.tkN 51 ?r299 | (refine Mem.tkV 51 ?v299 ?y299 ?r299; case y299 => (intro w hSw; obtain ⟨hT0, hT1, hT2, hT3, hT4⟩ := hCl.out w hSw; clear hSw; go_simp; try with_reducible rfl))
            try simp only [Mem.pa, Mem.pb, Mem.pc, Act.put, Mem.pd, Mem.pe, Mem.pf]
            refine wpAnyH_ready (rs := [52]) (by kernel_rfl) (by simp) ?_
            refine AllReadyH.cons rfl (fun K hK => ?_) AllReadyH.nil
            go_simp
            (refine (CR.out _ hn).mono ?_; rintro e wb ⟨rfl, hbl⟩)
            try go_wp2_with fail
            have hSnew := Mem.bl_step hHeld hbl (by first | exact Nat.le_refl _ | omega | (simp <;> omega))
            refine hK.out _ _ ?_ (fun hHeld2 => ?_)
            · exact hSnew
            try replace hn := hn.below hbl
            clear hbl
            clear hK K hHeld hSnew
            have hHeld := hHeld2
            clear hHeld2
            try simp only [Mem.pa, Mem.pb, Mem.pc, Act.put, Mem.pd, Mem.pe, Mem.pf]
            first | refine Mem.tkN 53 ?r300 | (refine Mem.tkV 53 ?v300 ?y300 ?r300; case y300 => (intro w hSw; clear hSw; go_simp; try with_reducible rfl))
            refine Mem.tkV 54 ?v301 ?y301 ?r301
            case y301 => (intro w hSw; clear hSw; go_simp; try with_reducible rfl)
            try simp only [Mem.pa, Mem.pb, Mem.pc, Act.put, Mem.pd, Mem.pe, Mem.pf]
            refine wpAnyH_done (by kernel_rfl) ?_ _
            clear hCl
            go_wp2_with fail
            go_roundw
            case rel => exact ⟨k + 1, x.id, by omega, by go_num, HV, by have := X2.out; omega, .inr ⟨by omega, by rw [Nat.add_sub_cancel, HX.out]; rfl⟩, hbr.trans (((Below.refl _ _).drew.trans hHeld).mono hbr.size)⟩
            case measure => simp [intOf]; omega
      · obtain ⟨j, rfl⟩ : ∃ j, k = j + 1 := ⟨k - 1, by omega⟩
        have hjl : j < xs.length := by omega
        rw [Nat.add_sub_cancel, List.getElem?_eq_getElem hjl] at hw
        injection hw with hw
        simp only at hw
        obtain ⟨_, _, _, _, hat1⟩ := ch_at hx j hjl
        have e5 : wr.drew.cell? ⟨g, o + j * 5, none⟩ = some (.int .i64 xs[j].id) := (hat1.below hbr).v0
        rw [hw] at e5
        clear hat1 hw hk0
        have hj0 : (0 : Int) ≤ (j : Int) + 1 := by omega
        have hwj : IntKind.i64.wrap (j : Int) = (j : Int) := by rw [IntKind.wrap_i64]; omega
        have hjA : (0 : Int) ≤ (j : Int) := by omega
        have hjB : (j : Int) < (xs.length : Int) := by omega
        by_cases h3 : x.id < 1
        · rw [mayF_id (by omega)] at hv
          have HV := Lib.hid hv
          have d1 : decide (x.id < 1) = true := decide_eq_true h3
          clear hv h3
          go_wp2_with fail
          refine wp_region_held_drew (S := Go.RowKit.Below ((wr.drew).heap.size) (wr.drew)) (by kernel_rfl) ?hb306 (fun hHeld => ?rest306)
          case hb306 =>
            exact Go.RowKit.Below.refl _ _
          case' rest306 => skip
          have hCl := fun (wS : World) (hSw : Go.RowKit.Below ((wr.drew).heap.size) (wr.drew) wS) => And.intro (Mem.bl_cell hSw e0 (by first | omega | (dsimp only; omega) | exact World.block_lt_of_cell? _ _ e0 | (simp <;> omega))) <| And.intro (Mem.bl_cell hSw e1 (by first | omega | (dsimp only; omega) | exact World.block_lt_of_cell? _ _ e1 | (simp <;> omega))) <| And.intro (Mem.bl_cell hSw e2 (by first | omega | (dsimp only; omega) | exact World.block_lt_of_cell? _ _ e2 | (simp <;> omega))) <| And.intro (Mem.bl_cell hSw e3 (by first | omega | (dsimp only; omega) | exact World.block_lt_of_cell? _ _ e3 | (simp <;> omega))) <| And.intro (Mem.bl_cell hSw e4 (by first | omega | (dsimp only; omega) | exact World.block_lt_of_cell? _ _ e4 | (simp <;> omega))) <| Mem.bl_cell hSw e5 (by first | omega | (dsimp only; omega) | exact World.block_lt_of_cell? _ _ e5 | (simp <;> omega))
          replace hCl := Go.Lib.hid hCl
          refine Mem.tkV 0 ?v307 ?y307 ?r307
          case y307 => (intro w hSw; clear hSw; go_simp; try with_reducible rfl)
          refine Mem.tkV 1 ?v308 ?y308 ?r308
          case y308 => (intro w hSw; clear hSw; go_simp; try with_reducible rfl)
          refine Mem.tkV 2 ?v309 ?y309 ?r309
          case y309 => (intro w hSw; clear hSw; go_simp; try with_reducible rfl)
          try simp only [Mem.pa, Mem.pb, Mem.pc, Act.put, Mem.pd, Mem.pe, Mem.pf]
          refine Mem.tkV 3 ?v310 ?y310 ?r310
          case y310 => (intro w hSw; clear hSw; go_simp; try with_reducible rfl)
          refine Mem.tkV 4 ?v311 ?y311 ?r311
          case y311 => (intro w hSw; obtain ⟨hT0, hT1, hT2, hT3, hT4, hT5⟩ := hCl.out w hSw; clear hSw; go_simp; try with_reducible rfl)
          refine Mem.tkV 5 ?v312 ?y312 ?r312
          case y312 => (intro w hSw; clear hSw; go_simp; try with_reducible rfl)
          try simp only [Mem.pa, Mem.pb, Mem.pc, Act.put, Mem.pd, Mem.pe, Mem.pf]
          refine Mem.tkV 6 ?v313 ?y313 ?r313
          case y313 => (intro w hSw; clear hSw; go_simp; try with_reducible rfl)
          try simp only [Mem.pa, Mem.pb, Mem.pc, Act.put, Mem.pd, Mem.pe, Mem.pf]
          first | refine Mem.tkN 7 ?r314 | (refine Mem.tkV 7 ?v314 ?y314 ?r314; case y314 => (intro w hSw; clear hSw; go_simp; try with_reducible rfl))
          try simp only [Mem.pa, Mem.pb, Mem.pc, Act.put, Mem.pd, Mem.pe, Mem.pf]
          first | refine Mem.tkN 8 ?r315 | (refine Mem.tkV 8 ?v315 ?y315 ?r315; case y315 => (intro w hSw; clear hSw; go_simp; try with_reducible rfl))
          try simp only [Mem.pa, Mem.pb, Mem.pc, Act.put, Mem.pd, Mem.pe, Mem.pf]
          first | refine Mem.tkN 9 ?r316 | (refine Mem.tkV 9 ?v316 ?y316 ?r316; case y316 => (intro w hSw; clear hSw; go_simp; try with_reducible rfl))
          try simp only [Mem.pa, Mem.pb, Mem.pc, Act.put, Mem.pd, Mem.pe, Mem.pf]
          first | refine Mem.tkN 10 ?r317 | (refine Mem.tkV 10 ?v317 ?y317 ?r317; case y317 => (intro w hSw; clear hSw; go_simp; try with_reducible rfl))
          try simp only [Mem.pa, Mem.pb, Mem.pc, Act.put, Mem.pd, Mem.pe, Mem.pf]
          first | refine Mem.tkN 11 ?r318 | (refine Mem.tkV 11 ?v318 ?y318 ?r318; case y318 => (intro w hSw; clear hSw; go_simp; try with_reducible rfl))
          try simp only [Mem.pa, Mem.pb, Mem.pc, Act.put, Mem.pd, Mem.pe, Mem.pf]
          first | refine Mem.tkN 12 ?r319 | (refine Mem.tkV 12 ?v319 ?y319 ?r319; case y319 => (intro w hSw; clear hSw; go_simp; try with_reducible rfl))
          try simp only [Mem.pa, Mem.pb, Mem.pc, Act.put, Mem.pd, Mem.pe, Mem.pf]
          first | refine Mem.tkN 13 ?r320 | (refine Mem.tkV 13 ?v320 ?y320 ?r320; case y320 => (intro w hSw; clear hSw; go_simp; try with_reducible rfl))
          try simp only [Mem.pa, Mem.pb, Mem.pc, Act.put, Mem.pd, Mem.pe, Mem.pf]
          first | refine Mem.tkN 14 ?r321 | (refine Mem.tkV 14 ?v321 ?y321 ?r321; case y321 => (intro w hSw; obtain ⟨hT0, hT1, hT2, hT3, hT4, hT5⟩ := hCl.out w hSw; clear hSw; go_simp; try with_reducible rfl))
          try simp only [Mem.pa, Mem.pb, Mem.pc, Act.put, Mem.pd, Mem.pe, Mem.pf]
          first | refine Mem.tkN 15 ?r322 | (refine Mem.tkV 15 ?v322 ?y322 ?r322; case y322 => (intro w hSw; clear hSw; go_simp; try with_reducible rfl))
          try simp only [Mem.pa, Mem.pb, Mem.pc, Act.put, Mem.pd, Mem.pe, Mem.pf]
          first | refine Mem.tkN 16 ?r323 | (refine Mem.tkV 16 ?v323 ?y323 ?r323; case y323 => (intro w hSw; clear hSw; go_simp; try with_reducible rfl))
          try simp only [Mem.pa, Mem.pb, Mem.pc, Act.put, Mem.pd, Mem.pe, Mem.pf]
          first | refine Mem.tkN 17 ?r324 | (refine Mem.tkV 17 ?v324 ?y324 ?r324; case y324 => (intro w hSw; clear hSw; go_simp; try with_reducible rfl))
          try simp only [Mem.pa, Mem.pb, Mem.pc, Act.put, Mem.pd, Mem.pe, Mem.pf]
          first | refine Mem.tkN 18 ?r325 | (refine Mem.tkV 18 ?v325 ?y325 ?r325; case y325 => (intro w hSw; clear hSw; go_simp; try with_reducible rfl))
          try simp only [Mem.pa, Mem.pb, Mem.pc, Act.put, Mem.pd, Mem.pe, Mem.pf]
          first | refine Mem.tkN 19 ?r326 | (refine Mem.tkV 19 ?v326 ?y326 ?r326; case y326 => (intro w hSw; clear hSw; go_simp; try with_reducible rfl))
          try simp only [Mem.pa, Mem.pb, Mem.pc, Act.put, Mem.pd, Mem.pe, Mem.pf]
          first | refine Mem.tkN 20 ?r327 | (refine Mem.tkV 20 ?v327 ?y327 ?r327; case y327 => (intro w hSw; obtain ⟨hT0, hT1, hT2, hT3, hT4, hT5⟩ := hCl.out w hSw; clear hSw; go_simp; try with_reducible rfl))
          try simp only [Mem.pa, Mem.pb, Mem.pc, Act.put, Mem.pd, Mem.pe, Mem.pf]
          first | refine Mem.tkN 21 ?r328 | (refine Mem.tkV 21 ?v328 ?y328 ?r328; case y328 => (intro w hSw; clear hSw; go_simp; try with_reducible rfl))
          try simp only [Mem.pa, Mem.pb, Mem.pc, Act.put, Mem.pd, Mem.pe, Mem.pf]
          first | refine Mem.tkN 22 ?r329 | (refine Mem.tkV 22 ?v329 ?y329 ?r329; case y329 => (intro w hSw; clear hSw; go_simp; try with_reducible rfl))
          refine Mem.tkV 23 ?v330 ?y330 ?r330
          case y330 => (intro w hSw; clear hSw; go_simp; try with_reducible rfl)
          refine Mem.tkV 24 ?v331 ?y331 ?r331
          case y331 => (intro w hSw; clear hSw; go_simp; try with_reducible rfl)
          try simp only [Mem.pa, Mem.pb, Mem.pc, Act.put, Mem.pd, Mem.pe, Mem.pf]
          first | refine Mem.tkN 25 ?r332 | (refine Mem.tkV 25 ?v332 ?y332 ?r332; case y332 => (intro w hSw; clear hSw; go_simp; try with_reducible rfl))
          try simp only [Mem.pa, Mem.pb, Mem.pc, Act.put, Mem.pd, Mem.pe, Mem.pf]
          first | refine Mem.tkN 26 ?r333 | (refine Mem.tkV 26 ?v333 ?y333 ?r333; case y333 => (intro w hSw; clear hSw; go_simp; try with_reducible rfl))
          try simp only [Mem.pa, Mem.pb, Mem.pc, Act.put, Mem.pd, Mem.pe, Mem.pf]
          first | refine Mem.tkN 27 ?r334 | (refine Mem.tkV 27 ?v334 ?y334 ?r334; case y334 => (intro w hSw; clear hSw; go_simp; try with_reducible rfl))
          try simp only [Mem.pa, Mem.pb, Mem.pc, Act.put, Mem.pd, Mem.pe, Mem.pf]
          first | refine Mem.tkN 28 ?r335 | (refine Mem.tkV 28 ?v335 ?y335 ?r335; case y335 => (intro w hSw; clear hSw; go_simp; try with_reducible rfl))
          try simp only [Mem.pa, Mem.pb, Mem.pc, Act.put, Mem.pd, Mem.pe, Mem.pf]
          first | refine Mem.tkN 29 ?r336 | (refine Mem.tkV 29 ?v336 ?y336 ?r336; case y336 => (intro w hSw; obtain ⟨hT0, hT1, hT2, hT3, hT4, hT5⟩ := hCl.out w hSw; clear hSw; go_simp; try with_reducible rfl))
          try simp only [Mem.pa, Mem.pb, Mem.pc, Act.put, Mem.pd, Mem.pe, Mem.pf]
          first | refine Mem.tkN 30 ?r337 | (refine Mem.tkV 30 ?v337 ?y337 ?r337; case y337 => (intro w hSw; clear hSw; go_simp; try with_reducible rfl))
          refine Mem.tkV 31 ?v338 ?y338 ?r338
          case y338 => (intro w hSw; clear hSw; go_simp; try with_reducible rfl)
          refine Mem.tkV 32 ?v339 ?y339 ?r339
          case y339 => (intro w hSw; clear hSw; go_simp; try with_reducible rfl)
          try simp only [Mem.pa, Mem.pb, Mem.pc, Act.put, Mem.pd, Mem.pe, Mem.pf]
          first | refine Mem.tkN 33 ?r340 | (refine Mem.tkV 33 ?v340 ?y340 ?r340; case y340 => (intro w hSw; clear hSw; go_simp; try with_reducible rfl))
          try simp only [Mem.pa, Mem.pb, Mem.pc, Act.put, Mem.pd, Mem.pe, Mem.pf]
          first | refine Mem.tkN 34 ?r341 | (refine Mem.tkV 34 ?v341 ?y341 ?r341; case y341 => (intro w hSw; clear hSw; go_simp; try with_reducible rfl))
          try simp only [Mem.pa, Mem.pb, Mem.pc, Act.put, Mem.pd, Mem.pe, Mem.pf]
          first | refine Mem.tkN 35 ?r342 | (refine Mem.tkV 35 ?v342 ?y342 ?r342; case y342 => (intro w hSw; clear hSw; go_simp; try with_reducible rfl))
          try simp only [Mem.pa, Mem.pb, Mem.pc, Act.put, Mem.pd, Mem.pe, Mem.pf]
          first | refine Mem.tkN 36 ?r343 | (refine Mem.tkV 36 ?v343 ?y343 ?r343; case y343 => (intro w hSw; clear hSw; go_simp; try with_reducible rfl))
          try simp only [Mem.pa, Mem.pb, Mem.pc, Act.put, Mem.pd, Mem.pe, Mem.pf]
          first | refine Mem.tkN 37 ?r344 | (refine Mem.tkV 37 ?v344 ?y344 ?r344; case y344 => (intro w hSw; obtain ⟨hT0, hT1, hT2, hT3, hT4, hT5⟩ := hCl.out w hSw; clear hSw; go_simp; try with_reducible rfl))
          try simp only [Mem.pa, Mem.pb, Mem.pc, Act.put, Mem.pd, Mem.pe, Mem.pf]
          first | refine Mem.tkN 38 ?r345 | (refine Mem.tkV 38 ?v345 ?y345 ?r345; case y345 => (intro w hSw; clear hSw; go_simp; try with_reducible rfl))
          try simp only [Mem.pa, Mem.pb, Mem.pc, Act.put, Mem.pd, Mem.pe, Mem.pf]
          first | refine Mem.tkN 39 ?r346 | (refine Mem.tkV 39 ?v346 ?y346 ?r346; case y346 => (intro w hSw; clear hSw; go_simp; try with_reducible rfl))
          refine Mem.tkV 40 ?v347 ?y347 ?r347
          case y347 => (intro w hSw; clear hSw; go_simp; try with_reducible rfl)
          refine Mem.tkV 41 ?v348 ?y348 ?r348
          case y348 => (intro w hSw; clear hSw; go_simp; try with_reducible rfl)
          try simp only [Mem.pa, Mem.pb, Mem.pc, Act.put, Mem.pd, Mem.pe, Mem.pf]
          first | refine Mem.tkN 42 ?r349 | (refine Mem.tkV 42 ?v349 ?y349 ?r349; case y349 => (intro w hSw; clear hSw; go_simp; try with_reducible rfl))
          try simp only [Mem.pa, Mem.pb, Mem.pc, Act.put, Mem.pd, Mem.pe, Mem.pf]
          first | refine Mem.tkN 43 ?r350 | (refine Mem.tkV 43 ?v350 ?y350 ?r350; case y350 => (intro w hSw; clear hSw; go_simp; try with_reducible rfl))
          try simp only [Mem.pa, Mem.pb, Mem.pc, Act.put, Mem.pd, Mem.pe, Mem.pf]
          first | refine Mem.tkN 44 ?r351 | (refine Mem.tkV 44 ?v351 ?y351 ?r351; case y351 => (intro w hSw; clear hSw; go_simp; try with_reducible rfl))
          try simp only [Mem.pa, Mem.pb, Mem.pc, Act.put, Mem.pd, Mem.pe, Mem.pf]
          first | refine Mem.tkN 45 ?r352 | (refine Mem.tkV 45 ?v352 ?y352 ?r352; case y352 => (intro w hSw; clear hSw; go_simp; try with_reducible rfl))
          try simp only [Mem.pa, Mem.pb, Mem.pc, Act.put, Mem.pd, Mem.pe, Mem.pf]
          first | refine Mem.tkN 46 ?r353 | (refine Mem.tkV 46 ?v353 ?y353 ?r353; case y353 => (intro w hSw; obtain ⟨hT0, hT1, hT2, hT3, hT4, hT5⟩ := hCl.out w hSw; clear hSw; go_simp; try with_reducible rfl))
          try simp only [Mem.pa, Mem.pb, Mem.pc, Act.put, Mem.pd, Mem.pe, Mem.pf]
          first | refine Mem.tkN 47 ?r354 | (refine Mem.tkV 47 ?v354 ?y354 ?r354; case y354 => (intro w hSw; clear hSw; go_simp; try with_reducible rfl))
          try simp only [Mem.pa, Mem.pb, Mem.pc, Act.put, Mem.pd, Mem.pe, Mem.pf]
          first | refine Mem.tkN 48 ?r355 | (refine Mem.tkV 48 ?v355 ?y355 ?r355; case y355 => (intro w hSw; clear hSw; go_simp; try with_reducible rfl))
          try simp only [Mem.pa, Mem.pb, Mem.pc, Act.put, Mem.pd, Mem.pe, Mem.pf]
          first | refine Mem.tkN 49 ?r356 | (refine Mem.tkV 49 ?v356 ?y356 ?r356; case y356 => (intro w hSw; clear hSw; go_simp; try with_reducible rfl))
          try simp only [Mem.pa, Mem.pb, Mem.pc, Act.put, Mem.pd, Mem.pe, Mem.pf]
          first | refine Mem.tkN 50 ?r357 | (refine Mem.tkV 50 ?v357 ?y357 ?r357; case y357 => (intro w hSw; clear hSw; go_simp; try with_reducible rfl))
          try simp only [Mem.pa, Mem.pb, Mem.pc, Act.put, Mem.pd, Mem.pe, Mem.pf]
          first | refine Mem.tkN 51 ?r358 | (refine Mem.tkV 51 ?v358 ?y358 ?r358; case y358 => (intro w hSw; obtain ⟨hT0, hT1, hT2, hT3, hT4, hT5⟩ := hCl.out w hSw; clear hSw; go_simp; try with_reducible rfl))
          try simp only [Mem.pa, Mem.pb, Mem.pc, Act.put, Mem.pd, Mem.pe, Mem.pf]
          first | refine Mem.tkN 52 ?r359 | (refine Mem.tkV 52 ?v359 ?y359 ?r359; case y359 => (intro w hSw; clear hSw; go_simp; try with_reducible rfl))
          try simp only [Mem.pa, Mem.pb, Mem.pc, Act.put, Mem.pd, Mem.pe, Mem.pf]
          first | refine Mem.tkN 53 ?r360 | (refine Mem.tkV 53 ?v360 ?y360 ?r360; case y360 => (intro w hSw; clear hSw; go_simp; try with_reducible rfl))
          refine Mem.tkV 54 ?v361 ?y361 ?r361
          case y361 => (intro w hSw; clear hSw; go_simp; try with_reducible rfl)
          try simp only [Mem.pa, Mem.pb, Mem.pc, Act.put, Mem.pd, Mem.pe, Mem.pf]
          refine wpAnyH_done (by kernel_rfl) ?_ _
          clear hCl
          go_wp2_with fail
          go_ret
          exact ⟨ret_bool HV.out.symm, hbr.trans (((Below.refl _ _).drew.trans hHeld).mono hbr.size)⟩
        have d1 : decide (x.id < 1) = false := decide_eq_false h3
        by_cases h1 : x.id ≤ was
        · rw [mayF_id h1] at hv
          have HV := Lib.hid hv
          have d3 : decide (x.id ≤ was) = true := decide_eq_true h1
          clear hv h1 h3
          go_wp2_with fail
          refine wp_region_held_drew (S := Go.RowKit.Below ((wr.drew).heap.size) (wr.drew)) (by kernel_rfl) ?hb366 (fun hHeld => ?rest366)
          case hb366 =>
            exact Go.RowKit.Below.refl _ _
          case' rest366 => skip
          have hCl := fun (wS : World) (hSw : Go.RowKit.Below ((wr.drew).heap.size) (wr.drew) wS) => And.intro (Mem.bl_cell hSw e0 (by first | omega | (dsimp only; omega) | exact World.block_lt_of_cell? _ _ e0 | (simp <;> omega))) <| And.intro (Mem.bl_cell hSw e1 (by first | omega | (dsimp only; omega) | exact World.block_lt_of_cell? _ _ e1 | (simp <;> omega))) <| And.intro (Mem.bl_cell hSw e2 (by first | omega | (dsimp only; omega) | exact World.block_lt_of_cell? _ _ e2 | (simp <;> omega))) <| And.intro (Mem.bl_cell hSw e3 (by first | omega | (dsimp only; omega) | exact World.block_lt_of_cell? _ _ e3 | (simp <;> omega))) <| And.intro (Mem.bl_cell hSw e4 (by first | omega | (dsimp only; omega) | exact World.block_lt_of_cell? _ _ e4 | (simp <;> omega))) <| Mem.bl_cell hSw e5 (by first | omega | (dsimp only; omega) | exact World.block_lt_of_cell? _ _ e5 | (simp <;> omega))
          replace hCl := Go.Lib.hid hCl
          refine Mem.tkV 0 ?v367 ?y367 ?r367
          case y367 => (intro w hSw; clear hSw; go_simp; try with_reducible rfl)
          refine Mem.tkV 1 ?v368 ?y368 ?r368
          case y368 => (intro w hSw; clear hSw; go_simp; try with_reducible rfl)
          refine Mem.tkV 2 ?v369 ?y369 ?r369
          case y369 => (intro w hSw; clear hSw; go_simp; try with_reducible rfl)
          try simp only [Mem.pa, Mem.pb, Mem.pc, Act.put, Mem.pd, Mem.pe, Mem.pf]
          refine Mem.tkV 3 ?v370 ?y370 ?r370
          case y370 => (intro w hSw; clear hSw; go_simp; try with_reducible rfl)
          refine Mem.tkV 4 ?v371 ?y371 ?r371
          case y371 => (intro w hSw; obtain ⟨hT0, hT1, hT2, hT3, hT4, hT5⟩ := hCl.out w hSw; clear hSw; go_simp; try with_reducible rfl)
          refine Mem.tkV 5 ?v372 ?y372 ?r372
          case y372 => (intro w hSw; clear hSw; go_simp; try with_reducible rfl)
          try simp only [Mem.pa, Mem.pb, Mem.pc, Act.put, Mem.pd, Mem.pe, Mem.pf]
          refine Mem.tkV 6 ?v373 ?y373 ?r373
          case y373 => (intro w hSw; clear hSw; go_simp; try with_reducible rfl)
          try simp only [Mem.pa, Mem.pb, Mem.pc, Act.put, Mem.pd, Mem.pe, Mem.pf]
          first | refine Mem.tkN 7 ?r374 | (refine Mem.tkV 7 ?v374 ?y374 ?r374; case y374 => (intro w hSw; clear hSw; go_simp; try with_reducible rfl))
          try simp only [Mem.pa, Mem.pb, Mem.pc, Act.put, Mem.pd, Mem.pe, Mem.pf]
          first | refine Mem.tkN 8 ?r375 | (refine Mem.tkV 8 ?v375 ?y375 ?r375; case y375 => (intro w hSw; clear hSw; go_simp; try with_reducible rfl))
          try simp only [Mem.pa, Mem.pb, Mem.pc, Act.put, Mem.pd, Mem.pe, Mem.pf]
          first | refine Mem.tkN 9 ?r376 | (refine Mem.tkV 9 ?v376 ?y376 ?r376; case y376 => (intro w hSw; clear hSw; go_simp; try with_reducible rfl))
          try simp only [Mem.pa, Mem.pb, Mem.pc, Act.put, Mem.pd, Mem.pe, Mem.pf]
          first | refine Mem.tkN 10 ?r377 | (refine Mem.tkV 10 ?v377 ?y377 ?r377; case y377 => (intro w hSw; clear hSw; go_simp; try with_reducible rfl))
          try simp only [Mem.pa, Mem.pb, Mem.pc, Act.put, Mem.pd, Mem.pe, Mem.pf]
          first | refine Mem.tkN 11 ?r378 | (refine Mem.tkV 11 ?v378 ?y378 ?r378; case y378 => (intro w hSw; clear hSw; go_simp; try with_reducible rfl))
          try simp only [Mem.pa, Mem.pb, Mem.pc, Act.put, Mem.pd, Mem.pe, Mem.pf]
          first | refine Mem.tkN 12 ?r379 | (refine Mem.tkV 12 ?v379 ?y379 ?r379; case y379 => (intro w hSw; clear hSw; go_simp; try with_reducible rfl))
          try simp only [Mem.pa, Mem.pb, Mem.pc, Act.put, Mem.pd, Mem.pe, Mem.pf]
          first | refine Mem.tkN 13 ?r380 | (refine Mem.tkV 13 ?v380 ?y380 ?r380; case y380 => (intro w hSw; clear hSw; go_simp; try with_reducible rfl))
          try simp only [Mem.pa, Mem.pb, Mem.pc, Act.put, Mem.pd, Mem.pe, Mem.pf]
          first | refine Mem.tkN 14 ?r381 | (refine Mem.tkV 14 ?v381 ?y381 ?r381; case y381 => (intro w hSw; obtain ⟨hT0, hT1, hT2, hT3, hT4, hT5⟩ := hCl.out w hSw; clear hSw; go_simp; try with_reducible rfl))
          try simp only [Mem.pa, Mem.pb, Mem.pc, Act.put, Mem.pd, Mem.pe, Mem.pf]
          first | refine Mem.tkN 15 ?r382 | (refine Mem.tkV 15 ?v382 ?y382 ?r382; case y382 => (intro w hSw; clear hSw; go_simp; try with_reducible rfl))
          try simp only [Mem.pa, Mem.pb, Mem.pc, Act.put, Mem.pd, Mem.pe, Mem.pf]
          first | refine Mem.tkN 16 ?r383 | (refine Mem.tkV 16 ?v383 ?y383 ?r383; case y383 => (intro w hSw; clear hSw; go_simp; try with_reducible rfl))
          try simp only [Mem.pa, Mem.pb, Mem.pc, Act.put, Mem.pd, Mem.pe, Mem.pf]
          first | refine Mem.tkN 17 ?r384 | (refine Mem.tkV 17 ?v384 ?y384 ?r384; case y384 => (intro w hSw; clear hSw; go_simp; try with_reducible rfl))
          try simp only [Mem.pa, Mem.pb, Mem.pc, Act.put, Mem.pd, Mem.pe, Mem.pf]
          first | refine Mem.tkN 18 ?r385 | (refine Mem.tkV 18 ?v385 ?y385 ?r385; case y385 => (intro w hSw; clear hSw; go_simp; try with_reducible rfl))
          try simp only [Mem.pa, Mem.pb, Mem.pc, Act.put, Mem.pd, Mem.pe, Mem.pf]
          first | refine Mem.tkN 19 ?r386 | (refine Mem.tkV 19 ?v386 ?y386 ?r386; case y386 => (intro w hSw; clear hSw; go_simp; try with_reducible rfl))
          try simp only [Mem.pa, Mem.pb, Mem.pc, Act.put, Mem.pd, Mem.pe, Mem.pf]
          first | refine Mem.tkN 20 ?r387 | (refine Mem.tkV 20 ?v387 ?y387 ?r387; case y387 => (intro w hSw; obtain ⟨hT0, hT1, hT2, hT3, hT4, hT5⟩ := hCl.out w hSw; clear hSw; go_simp; try with_reducible rfl))
          try simp only [Mem.pa, Mem.pb, Mem.pc, Act.put, Mem.pd, Mem.pe, Mem.pf]
          first | refine Mem.tkN 21 ?r388 | (refine Mem.tkV 21 ?v388 ?y388 ?r388; case y388 => (intro w hSw; clear hSw; go_simp; try with_reducible rfl))
          try simp only [Mem.pa, Mem.pb, Mem.pc, Act.put, Mem.pd, Mem.pe, Mem.pf]
          first | refine Mem.tkN 22 ?r389 | (refine Mem.tkV 22 ?v389 ?y389 ?r389; case y389 => (intro w hSw; clear hSw; go_simp; try with_reducible rfl))
          refine Mem.tkV 23 ?v390 ?y390 ?r390
          case y390 => (intro w hSw; clear hSw; go_simp; try with_reducible rfl)
          refine Mem.tkV 24 ?v391 ?y391 ?r391
          case y391 => (intro w hSw; clear hSw; go_simp; try with_reducible rfl)
          try simp only [Mem.pa, Mem.pb, Mem.pc, Act.put, Mem.pd, Mem.pe, Mem.pf]
          first | refine Mem.tkN 25 ?r392 | (refine Mem.tkV 25 ?v392 ?y392 ?r392; case y392 => (intro w hSw; clear hSw; go_simp; try with_reducible rfl))
          try simp only [Mem.pa, Mem.pb, Mem.pc, Act.put, Mem.pd, Mem.pe, Mem.pf]
          first | refine Mem.tkN 26 ?r393 | (refine Mem.tkV 26 ?v393 ?y393 ?r393; case y393 => (intro w hSw; clear hSw; go_simp; try with_reducible rfl))
          try simp only [Mem.pa, Mem.pb, Mem.pc, Act.put, Mem.pd, Mem.pe, Mem.pf]
          first | refine Mem.tkN 27 ?r394 | (refine Mem.tkV 27 ?v394 ?y394 ?r394; case y394 => (intro w hSw; clear hSw; go_simp; try with_reducible rfl))
          try simp only [Mem.pa, Mem.pb, Mem.pc, Act.put, Mem.pd, Mem.pe, Mem.pf]
          first | refine Mem.tkN 28 ?r395 | (refine Mem.tkV 28 ?v395 ?y395 ?r395; case y395 => (intro w hSw; clear hSw; go_simp; try with_reducible rfl))
          try simp only [Mem.pa, Mem.pb, Mem.pc, Act.put, Mem.pd, Mem.pe, Mem.pf]
          first | refine Mem.tkN 29 ?r396 | (refine Mem.tkV 29 ?v396 ?y396 ?r396; case y396 => (intro w hSw; obtain ⟨hT0, hT1, hT2, hT3, hT4, hT5⟩ := hCl.out w hSw; clear hSw; go_simp; try with_reducible rfl))
          try simp only [Mem.pa, Mem.pb, Mem.pc, Act.put, Mem.pd, Mem.pe, Mem.pf]
          first | refine Mem.tkN 30 ?r397 | (refine Mem.tkV 30 ?v397 ?y397 ?r397; case y397 => (intro w hSw; clear hSw; go_simp; try with_reducible rfl))
          refine Mem.tkV 31 ?v398 ?y398 ?r398
          case y398 => (intro w hSw; clear hSw; go_simp; try with_reducible rfl)
          refine Mem.tkV 32 ?v399 ?y399 ?r399
          case y399 => (intro w hSw; clear hSw; go_simp; try with_reducible rfl)
          try simp only [Mem.pa, Mem.pb, Mem.pc, Act.put, Mem.pd, Mem.pe, Mem.pf]
          first | refine Mem.tkN 33 ?r400 | (refine Mem.tkV 33 ?v400 ?y400 ?r400; case y400 => (intro w hSw; clear hSw; go_simp; try with_reducible rfl))
          try simp only [Mem.pa, Mem.pb, Mem.pc, Act.put, Mem.pd, Mem.pe, Mem.pf]
          first | refine Mem.tkN 34 ?r401 | (refine Mem.tkV 34 ?v401 ?y401 ?r401; case y401 => (intro w hSw; clear hSw; go_simp; try with_reducible rfl))
          try simp only [Mem.pa, Mem.pb, Mem.pc, Act.put, Mem.pd, Mem.pe, Mem.pf]
          first | refine Mem.tkN 35 ?r402 | (refine Mem.tkV 35 ?v402 ?y402 ?r402; case y402 => (intro w hSw; clear hSw; go_simp; try with_reducible rfl))
          try simp only [Mem.pa, Mem.pb, Mem.pc, Act.put, Mem.pd, Mem.pe, Mem.pf]
          first | refine Mem.tkN 36 ?r403 | (refine Mem.tkV 36 ?v403 ?y403 ?r403; case y403 => (intro w hSw; clear hSw; go_simp; try with_reducible rfl))
          try simp only [Mem.pa, Mem.pb, Mem.pc, Act.put, Mem.pd, Mem.pe, Mem.pf]
          first | refine Mem.tkN 37 ?r404 | (refine Mem.tkV 37 ?v404 ?y404 ?r404; case y404 => (intro w hSw; obtain ⟨hT0, hT1, hT2, hT3, hT4, hT5⟩ := hCl.out w hSw; clear hSw; go_simp; try with_reducible rfl))
          try simp only [Mem.pa, Mem.pb, Mem.pc, Act.put, Mem.pd, Mem.pe, Mem.pf]
          first | refine Mem.tkN 38 ?r405 | (refine Mem.tkV 38 ?v405 ?y405 ?r405; case y405 => (intro w hSw; clear hSw; go_simp; try with_reducible rfl))
          try simp only [Mem.pa, Mem.pb, Mem.pc, Act.put, Mem.pd, Mem.pe, Mem.pf]
          first | refine Mem.tkN 39 ?r406 | (refine Mem.tkV 39 ?v406 ?y406 ?r406; case y406 => (intro w hSw; clear hSw; go_simp; try with_reducible rfl))
          refine Mem.tkV 40 ?v407 ?y407 ?r407
          case y407 => (intro w hSw; clear hSw; go_simp; try with_reducible rfl)
          refine Mem.tkV 41 ?v408 ?y408 ?r408
          case y408 => (intro w hSw; clear hSw; go_simp; try with_reducible rfl)
          try simp only [Mem.pa, Mem.pb, Mem.pc, Act.put, Mem.pd, Mem.pe, Mem.pf]
          first | refine Mem.tkN 42 ?r409 | (refine Mem.tkV 42 ?v409 ?y409 ?r409; case y409 => (intro w hSw; clear hSw; go_simp; try with_reducible rfl))
          try simp only [Mem.pa, Mem.pb, Mem.pc, Act.put, Mem.pd, Mem.pe, Mem.pf]
          first | refine Mem.tkN 43 ?r410 | (refine Mem.tkV 43 ?v410 ?y410 ?r410; case y410 => (intro w hSw; clear hSw; go_simp; try with_reducible rfl))
          try simp only [Mem.pa, Mem.pb, Mem.pc, Act.put, Mem.pd, Mem.pe, Mem.pf]
          first | refine Mem.tkN 44 ?r411 | (refine Mem.tkV 44 ?v411 ?y411 ?r411; case y411 => (intro w hSw; clear hSw; go_simp; try with_reducible rfl))
          try simp only [Mem.pa, Mem.pb, Mem.pc, Act.put, Mem.pd, Mem.pe, Mem.pf]
          first | refine Mem.tkN 45 ?r412 | (refine Mem.tkV 45 ?v412 ?y412 ?r412; case y412 => (intro w hSw; clear hSw; go_simp; try with_reducible rfl))
          try simp only [Mem.pa, Mem.pb, Mem.pc, Act.put, Mem.pd, Mem.pe, Mem.pf]
          first | refine Mem.tkN 46 ?r413 | (refine Mem.tkV 46 ?v413 ?y413 ?r413; case y413 => (intro w hSw; obtain ⟨hT0, hT1, hT2, hT3, hT4, hT5⟩ := hCl.out w hSw; clear hSw; go_simp; try with_reducible rfl))
          try simp only [Mem.pa, Mem.pb, Mem.pc, Act.put, Mem.pd, Mem.pe, Mem.pf]
          first | refine Mem.tkN 47 ?r414 | (refine Mem.tkV 47 ?v414 ?y414 ?r414; case y414 => (intro w hSw; clear hSw; go_simp; try with_reducible rfl))
          try simp only [Mem.pa, Mem.pb, Mem.pc, Act.put, Mem.pd, Mem.pe, Mem.pf]
          first | refine Mem.tkN 48 ?r415 | (refine Mem.tkV 48 ?v415 ?y415 ?r415; case y415 => (intro w hSw; clear hSw; go_simp; try with_reducible rfl))
          try simp only [Mem.pa, Mem.pb, Mem.pc, Act.put, Mem.pd, Mem.pe, Mem.pf]
          first | refine Mem.tkN 49 ?r416 | (refine Mem.tkV 49 ?v416 ?y416 ?r416; case y416 => (intro w hSw; clear hSw; go_simp; try with_reducible rfl))
          try simp only [Mem.pa, Mem.pb, Mem.pc, Act.put, Mem.pd, Mem.pe, Mem.pf]
          first | refine Mem.tkN 50 ?r417 | (refine Mem.tkV 50 ?v417 ?y417 ?r417; case y417 => (intro w hSw; clear hSw; go_simp; try with_reducible rfl))
          try simp only [Mem.pa, Mem.pb, Mem.pc, Act.put, Mem.pd, Mem.pe, Mem.pf]
          first | refine Mem.tkN 51 ?r418 | (refine Mem.tkV 51 ?v418 ?y418 ?r418; case y418 => (intro w hSw; obtain ⟨hT0, hT1, hT2, hT3, hT4, hT5⟩ := hCl.out w hSw; clear hSw; go_simp; try with_reducible rfl))
          try simp only [Mem.pa, Mem.pb, Mem.pc, Act.put, Mem.pd, Mem.pe, Mem.pf]
          first | refine Mem.tkN 52 ?r419 | (refine Mem.tkV 52 ?v419 ?y419 ?r419; case y419 => (intro w hSw; clear hSw; go_simp; try with_reducible rfl))
          try simp only [Mem.pa, Mem.pb, Mem.pc, Act.put, Mem.pd, Mem.pe, Mem.pf]
          first | refine Mem.tkN 53 ?r420 | (refine Mem.tkV 53 ?v420 ?y420 ?r420; case y420 => (intro w hSw; clear hSw; go_simp; try with_reducible rfl))
          refine Mem.tkV 54 ?v421 ?y421 ?r421
          case y421 => (intro w hSw; clear hSw; go_simp; try with_reducible rfl)
          try simp only [Mem.pa, Mem.pb, Mem.pc, Act.put, Mem.pd, Mem.pe, Mem.pf]
          refine wpAnyH_done (by kernel_rfl) ?_ _
          clear hCl
          go_wp2_with fail
          go_ret
          exact ⟨ret_bool HV.out.symm, hbr.trans (((Below.refl _ _).drew.trans hHeld).mono hbr.size)⟩
        have d3 : decide (x.id ≤ was) = false := decide_eq_false h1
        have X1 : Hid (¬ x.id ≤ was) := Lib.hid h1
        have X2 : Hid (0 ≤ x.id) := Lib.hid (by omega)
        clear h1 h3
        by_cases h2 : x.blk < 0
        · rw [mayF_blk h2] at hv
          have HV := Lib.hid hv
          have d2 : decide (x.blk < 0) = true := decide_eq_true h2
          clear hv h2
          go_wp2_with fail
          refine wp_region_held_drew (S := Go.RowKit.Below ((wr.drew).heap.size) (wr.drew)) (by kernel_rfl) ?hb426 (fun hHeld => ?rest426)
          case hb426 =>
            exact Go.RowKit.Below.refl _ _
          case' rest426 => skip
          have hCl := fun (wS : World) (hSw : Go.RowKit.Below ((wr.drew).heap.size) (wr.drew) wS) => And.intro (Mem.bl_cell hSw e0 (by first | omega | (dsimp only; omega) | exact World.block_lt_of_cell? _ _ e0 | (simp <;> omega))) <| And.intro (Mem.bl_cell hSw e1 (by first | omega | (dsimp only; omega) | exact World.block_lt_of_cell? _ _ e1 | (simp <;> omega))) <| And.intro (Mem.bl_cell hSw e2 (by first | omega | (dsimp only; omega) | exact World.block_lt_of_cell? _ _ e2 | (simp <;> omega))) <| And.intro (Mem.bl_cell hSw e3 (by first | omega | (dsimp only; omega) | exact World.block_lt_of_cell? _ _ e3 | (simp <;> omega))) <| And.intro (Mem.bl_cell hSw e4 (by first | omega | (dsimp only; omega) | exact World.block_lt_of_cell? _ _ e4 | (simp <;> omega))) <| Mem.bl_cell hSw e5 (by first | omega | (dsimp only; omega) | exact World.block_lt_of_cell? _ _ e5 | (simp <;> omega))
          replace hCl := Go.Lib.hid hCl
          refine Mem.tkV 0 ?v427 ?y427 ?r427
          case y427 => (intro w hSw; clear hSw; go_simp; try with_reducible rfl)
          refine Mem.tkV 1 ?v428 ?y428 ?r428
          case y428 => (intro w hSw; clear hSw; go_simp; try with_reducible rfl)
          refine Mem.tkV 2 ?v429 ?y429 ?r429
          case y429 => (intro w hSw; clear hSw; go_simp; try with_reducible rfl)
          try simp only [Mem.pa, Mem.pb, Mem.pc, Act.put, Mem.pd, Mem.pe, Mem.pf]
          refine Mem.tkV 3 ?v430 ?y430 ?r430
          case y430 => (intro w hSw; clear hSw; go_simp; try with_reducible rfl)
          refine Mem.tkV 4 ?v431 ?y431 ?r431
          case y431 => (intro w hSw; obtain ⟨hT0, hT1, hT2, hT3, hT4, hT5⟩ := hCl.out w hSw; clear hSw; go_simp; try with_reducible rfl)
          refine Mem.tkV 5 ?v432 ?y432 ?r432
          case y432 => (intro w hSw; clear hSw; go_simp; try with_reducible rfl)
          try simp only [Mem.pa, Mem.pb, Mem.pc, Act.put, Mem.pd, Mem.pe, Mem.pf]
          refine Mem.tkV 6 ?v433 ?y433 ?r433
          case y433 => (intro w hSw; clear hSw; go_simp; try with_reducible rfl)
          try simp only [Mem.pa, Mem.pb, Mem.pc, Act.put, Mem.pd, Mem.pe, Mem.pf]
          first | refine Mem.tkN 7 ?r434 | (refine Mem.tkV 7 ?v434 ?y434 ?r434; case y434 => (intro w hSw; clear hSw; go_simp; try with_reducible rfl))
          try simp only [Mem.pa, Mem.pb, Mem.pc, Act.put, Mem.pd, Mem.pe, Mem.pf]
          first | refine Mem.tkN 8 ?r435 | (refine Mem.tkV 8 ?v435 ?y435 ?r435; case y435 => (intro w hSw; clear hSw; go_simp; try with_reducible rfl))
          try simp only [Mem.pa, Mem.pb, Mem.pc, Act.put, Mem.pd, Mem.pe, Mem.pf]
          first | refine Mem.tkN 9 ?r436 | (refine Mem.tkV 9 ?v436 ?y436 ?r436; case y436 => (intro w hSw; clear hSw; go_simp; try with_reducible rfl))
          try simp only [Mem.pa, Mem.pb, Mem.pc, Act.put, Mem.pd, Mem.pe, Mem.pf]
          first | refine Mem.tkN 10 ?r437 | (refine Mem.tkV 10 ?v437 ?y437 ?r437; case y437 => (intro w hSw; clear hSw; go_simp; try with_reducible rfl))
          try simp only [Mem.pa, Mem.pb, Mem.pc, Act.put, Mem.pd, Mem.pe, Mem.pf]
          first | refine Mem.tkN 11 ?r438 | (refine Mem.tkV 11 ?v438 ?y438 ?r438; case y438 => (intro w hSw; clear hSw; go_simp; try with_reducible rfl))
          try simp only [Mem.pa, Mem.pb, Mem.pc, Act.put, Mem.pd, Mem.pe, Mem.pf]
          first | refine Mem.tkN 12 ?r439 | (refine Mem.tkV 12 ?v439 ?y439 ?r439; case y439 => (intro w hSw; clear hSw; go_simp; try with_reducible rfl))
          try simp only [Mem.pa, Mem.pb, Mem.pc, Act.put, Mem.pd, Mem.pe, Mem.pf]
          first | refine Mem.tkN 13 ?r440 | (refine Mem.tkV 13 ?v440 ?y440 ?r440; case y440 => (intro w hSw; clear hSw; go_simp; try with_reducible rfl))
          try simp only [Mem.pa, Mem.pb, Mem.pc, Act.put, Mem.pd, Mem.pe, Mem.pf]
          first | refine Mem.tkN 14 ?r441 | (refine Mem.tkV 14 ?v441 ?y441 ?r441; case y441 => (intro w hSw; obtain ⟨hT0, hT1, hT2, hT3, hT4, hT5⟩ := hCl.out w hSw; clear hSw; go_simp; try with_reducible rfl))
          try simp only [Mem.pa, Mem.pb, Mem.pc, Act.put, Mem.pd, Mem.pe, Mem.pf]
          first | refine Mem.tkN 15 ?r442 | (refine Mem.tkV 15 ?v442 ?y442 ?r442; case y442 => (intro w hSw; clear hSw; go_simp; try with_reducible rfl))
          try simp only [Mem.pa, Mem.pb, Mem.pc, Act.put, Mem.pd, Mem.pe, Mem.pf]
          first | refine Mem.tkN 16 ?r443 | (refine Mem.tkV 16 ?v443 ?y443 ?r443; case y443 => (intro w hSw; clear hSw; go_simp; try with_reducible rfl))
          try simp only [Mem.pa, Mem.pb, Mem.pc, Act.put, Mem.pd, Mem.pe, Mem.pf]
          first | refine Mem.tkN 17 ?r444 | (refine Mem.tkV 17 ?v444 ?y444 ?r444; case y444 => (intro w hSw; clear hSw; go_simp; try with_reducible rfl))
          try simp only [Mem.pa, Mem.pb, Mem.pc, Act.put, Mem.pd, Mem.pe, Mem.pf]
          first | refine Mem.tkN 18 ?r445 | (refine Mem.tkV 18 ?v445 ?y445 ?r445; case y445 => (intro w hSw; clear hSw; go_simp; try with_reducible rfl))
          try simp only [Mem.pa, Mem.pb, Mem.pc, Act.put, Mem.pd, Mem.pe, Mem.pf]
          first | refine Mem.tkN 19 ?r446 | (refine Mem.tkV 19 ?v446 ?y446 ?r446; case y446 => (intro w hSw; clear hSw; go_simp; try with_reducible rfl))
          try simp only [Mem.pa, Mem.pb, Mem.pc, Act.put, Mem.pd, Mem.pe, Mem.pf]
          first | refine Mem.tkN 20 ?r447 | (refine Mem.tkV 20 ?v447 ?y447 ?r447; case y447 => (intro w hSw; obtain ⟨hT0, hT1, hT2, hT3, hT4, hT5⟩ := hCl.out w hSw; clear hSw; go_simp; try with_reducible rfl))
          try simp only [Mem.pa, Mem.pb, Mem.pc, Act.put, Mem.pd, Mem.pe, Mem.pf]
          first | refine Mem.tkN 21 ?r448 | (refine Mem.tkV 21 ?v448 ?y448 ?r448; case y448 => (intro w hSw; clear hSw; go_simp; try with_reducible rfl))
          try simp only [Mem.pa, Mem.pb, Mem.pc, Act.put, Mem.pd, Mem.pe, Mem.pf]
          first | refine Mem.tkN 22 ?r449 | (refine Mem.tkV 22 ?v449 ?y449 ?r449; case y449 => (intro w hSw; clear hSw; go_simp; try with_reducible rfl))
          refine Mem.tkV 23 ?v450 ?y450 ?r450
          case y450 => (intro w hSw; clear hSw; go_simp; try with_reducible rfl)
          refine Mem.tkV 24 ?v451 ?y451 ?r451
          case y451 => (intro w hSw; clear hSw; go_simp; try with_reducible rfl)
          try simp only [Mem.pa, Mem.pb, Mem.pc, Act.put, Mem.pd, Mem.pe, Mem.pf]
          first | refine Mem.tkN 25 ?r452 | (refine Mem.tkV 25 ?v452 ?y452 ?r452; case y452 => (intro w hSw; clear hSw; go_simp; try with_reducible rfl))
          try simp only [Mem.pa, Mem.pb, Mem.pc, Act.put, Mem.pd, Mem.pe, Mem.pf]
          first | refine Mem.tkN 26 ?r453 | (refine Mem.tkV 26 ?v453 ?y453 ?r453; case y453 => (intro w hSw; clear hSw; go_simp; try with_reducible rfl))
          try simp only [Mem.pa, Mem.pb, Mem.pc, Act.put, Mem.pd, Mem.pe, Mem.pf]
          first | refine Mem.tkN 27 ?r454 | (refine Mem.tkV 27 ?v454 ?y454 ?r454; case y454 => (intro w hSw; clear hSw; go_simp; try with_reducible rfl))
          try simp only [Mem.pa, Mem.pb, Mem.pc, Act.put, Mem.pd, Mem.pe, Mem.pf]
          first | refine Mem.tkN 28 ?r455 | (refine Mem.tkV 28 ?v455 ?y455 ?r455; case y455 => (intro w hSw; clear hSw; go_simp; try with_reducible rfl))
          try simp only [Mem.pa, Mem.pb, Mem.pc, Act.put, Mem.pd, Mem.pe, Mem.pf]
          first | refine Mem.tkN 29 ?r456 | (refine Mem.tkV 29 ?v456 ?y456 ?r456; case y456 => (intro w hSw; obtain ⟨hT0, hT1, hT2, hT3, hT4, hT5⟩ := hCl.out w hSw; clear hSw; go_simp; try with_reducible rfl))
          try simp only [Mem.pa, Mem.pb, Mem.pc, Act.put, Mem.pd, Mem.pe, Mem.pf]
          first | refine Mem.tkN 30 ?r457 | (refine Mem.tkV 30 ?v457 ?y457 ?r457; case y457 => (intro w hSw; clear hSw; go_simp; try with_reducible rfl))
          refine Mem.tkV 31 ?v458 ?y458 ?r458
          case y458 => (intro w hSw; clear hSw; go_simp; try with_reducible rfl)
          refine Mem.tkV 32 ?v459 ?y459 ?r459
          case y459 => (intro w hSw; clear hSw; go_simp; try with_reducible rfl)
          try simp only [Mem.pa, Mem.pb, Mem.pc, Act.put, Mem.pd, Mem.pe, Mem.pf]
          first | refine Mem.tkN 33 ?r460 | (refine Mem.tkV 33 ?v460 ?y460 ?r460; case y460 => (intro w hSw; clear hSw; go_simp; try with_reducible rfl))
          try simp only [Mem.pa, Mem.pb, Mem.pc, Act.put, Mem.pd, Mem.pe, Mem.pf]
          first | refine Mem.tkN 34 ?r461 | (refine Mem.tkV 34 ?v461 ?y461 ?r461; case y461 => (intro w hSw; clear hSw; go_simp; try with_reducible rfl))
          try simp only [Mem.pa, Mem.pb, Mem.pc, Act.put, Mem.pd, Mem.pe, Mem.pf]
          first | refine Mem.tkN 35 ?r462 | (refine Mem.tkV 35 ?v462 ?y462 ?r462; case y462 => (intro w hSw; clear hSw; go_simp; try with_reducible rfl))
          try simp only [Mem.pa, Mem.pb, Mem.pc, Act.put, Mem.pd, Mem.pe, Mem.pf]
          first | refine Mem.tkN 36 ?r463 | (refine Mem.tkV 36 ?v463 ?y463 ?r463; case y463 => (intro w hSw; clear hSw; go_simp; try with_reducible rfl))
          try simp only [Mem.pa, Mem.pb, Mem.pc, Act.put, Mem.pd, Mem.pe, Mem.pf]
          first | refine Mem.tkN 37 ?r464 | (refine Mem.tkV 37 ?v464 ?y464 ?r464; case y464 => (intro w hSw; obtain ⟨hT0, hT1, hT2, hT3, hT4, hT5⟩ := hCl.out w hSw; clear hSw; go_simp; try with_reducible rfl))
          try simp only [Mem.pa, Mem.pb, Mem.pc, Act.put, Mem.pd, Mem.pe, Mem.pf]
          first | refine Mem.tkN 38 ?r465 | (refine Mem.tkV 38 ?v465 ?y465 ?r465; case y465 => (intro w hSw; clear hSw; go_simp; try with_reducible rfl))
          try simp only [Mem.pa, Mem.pb, Mem.pc, Act.put, Mem.pd, Mem.pe, Mem.pf]
          first | refine Mem.tkN 39 ?r466 | (refine Mem.tkV 39 ?v466 ?y466 ?r466; case y466 => (intro w hSw; clear hSw; go_simp; try with_reducible rfl))
          refine Mem.tkV 40 ?v467 ?y467 ?r467
          case y467 => (intro w hSw; clear hSw; go_simp; try with_reducible rfl)
          refine Mem.tkV 41 ?v468 ?y468 ?r468
          case y468 => (intro w hSw; clear hSw; go_simp; try with_reducible rfl)
          try simp only [Mem.pa, Mem.pb, Mem.pc, Act.put, Mem.pd, Mem.pe, Mem.pf]
          first | refine Mem.tkN 42 ?r469 | (refine Mem.tkV 42 ?v469 ?y469 ?r469; case y469 => (intro w hSw; clear hSw; go_simp; try with_reducible rfl))
          try simp only [Mem.pa, Mem.pb, Mem.pc, Act.put, Mem.pd, Mem.pe, Mem.pf]
          first | refine Mem.tkN 43 ?r470 | (refine Mem.tkV 43 ?v470 ?y470 ?r470; case y470 => (intro w hSw; clear hSw; go_simp; try with_reducible rfl))
          try simp only [Mem.pa, Mem.pb, Mem.pc, Act.put, Mem.pd, Mem.pe, Mem.pf]
          first | refine Mem.tkN 44 ?r471 | (refine Mem.tkV 44 ?v471 ?y471 ?r471; case y471 => (intro w hSw; clear hSw; go_simp; try with_reducible rfl))
          try simp only [Mem.pa, Mem.pb, Mem.pc, Act.put, Mem.pd, Mem.pe, Mem.pf]
          first | refine Mem.tkN 45 ?r472 | (refine Mem.tkV 45 ?v472 ?y472 ?r472; case y472 => (intro w hSw; clear hSw; go_simp; try with_reducible rfl))
          try simp only [Mem.pa, Mem.pb, Mem.pc, Act.put, Mem.pd, Mem.pe, Mem.pf]
          first | refine Mem.tkN 46 ?r473 | (refine Mem.tkV 46 ?v473 ?y473 ?r473; case y473 => (intro w hSw; obtain ⟨hT0, hT1, hT2, hT3, hT4, hT5⟩ := hCl.out w hSw; clear hSw; go_simp; try with_reducible rfl))
          try simp only [Mem.pa, Mem.pb, Mem.pc, Act.put, Mem.pd, Mem.pe, Mem.pf]
          first | refine Mem.tkN 47 ?r474 | (refine Mem.tkV 47 ?v474 ?y474 ?r474; case y474 => (intro w hSw; clear hSw; go_simp; try with_reducible rfl))
          try simp only [Mem.pa, Mem.pb, Mem.pc, Act.put, Mem.pd, Mem.pe, Mem.pf]
          first | refine Mem.tkN 48 ?r475 | (refine Mem.tkV 48 ?v475 ?y475 ?r475; case y475 => (intro w hSw; clear hSw; go_simp; try with_reducible rfl))
          try simp only [Mem.pa, Mem.pb, Mem.pc, Act.put, Mem.pd, Mem.pe, Mem.pf]
          first | refine Mem.tkN 49 ?r476 | (refine Mem.tkV 49 ?v476 ?y476 ?r476; case y476 => (intro w hSw; clear hSw; go_simp; try with_reducible rfl))
          try simp only [Mem.pa, Mem.pb, Mem.pc, Act.put, Mem.pd, Mem.pe, Mem.pf]
          first | refine Mem.tkN 50 ?r477 | (refine Mem.tkV 50 ?v477 ?y477 ?r477; case y477 => (intro w hSw; clear hSw; go_simp; try with_reducible rfl))
          try simp only [Mem.pa, Mem.pb, Mem.pc, Act.put, Mem.pd, Mem.pe, Mem.pf]
          first | refine Mem.tkN 51 ?r478 | (refine Mem.tkV 51 ?v478 ?y478 ?r478; case y478 => (intro w hSw; obtain ⟨hT0, hT1, hT2, hT3, hT4, hT5⟩ := hCl.out w hSw; clear hSw; go_simp; try with_reducible rfl))
          try simp only [Mem.pa, Mem.pb, Mem.pc, Act.put, Mem.pd, Mem.pe, Mem.pf]
          first | refine Mem.tkN 52 ?r479 | (refine Mem.tkV 52 ?v479 ?y479 ?r479; case y479 => (intro w hSw; clear hSw; go_simp; try with_reducible rfl))
          try simp only [Mem.pa, Mem.pb, Mem.pc, Act.put, Mem.pd, Mem.pe, Mem.pf]
          first | refine Mem.tkN 53 ?r480 | (refine Mem.tkV 53 ?v480 ?y480 ?r480; case y480 => (intro w hSw; clear hSw; go_simp; try with_reducible rfl))
          refine Mem.tkV 54 ?v481 ?y481 ?r481
          case y481 => (intro w hSw; clear hSw; go_simp; try with_reducible rfl)
          try simp only [Mem.pa, Mem.pb, Mem.pc, Act.put, Mem.pd, Mem.pe, Mem.pf]
          refine wpAnyH_done (by kernel_rfl) ?_ _
          clear hCl
          go_wp2_with fail
          go_ret
          exact ⟨ret_bool HV.out.symm, hbr.trans (((Below.refl _ _).drew.trans hHeld).mono hbr.size)⟩
        have d2 : decide (x.blk < 0) = false := decide_eq_false h2
        cases h5 : rightN x.pa x.pd.length with
        | false =>
          rw [mayF_p h5] at hv
          have HV := Lib.hid hv
          have CC := Lib.hid (fun w' => right_any x.pa A1 x.pd.length c1 w' hp1)
          rw [h5] at CC
          clear hv h5 h2
          go_wp2_with fail
          refine wp_region_held_drew (S := Go.RowKit.Below ((wr.drew).heap.size) (wr.drew)) (by kernel_rfl) ?hb487 (fun hHeld => ?rest487)
          case hb487 =>
            exact Go.RowKit.Below.refl _ _
          case' rest487 => skip
          have hCl := fun (wS : World) (hSw : Go.RowKit.Below ((wr.drew).heap.size) (wr.drew) wS) => And.intro (Mem.bl_cell hSw e0 (by first | omega | (dsimp only; omega) | exact World.block_lt_of_cell? _ _ e0 | (simp <;> omega))) <| And.intro (Mem.bl_cell hSw e1 (by first | omega | (dsimp only; omega) | exact World.block_lt_of_cell? _ _ e1 | (simp <;> omega))) <| And.intro (Mem.bl_cell hSw e2 (by first | omega | (dsimp only; omega) | exact World.block_lt_of_cell? _ _ e2 | (simp <;> omega))) <| And.intro (Mem.bl_cell hSw e3 (by first | omega | (dsimp only; omega) | exact World.block_lt_of_cell? _ _ e3 | (simp <;> omega))) <| And.intro (Mem.bl_cell hSw e4 (by first | omega | (dsimp only; omega) | exact World.block_lt_of_cell? _ _ e4 | (simp <;> omega))) <| Mem.bl_cell hSw e5 (by first | omega | (dsimp only; omega) | exact World.block_lt_of_cell? _ _ e5 | (simp <;> omega))
          replace hCl := Go.Lib.hid hCl
          refine Mem.tkV 0 ?v488 ?y488 ?r488
          case y488 => (intro w hSw; clear hSw; go_simp; try with_reducible rfl)
          refine Mem.tkV 1 ?v489 ?y489 ?r489
          case y489 => (intro w hSw; clear hSw; go_simp; try with_reducible rfl)
          refine Mem.tkV 2 ?v490 ?y490 ?r490
          case y490 => (intro w hSw; clear hSw; go_simp; try with_reducible rfl)
          try simp only [Mem.pa, Mem.pb, Mem.pc, Act.put, Mem.pd, Mem.pe, Mem.pf]
          refine Mem.tkV 3 ?v491 ?y491 ?r491
          case y491 => (intro w hSw; clear hSw; go_simp; try with_reducible rfl)
          refine Mem.tkV 4 ?v492 ?y492 ?r492
          case y492 => (intro w hSw; obtain ⟨hT0, hT1, hT2, hT3, hT4, hT5⟩ := hCl.out w hSw; clear hSw; go_simp; try with_reducible rfl)
          refine Mem.tkV 5 ?v493 ?y493 ?r493
          case y493 => (intro w hSw; clear hSw; go_simp; try with_reducible rfl)
          try simp only [Mem.pa, Mem.pb, Mem.pc, Act.put, Mem.pd, Mem.pe, Mem.pf]
          refine Mem.tkV 6 ?v494 ?y494 ?r494
          case y494 => (intro w hSw; clear hSw; go_simp; try with_reducible rfl)
          try simp only [Mem.pa, Mem.pb, Mem.pc, Act.put, Mem.pd, Mem.pe, Mem.pf]
          first | refine Mem.tkN 7 ?r495 | (refine Mem.tkV 7 ?v495 ?y495 ?r495; case y495 => (intro w hSw; clear hSw; go_simp; try with_reducible rfl))
          try simp only [Mem.pa, Mem.pb, Mem.pc, Act.put, Mem.pd, Mem.pe, Mem.pf]
          first | refine Mem.tkN 8 ?r496 | (refine Mem.tkV 8 ?v496 ?y496 ?r496; case y496 => (intro w hSw; clear hSw; go_simp; try with_reducible rfl))
          try simp only [Mem.pa, Mem.pb, Mem.pc, Act.put, Mem.pd, Mem.pe, Mem.pf]
          first | refine Mem.tkN 9 ?r497 | (refine Mem.tkV 9 ?v497 ?y497 ?r497; case y497 => (intro w hSw; clear hSw; go_simp; try with_reducible rfl))
          try simp only [Mem.pa, Mem.pb, Mem.pc, Act.put, Mem.pd, Mem.pe, Mem.pf]
          first | refine Mem.tkN 10 ?r498 | (refine Mem.tkV 10 ?v498 ?y498 ?r498; case y498 => (intro w hSw; clear hSw; go_simp; try with_reducible rfl))
          try simp only [Mem.pa, Mem.pb, Mem.pc, Act.put, Mem.pd, Mem.pe, Mem.pf]
          first | refine Mem.tkN 11 ?r499 | (refine Mem.tkV 11 ?v499 ?y499 ?r499; case y499 => (intro w hSw; clear hSw; go_simp; try with_reducible rfl))
          try simp only [Mem.pa, Mem.pb, Mem.pc, Act.put, Mem.pd, Mem.pe, Mem.pf]
          first | refine Mem.tkN 12 ?r500 | (refine Mem.tkV 12 ?v500 ?y500 ?r500; case y500 => (intro w hSw; clear hSw; go_simp; try with_reducible rfl))
          try simp only [Mem.pa, Mem.pb, Mem.pc, Act.put, Mem.pd, Mem.pe, Mem.pf]
          first | refine Mem.tkN 13 ?r501 | (refine Mem.tkV 13 ?v501 ?y501 ?r501; case y501 => (intro w hSw; clear hSw; go_simp; try with_reducible rfl))
          try simp only [Mem.pa, Mem.pb, Mem.pc, Act.put, Mem.pd, Mem.pe, Mem.pf]
          first | refine Mem.tkN 14 ?r502 | (refine Mem.tkV 14 ?v502 ?y502 ?r502; case y502 => (intro w hSw; obtain ⟨hT0, hT1, hT2, hT3, hT4, hT5⟩ := hCl.out w hSw; clear hSw; go_simp; try with_reducible rfl))
          try simp only [Mem.pa, Mem.pb, Mem.pc, Act.put, Mem.pd, Mem.pe, Mem.pf]
          first | refine Mem.tkN 15 ?r503 | (refine Mem.tkV 15 ?v503 ?y503 ?r503; case y503 => (intro w hSw; clear hSw; go_simp; try with_reducible rfl))
          try simp only [Mem.pa, Mem.pb, Mem.pc, Act.put, Mem.pd, Mem.pe, Mem.pf]
          first | refine Mem.tkN 16 ?r504 | (refine Mem.tkV 16 ?v504 ?y504 ?r504; case y504 => (intro w hSw; clear hSw; go_simp; try with_reducible rfl))
          try simp only [Mem.pa, Mem.pb, Mem.pc, Act.put, Mem.pd, Mem.pe, Mem.pf]
          first | refine Mem.tkN 17 ?r505 | (refine Mem.tkV 17 ?v505 ?y505 ?r505; case y505 => (intro w hSw; clear hSw; go_simp; try with_reducible rfl))
          try simp only [Mem.pa, Mem.pb, Mem.pc, Act.put, Mem.pd, Mem.pe, Mem.pf]
          first | refine Mem.tkN 18 ?r506 | (refine Mem.tkV 18 ?v506 ?y506 ?r506; case y506 => (intro w hSw; clear hSw; go_simp; try with_reducible rfl))
          try simp only [Mem.pa, Mem.pb, Mem.pc, Act.put, Mem.pd, Mem.pe, Mem.pf]
          first | refine Mem.tkN 19 ?r507 | (refine Mem.tkV 19 ?v507 ?y507 ?r507; case y507 => (intro w hSw; clear hSw; go_simp; try with_reducible rfl))
          try simp only [Mem.pa, Mem.pb, Mem.pc, Act.put, Mem.pd, Mem.pe, Mem.pf]
          first | refine Mem.tkN 20 ?r508 | (refine Mem.tkV 20 ?v508 ?y508 ?r508; case y508 => (intro w hSw; obtain ⟨hT0, hT1, hT2, hT3, hT4, hT5⟩ := hCl.out w hSw; clear hSw; go_simp; try with_reducible rfl))
          try simp only [Mem.pa, Mem.pb, Mem.pc, Act.put, Mem.pd, Mem.pe, Mem.pf]
          first | refine Mem.tkN 21 ?r509 | (refine Mem.tkV 21 ?v509 ?y509 ?r509; case y509 => (intro w hSw; clear hSw; go_simp; try with_reducible rfl))
          try simp only [Mem.pa, Mem.pb, Mem.pc, Act.put, Mem.pd, Mem.pe, Mem.pf]
          first | refine Mem.tkN 22 ?r510 | (refine Mem.tkV 22 ?v510 ?y510 ?r510; case y510 => (intro w hSw; clear hSw; go_simp; try with_reducible rfl))
          refine Mem.tkV 23 ?v511 ?y511 ?r511
          case y511 => (intro w hSw; clear hSw; go_simp; try with_reducible rfl)
          refine Mem.tkV 24 ?v512 ?y512 ?r512
          case y512 => (intro w hSw; clear hSw; go_simp; try with_reducible rfl)
          try simp only [Mem.pa, Mem.pb, Mem.pc, Act.put, Mem.pd, Mem.pe, Mem.pf]
          first | refine Mem.tkN 25 ?r513 | (refine Mem.tkV 25 ?v513 ?y513 ?r513; case y513 => (intro w hSw; clear hSw; go_simp; try with_reducible rfl))
          try simp only [Mem.pa, Mem.pb, Mem.pc, Act.put, Mem.pd, Mem.pe, Mem.pf]
          first | refine Mem.tkN 26 ?r514 | (refine Mem.tkV 26 ?v514 ?y514 ?r514; case y514 => (intro w hSw; clear hSw; go_simp; try with_reducible rfl))
          try simp only [Mem.pa, Mem.pb, Mem.pc, Act.put, Mem.pd, Mem.pe, Mem.pf]
          first | refine Mem.tkN 27 ?r515 | (refine Mem.tkV 27 ?v515 ?y515 ?r515; case y515 => (intro w hSw; clear hSw; go_simp; try with_reducible rfl))
          try simp only [Mem.pa, Mem.pb, Mem.pc, Act.put, Mem.pd, Mem.pe, Mem.pf]
          first | refine Mem.tkN 28 ?r516 | (refine Mem.tkV 28 ?v516 ?y516 ?r516; case y516 => (intro w hSw; clear hSw; go_simp; try with_reducible rfl))
          try simp only [Mem.pa, Mem.pb, Mem.pc, Act.put, Mem.pd, Mem.pe, Mem.pf]
          first | refine Mem.tkN 29 ?r517 | (refine Mem.tkV 29 ?v517 ?y517 ?r517; case y517 => (intro w hSw; obtain ⟨hT0, hT1, hT2, hT3, hT4, hT5⟩ := hCl.out w hSw; clear hSw; go_simp; try with_reducible rfl))
          try simp only [Mem.pa, Mem.pb, Mem.pc, Act.put, Mem.pd, Mem.pe, Mem.pf]
          first | refine Mem.tkN 30 ?r518 | (refine Mem.tkV 30 ?v518 ?y518 ?r518; case y518 => (intro w hSw; clear hSw; go_simp; try with_reducible rfl))
          refine Mem.tkV 31 ?v519 ?y519 ?r519
          case y519 => (intro w hSw; clear hSw; go_simp; try with_reducible rfl)
          refine Mem.tkV 32 ?v520 ?y520 ?r520
          case y520 => (intro w hSw; clear hSw; go_simp; try with_reducible rfl)
          try simp only [Mem.pa, Mem.pb, Mem.pc, Act.put, Mem.pd, Mem.pe, Mem.pf]
          first | refine Mem.tkN 33 ?r521 | (refine Mem.tkV 33 ?v521 ?y521 ?r521; case y521 => (intro w hSw; clear hSw; go_simp; try with_reducible rfl))
          try simp only [Mem.pa, Mem.pb, Mem.pc, Act.put, Mem.pd, Mem.pe, Mem.pf]
          first | refine Mem.tkN 34 ?r522 | (refine Mem.tkV 34 ?v522 ?y522 ?r522; case y522 => (intro w hSw; clear hSw; go_simp; try with_reducible rfl))
          try simp only [Mem.pa, Mem.pb, Mem.pc, Act.put, Mem.pd, Mem.pe, Mem.pf]
          first | refine Mem.tkN 35 ?r523 | (refine Mem.tkV 35 ?v523 ?y523 ?r523; case y523 => (intro w hSw; clear hSw; go_simp; try with_reducible rfl))
          try simp only [Mem.pa, Mem.pb, Mem.pc, Act.put, Mem.pd, Mem.pe, Mem.pf]
          first | refine Mem.tkN 36 ?r524 | (refine Mem.tkV 36 ?v524 ?y524 ?r524; case y524 => (intro w hSw; clear hSw; go_simp; try with_reducible rfl))
          try simp only [Mem.pa, Mem.pb, Mem.pc, Act.put, Mem.pd, Mem.pe, Mem.pf]
          first | refine Mem.tkN 37 ?r525 | (refine Mem.tkV 37 ?v525 ?y525 ?r525; case y525 => (intro w hSw; obtain ⟨hT0, hT1, hT2, hT3, hT4, hT5⟩ := hCl.out w hSw; clear hSw; go_simp; try with_reducible rfl))
          try simp only [Mem.pa, Mem.pb, Mem.pc, Act.put, Mem.pd, Mem.pe, Mem.pf]
          refine wpAnyH_ready (rs := [38]) (by kernel_rfl) (by simp) ?_
          refine AllReadyH.cons rfl (fun K hK => ?_) AllReadyH.nil
          go_simp
          (refine (CC.out _).mono ?_; rintro e wb ⟨rfl, hbl⟩)
          try go_wp2_with fail
          have hSnew := Mem.bl_step hHeld hbl (by first | exact Nat.le_refl _ | omega | (simp <;> omega))
          refine hK.out _ _ ?_ (fun hHeld2 => ?_)
          · exact hSnew
          try replace hn := hn.below hbl
          clear hbl
          clear hK K hHeld hSnew
          have hHeld := hHeld2
          clear hHeld2
          try simp only [Mem.pa, Mem.pb, Mem.pc, Act.put, Mem.pd, Mem.pe, Mem.pf]
          first | refine Mem.tkN 39 ?r526 | (refine Mem.tkV 39 ?v526 ?y526 ?r526; case y526 => (intro w hSw; clear hSw; go_simp; try with_reducible rfl))
          refine Mem.tkV 40 ?v527 ?y527 ?r527
          case y527 => (intro w hSw; clear hSw; go_simp; try with_reducible rfl)
          refine Mem.tkV 41 ?v528 ?y528 ?r528
          case y528 => (intro w hSw; clear hSw; go_simp; try with_reducible rfl)
          try simp only [Mem.pa, Mem.pb, Mem.pc, Act.put, Mem.pd, Mem.pe, Mem.pf]
          first | refine Mem.tkN 42 ?r529 | (refine Mem.tkV 42 ?v529 ?y529 ?r529; case y529 => (intro w hSw; clear hSw; go_simp; try with_reducible rfl))
          try simp only [Mem.pa, Mem.pb, Mem.pc, Act.put, Mem.pd, Mem.pe, Mem.pf]
          first | refine Mem.tkN 43 ?r530 | (refine Mem.tkV 43 ?v530 ?y530 ?r530; case y530 => (intro w hSw; clear hSw; go_simp; try with_reducible rfl))
          try simp only [Mem.pa, Mem.pb, Mem.pc, Act.put, Mem.pd, Mem.pe, Mem.pf]
          first | refine Mem.tkN 44 ?r531 | (refine Mem.tkV 44 ?v531 ?y531 ?r531; case y531 => (intro w hSw; clear hSw; go_simp; try with_reducible rfl))
          try simp only [Mem.pa, Mem.pb, Mem.pc, Act.put, Mem.pd, Mem.pe, Mem.pf]
          first | refine Mem.tkN 45 ?r532 | (refine Mem.tkV 45 ?v532 ?y532 ?r532; case y532 => (intro w hSw; clear hSw; go_simp; try with_reducible rfl))
          try simp only [Mem.pa, Mem.pb, Mem.pc, Act.put, Mem.pd, Mem.pe, Mem.pf]
          first | refine Mem.tkN 46 ?r533 | (refine Mem.tkV 46 ?v533 ?y533 ?r533; case y533 => (intro w hSw; obtain ⟨hT0, hT1, hT2, hT3, hT4, hT5⟩ := hCl.out w hSw; clear hSw; go_simp; try with_reducible rfl))
          try simp only [Mem.pa, Mem.pb, Mem.pc, Act.put, Mem.pd, Mem.pe, Mem.pf]
          first | refine Mem.tkN 47 ?r534 | (refine Mem.tkV 47 ?v534 ?y534 ?r534; case y534 => (intro w hSw; clear hSw; go_simp; try with_reducible rfl))
          try simp only [Mem.pa, Mem.pb, Mem.pc, Act.put, Mem.pd, Mem.pe, Mem.pf]
          first | refine Mem.tkN 48 ?r535 | (refine Mem.tkV 48 ?v535 ?y535 ?r535; case y535 => (intro w hSw; clear hSw; go_simp; try with_reducible rfl))
          try simp only [Mem.pa, Mem.pb, Mem.pc, Act.put, Mem.pd, Mem.pe, Mem.pf]
          first | refine Mem.tkN 49 ?r536 | (refine Mem.tkV 49 ?v536 ?y536 ?r536; case y536 => (intro w hSw; clear hSw; go_simp; try with_reducible rfl))
          try simp only [Mem.pa, Mem.pb, Mem.pc, Act.put, Mem.pd, Mem.pe, Mem.pf]
          first | refine Mem.tkN 50 ?r537 | (refine Mem.tkV 50 ?v537 ?y537 ?r537; case y537 => (intro w hSw; clear hSw; go_simp; try with_reducible rfl))
          try simp only [Mem.pa, Mem.pb, Mem.pc, Act.put, Mem.pd, Mem.pe, Mem.pf]
          first | refine Mem.tkN 51 ?r538 | (refine Mem.tkV 51 ?v538 ?y538 ?r538; case y538 => (intro w hSw; obtain ⟨hT0, hT1, hT2, hT3, hT4, hT5⟩ := hCl.out w hSw; clear hSw; go_simp; try with_reducible rfl))
          try simp only [Mem.pa, Mem.pb, Mem.pc, Act.put, Mem.pd, Mem.pe, Mem.pf]
          first | refine Mem.tkN 52 ?r539 | (refine Mem.tkV 52 ?v539 ?y539 ?r539; case y539 => (intro w hSw; clear hSw; go_simp; try with_reducible rfl))
          try simp only [Mem.pa, Mem.pb, Mem.pc, Act.put, Mem.pd, Mem.pe, Mem.pf]
          first | refine Mem.tkN 53 ?r540 | (refine Mem.tkV 53 ?v540 ?y540 ?r540; case y540 => (intro w hSw; clear hSw; go_simp; try with_reducible rfl))
          refine Mem.tkV 54 ?v541 ?y541 ?r541
          case y541 => (intro w hSw; clear hSw; go_simp; try with_reducible rfl)
          try simp only [Mem.pa, Mem.pb, Mem.pc, Act.put, Mem.pd, Mem.pe, Mem.pf]
          refine wpAnyH_done (by kernel_rfl) ?_ _
          clear hCl
          go_wp2_with fail
          go_ret
          exact ⟨ret_bool HV.out.symm, hbr.trans (((Below.refl _ _).drew.trans hHeld).mono hbr.size)⟩
        | true =>
          have CC := Lib.hid (fun w' => right_any x.pa A1 x.pd.length c1 w' hp1)
          have CR := Lib.hid (fun w' h => rrise_any A2 c2 x.needs x.id w' h)
          rw [h5] at CC
          cases h6 : riseF x.id 0 x.needs with
          | false =>
            rw [mayF_n h6] at hv
            rw [h6] at CR
            have HV := Lib.hid hv
            clear hv h5 h6 h2
            go_wp2_with fail
            refine wp_region_held_drew (S := Go.RowKit.Below ((wr.drew).heap.size) (wr.drew)) (by kernel_rfl) ?hb548 (fun hHeld => ?rest548)
            case hb548 =>
              exact Go.RowKit.Below.refl _ _
            case' rest548 => skip
            have hCl := fun (wS : World) (hSw : Go.RowKit.Below ((wr.drew).heap.size) (wr.drew) wS) => And.intro (Mem.bl_cell hSw e0 (by first | omega | (dsimp only; omega) | exact World.block_lt_of_cell? _ _ e0 | (simp <;> omega))) <| And.intro (Mem.bl_cell hSw e1 (by first | omega | (dsimp only; omega) | exact World.block_lt_of_cell? _ _ e1 | (simp <;> omega))) <| And.intro (Mem.bl_cell hSw e2 (by first | omega | (dsimp only; omega) | exact World.block_lt_of_cell? _ _ e2 | (simp <;> omega))) <| And.intro (Mem.bl_cell hSw e3 (by first | omega | (dsimp only; omega) | exact World.block_lt_of_cell? _ _ e3 | (simp <;> omega))) <| And.intro (Mem.bl_cell hSw e4 (by first | omega | (dsimp only; omega) | exact World.block_lt_of_cell? _ _ e4 | (simp <;> omega))) <| Mem.bl_cell hSw e5 (by first | omega | (dsimp only; omega) | exact World.block_lt_of_cell? _ _ e5 | (simp <;> omega))
            replace hCl := Go.Lib.hid hCl
            refine Mem.tkV 0 ?v549 ?y549 ?r549
            case y549 => (intro w hSw; clear hSw; go_simp; try with_reducible rfl)
            refine Mem.tkV 1 ?v550 ?y550 ?r550
            case y550 => (intro w hSw; clear hSw; go_simp; try with_reducible rfl)
            refine Mem.tkV 2 ?v551 ?y551 ?r551
            case y551 => (intro w hSw; clear hSw; go_simp; try with_reducible rfl)
            try simp only [Mem.pa, Mem.pb, Mem.pc, Act.put, Mem.pd, Mem.pe, Mem.pf]
            refine Mem.tkV 3 ?v552 ?y552 ?r552
            case y552 => (intro w hSw; clear hSw; go_simp; try with_reducible rfl)
            refine Mem.tkV 4 ?v553 ?y553 ?r553
            case y553 => (intro w hSw; obtain ⟨hT0, hT1, hT2, hT3, hT4, hT5⟩ := hCl.out w hSw; clear hSw; go_simp; try with_reducible rfl)
            refine Mem.tkV 5 ?v554 ?y554 ?r554
            case y554 => (intro w hSw; clear hSw; go_simp; try with_reducible rfl)
            try simp only [Mem.pa, Mem.pb, Mem.pc, Act.put, Mem.pd, Mem.pe, Mem.pf]
            refine Mem.tkV 6 ?v555 ?y555 ?r555
            case y555 => (intro w hSw; clear hSw; go_simp; try with_reducible rfl)
            try simp only [Mem.pa, Mem.pb, Mem.pc, Act.put, Mem.pd, Mem.pe, Mem.pf]
            first | refine Mem.tkN 7 ?r556 | (refine Mem.tkV 7 ?v556 ?y556 ?r556; case y556 => (intro w hSw; clear hSw; go_simp; try with_reducible rfl))
            try simp only [Mem.pa, Mem.pb, Mem.pc, Act.put, Mem.pd, Mem.pe, Mem.pf]
            first | refine Mem.tkN 8 ?r557 | (refine Mem.tkV 8 ?v557 ?y557 ?r557; case y557 => (intro w hSw; clear hSw; go_simp; try with_reducible rfl))
            try simp only [Mem.pa, Mem.pb, Mem.pc, Act.put, Mem.pd, Mem.pe, Mem.pf]
            first | refine Mem.tkN 9 ?r558 | (refine Mem.tkV 9 ?v558 ?y558 ?r558; case y558 => (intro w hSw; clear hSw; go_simp; try with_reducible rfl))
            try simp only [Mem.pa, Mem.pb, Mem.pc, Act.put, Mem.pd, Mem.pe, Mem.pf]
            first | refine Mem.tkN 10 ?r559 | (refine Mem.tkV 10 ?v559 ?y559 ?r559; case y559 => (intro w hSw; clear hSw; go_simp; try with_reducible rfl))
            try simp only [Mem.pa, Mem.pb, Mem.pc, Act.put, Mem.pd, Mem.pe, Mem.pf]
            first | refine Mem.tkN 11 ?r560 | (refine Mem.tkV 11 ?v560 ?y560 ?r560; case y560 => (intro w hSw; clear hSw; go_simp; try with_reducible rfl))
            try simp only [Mem.pa, Mem.pb, Mem.pc, Act.put, Mem.pd, Mem.pe, Mem.pf]
            first | refine Mem.tkN 12 ?r561 | (refine Mem.tkV 12 ?v561 ?y561 ?r561; case y561 => (intro w hSw; clear hSw; go_simp; try with_reducible rfl))
            try simp only [Mem.pa, Mem.pb, Mem.pc, Act.put, Mem.pd, Mem.pe, Mem.pf]
            first | refine Mem.tkN 13 ?r562 | (refine Mem.tkV 13 ?v562 ?y562 ?r562; case y562 => (intro w hSw; clear hSw; go_simp; try with_reducible rfl))
            try simp only [Mem.pa, Mem.pb, Mem.pc, Act.put, Mem.pd, Mem.pe, Mem.pf]
            first | refine Mem.tkN 14 ?r563 | (refine Mem.tkV 14 ?v563 ?y563 ?r563; case y563 => (intro w hSw; obtain ⟨hT0, hT1, hT2, hT3, hT4, hT5⟩ := hCl.out w hSw; clear hSw; go_simp; try with_reducible rfl))
            try simp only [Mem.pa, Mem.pb, Mem.pc, Act.put, Mem.pd, Mem.pe, Mem.pf]
            first | refine Mem.tkN 15 ?r564 | (refine Mem.tkV 15 ?v564 ?y564 ?r564; case y564 => (intro w hSw; clear hSw; go_simp; try with_reducible rfl))
            try simp only [Mem.pa, Mem.pb, Mem.pc, Act.put, Mem.pd, Mem.pe, Mem.pf]
            first | refine Mem.tkN 16 ?r565 | (refine Mem.tkV 16 ?v565 ?y565 ?r565; case y565 => (intro w hSw; clear hSw; go_simp; try with_reducible rfl))
            try simp only [Mem.pa, Mem.pb, Mem.pc, Act.put, Mem.pd, Mem.pe, Mem.pf]
            first | refine Mem.tkN 17 ?r566 | (refine Mem.tkV 17 ?v566 ?y566 ?r566; case y566 => (intro w hSw; clear hSw; go_simp; try with_reducible rfl))
            try simp only [Mem.pa, Mem.pb, Mem.pc, Act.put, Mem.pd, Mem.pe, Mem.pf]
            first | refine Mem.tkN 18 ?r567 | (refine Mem.tkV 18 ?v567 ?y567 ?r567; case y567 => (intro w hSw; clear hSw; go_simp; try with_reducible rfl))
            try simp only [Mem.pa, Mem.pb, Mem.pc, Act.put, Mem.pd, Mem.pe, Mem.pf]
            first | refine Mem.tkN 19 ?r568 | (refine Mem.tkV 19 ?v568 ?y568 ?r568; case y568 => (intro w hSw; clear hSw; go_simp; try with_reducible rfl))
            try simp only [Mem.pa, Mem.pb, Mem.pc, Act.put, Mem.pd, Mem.pe, Mem.pf]
            first | refine Mem.tkN 20 ?r569 | (refine Mem.tkV 20 ?v569 ?y569 ?r569; case y569 => (intro w hSw; obtain ⟨hT0, hT1, hT2, hT3, hT4, hT5⟩ := hCl.out w hSw; clear hSw; go_simp; try with_reducible rfl))
            try simp only [Mem.pa, Mem.pb, Mem.pc, Act.put, Mem.pd, Mem.pe, Mem.pf]
            first | refine Mem.tkN 21 ?r570 | (refine Mem.tkV 21 ?v570 ?y570 ?r570; case y570 => (intro w hSw; clear hSw; go_simp; try with_reducible rfl))
            try simp only [Mem.pa, Mem.pb, Mem.pc, Act.put, Mem.pd, Mem.pe, Mem.pf]
            first | refine Mem.tkN 22 ?r571 | (refine Mem.tkV 22 ?v571 ?y571 ?r571; case y571 => (intro w hSw; clear hSw; go_simp; try with_reducible rfl))
            refine Mem.tkV 23 ?v572 ?y572 ?r572
            case y572 => (intro w hSw; clear hSw; go_simp; try with_reducible rfl)
            refine Mem.tkV 24 ?v573 ?y573 ?r573
            case y573 => (intro w hSw; clear hSw; go_simp; try with_reducible rfl)
            try simp only [Mem.pa, Mem.pb, Mem.pc, Act.put, Mem.pd, Mem.pe, Mem.pf]
            first | refine Mem.tkN 25 ?r574 | (refine Mem.tkV 25 ?v574 ?y574 ?r574; case y574 => (intro w hSw; clear hSw; go_simp; try with_reducible rfl))
            try simp only [Mem.pa, Mem.pb, Mem.pc, Act.put, Mem.pd, Mem.pe, Mem.pf]
            first | refine Mem.tkN 26 ?r575 | (refine Mem.tkV 26 ?v575 ?y575 ?r575; case y575 => (intro w hSw; clear hSw; go_simp; try with_reducible rfl))
            try simp only [Mem.pa, Mem.pb, Mem.pc, Act.put, Mem.pd, Mem.pe, Mem.pf]
            first | refine Mem.tkN 27 ?r576 | (refine Mem.tkV 27 ?v576 ?y576 ?r576; case y576 => (intro w hSw; clear hSw; go_simp; try with_reducible rfl))
            try simp only [Mem.pa, Mem.pb, Mem.pc, Act.put, Mem.pd, Mem.pe, Mem.pf]
            first | refine Mem.tkN 28 ?r577 | (refine Mem.tkV 28 ?v577 ?y577 ?r577; case y577 => (intro w hSw; clear hSw; go_simp; try with_reducible rfl))
            try simp only [Mem.pa, Mem.pb, Mem.pc, Act.put, Mem.pd, Mem.pe, Mem.pf]
            first | refine Mem.tkN 29 ?r578 | (refine Mem.tkV 29 ?v578 ?y578 ?r578; case y578 => (intro w hSw; obtain ⟨hT0, hT1, hT2, hT3, hT4, hT5⟩ := hCl.out w hSw; clear hSw; go_simp; try with_reducible rfl))
            try simp only [Mem.pa, Mem.pb, Mem.pc, Act.put, Mem.pd, Mem.pe, Mem.pf]
            first | refine Mem.tkN 30 ?r579 | (refine Mem.tkV 30 ?v579 ?y579 ?r579; case y579 => (intro w hSw; clear hSw; go_simp; try with_reducible rfl))
            refine Mem.tkV 31 ?v580 ?y580 ?r580
            case y580 => (intro w hSw; clear hSw; go_simp; try with_reducible rfl)
            refine Mem.tkV 32 ?v581 ?y581 ?r581
            case y581 => (intro w hSw; clear hSw; go_simp; try with_reducible rfl)
            try simp only [Mem.pa, Mem.pb, Mem.pc, Act.put, Mem.pd, Mem.pe, Mem.pf]
            first | refine Mem.tkN 33 ?r582 | (refine Mem.tkV 33 ?v582 ?y582 ?r582; case y582 => (intro w hSw; clear hSw; go_simp; try with_reducible rfl))
            try simp only [Mem.pa, Mem.pb, Mem.pc, Act.put, Mem.pd, Mem.pe, Mem.pf]
            first | refine Mem.tkN 34 ?r583 | (refine Mem.tkV 34 ?v583 ?y583 ?r583; case y583 => (intro w hSw; clear hSw; go_simp; try with_reducible rfl))
            try simp only [Mem.pa, Mem.pb, Mem.pc, Act.put, Mem.pd, Mem.pe, Mem.pf]
            first | refine Mem.tkN 35 ?r584 | (refine Mem.tkV 35 ?v584 ?y584 ?r584; case y584 => (intro w hSw; clear hSw; go_simp; try with_reducible rfl))
            try simp only [Mem.pa, Mem.pb, Mem.pc, Act.put, Mem.pd, Mem.pe, Mem.pf]
            first | refine Mem.tkN 36 ?r585 | (refine Mem.tkV 36 ?v585 ?y585 ?r585; case y585 => (intro w hSw; clear hSw; go_simp; try with_reducible rfl))
            try simp only [Mem.pa, Mem.pb, Mem.pc, Act.put, Mem.pd, Mem.pe, Mem.pf]
            first | refine Mem.tkN 37 ?r586 | (refine Mem.tkV 37 ?v586 ?y586 ?r586; case y586 => (intro w hSw; obtain ⟨hT0, hT1, hT2, hT3, hT4, hT5⟩ := hCl.out w hSw; clear hSw; go_simp; try with_reducible rfl))
            try simp only [Mem.pa, Mem.pb, Mem.pc, Act.put, Mem.pd, Mem.pe, Mem.pf]
            refine wpAnyH_ready (rs := [38]) (by kernel_rfl) (by simp) ?_
            refine AllReadyH.cons rfl (fun K hK => ?_) AllReadyH.nil
            go_simp
            (refine (CC.out _).mono ?_; rintro e wb ⟨rfl, hbl⟩)
            try go_wp2_with fail
            have hSnew := Mem.bl_step hHeld hbl (by first | exact Nat.le_refl _ | omega | (simp <;> omega))
            refine hK.out _ _ ?_ (fun hHeld2 => ?_)
            · exact hSnew
            try replace hn := hn.below hbl
            clear hbl
            clear hK K hHeld hSnew
            have hHeld := hHeld2
            clear hHeld2
            try simp only [Mem.pa, Mem.pb, Mem.pc, Act.put, Mem.pd, Mem.pe, Mem.pf]
            first | refine Mem.tkN 39 ?r587 | (refine Mem.tkV 39 ?v587 ?y587 ?r587; case y587 => (intro w hSw; clear hSw; go_simp; try with_reducible rfl))
            refine Mem.tkV 40 ?v588 ?y588 ?r588
            case y588 => (intro w hSw; clear hSw; go_simp; try with_reducible rfl)
            refine Mem.tkV 41 ?v589 ?y589 ?r589
            case y589 => (intro w hSw; clear hSw; go_simp; try with_reducible rfl)
            try simp only [Mem.pa, Mem.pb, Mem.pc, Act.put, Mem.pd, Mem.pe, Mem.pf]
            first | refine Mem.tkN 42 ?r590 | (refine Mem.tkV 42 ?v590 ?y590 ?r590; case y590 => (intro w hSw; clear hSw; go_simp; try with_reducible rfl))
            try simp only [Mem.pa, Mem.pb, Mem.pc, Act.put, Mem.pd, Mem.pe, Mem.pf]
            first | refine Mem.tkN 43 ?r591 | (refine Mem.tkV 43 ?v591 ?y591 ?r591; case y591 => (intro w hSw; clear hSw; go_simp; try with_reducible rfl))
            try simp only [Mem.pa, Mem.pb, Mem.pc, Act.put, Mem.pd, Mem.pe, Mem.pf]
            first | refine Mem.tkN 44 ?r592 | (refine Mem.tkV 44 ?v592 ?y592 ?r592; case y592 => (intro w hSw; clear hSw; go_simp; try with_reducible rfl))
            try simp only [Mem.pa, Mem.pb, Mem.pc, Act.put, Mem.pd, Mem.pe, Mem.pf]
            first | refine Mem.tkN 45 ?r593 | (refine Mem.tkV 45 ?v593 ?y593 ?r593; case y593 => (intro w hSw; clear hSw; go_simp; try with_reducible rfl))
            try simp only [Mem.pa, Mem.pb, Mem.pc, Act.put, Mem.pd, Mem.pe, Mem.pf]
            first | refine Mem.tkN 46 ?r594 | (refine Mem.tkV 46 ?v594 ?y594 ?r594; case y594 => (intro w hSw; obtain ⟨hT0, hT1, hT2, hT3, hT4, hT5⟩ := hCl.out w hSw; clear hSw; go_simp; try with_reducible rfl))
            try simp only [Mem.pa, Mem.pb, Mem.pc, Act.put, Mem.pd, Mem.pe, Mem.pf]
            first | refine Mem.tkN 47 ?r595 | (refine Mem.tkV 47 ?v595 ?y595 ?r595; case y595 => (intro w hSw; clear hSw; go_simp; try with_reducible rfl))
            try simp only [Mem.pa, Mem.pb, Mem.pc, Act.put, Mem.pd, Mem.pe, Mem.pf]
            first | refine Mem.tkN 48 ?r596 | (refine Mem.tkV 48 ?v596 ?y596 ?r596; case y596 => (intro w hSw; clear hSw; go_simp; try with_reducible rfl))
            try simp only [Mem.pa, Mem.pb, Mem.pc, Act.put, Mem.pd, Mem.pe, Mem.pf]
            first | refine Mem.tkN 49 ?r597 | (refine Mem.tkV 49 ?v597 ?y597 ?r597; case y597 => (intro w hSw; clear hSw; go_simp; try with_reducible rfl))
            try simp only [Mem.pa, Mem.pb, Mem.pc, Act.put, Mem.pd, Mem.pe, Mem.pf]
            first | refine Mem.tkN 50 ?r598 | (refine Mem.tkV 50 ?v598 ?y598 ?r598; case y598 => (intro w hSw; clear hSw; go_simp; try with_reducible rfl))
            try simp only [Mem.pa, Mem.pb, Mem.pc, Act.put, Mem.pd, Mem.pe, Mem.pf]
            first | refine Mem.tkN 51 ?r599 | (refine Mem.tkV 51 ?v599 ?y599 ?r599; case y599 => (intro w hSw; obtain ⟨hT0, hT1, hT2, hT3, hT4, hT5⟩ := hCl.out w hSw; clear hSw; go_simp; try with_reducible rfl))
            try simp only [Mem.pa, Mem.pb, Mem.pc, Act.put, Mem.pd, Mem.pe, Mem.pf]
            refine wpAnyH_ready (rs := [52]) (by kernel_rfl) (by simp) ?_
            refine AllReadyH.cons rfl (fun K hK => ?_) AllReadyH.nil
            go_simp
            (refine (CR.out _ hn).mono ?_; rintro e wb ⟨rfl, hbl⟩)
            try go_wp2_with fail
            have hSnew := Mem.bl_step hHeld hbl (by first | exact Nat.le_refl _ | omega | (simp <;> omega))
            refine hK.out _ _ ?_ (fun hHeld2 => ?_)
            · exact hSnew
            try replace hn := hn.below hbl
            clear hbl
            clear hK K hHeld hSnew
            have hHeld := hHeld2
            clear hHeld2
            try simp only [Mem.pa, Mem.pb, Mem.pc, Act.put, Mem.pd, Mem.pe, Mem.pf]
            first | refine Mem.tkN 53 ?r600 | (refine Mem.tkV 53 ?v600 ?y600 ?r600; case y600 => (intro w hSw; clear hSw; go_simp; try with_reducible rfl))
            refine Mem.tkV 54 ?v601 ?y601 ?r601
            case y601 => (intro w hSw; clear hSw; go_simp; try with_reducible rfl)
            try simp only [Mem.pa, Mem.pb, Mem.pc, Act.put, Mem.pd, Mem.pe, Mem.pf]
            refine wpAnyH_done (by kernel_rfl) ?_ _
            clear hCl
            go_wp2_with fail
            go_ret
            exact ⟨ret_bool HV.out.symm, hbr.trans (((Below.refl _ _).drew.trans hHeld).mono hbr.size)⟩
          | true =>
            rw [mayF_on (by have := X1.out; omega) h2 h5 h6] at hv
            rw [h6] at CR
            have HV := Lib.hid hv
            clear hv h5 h6 h2
            go_wp2_with fail
            refine wp_region_held_drew (S := Go.RowKit.Below ((wr.drew).heap.size) (wr.drew)) (by kernel_rfl) ?hb609 (fun hHeld => ?rest609)
            case hb609 =>
              exact Go.RowKit.Below.refl _ _
            case' rest609 => skip
            have hCl := fun (wS : World) (hSw : Go.RowKit.Below ((wr.drew).heap.size) (wr.drew) wS) => And.intro (Mem.bl_cell hSw e0 (by first | omega | (dsimp only; omega) | exact World.block_lt_of_cell? _ _ e0 | (simp <;> omega))) <| And.intro (Mem.bl_cell hSw e1 (by first | omega | (dsimp only; omega) | exact World.block_lt_of_cell? _ _ e1 | (simp <;> omega))) <| And.intro (Mem.bl_cell hSw e2 (by first | omega | (dsimp only; omega) | exact World.block_lt_of_cell? _ _ e2 | (simp <;> omega))) <| And.intro (Mem.bl_cell hSw e3 (by first | omega | (dsimp only; omega) | exact World.block_lt_of_cell? _ _ e3 | (simp <;> omega))) <| And.intro (Mem.bl_cell hSw e4 (by first | omega | (dsimp only; omega) | exact World.block_lt_of_cell? _ _ e4 | (simp <;> omega))) <| Mem.bl_cell hSw e5 (by first | omega | (dsimp only; omega) | exact World.block_lt_of_cell? _ _ e5 | (simp <;> omega))
            replace hCl := Go.Lib.hid hCl
            refine Mem.tkV 0 ?v610 ?y610 ?r610
            case y610 => (intro w hSw; clear hSw; go_simp; try with_reducible rfl)
            refine Mem.tkV 1 ?v611 ?y611 ?r611
            case y611 => (intro w hSw; clear hSw; go_simp; try with_reducible rfl)
            refine Mem.tkV 2 ?v612 ?y612 ?r612
            case y612 => (intro w hSw; clear hSw; go_simp; try with_reducible rfl)
            try simp only [Mem.pa, Mem.pb, Mem.pc, Act.put, Mem.pd, Mem.pe, Mem.pf]
            refine Mem.tkV 3 ?v613 ?y613 ?r613
            case y613 => (intro w hSw; clear hSw; go_simp; try with_reducible rfl)
            refine Mem.tkV 4 ?v614 ?y614 ?r614
            case y614 => (intro w hSw; obtain ⟨hT0, hT1, hT2, hT3, hT4, hT5⟩ := hCl.out w hSw; clear hSw; go_simp; try with_reducible rfl)
            refine Mem.tkV 5 ?v615 ?y615 ?r615
            case y615 => (intro w hSw; clear hSw; go_simp; try with_reducible rfl)
            try simp only [Mem.pa, Mem.pb, Mem.pc, Act.put, Mem.pd, Mem.pe, Mem.pf]
            refine Mem.tkV 6 ?v616 ?y616 ?r616
            case y616 => (intro w hSw; clear hSw; go_simp; try with_reducible rfl)
            try simp only [Mem.pa, Mem.pb, Mem.pc, Act.put, Mem.pd, Mem.pe, Mem.pf]
            first | refine Mem.tkN 7 ?r617 | (refine Mem.tkV 7 ?v617 ?y617 ?r617; case y617 => (intro w hSw; clear hSw; go_simp; try with_reducible rfl))
            try simp only [Mem.pa, Mem.pb, Mem.pc, Act.put, Mem.pd, Mem.pe, Mem.pf]
            first | refine Mem.tkN 8 ?r618 | (refine Mem.tkV 8 ?v618 ?y618 ?r618; case y618 => (intro w hSw; clear hSw; go_simp; try with_reducible rfl))
            try simp only [Mem.pa, Mem.pb, Mem.pc, Act.put, Mem.pd, Mem.pe, Mem.pf]
            first | refine Mem.tkN 9 ?r619 | (refine Mem.tkV 9 ?v619 ?y619 ?r619; case y619 => (intro w hSw; clear hSw; go_simp; try with_reducible rfl))
            try simp only [Mem.pa, Mem.pb, Mem.pc, Act.put, Mem.pd, Mem.pe, Mem.pf]
            first | refine Mem.tkN 10 ?r620 | (refine Mem.tkV 10 ?v620 ?y620 ?r620; case y620 => (intro w hSw; clear hSw; go_simp; try with_reducible rfl))
            try simp only [Mem.pa, Mem.pb, Mem.pc, Act.put, Mem.pd, Mem.pe, Mem.pf]
            first | refine Mem.tkN 11 ?r621 | (refine Mem.tkV 11 ?v621 ?y621 ?r621; case y621 => (intro w hSw; clear hSw; go_simp; try with_reducible rfl))
            try simp only [Mem.pa, Mem.pb, Mem.pc, Act.put, Mem.pd, Mem.pe, Mem.pf]
            first | refine Mem.tkN 12 ?r622 | (refine Mem.tkV 12 ?v622 ?y622 ?r622; case y622 => (intro w hSw; clear hSw; go_simp; try with_reducible rfl))
            try simp only [Mem.pa, Mem.pb, Mem.pc, Act.put, Mem.pd, Mem.pe, Mem.pf]
            first | refine Mem.tkN 13 ?r623 | (refine Mem.tkV 13 ?v623 ?y623 ?r623; case y623 => (intro w hSw; clear hSw; go_simp; try with_reducible rfl))
            try simp only [Mem.pa, Mem.pb, Mem.pc, Act.put, Mem.pd, Mem.pe, Mem.pf]
            first | refine Mem.tkN 14 ?r624 | (refine Mem.tkV 14 ?v624 ?y624 ?r624; case y624 => (intro w hSw; obtain ⟨hT0, hT1, hT2, hT3, hT4, hT5⟩ := hCl.out w hSw; clear hSw; go_simp; try with_reducible rfl))
            try simp only [Mem.pa, Mem.pb, Mem.pc, Act.put, Mem.pd, Mem.pe, Mem.pf]
            first | refine Mem.tkN 15 ?r625 | (refine Mem.tkV 15 ?v625 ?y625 ?r625; case y625 => (intro w hSw; clear hSw; go_simp; try with_reducible rfl))
            try simp only [Mem.pa, Mem.pb, Mem.pc, Act.put, Mem.pd, Mem.pe, Mem.pf]
            first | refine Mem.tkN 16 ?r626 | (refine Mem.tkV 16 ?v626 ?y626 ?r626; case y626 => (intro w hSw; clear hSw; go_simp; try with_reducible rfl))
            try simp only [Mem.pa, Mem.pb, Mem.pc, Act.put, Mem.pd, Mem.pe, Mem.pf]
            first | refine Mem.tkN 17 ?r627 | (refine Mem.tkV 17 ?v627 ?y627 ?r627; case y627 => (intro w hSw; clear hSw; go_simp; try with_reducible rfl))
            try simp only [Mem.pa, Mem.pb, Mem.pc, Act.put, Mem.pd, Mem.pe, Mem.pf]
            first | refine Mem.tkN 18 ?r628 | (refine Mem.tkV 18 ?v628 ?y628 ?r628; case y628 => (intro w hSw; clear hSw; go_simp; try with_reducible rfl))
            try simp only [Mem.pa, Mem.pb, Mem.pc, Act.put, Mem.pd, Mem.pe, Mem.pf]
            first | refine Mem.tkN 19 ?r629 | (refine Mem.tkV 19 ?v629 ?y629 ?r629; case y629 => (intro w hSw; clear hSw; go_simp; try with_reducible rfl))
            try simp only [Mem.pa, Mem.pb, Mem.pc, Act.put, Mem.pd, Mem.pe, Mem.pf]
            first | refine Mem.tkN 20 ?r630 | (refine Mem.tkV 20 ?v630 ?y630 ?r630; case y630 => (intro w hSw; obtain ⟨hT0, hT1, hT2, hT3, hT4, hT5⟩ := hCl.out w hSw; clear hSw; go_simp; try with_reducible rfl))
            try simp only [Mem.pa, Mem.pb, Mem.pc, Act.put, Mem.pd, Mem.pe, Mem.pf]
            first | refine Mem.tkN 21 ?r631 | (refine Mem.tkV 21 ?v631 ?y631 ?r631; case y631 => (intro w hSw; clear hSw; go_simp; try with_reducible rfl))
            try simp only [Mem.pa, Mem.pb, Mem.pc, Act.put, Mem.pd, Mem.pe, Mem.pf]
            first | refine Mem.tkN 22 ?r632 | (refine Mem.tkV 22 ?v632 ?y632 ?r632; case y632 => (intro w hSw; clear hSw; go_simp; try with_reducible rfl))
            refine Mem.tkV 23 ?v633 ?y633 ?r633
            case y633 => (intro w hSw; clear hSw; go_simp; try with_reducible rfl)
            refine Mem.tkV 24 ?v634 ?y634 ?r634
            case y634 => (intro w hSw; clear hSw; go_simp; try with_reducible rfl)
            try simp only [Mem.pa, Mem.pb, Mem.pc, Act.put, Mem.pd, Mem.pe, Mem.pf]
            first | refine Mem.tkN 25 ?r635 | (refine Mem.tkV 25 ?v635 ?y635 ?r635; case y635 => (intro w hSw; clear hSw; go_simp; try with_reducible rfl))
            try simp only [Mem.pa, Mem.pb, Mem.pc, Act.put, Mem.pd, Mem.pe, Mem.pf]
            first | refine Mem.tkN 26 ?r636 | (refine Mem.tkV 26 ?v636 ?y636 ?r636; case y636 => (intro w hSw; clear hSw; go_simp; try with_reducible rfl))
            try simp only [Mem.pa, Mem.pb, Mem.pc, Act.put, Mem.pd, Mem.pe, Mem.pf]
            first | refine Mem.tkN 27 ?r637 | (refine Mem.tkV 27 ?v637 ?y637 ?r637; case y637 => (intro w hSw; clear hSw; go_simp; try with_reducible rfl))
            try simp only [Mem.pa, Mem.pb, Mem.pc, Act.put, Mem.pd, Mem.pe, Mem.pf]
            first | refine Mem.tkN 28 ?r638 | (refine Mem.tkV 28 ?v638 ?y638 ?r638; case y638 => (intro w hSw; clear hSw; go_simp; try with_reducible rfl))
            try simp only [Mem.pa, Mem.pb, Mem.pc, Act.put, Mem.pd, Mem.pe, Mem.pf]
            first | refine Mem.tkN 29 ?r639 | (refine Mem.tkV 29 ?v639 ?y639 ?r639; case y639 => (intro w hSw; obtain ⟨hT0, hT1, hT2, hT3, hT4, hT5⟩ := hCl.out w hSw; clear hSw; go_simp; try with_reducible rfl))
            try simp only [Mem.pa, Mem.pb, Mem.pc, Act.put, Mem.pd, Mem.pe, Mem.pf]
            first | refine Mem.tkN 30 ?r640 | (refine Mem.tkV 30 ?v640 ?y640 ?r640; case y640 => (intro w hSw; clear hSw; go_simp; try with_reducible rfl))
            refine Mem.tkV 31 ?v641 ?y641 ?r641
            case y641 => (intro w hSw; clear hSw; go_simp; try with_reducible rfl)
            refine Mem.tkV 32 ?v642 ?y642 ?r642
            case y642 => (intro w hSw; clear hSw; go_simp; try with_reducible rfl)
            try simp only [Mem.pa, Mem.pb, Mem.pc, Act.put, Mem.pd, Mem.pe, Mem.pf]
            first | refine Mem.tkN 33 ?r643 | (refine Mem.tkV 33 ?v643 ?y643 ?r643; case y643 => (intro w hSw; clear hSw; go_simp; try with_reducible rfl))
            try simp only [Mem.pa, Mem.pb, Mem.pc, Act.put, Mem.pd, Mem.pe, Mem.pf]
            first | refine Mem.tkN 34 ?r644 | (refine Mem.tkV 34 ?v644 ?y644 ?r644; case y644 => (intro w hSw; clear hSw; go_simp; try with_reducible rfl))
            try simp only [Mem.pa, Mem.pb, Mem.pc, Act.put, Mem.pd, Mem.pe, Mem.pf]
            first | refine Mem.tkN 35 ?r645 | (refine Mem.tkV 35 ?v645 ?y645 ?r645; case y645 => (intro w hSw; clear hSw; go_simp; try with_reducible rfl))
            try simp only [Mem.pa, Mem.pb, Mem.pc, Act.put, Mem.pd, Mem.pe, Mem.pf]
            first | refine Mem.tkN 36 ?r646 | (refine Mem.tkV 36 ?v646 ?y646 ?r646; case y646 => (intro w hSw; clear hSw; go_simp; try with_reducible rfl))
            try simp only [Mem.pa, Mem.pb, Mem.pc, Act.put, Mem.pd, Mem.pe, Mem.pf]
            first | refine Mem.tkN 37 ?r647 | (refine Mem.tkV 37 ?v647 ?y647 ?r647; case y647 => (intro w hSw; obtain ⟨hT0, hT1, hT2, hT3, hT4, hT5⟩ := hCl.out w hSw; clear hSw; go_simp; try with_reducible rfl))
            try simp only [Mem.pa, Mem.pb, Mem.pc, Act.put, Mem.pd, Mem.pe, Mem.pf]
            refine wpAnyH_ready (rs := [38]) (by kernel_rfl) (by simp) ?_
            refine AllReadyH.cons rfl (fun K hK => ?_) AllReadyH.nil
            go_simp
            (refine (CC.out _).mono ?_; rintro e wb ⟨rfl, hbl⟩)
            try go_wp2_with fail
            have hSnew := Mem.bl_step hHeld hbl (by first | exact Nat.le_refl _ | omega | (simp <;> omega))
            refine hK.out _ _ ?_ (fun hHeld2 => ?_)
            · exact hSnew
            try replace hn := hn.below hbl
            clear hbl
            clear hK K hHeld hSnew
            have hHeld := hHeld2
            clear hHeld2
            try simp only [Mem.pa, Mem.pb, Mem.pc, Act.put, Mem.pd, Mem.pe, Mem.pf]
            first | refine Mem.tkN 39 ?r648 | (refine Mem.tkV 39 ?v648 ?y648 ?r648; case y648 => (intro w hSw; clear hSw; go_simp; try with_reducible rfl))
            refine Mem.tkV 40 ?v649 ?y649 ?r649
            case y649 => (intro w hSw; clear hSw; go_simp; try with_reducible rfl)
            refine Mem.tkV 41 ?v650 ?y650 ?r650
            case y650 => (intro w hSw; clear hSw; go_simp; try with_reducible rfl)
            try simp only [Mem.pa, Mem.pb, Mem.pc, Act.put, Mem.pd, Mem.pe, Mem.pf]
            first | refine Mem.tkN 42 ?r651 | (refine Mem.tkV 42 ?v651 ?y651 ?r651; case y651 => (intro w hSw; clear hSw; go_simp; try with_reducible rfl))
            try simp only [Mem.pa, Mem.pb, Mem.pc, Act.put, Mem.pd, Mem.pe, Mem.pf]
            first | refine Mem.tkN 43 ?r652 | (refine Mem.tkV 43 ?v652 ?y652 ?r652; case y652 => (intro w hSw; clear hSw; go_simp; try with_reducible rfl))
            try simp only [Mem.pa, Mem.pb, Mem.pc, Act.put, Mem.pd, Mem.pe, Mem.pf]
            first | refine Mem.tkN 44 ?r653 | (refine Mem.tkV 44 ?v653 ?y653 ?r653; case y653 => (intro w hSw; clear hSw; go_simp; try with_reducible rfl))
            try simp only [Mem.pa, Mem.pb, Mem.pc, Act.put, Mem.pd, Mem.pe, Mem.pf]
            first | refine Mem.tkN 45 ?r654 | (refine Mem.tkV 45 ?v654 ?y654 ?r654; case y654 => (intro w hSw; clear hSw; go_simp; try with_reducible rfl))
            try simp only [Mem.pa, Mem.pb, Mem.pc, Act.put, Mem.pd, Mem.pe, Mem.pf]
            first | refine Mem.tkN 46 ?r655 | (refine Mem.tkV 46 ?v655 ?y655 ?r655; case y655 => (intro w hSw; obtain ⟨hT0, hT1, hT2, hT3, hT4, hT5⟩ := hCl.out w hSw; clear hSw; go_simp; try with_reducible rfl))
            try simp only [Mem.pa, Mem.pb, Mem.pc, Act.put, Mem.pd, Mem.pe, Mem.pf]
            first | refine Mem.tkN 47 ?r656 | (refine Mem.tkV 47 ?v656 ?y656 ?r656; case y656 => (intro w hSw; clear hSw; go_simp; try with_reducible rfl))
            try simp only [Mem.pa, Mem.pb, Mem.pc, Act.put, Mem.pd, Mem.pe, Mem.pf]
            first | refine Mem.tkN 48 ?r657 | (refine Mem.tkV 48 ?v657 ?y657 ?r657; case y657 => (intro w hSw; clear hSw; go_simp; try with_reducible rfl))
            try simp only [Mem.pa, Mem.pb, Mem.pc, Act.put, Mem.pd, Mem.pe, Mem.pf]
            first | refine Mem.tkN 49 ?r658 | (refine Mem.tkV 49 ?v658 ?y658 ?r658; case y658 => (intro w hSw; clear hSw; go_simp; try with_reducible rfl))
            try simp only [Mem.pa, Mem.pb, Mem.pc, Act.put, Mem.pd, Mem.pe, Mem.pf]
            first | refine Mem.tkN 50 ?r659 | (refine Mem.tkV 50 ?v659 ?y659 ?r659; case y659 => (intro w hSw; clear hSw; go_simp; try with_reducible rfl))
            try simp only [Mem.pa, Mem.pb, Mem.pc, Act.put, Mem.pd, Mem.pe, Mem.pf]
            first | refine Mem.tkN 51 ?r660 | (refine Mem.tkV 51 ?v660 ?y660 ?r660; case y660 => (intro w hSw; obtain ⟨hT0, hT1, hT2, hT3, hT4, hT5⟩ := hCl.out w hSw; clear hSw; go_simp; try with_reducible rfl))
            try simp only [Mem.pa, Mem.pb, Mem.pc, Act.put, Mem.pd, Mem.pe, Mem.pf]
            refine wpAnyH_ready (rs := [52]) (by kernel_rfl) (by simp) ?_
            refine AllReadyH.cons rfl (fun K hK => ?_) AllReadyH.nil
            go_simp
            (refine (CR.out _ hn).mono ?_; rintro e wb ⟨rfl, hbl⟩)
            try go_wp2_with fail
            have hSnew := Mem.bl_step hHeld hbl (by first | exact Nat.le_refl _ | omega | (simp <;> omega))
            refine hK.out _ _ ?_ (fun hHeld2 => ?_)
            · exact hSnew
            try replace hn := hn.below hbl
            clear hbl
            clear hK K hHeld hSnew
            have hHeld := hHeld2
            clear hHeld2
            try simp only [Mem.pa, Mem.pb, Mem.pc, Act.put, Mem.pd, Mem.pe, Mem.pf]
            first | refine Mem.tkN 53 ?r661 | (refine Mem.tkV 53 ?v661 ?y661 ?r661; case y661 => (intro w hSw; clear hSw; go_simp; try with_reducible rfl))
            refine Mem.tkV 54 ?v662 ?y662 ?r662
            case y662 => (intro w hSw; clear hSw; go_simp; try with_reducible rfl)
            try simp only [Mem.pa, Mem.pb, Mem.pc, Act.put, Mem.pd, Mem.pe, Mem.pf]
            refine wpAnyH_done (by kernel_rfl) ?_ _
            clear hCl
            go_wp2_with fail
            go_roundw
            case rel => exact ⟨j + 1 + 1, x.id, by omega, by go_num, HV, by have := X2.out; omega, .inr ⟨by omega, by rw [Nat.add_sub_cancel, HX.out]; rfl⟩, hbr.trans (((Below.refl _ _).drew.trans hHeld).mono hbr.size)⟩
            case measure => simp [intOf]; omega
    · obtain rfl : k = xs.length := by omega
      have hv := hv.out
      rw [drop_end] at hv
      have HV : Hid (mayF 0 xs = true) := Lib.hid hv
      clear hv hw
      go_wp2
      go_ret
      exact ⟨ret_bool HV.out.symm, hbr⟩
end Go.Proofs.YtbamhiegabeicaaGreat.Rd

