/- ReadyFirst. -/
import Derived.Test.YtechlhmmgabikaaR9
namespace Go.Proofs.Ytechlhmmgabikaa.Rd
open Go.RowKit Go.Proofs.Ytechlhmmgabikaa.Mem Go.Proofs.Ytechlhmmgabikaa.Open Go.Proofs.Ytechlhmmgabikaa.Kind Go.Proofs.Ytechlhmmgabikaa.Blk Go.Proofs.Ytechlhmmgabikaa.App Go.Proofs.Ytechlhmmgabikaa.Pat Go.Proofs.Ytechlhmmgabikaa.Same
set_option linter.unusedVariables false
set_option linter.unusedSimpArgs false
theorem rdy_head {xs : List Chg} (h0 : 0 < xs.length) : ∀ k, ∃ r, rdy xs xs[0].blk (k + 1) = xs[0].id :: r := by
  intro k
  induction k with
  | zero => exact ⟨[], rdy_yes h0 rfl (by intro n hn; rw [waitK_zero] at hn; simp at hn)⟩
  | succ k ih =>
    obtain ⟨r, hr⟩ := ih
    rw [rdy]
    split
    · exact ⟨r, hr⟩
    · split
      · exact ⟨r ++ [_], by rw [hr]; rfl⟩
      · exact ⟨r, hr⟩
theorem ready_head {xs : List Chg} (hm : mayF 0 xs = true) (h0 : 0 < xs.length) : ∃ r, readyS xs xs[0].blk = xs[0].id :: r := by
  obtain ⟨n, hn⟩ : ∃ n, xs.length = n + 1 := ⟨xs.length - 1, by omega⟩
  obtain ⟨r, hr⟩ := rdy_head h0 n
  exact ⟨r, by unfold readyS; rw [if_pos hm, hn]; exact hr⟩
theorem waits_head {xs : List Chg} (hm : mayF 0 xs = true) (h0 : 0 < xs.length) : waitsS xs xs[0].id = [] := by
  rw [waitsS_at hm h0]; exact waitK_zero _ _
set_option maxHeartbeats 2000000 in
set_option maxRecDepth 100000 in
theorem first_walk (A : Option Addr) (c : Nat) (xs : List Chg) (w : World) (hx : Chs w A xs) (hc : A = none → c = 0) :
    Calls Try.prog 8 #[.slice A xs.length c] w fun e w' => e = .returned (.bool true) ∧ Below w.heap.size w w' := by
  have CMu := Lib.hid (much_any A c xs 30 w hx (by omega))
  have CM := Lib.hid (fun w' h => may_any A c xs w' h)
  cases hmu : muchC xs 30 with
  | true =>
    rw [hmu] at CMu
    go_enter Try.func8, Try.ntmps8
    go_wp2_with fail
    refine CMu.out.mono ?_
    rintro e w1 ⟨rfl, hb1⟩
    go_wp2_with fail
    refine (works9 w1).mono ?_
    rintro e wB ⟨rfl, hbB⟩
    go_wp2
    go_ret
    exact ⟨rfl, hb1.trans (hbB.mono hb1.size)⟩
  | false =>
    rw [hmu] at CMu
    obtain ⟨hn, hs⟩ := muchC_no hmu
    clear hmu
    cases hm : mayF 0 xs with
    | false =>
      rw [hm] at CM
      clear hm
      go_enter Try.func8, Try.ntmps8
      go_wp2_with fail
      refine CMu.out.mono ?_
      rintro e w1 ⟨rfl, hb1⟩
      go_wp2_with fail
      refine (CM.out w1 (hx.below hb1)).mono ?_
      rintro e w2 ⟨rfl, hb2⟩
      have hb12 := hb1.trans (hb2.mono hb1.size)
      go_wp2_with fail
      refine (works9 w2).mono ?_
      rintro e wB ⟨rfl, hbB⟩
      go_wp2
      go_ret
      exact ⟨rfl, hb12.trans (hbB.mono hb12.size)⟩
    | true =>
      rw [hm] at CM
      rcases Nat.eq_zero_or_pos xs.length with h0 | h0
      · clear hm
        have hnil : xs = [] := List.eq_nil_of_length_eq_zero h0
        subst hnil
        go_enter Try.func8, Try.ntmps8
        go_wp2_with fail
        refine CMu.out.mono ?_
        rintro e w1 ⟨rfl, hb1⟩
        go_wp2_with fail
        refine (CM.out w1 (hx.below hb1)).mono ?_
        rintro e w2 ⟨rfl, hb2⟩
        have hb12 := hb1.trans (hb2.mono hb1.size)
        go_wp2_with fail
        refine (works9 w2).mono ?_
        rintro e wB ⟨rfl, hbB⟩
        go_wp2
        go_ret
        exact ⟨rfl, hb12.trans (hbB.mono hb12.size)⟩
      · obtain ⟨r0, hr0⟩ := ready_head hm h0
        have hw0 := waits_head hm h0
        obtain ⟨g, o, rfl, hg⟩ := ch_form hx h0
        obtain ⟨A1, c1, A2, c2, hat⟩ := ch_at hx 0 h0
        have hv0 := hat.v0
        have hv1 := hat.v1
        have hid := hat.ok.1
        rw [Nat.zero_mul, Nat.add_zero] at hv0 hv1
        have HR0 := Lib.hid hr0
        have HW0 := Lib.hid hw0
        have HM := Lib.hid hm
        clear hat hr0 hw0 hm
        have CRR := Lib.hid (fun A2 c2 h1 h2 w' h => Ready_any A2 c2 xs xs[0].blk w' h h1 h2 (by omega) hs)
        have CWW := Lib.hid (fun A2 c2 h1 h2 w' h => Waits_any A2 c2 xs xs[0].id hid w' h h1 h2 (by omega) hs)
        rw [HR0.out] at CRR
        rw [HW0.out] at CWW
        generalize xs[0].blk = bl at *
        generalize xs[0].id = id at *
        have hln : (xs.length == 0) = false := by rw [beq_eq_false_iff_ne]; omega
        have hlz : ((xs.length : Int) == 0) = false := by rw [beq_eq_false_iff_ne]; omega
        have hli : (0 : Int) < (xs.length : Int) := by omega
        go_enter Try.func8, Try.ntmps8
        go_wp2_with fail
        refine CMu.out.mono ?_
        rintro e w1 ⟨rfl, hb1⟩
        go_wp2_with fail
        refine (CM.out w1 (hx.below hb1)).mono ?_
        rintro e w2 ⟨rfl, hb2⟩
        have hb12 := hb1.trans (hb2.mono hb1.size)
        clear hb1 hb2
        go_wp2_with fail
        refine (to9_any _ c xs w2 (hx.below hb12) hs (by omega)).mono ?_
        rintro e w3 ⟨v3, rfl, hown3, hb3⟩
        obtain ⟨A3, c3, rfl, h1, h2, h3, hx3⟩ := hown3.rw_
        have hb13 := hb12.trans (hb3.mono hb12.size)
        have d1 := (hb13.cell (p := ⟨g, o + 1, none⟩) hg).trans hv1
        have CR := Lib.hid (CRR.out A3 c3 h1 h2 w3 hx3)
        have CW := Lib.hid (fun w' h => CWW.out A3 c3 h1 h2 w' h)
        clear hown3 hb12 hb3 CRR CWW
        go_wp2_with fail
        refine CR.out.mono ?_
        rintro e w4 ⟨v4, rfl, ho4, hb4⟩
        obtain ⟨g4, c4, rfl⟩ := ho4.slice_pos (by simp)
        have q4 : w4.drew.cell? ⟨g4, 0, none⟩ = some (.int .i64 id) := ho4.cell 0 (by simp)
        have hg4 : g4 < w4.drew.heap.size := ho4.base.2
        have hb14 := hb13.trans (hb4.mono hb13.size)
        have d0 : w4.drew.cell? ⟨g, o, none⟩ = some (.int .i64 id) := (hb14.cell (p := ⟨g, o, none⟩) hg).trans hv0
        have hgg : g < w4.drew.heap.size := Nat.lt_of_lt_of_le hg hb14.size
        have hx4 : Chs w4.drew A3 xs := (hx3.below hb4).drew
        have hl4 : (0 : Int) < (((id :: r0).length : Nat) : Int) := by rw [List.length_cons]; omega
        generalize (id :: r0).length = n4 at *
        have hl5 : 0 < n4 := by omega
        clear ho4 hb4 CR hx3 d1
        go_wp2_with fail
        refine wp_region_held_drew (S := Go.RowKit.Below ((w4.drew).heap.size) (w4.drew)) (by kernel_rfl) ?hb7 (fun hHeld => ?rest7)
        case hb7 =>
          exact Go.RowKit.Below.refl _ _
        case' rest7 => skip
        have hCl := fun (wS : World) (hSw : Go.RowKit.Below ((w4.drew).heap.size) (w4.drew) wS) => And.intro (Mem.bl_cell hSw q4 (by first | omega | (dsimp only; omega) | exact World.block_lt_of_cell? _ _ q4 | (simp <;> omega))) <| Mem.bl_cell hSw d0 (by first | omega | (dsimp only; omega) | exact World.block_lt_of_cell? _ _ d0 | (simp <;> omega))
        replace hCl := Go.Lib.hid hCl
        refine Mem.tkY 0 ?v8 (hy := Or.inl ⟨by rfl, ?y8⟩) (hS := by assumption) (h := ?r8)
        case y8 => (intro w hSw; clear hSw; go_simp; try with_reducible rfl)
        case' r8 => skip
        refine Mem.tkY 1 ?v9 (hy := Or.inl ⟨by rfl, ?y9⟩) (hS := by assumption) (h := ?r9)
        case y9 => (intro w hSw; clear hSw; go_simp; try with_reducible rfl)
        case' r9 => skip
        refine Mem.tkY 2 ?v10 (hy := Or.inl ⟨by rfl, ?y10⟩) (hS := by assumption) (h := ?r10)
        case y10 => (intro w hSw; clear hSw; go_simp; try with_reducible rfl)
        case' r10 => skip
        try simp only [List.getElem_toArray, List.getElem_cons_succ, List.getElem_cons_zero, Act.put, List.setIfInBounds_toArray, List.set_cons_zero, List.set_cons_succ]
        refine Mem.tkY 3 ?v11 (hy := Or.inl ⟨by rfl, ?y11⟩) (hS := by assumption) (h := ?r11)
        case y11 => (intro w hSw; clear hSw; go_simp; try with_reducible rfl)
        case' r11 => skip
        try simp only [List.getElem_toArray, List.getElem_cons_succ, List.getElem_cons_zero, Act.put, List.setIfInBounds_toArray, List.set_cons_zero, List.set_cons_succ]
        first | refine Mem.tkY 4 undef (hy := Or.inr ⟨by rfl, rfl⟩) (hS := by assumption) (h := ?r12) | (refine Mem.tkY 4 ?v12 (hy := Or.inl ⟨by rfl, ?y12⟩) (hS := by assumption) (h := ?r12); case y12 => (intro w hSw; clear hSw; go_simp; try with_reducible rfl))
        case' r12 => skip
        try simp only [List.getElem_toArray, List.getElem_cons_succ, List.getElem_cons_zero, Act.put, List.setIfInBounds_toArray, List.set_cons_zero, List.set_cons_succ]
        first | refine Mem.tkY 5 undef (hy := Or.inr ⟨by rfl, rfl⟩) (hS := by assumption) (h := ?r13) | (refine Mem.tkY 5 ?v13 (hy := Or.inl ⟨by rfl, ?y13⟩) (hS := by assumption) (h := ?r13); case y13 => (intro w hSw; clear hSw; go_simp; try with_reducible rfl))
        case' r13 => skip
        try simp only [List.getElem_toArray, List.getElem_cons_succ, List.getElem_cons_zero, Act.put, List.setIfInBounds_toArray, List.set_cons_zero, List.set_cons_succ]
        first | refine Mem.tkY 6 undef (hy := Or.inr ⟨by rfl, rfl⟩) (hS := by assumption) (h := ?r14) | (refine Mem.tkY 6 ?v14 (hy := Or.inl ⟨by rfl, ?y14⟩) (hS := by assumption) (h := ?r14); case y14 => (intro w hSw; obtain ⟨hT0, hT1⟩ := hCl.out w hSw; clear hSw; go_simp; try with_reducible rfl))
        case' r14 => skip
        try simp only [List.getElem_toArray, List.getElem_cons_succ, List.getElem_cons_zero, Act.put, List.setIfInBounds_toArray, List.set_cons_zero, List.set_cons_succ]
        first | refine Mem.tkY 7 undef (hy := Or.inr ⟨by rfl, rfl⟩) (hS := by assumption) (h := ?r15) | (refine Mem.tkY 7 ?v15 (hy := Or.inl ⟨by rfl, ?y15⟩) (hS := by assumption) (h := ?r15); case y15 => (intro w hSw; clear hSw; go_simp; try with_reducible rfl))
        case' r15 => skip
        try simp only [List.getElem_toArray, List.getElem_cons_succ, List.getElem_cons_zero, Act.put, List.setIfInBounds_toArray, List.set_cons_zero, List.set_cons_succ]
        first | refine Mem.tkY 8 undef (hy := Or.inr ⟨by rfl, rfl⟩) (hS := by assumption) (h := ?r16) | (refine Mem.tkY 8 ?v16 (hy := Or.inl ⟨by rfl, ?y16⟩) (hS := by assumption) (h := ?r16); case y16 => (intro w hSw; clear hSw; go_simp; try with_reducible rfl))
        case' r16 => skip
        try simp only [List.getElem_toArray, List.getElem_cons_succ, List.getElem_cons_zero, Act.put, List.setIfInBounds_toArray, List.set_cons_zero, List.set_cons_succ]
        first | refine Mem.tkY 9 undef (hy := Or.inr ⟨by rfl, rfl⟩) (hS := by assumption) (h := ?r17) | (refine Mem.tkY 9 ?v17 (hy := Or.inl ⟨by rfl, ?y17⟩) (hS := by assumption) (h := ?r17); case y17 => (intro w hSw; clear hSw; go_simp; try with_reducible rfl))
        case' r17 => skip
        try simp only [List.getElem_toArray, List.getElem_cons_succ, List.getElem_cons_zero, Act.put, List.setIfInBounds_toArray, List.set_cons_zero, List.set_cons_succ]
        first | refine Mem.tkY 10 undef (hy := Or.inr ⟨by rfl, rfl⟩) (hS := by assumption) (h := ?r18) | (refine Mem.tkY 10 ?v18 (hy := Or.inl ⟨by rfl, ?y18⟩) (hS := by assumption) (h := ?r18); case y18 => (intro w hSw; obtain ⟨hT0, hT1⟩ := hCl.out w hSw; clear hSw; go_simp; try with_reducible rfl))
        case' r18 => skip
        try simp only [List.getElem_toArray, List.getElem_cons_succ, List.getElem_cons_zero, Act.put, List.setIfInBounds_toArray, List.set_cons_zero, List.set_cons_succ]
        first | refine Mem.tkY 11 undef (hy := Or.inr ⟨by rfl, rfl⟩) (hS := by assumption) (h := ?r19) | (refine Mem.tkY 11 ?v19 (hy := Or.inl ⟨by rfl, ?y19⟩) (hS := by assumption) (h := ?r19); case y19 => (intro w hSw; clear hSw; go_simp; try with_reducible rfl))
        case' r19 => skip
        refine Mem.tkY 12 ?v20 (hy := Or.inl ⟨by rfl, ?y20⟩) (hS := by assumption) (h := ?r20)
        case y20 => (intro w hSw; clear hSw; go_simp; try with_reducible rfl)
        case' r20 => skip
        refine Mem.tkY 13 ?v21 (hy := Or.inl ⟨by rfl, ?y21⟩) (hS := by assumption) (h := ?r21)
        case y21 => (intro w hSw; clear hSw; go_simp; try with_reducible rfl)
        case' r21 => skip
        try simp only [List.getElem_toArray, List.getElem_cons_succ, List.getElem_cons_zero, Act.put, List.setIfInBounds_toArray, List.set_cons_zero, List.set_cons_succ]
        first | refine Mem.tkY 14 undef (hy := Or.inr ⟨by rfl, rfl⟩) (hS := by assumption) (h := ?r22) | (refine Mem.tkY 14 ?v22 (hy := Or.inl ⟨by rfl, ?y22⟩) (hS := by assumption) (h := ?r22); case y22 => (intro w hSw; clear hSw; go_simp; try with_reducible rfl))
        case' r22 => skip
        try simp only [List.getElem_toArray, List.getElem_cons_succ, List.getElem_cons_zero, Act.put, List.setIfInBounds_toArray, List.set_cons_zero, List.set_cons_succ]
        first | refine Mem.tkY 15 undef (hy := Or.inr ⟨by rfl, rfl⟩) (hS := by assumption) (h := ?r23) | (refine Mem.tkY 15 ?v23 (hy := Or.inl ⟨by rfl, ?y23⟩) (hS := by assumption) (h := ?r23); case y23 => (intro w hSw; clear hSw; go_simp; try with_reducible rfl))
        case' r23 => skip
        try simp only [List.getElem_toArray, List.getElem_cons_succ, List.getElem_cons_zero, Act.put, List.setIfInBounds_toArray, List.set_cons_zero, List.set_cons_succ]
        first | refine Mem.tkY 16 undef (hy := Or.inr ⟨by rfl, rfl⟩) (hS := by assumption) (h := ?r24) | (refine Mem.tkY 16 ?v24 (hy := Or.inl ⟨by rfl, ?y24⟩) (hS := by assumption) (h := ?r24); case y24 => (intro w hSw; clear hSw; go_simp; try with_reducible rfl))
        case' r24 => skip
        try simp only [List.getElem_toArray, List.getElem_cons_succ, List.getElem_cons_zero, Act.put, List.setIfInBounds_toArray, List.set_cons_zero, List.set_cons_succ]
        first | refine Mem.tkY 17 undef (hy := Or.inr ⟨by rfl, rfl⟩) (hS := by assumption) (h := ?r25) | (refine Mem.tkY 17 ?v25 (hy := Or.inl ⟨by rfl, ?y25⟩) (hS := by assumption) (h := ?r25); case y25 => (intro w hSw; clear hSw; go_simp; try with_reducible rfl))
        case' r25 => skip
        try simp only [List.getElem_toArray, List.getElem_cons_succ, List.getElem_cons_zero, Act.put, List.setIfInBounds_toArray, List.set_cons_zero, List.set_cons_succ]
        first | refine Mem.tkY 18 undef (hy := Or.inr ⟨by rfl, rfl⟩) (hS := by assumption) (h := ?r26) | (refine Mem.tkY 18 ?v26 (hy := Or.inl ⟨by rfl, ?y26⟩) (hS := by assumption) (h := ?r26); case y26 => (intro w hSw; obtain ⟨hT0, hT1⟩ := hCl.out w hSw; clear hSw; go_simp; try with_reducible rfl))
        case' r26 => skip
        try simp only [List.getElem_toArray, List.getElem_cons_succ, List.getElem_cons_zero, Act.put, List.setIfInBounds_toArray, List.set_cons_zero, List.set_cons_succ]
        refine wpAnyH_ready (rs := [19]) (by kernel_rfl) (by simp) ?_
        refine AllReadyH.cons rfl (fun K hK => ?_) AllReadyH.nil
        go_simp
        (refine (CW.out _ hx4).mono ?_; rintro e wb ⟨v9, rfl, ho9, hbl⟩; obtain ⟨AW, cW, rfl⟩ := ho9.slice; clear ho9)
        try go_wp2_with fail
        have hSnew := Mem.bl_step hHeld hbl (by first | exact Nat.le_refl _ | omega | (simp <;> omega))
        refine hK.out _ _ ?_ (fun hHeld2 => ?_)
        · exact hSnew
        try replace hx4 := hx4.below hbl
        clear hbl
        clear hK K hHeld hSnew
        have hHeld := hHeld2
        clear hHeld2
        try simp only [List.getElem_toArray, List.getElem_cons_succ, List.getElem_cons_zero, Act.put, List.setIfInBounds_toArray, List.set_cons_zero, List.set_cons_succ]
        first | refine Mem.tkY 20 undef (hy := Or.inr ⟨by rfl, rfl⟩) (hS := by assumption) (h := ?r27) | (refine Mem.tkY 20 ?v27 (hy := Or.inl ⟨by rfl, ?y27⟩) (hS := by assumption) (h := ?r27); case y27 => (intro w hSw; clear hSw; go_simp; try with_reducible rfl))
        case' r27 => skip
        try simp only [List.getElem_toArray, List.getElem_cons_succ, List.getElem_cons_zero, Act.put, List.setIfInBounds_toArray, List.set_cons_zero, List.set_cons_succ]
        first | refine Mem.tkY 21 undef (hy := Or.inr ⟨by rfl, rfl⟩) (hS := by assumption) (h := ?r28) | (refine Mem.tkY 21 ?v28 (hy := Or.inl ⟨by rfl, ?y28⟩) (hS := by assumption) (h := ?r28); case y28 => (intro w hSw; clear hSw; go_simp; try with_reducible rfl))
        case' r28 => skip
        refine Mem.tkY 22 ?v29 (hy := Or.inl ⟨by rfl, ?y29⟩) (hS := by assumption) (h := ?r29)
        case y29 => (intro w hSw; clear hSw; go_simp; try with_reducible rfl)
        case' r29 => skip
        refine Mem.tkY 23 ?v30 (hy := Or.inl ⟨by rfl, ?y30⟩) (hS := by assumption) (h := ?r30)
        case y30 => (intro w hSw; clear hSw; go_simp; try with_reducible rfl)
        case' r30 => skip
        try simp only [List.getElem_toArray, List.getElem_cons_succ, List.getElem_cons_zero, Act.put, List.setIfInBounds_toArray, List.set_cons_zero, List.set_cons_succ]
        refine wpAnyH_ready (rs := [24]) (by kernel_rfl) (by simp) ?_
        refine AllReadyH.cons rfl (fun K hK => ?_) AllReadyH.nil
        go_simp
        (refine (works9 _).mono ?_; rintro e wb2 ⟨rfl, hbl⟩)
        try go_wp2_with fail
        have hSnew := Mem.bl_step hHeld hbl (by first | exact Nat.le_refl _ | omega | (simp <;> omega))
        refine hK.out _ _ ?_ (fun hHeld2 => ?_)
        · exact hSnew
        try replace hx4 := hx4.below hbl
        clear hbl
        clear hK K hHeld hSnew
        have hHeld := hHeld2
        clear hHeld2
        try simp only [List.getElem_toArray, List.getElem_cons_succ, List.getElem_cons_zero, Act.put, List.setIfInBounds_toArray, List.set_cons_zero, List.set_cons_succ]
        refine Mem.tkY 25 ?v31 (hy := Or.inl ⟨by rfl, ?y31⟩) (hS := by assumption) (h := ?r31)
        case y31 => (intro w hSw; clear hSw; go_simp; try with_reducible rfl)
        case' r31 => skip
        refine Mem.tkY 26 ?v32 (hy := Or.inl ⟨by rfl, ?y32⟩) (hS := by assumption) (h := ?r32)
        case y32 => (intro w hSw; clear hSw; go_simp; try with_reducible rfl)
        case' r32 => skip
        try simp only [List.getElem_toArray, List.getElem_cons_succ, List.getElem_cons_zero, Act.put, List.setIfInBounds_toArray, List.set_cons_zero, List.set_cons_succ]
        refine wpAnyH_done (by kernel_rfl) ?_ _
        clear hCl
        go_wp2_with fail
        go_ret
        exact ⟨rfl, hb14.trans (((Below.refl _ _).drew.trans hHeld).mono hb14.size)⟩
end Go.Proofs.Ytechlhmmgabikaa.Rd
