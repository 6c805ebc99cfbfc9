/- The document's Waits. No statement is proved here. -/
import Derived.Test.YteeodeooicoekaaRy
import Derived.Test.YteeodeooicoekaaRd3
namespace Go.Proofs.Yteeodeooicoekaa.Rd
open Go.RowKit Go.Proofs.Yteeodeooicoekaa.Mem Go.Proofs.Yteeodeooicoekaa.Open Go.Proofs.Yteeodeooicoekaa.Kind Go.Proofs.Yteeodeooicoekaa.Blk Go.Proofs.Yteeodeooicoekaa.App Go.Proofs.Yteeodeooicoekaa.Pat
set_option linter.unusedVariables false
set_option linter.unusedSimpArgs false
theorem waitK_zero (xs : List Chg) (t : Chg) : waitK xs 0 t = [] := rfl
theorem waitK_yes {xs : List Chg} {t : Chg} {j : Nat} (hj : j < xs.length) (h : (metC xs[j] t || decide (xs[j].id ∈ t.needs)) = true) : waitK xs (j + 1) t = waitK xs j t ++ [xs[j].id] := by
  unfold waitK
  rw [take_next hj, List.filter_append, List.map_append]
  simp [h]
theorem waitK_no {xs : List Chg} {t : Chg} {j : Nat} (hj : j < xs.length) (h : (metC xs[j] t || decide (xs[j].id ∈ t.needs)) = false) : waitK xs (j + 1) t = waitK xs j t := by
  unfold waitK
  rw [take_next hj, List.filter_append, List.map_append]
  simp [h]
theorem waitK_len (xs : List Chg) (t : Chg) (j : Nat) : (waitK xs j t).length ≤ j := by
  unfold waitK
  rw [List.length_map]
  exact Nat.le_trans (List.length_filter_le _ _) (by rw [List.length_take]; omega)
set_option maxHeartbeats 4000000 in
set_option maxRecDepth 100000 in
theorem RWaits_any (A : Option Addr) (c : Nat) (xs : List Chg) (id : Int) (w : World) (hx : Chs w A xs) (hn : xs.length ≤ 1000) :
    Calls Try.prog 51 #[.slice A xs.length c, .int .i64 id] w fun r w' => ∃ v, r = .returned v ∧ Ns w' w.heap.size v (waitsS xs id) ∧ Below w.heap.size w w' := by
  have CP := Lib.hid (place_any A c xs id w hx)
  have CC := Lib.hid (fun w' h => may_any A c xs w' h)
  cases hm : mayF 0 xs with
  | false =>
    rw [hm] at CC
    have HR := Lib.hid (waitsS_may (id := id) hm)
    clear hm
    go_enter Try.func51, Try.ntmps51
    go_wp2_with fail
    refine CP.out.mono ?_
    rintro e w1 ⟨rfl, hb1⟩
    go_wp2_with fail
    refine (CC.out _ (hx.below hb1)).mono ?_
    rintro e w2 ⟨rfl, hb2⟩
    go_wp2
    go_ret
    exact ⟨_, rfl, by rw [HR.out]; exact Own.nil _ _ _ _, hb1.trans (hb2.mono hb1.size)⟩
  | true =>
    rw [hm] at CC
    rcases has_or (xs := xs) id with hno | ⟨k, hk, rfl⟩
    · have HR := Lib.hid (waitsS_not hno)
      rw [placeF_not hno] at CP
      go_enter Try.func51, Try.ntmps51
      go_wp2_with fail
      refine CP.out.mono ?_
      rintro e w1 ⟨rfl, hb1⟩
      go_wp2_with fail
      refine (CC.out _ (hx.below hb1)).mono ?_
      rintro e w2 ⟨rfl, hb2⟩
      go_wp2
      go_ret
      exact ⟨_, rfl, by rw [HR.out]; exact Own.nil _ _ _ _, hb1.trans (hb2.mono hb1.size)⟩
    · have HR := Lib.hid (waitsS_at hm hk)
      rw [placeF_at (mayF_iff.1 hm).1 hk, Nat.zero_add] at CP
      obtain ⟨g, o, rfl, hg⟩ := ch_form hx (by omega)
      obtain ⟨T1, d1, T2, d2, hat⟩ := ch_at hx k hk
      have hpl : xs[k].pd.length ≤ M63 := hat.p.2.2.2.2.1
      have HAT := Lib.hid hat
      have HNE := Lib.hid hat.n.2.2.2
      have hl : xs.length ≤ 9223372036854775807 := hx.2.1
      clear hat hm
      generalize xs[k] = t at *
      generalize waitsS xs t.id = RR at *
      generalize t.id = tid at *
      go_enter Try.func51, Try.ntmps51
      go_wp2_with fail
      refine CP.out.mono ?_
      rintro e w1 ⟨rfl, hb1⟩
      go_wp2_with fail
      refine (CC.out _ (hx.below hb1)).mono ?_
      rintro e w2 ⟨rfl, hb2⟩
      have hb12 := hb1.trans (hb2.mono hb1.size)
      clear hb1 hb2 CP CC
      go_wp2_with fail
      go_loopw [5, 7] (fun v i wr => ∃ (j : Nat), j ≤ k ∧ i = .int .i64 j ∧ Ns wr w.heap.size v (waitK xs j t) ∧ Below w.heap.size w wr) (fun _ i _ => k - (intOf i).toNat)
      case atStart => exact ⟨0, by omega, rfl, Own.nil _ _ _ _, hb12⟩
      case round =>
        clear hb12
        obtain ⟨j, hj, rfl, hown, hbr⟩ := hrel
        by_cases hjk : j < k
        · have hjx : j < xs.length := by omega
          obtain ⟨A1, c1, A2, c2, hat0⟩ := ch_at hx j hjx
          have hat := hat0.below hbr
          have hatt := HAT.out.below hbr
          have e0 : wr.drew.cell? ⟨g, o + j * 5, none⟩ = some (.int .i64 xs[j].id) := hat.v0
          have e1 : wr.drew.cell? ⟨g, o + j * 5 + 1, none⟩ = some (.int .i64 xs[j].blk) := hat.v1
          have e2 : wr.drew.cell? ⟨g, o + j * 5 + 2, none⟩ = some (.int .i64 xs[j].pa) := hat.v2
          have e3 : wr.drew.cell? ⟨g, o + j * 5 + 2 + 1, none⟩ = some (.slice A1 xs[j].pd.length c1) := hat.v3
          have s1 : wr.drew.cell? ⟨g, o + k * 5 + 1, none⟩ = some (.int .i64 t.blk) := hatt.v1
          have s2 : wr.drew.cell? ⟨g, o + k * 5 + 2, none⟩ = some (.int .i64 t.pa) := hatt.v2
          have s3 : wr.drew.cell? ⟨g, o + k * 5 + 2 + 1, none⟩ = some (.slice T1 t.pd.length d1) := hatt.v3
          have hp1 : xs[j].pd.length ≤ M63 := hat.p.2.2.2.2.1
          have HE : Hid (∀ w9, Below w.heap.size w w9 → w9.cell? ⟨g, o + j * 5, none⟩ = some (.int .i64 xs[j].id)) := Lib.hid fun w9 h => (hat0.below h).v0
          have HT : Hid (∀ w9, Below w.heap.size w w9 → w9.cell? ⟨g, o + k * 5 + 4, none⟩ = some (.slice T2 t.needs.length d2)) := Lib.hid fun w9 h => (HAT.out.below h).v4
          have hrl := waitK_len xs t j
          have HYY := Lib.hid (waitK_yes (t := t) hjx)
          have HNN := Lib.hid (waitK_no (t := t) hjx)
          obtain ⟨R2, hR2⟩ : ∃ R2, waitK xs (j + 1) t = R2 := ⟨_, rfl⟩
          rw [hR2] at HYY HNN
          have HR2 := Lib.hid hR2
          have HOR := Lib.hid hown
          have HBR := Lib.hid hbr
          clear hat0 hat hatt hR2 hown
          generalize waitK xs j t = R at *
          generalize xs[j] = x at *
          have hgl : g < wr.drew.heap.size := Nat.lt_of_lt_of_le hg hbr.size
          have CI := Lib.hid (fun w' h => in_any T2 d2 t.needs x.id w' h)
          have CM := Lib.hid (fun w' => rmeet_any x.pa A1 x.pd.length c1 t.pa T1 t.pd.length d1 w' hp1 hpl)
          go_wp2_with fail
          go_cut [8] (fun s8 w' => s8 = .bool (metC x t) ∧ Below wr.heap.size wr w')
          case first =>
            by_cases hblk : x.blk = t.blk
            · have hq : (x.blk == t.blk) = true := by rw [hblk]; exact beq_self_eq_true _
              have HM : Hid (metC x t = meetB x.pa x.pd.length t.pa t.pd.length) := Lib.hid (by unfold metC; rw [decide_eq_true hblk]; rfl)
              generalize metC x t = mt at *
              clear hblk
              cases hmt : meetB x.pa x.pd.length t.pa t.pd.length with
              | true =>
                rw [hmt] at CM HM
                refine wp_region_held_drew (S := Go.RowKit.Below ((wr.drew).heap.size) (wr.drew)) (by kernel_rfl) ?hb6 (fun hHeld => ?rest6)
                case hb6 =>
                  exact Go.RowKit.Below.refl _ _
                case' rest6 => skip
                have hCl := fun (wS : World) (hSw : Go.RowKit.Below ((wr.drew).heap.size) (wr.drew) wS) => And.intro (Mem.bl_cell hSw e0 (by first | omega | (dsimp only; omega) | exact World.block_lt_of_cell? _ _ e0 | (simp <;> omega))) <| And.intro (Mem.bl_cell hSw e1 (by first | omega | (dsimp only; omega) | exact World.block_lt_of_cell? _ _ e1 | (simp <;> omega))) <| And.intro (Mem.bl_cell hSw e2 (by first | omega | (dsimp only; omega) | exact World.block_lt_of_cell? _ _ e2 | (simp <;> omega))) <| And.intro (Mem.bl_cell hSw e3 (by first | omega | (dsimp only; omega) | exact World.block_lt_of_cell? _ _ e3 | (simp <;> omega))) <| And.intro (Mem.bl_cell hSw s1 (by first | omega | (dsimp only; omega) | exact World.block_lt_of_cell? _ _ s1 | (simp <;> omega))) <| And.intro (Mem.bl_cell hSw s2 (by first | omega | (dsimp only; omega) | exact World.block_lt_of_cell? _ _ s2 | (simp <;> omega))) <| Mem.bl_cell hSw s3 (by first | omega | (dsimp only; omega) | exact World.block_lt_of_cell? _ _ s3 | (simp <;> omega))
                replace hCl := Go.Lib.hid hCl
                refine Mem.tkY 0 ?v7 (hy := Or.inl ⟨by rfl, ?y7⟩) (hS := by assumption) (h := ?r7)
                case y7 => (intro w hSw; clear hSw; go_simp; try with_reducible rfl)
                case' r7 => skip
                refine Mem.tkY 1 ?v8 (hy := Or.inl ⟨by rfl, ?y8⟩) (hS := by assumption) (h := ?r8)
                case y8 => (intro w hSw; clear hSw; go_simp; try with_reducible rfl)
                case' r8 => skip
                refine Mem.tkY 2 ?v9 (hy := Or.inl ⟨by rfl, ?y9⟩) (hS := by assumption) (h := ?r9)
                case y9 => (intro w hSw; clear hSw; go_simp; try with_reducible rfl)
                case' r9 => skip
                try simp only [List.getElem_toArray, List.getElem_cons_succ, List.getElem_cons_zero, Act.put, List.setIfInBounds_toArray, List.set_cons_zero, List.set_cons_succ]
                refine Mem.tkY 3 ?v10 (hy := Or.inl ⟨by rfl, ?y10⟩) (hS := by assumption) (h := ?r10)
                case y10 => (intro w hSw; clear hSw; go_simp; try with_reducible rfl)
                case' r10 => skip
                refine Mem.tkY 4 ?v11 (hy := Or.inl ⟨by rfl, ?y11⟩) (hS := by assumption) (h := ?r11)
                case y11 => (intro w hSw; obtain ⟨hT0, hT1, hT2, hT3, hT4, hT5, hT6⟩ := hCl.out w hSw; clear hSw; go_simp; try with_reducible rfl)
                case' r11 => skip
                refine Mem.tkY 5 ?v12 (hy := Or.inl ⟨by rfl, ?y12⟩) (hS := by assumption) (h := ?r12)
                case y12 => (intro w hSw; clear hSw; go_simp; try with_reducible rfl)
                case' r12 => skip
                try simp only [List.getElem_toArray, List.getElem_cons_succ, List.getElem_cons_zero, Act.put, List.setIfInBounds_toArray, List.set_cons_zero, List.set_cons_succ]
                refine Mem.tkY 6 ?v13 (hy := Or.inl ⟨by rfl, ?y13⟩) (hS := by assumption) (h := ?r13)
                case y13 => (intro w hSw; clear hSw; go_simp; try with_reducible rfl)
                case' r13 => skip
                refine Mem.tkY 7 ?v14 (hy := Or.inl ⟨by rfl, ?y14⟩) (hS := by assumption) (h := ?r14)
                case y14 => (intro w hSw; clear hSw; go_simp; try with_reducible rfl)
                case' r14 => skip
                refine Mem.tkY 8 ?v15 (hy := Or.inl ⟨by rfl, ?y15⟩) (hS := by assumption) (h := ?r15)
                case y15 => (intro w hSw; clear hSw; go_simp; try with_reducible rfl)
                case' r15 => skip
                try simp only [List.getElem_toArray, List.getElem_cons_succ, List.getElem_cons_zero, Act.put, List.setIfInBounds_toArray, List.set_cons_zero, List.set_cons_succ]
                refine Mem.tkY 9 ?v16 (hy := Or.inl ⟨by rfl, ?y16⟩) (hS := by assumption) (h := ?r16)
                case y16 => (intro w hSw; obtain ⟨hT0, hT1, hT2, hT3, hT4, hT5, hT6⟩ := hCl.out w hSw; clear hSw; go_simp; try with_reducible rfl)
                case' r16 => skip
                refine Mem.tkY 10 ?v17 (hy := Or.inl ⟨by rfl, ?y17⟩) (hS := by assumption) (h := ?r17)
                case y17 => (intro w hSw; clear hSw; go_simp; try with_reducible rfl)
                case' r17 => skip
                refine Mem.tkY 11 ?v18 (hy := Or.inl ⟨by rfl, ?y18⟩) (hS := by assumption) (h := ?r18)
                case y18 => (intro w hSw; clear hSw; go_simp; try with_reducible rfl)
                case' r18 => skip
                try simp only [List.getElem_toArray, List.getElem_cons_succ, List.getElem_cons_zero, Act.put, List.setIfInBounds_toArray, List.set_cons_zero, List.set_cons_succ]
                first | refine Mem.tkY 12 undef (hy := Or.inr ⟨by rfl, rfl⟩) (hS := by assumption) (h := ?r19) | (refine Mem.tkY 12 ?v19 (hy := Or.inl ⟨by rfl, ?y19⟩) (hS := by assumption) (h := ?r19); case y19 => (intro w hSw; clear hSw; go_simp; try with_reducible rfl))
                case' r19 => skip
                try simp only [List.getElem_toArray, List.getElem_cons_succ, List.getElem_cons_zero, Act.put, List.setIfInBounds_toArray, List.set_cons_zero, List.set_cons_succ]
                first | refine Mem.tkY 13 undef (hy := Or.inr ⟨by rfl, rfl⟩) (hS := by assumption) (h := ?r20) | (refine Mem.tkY 13 ?v20 (hy := Or.inl ⟨by rfl, ?y20⟩) (hS := by assumption) (h := ?r20); case y20 => (intro w hSw; clear hSw; go_simp; try with_reducible rfl))
                case' r20 => skip
                try simp only [List.getElem_toArray, List.getElem_cons_succ, List.getElem_cons_zero, Act.put, List.setIfInBounds_toArray, List.set_cons_zero, List.set_cons_succ]
                first | refine Mem.tkY 14 undef (hy := Or.inr ⟨by rfl, rfl⟩) (hS := by assumption) (h := ?r21) | (refine Mem.tkY 14 ?v21 (hy := Or.inl ⟨by rfl, ?y21⟩) (hS := by assumption) (h := ?r21); case y21 => (intro w hSw; clear hSw; go_simp; try with_reducible rfl))
                case' r21 => skip
                try simp only [List.getElem_toArray, List.getElem_cons_succ, List.getElem_cons_zero, Act.put, List.setIfInBounds_toArray, List.set_cons_zero, List.set_cons_succ]
                first | refine Mem.tkY 15 undef (hy := Or.inr ⟨by rfl, rfl⟩) (hS := by assumption) (h := ?r22) | (refine Mem.tkY 15 ?v22 (hy := Or.inl ⟨by rfl, ?y22⟩) (hS := by assumption) (h := ?r22); case y22 => (intro w hSw; clear hSw; go_simp; try with_reducible rfl))
                case' r22 => skip
                try simp only [List.getElem_toArray, List.getElem_cons_succ, List.getElem_cons_zero, Act.put, List.setIfInBounds_toArray, List.set_cons_zero, List.set_cons_succ]
                first | refine Mem.tkY 16 undef (hy := Or.inr ⟨by rfl, rfl⟩) (hS := by assumption) (h := ?r23) | (refine Mem.tkY 16 ?v23 (hy := Or.inl ⟨by rfl, ?y23⟩) (hS := by assumption) (h := ?r23); case y23 => (intro w hSw; obtain ⟨hT0, hT1, hT2, hT3, hT4, hT5, hT6⟩ := hCl.out w hSw; clear hSw; go_simp; try with_reducible rfl))
                case' r23 => skip
                try simp only [List.getElem_toArray, List.getElem_cons_succ, List.getElem_cons_zero, Act.put, List.setIfInBounds_toArray, List.set_cons_zero, List.set_cons_succ]
                first | refine Mem.tkY 17 undef (hy := Or.inr ⟨by rfl, rfl⟩) (hS := by assumption) (h := ?r24) | (refine Mem.tkY 17 ?v24 (hy := Or.inl ⟨by rfl, ?y24⟩) (hS := by assumption) (h := ?r24); case y24 => (intro w hSw; clear hSw; go_simp; try with_reducible rfl))
                case' r24 => skip
                try simp only [List.getElem_toArray, List.getElem_cons_succ, List.getElem_cons_zero, Act.put, List.setIfInBounds_toArray, List.set_cons_zero, List.set_cons_succ]
                first | refine Mem.tkY 18 undef (hy := Or.inr ⟨by rfl, rfl⟩) (hS := by assumption) (h := ?r25) | (refine Mem.tkY 18 ?v25 (hy := Or.inl ⟨by rfl, ?y25⟩) (hS := by assumption) (h := ?r25); case y25 => (intro w hSw; clear hSw; go_simp; try with_reducible rfl))
                case' r25 => skip
                try simp only [List.getElem_toArray, List.getElem_cons_succ, List.getElem_cons_zero, Act.put, List.setIfInBounds_toArray, List.set_cons_zero, List.set_cons_succ]
                first | refine Mem.tkY 19 undef (hy := Or.inr ⟨by rfl, rfl⟩) (hS := by assumption) (h := ?r26) | (refine Mem.tkY 19 ?v26 (hy := Or.inl ⟨by rfl, ?y26⟩) (hS := by assumption) (h := ?r26); case y26 => (intro w hSw; clear hSw; go_simp; try with_reducible rfl))
                case' r26 => skip
                try simp only [List.getElem_toArray, List.getElem_cons_succ, List.getElem_cons_zero, Act.put, List.setIfInBounds_toArray, List.set_cons_zero, List.set_cons_succ]
                first | refine Mem.tkY 20 undef (hy := Or.inr ⟨by rfl, rfl⟩) (hS := by assumption) (h := ?r27) | (refine Mem.tkY 20 ?v27 (hy := Or.inl ⟨by rfl, ?y27⟩) (hS := by assumption) (h := ?r27); case y27 => (intro w hSw; clear hSw; go_simp; try with_reducible rfl))
                case' r27 => skip
                try simp only [List.getElem_toArray, List.getElem_cons_succ, List.getElem_cons_zero, Act.put, List.setIfInBounds_toArray, List.set_cons_zero, List.set_cons_succ]
                first | refine Mem.tkY 21 undef (hy := Or.inr ⟨by rfl, rfl⟩) (hS := by assumption) (h := ?r28) | (refine Mem.tkY 21 ?v28 (hy := Or.inl ⟨by rfl, ?y28⟩) (hS := by assumption) (h := ?r28); case y28 => (intro w hSw; obtain ⟨hT0, hT1, hT2, hT3, hT4, hT5, hT6⟩ := hCl.out w hSw; clear hSw; go_simp; try with_reducible rfl))
                case' r28 => skip
                try simp only [List.getElem_toArray, List.getElem_cons_succ, List.getElem_cons_zero, Act.put, List.setIfInBounds_toArray, List.set_cons_zero, List.set_cons_succ]
                refine wpAnyH_ready (rs := [22]) (by kernel_rfl) (by simp) ?_
                refine AllReadyH.cons rfl (fun K hK => ?_) AllReadyH.nil
                go_simp
                (refine (CM.out _).mono ?_; rintro e wb ⟨rfl, hbl⟩)
                try go_wp2_with fail
                have hSnew := Mem.bl_step hHeld hbl (by first | exact Nat.le_refl _ | omega | (simp <;> omega))
                refine hK.out _ _ ?_ (fun hHeld2 => ?_)
                · exact hSnew
                clear hbl
                clear hK K hHeld hSnew
                have hHeld := hHeld2
                clear hHeld2
                try simp only [List.getElem_toArray, List.getElem_cons_succ, List.getElem_cons_zero, Act.put, List.setIfInBounds_toArray, List.set_cons_zero, List.set_cons_succ]
                refine Mem.tkY 23 ?v29 (hy := Or.inl ⟨by rfl, ?y29⟩) (hS := by assumption) (h := ?r29)
                case y29 => (intro w hSw; clear hSw; go_simp; try with_reducible rfl)
                case' r29 => skip
                refine Mem.tkY 24 ?v30 (hy := Or.inl ⟨by rfl, ?y30⟩) (hS := by assumption) (h := ?r30)
                case y30 => (intro w hSw; clear hSw; go_simp; try with_reducible rfl)
                case' r30 => skip
                try simp only [List.getElem_toArray, List.getElem_cons_succ, List.getElem_cons_zero, Act.put, List.setIfInBounds_toArray, List.set_cons_zero, List.set_cons_succ]
                refine wpAnyH_done (by kernel_rfl) ?_ _
                clear hCl
                go_wp2_with fail
                go_meet
                case rel => exact ⟨by rw [HM.out], (Below.refl _ _).drew.trans hHeld⟩
              | false =>
                rw [hmt] at CM HM
                refine wp_region_held_drew (S := Go.RowKit.Below ((wr.drew).heap.size) (wr.drew)) (by kernel_rfl) ?hb36 (fun hHeld => ?rest36)
                case hb36 =>
                  exact Go.RowKit.Below.refl _ _
                case' rest36 => skip
                have hCl := fun (wS : World) (hSw : Go.RowKit.Below ((wr.drew).heap.size) (wr.drew) wS) => And.intro (Mem.bl_cell hSw e0 (by first | omega | (dsimp only; omega) | exact World.block_lt_of_cell? _ _ e0 | (simp <;> omega))) <| And.intro (Mem.bl_cell hSw e1 (by first | omega | (dsimp only; omega) | exact World.block_lt_of_cell? _ _ e1 | (simp <;> omega))) <| And.intro (Mem.bl_cell hSw e2 (by first | omega | (dsimp only; omega) | exact World.block_lt_of_cell? _ _ e2 | (simp <;> omega))) <| And.intro (Mem.bl_cell hSw e3 (by first | omega | (dsimp only; omega) | exact World.block_lt_of_cell? _ _ e3 | (simp <;> omega))) <| And.intro (Mem.bl_cell hSw s1 (by first | omega | (dsimp only; omega) | exact World.block_lt_of_cell? _ _ s1 | (simp <;> omega))) <| And.intro (Mem.bl_cell hSw s2 (by first | omega | (dsimp only; omega) | exact World.block_lt_of_cell? _ _ s2 | (simp <;> omega))) <| Mem.bl_cell hSw s3 (by first | omega | (dsimp only; omega) | exact World.block_lt_of_cell? _ _ s3 | (simp <;> omega))
                replace hCl := Go.Lib.hid hCl
                refine Mem.tkY 0 ?v37 (hy := Or.inl ⟨by rfl, ?y37⟩) (hS := by assumption) (h := ?r37)
                case y37 => (intro w hSw; clear hSw; go_simp; try with_reducible rfl)
                case' r37 => skip
                refine Mem.tkY 1 ?v38 (hy := Or.inl ⟨by rfl, ?y38⟩) (hS := by assumption) (h := ?r38)
                case y38 => (intro w hSw; clear hSw; go_simp; try with_reducible rfl)
                case' r38 => skip
                refine Mem.tkY 2 ?v39 (hy := Or.inl ⟨by rfl, ?y39⟩) (hS := by assumption) (h := ?r39)
                case y39 => (intro w hSw; clear hSw; go_simp; try with_reducible rfl)
                case' r39 => skip
                try simp only [List.getElem_toArray, List.getElem_cons_succ, List.getElem_cons_zero, Act.put, List.setIfInBounds_toArray, List.set_cons_zero, List.set_cons_succ]
                refine Mem.tkY 3 ?v40 (hy := Or.inl ⟨by rfl, ?y40⟩) (hS := by assumption) (h := ?r40)
                case y40 => (intro w hSw; clear hSw; go_simp; try with_reducible rfl)
                case' r40 => skip
                refine Mem.tkY 4 ?v41 (hy := Or.inl ⟨by rfl, ?y41⟩) (hS := by assumption) (h := ?r41)
                case y41 => (intro w hSw; obtain ⟨hT0, hT1, hT2, hT3, hT4, hT5, hT6⟩ := hCl.out w hSw; clear hSw; go_simp; try with_reducible rfl)
                case' r41 => skip
                refine Mem.tkY 5 ?v42 (hy := Or.inl ⟨by rfl, ?y42⟩) (hS := by assumption) (h := ?r42)
                case y42 => (intro w hSw; clear hSw; go_simp; try with_reducible rfl)
                case' r42 => skip
                try simp only [List.getElem_toArray, List.getElem_cons_succ, List.getElem_cons_zero, Act.put, List.setIfInBounds_toArray, List.set_cons_zero, List.set_cons_succ]
                refine Mem.tkY 6 ?v43 (hy := Or.inl ⟨by rfl, ?y43⟩) (hS := by assumption) (h := ?r43)
                case y43 => (intro w hSw; clear hSw; go_simp; try with_reducible rfl)
                case' r43 => skip
                refine Mem.tkY 7 ?v44 (hy := Or.inl ⟨by rfl, ?y44⟩) (hS := by assumption) (h := ?r44)
                case y44 => (intro w hSw; clear hSw; go_simp; try with_reducible rfl)
                case' r44 => skip
                refine Mem.tkY 8 ?v45 (hy := Or.inl ⟨by rfl, ?y45⟩) (hS := by assumption) (h := ?r45)
                case y45 => (intro w hSw; clear hSw; go_simp; try with_reducible rfl)
                case' r45 => skip
                try simp only [List.getElem_toArray, List.getElem_cons_succ, List.getElem_cons_zero, Act.put, List.setIfInBounds_toArray, List.set_cons_zero, List.set_cons_succ]
                refine Mem.tkY 9 ?v46 (hy := Or.inl ⟨by rfl, ?y46⟩) (hS := by assumption) (h := ?r46)
                case y46 => (intro w hSw; obtain ⟨hT0, hT1, hT2, hT3, hT4, hT5, hT6⟩ := hCl.out w hSw; clear hSw; go_simp; try with_reducible rfl)
                case' r46 => skip
                refine Mem.tkY 10 ?v47 (hy := Or.inl ⟨by rfl, ?y47⟩) (hS := by assumption) (h := ?r47)
                case y47 => (intro w hSw; clear hSw; go_simp; try with_reducible rfl)
                case' r47 => skip
                refine Mem.tkY 11 ?v48 (hy := Or.inl ⟨by rfl, ?y48⟩) (hS := by assumption) (h := ?r48)
                case y48 => (intro w hSw; clear hSw; go_simp; try with_reducible rfl)
                case' r48 => skip
                try simp only [List.getElem_toArray, List.getElem_cons_succ, List.getElem_cons_zero, Act.put, List.setIfInBounds_toArray, List.set_cons_zero, List.set_cons_succ]
                first | refine Mem.tkY 12 undef (hy := Or.inr ⟨by rfl, rfl⟩) (hS := by assumption) (h := ?r49) | (refine Mem.tkY 12 ?v49 (hy := Or.inl ⟨by rfl, ?y49⟩) (hS := by assumption) (h := ?r49); case y49 => (intro w hSw; clear hSw; go_simp; try with_reducible rfl))
                case' r49 => skip
                try simp only [List.getElem_toArray, List.getElem_cons_succ, List.getElem_cons_zero, Act.put, List.setIfInBounds_toArray, List.set_cons_zero, List.set_cons_succ]
                first | refine Mem.tkY 13 undef (hy := Or.inr ⟨by rfl, rfl⟩) (hS := by assumption) (h := ?r50) | (refine Mem.tkY 13 ?v50 (hy := Or.inl ⟨by rfl, ?y50⟩) (hS := by assumption) (h := ?r50); case y50 => (intro w hSw; clear hSw; go_simp; try with_reducible rfl))
                case' r50 => skip
                try simp only [List.getElem_toArray, List.getElem_cons_succ, List.getElem_cons_zero, Act.put, List.setIfInBounds_toArray, List.set_cons_zero, List.set_cons_succ]
                first | refine Mem.tkY 14 undef (hy := Or.inr ⟨by rfl, rfl⟩) (hS := by assumption) (h := ?r51) | (refine Mem.tkY 14 ?v51 (hy := Or.inl ⟨by rfl, ?y51⟩) (hS := by assumption) (h := ?r51); case y51 => (intro w hSw; clear hSw; go_simp; try with_reducible rfl))
                case' r51 => skip
                try simp only [List.getElem_toArray, List.getElem_cons_succ, List.getElem_cons_zero, Act.put, List.setIfInBounds_toArray, List.set_cons_zero, List.set_cons_succ]
                first | refine Mem.tkY 15 undef (hy := Or.inr ⟨by rfl, rfl⟩) (hS := by assumption) (h := ?r52) | (refine Mem.tkY 15 ?v52 (hy := Or.inl ⟨by rfl, ?y52⟩) (hS := by assumption) (h := ?r52); case y52 => (intro w hSw; clear hSw; go_simp; try with_reducible rfl))
                case' r52 => skip
                try simp only [List.getElem_toArray, List.getElem_cons_succ, List.getElem_cons_zero, Act.put, List.setIfInBounds_toArray, List.set_cons_zero, List.set_cons_succ]
                first | refine Mem.tkY 16 undef (hy := Or.inr ⟨by rfl, rfl⟩) (hS := by assumption) (h := ?r53) | (refine Mem.tkY 16 ?v53 (hy := Or.inl ⟨by rfl, ?y53⟩) (hS := by assumption) (h := ?r53); case y53 => (intro w hSw; obtain ⟨hT0, hT1, hT2, hT3, hT4, hT5, hT6⟩ := hCl.out w hSw; clear hSw; go_simp; try with_reducible rfl))
                case' r53 => skip
                try simp only [List.getElem_toArray, List.getElem_cons_succ, List.getElem_cons_zero, Act.put, List.setIfInBounds_toArray, List.set_cons_zero, List.set_cons_succ]
                first | refine Mem.tkY 17 undef (hy := Or.inr ⟨by rfl, rfl⟩) (hS := by assumption) (h := ?r54) | (refine Mem.tkY 17 ?v54 (hy := Or.inl ⟨by rfl, ?y54⟩) (hS := by assumption) (h := ?r54); case y54 => (intro w hSw; clear hSw; go_simp; try with_reducible rfl))
                case' r54 => skip
                try simp only [List.getElem_toArray, List.getElem_cons_succ, List.getElem_cons_zero, Act.put, List.setIfInBounds_toArray, List.set_cons_zero, List.set_cons_succ]
                first | refine Mem.tkY 18 undef (hy := Or.inr ⟨by rfl, rfl⟩) (hS := by assumption) (h := ?r55) | (refine Mem.tkY 18 ?v55 (hy := Or.inl ⟨by rfl, ?y55⟩) (hS := by assumption) (h := ?r55); case y55 => (intro w hSw; clear hSw; go_simp; try with_reducible rfl))
                case' r55 => skip
                try simp only [List.getElem_toArray, List.getElem_cons_succ, List.getElem_cons_zero, Act.put, List.setIfInBounds_toArray, List.set_cons_zero, List.set_cons_succ]
                first | refine Mem.tkY 19 undef (hy := Or.inr ⟨by rfl, rfl⟩) (hS := by assumption) (h := ?r56) | (refine Mem.tkY 19 ?v56 (hy := Or.inl ⟨by rfl, ?y56⟩) (hS := by assumption) (h := ?r56); case y56 => (intro w hSw; clear hSw; go_simp; try with_reducible rfl))
                case' r56 => skip
                try simp only [List.getElem_toArray, List.getElem_cons_succ, List.getElem_cons_zero, Act.put, List.setIfInBounds_toArray, List.set_cons_zero, List.set_cons_succ]
                first | refine Mem.tkY 20 undef (hy := Or.inr ⟨by rfl, rfl⟩) (hS := by assumption) (h := ?r57) | (refine Mem.tkY 20 ?v57 (hy := Or.inl ⟨by rfl, ?y57⟩) (hS := by assumption) (h := ?r57); case y57 => (intro w hSw; clear hSw; go_simp; try with_reducible rfl))
                case' r57 => skip
                try simp only [List.getElem_toArray, List.getElem_cons_succ, List.getElem_cons_zero, Act.put, List.setIfInBounds_toArray, List.set_cons_zero, List.set_cons_succ]
                first | refine Mem.tkY 21 undef (hy := Or.inr ⟨by rfl, rfl⟩) (hS := by assumption) (h := ?r58) | (refine Mem.tkY 21 ?v58 (hy := Or.inl ⟨by rfl, ?y58⟩) (hS := by assumption) (h := ?r58); case y58 => (intro w hSw; obtain ⟨hT0, hT1, hT2, hT3, hT4, hT5, hT6⟩ := hCl.out w hSw; clear hSw; go_simp; try with_reducible rfl))
                case' r58 => skip
                try simp only [List.getElem_toArray, List.getElem_cons_succ, List.getElem_cons_zero, Act.put, List.setIfInBounds_toArray, List.set_cons_zero, List.set_cons_succ]
                refine wpAnyH_ready (rs := [22]) (by kernel_rfl) (by simp) ?_
                refine AllReadyH.cons rfl (fun K hK => ?_) AllReadyH.nil
                go_simp
                (refine (CM.out _).mono ?_; rintro e wb ⟨rfl, hbl⟩)
                try go_wp2_with fail
                have hSnew := Mem.bl_step hHeld hbl (by first | exact Nat.le_refl _ | omega | (simp <;> omega))
                refine hK.out _ _ ?_ (fun hHeld2 => ?_)
                · exact hSnew
                clear hbl
                clear hK K hHeld hSnew
                have hHeld := hHeld2
                clear hHeld2
                try simp only [List.getElem_toArray, List.getElem_cons_succ, List.getElem_cons_zero, Act.put, List.setIfInBounds_toArray, List.set_cons_zero, List.set_cons_succ]
                refine Mem.tkY 23 ?v59 (hy := Or.inl ⟨by rfl, ?y59⟩) (hS := by assumption) (h := ?r59)
                case y59 => (intro w hSw; clear hSw; go_simp; try with_reducible rfl)
                case' r59 => skip
                refine Mem.tkY 24 ?v60 (hy := Or.inl ⟨by rfl, ?y60⟩) (hS := by assumption) (h := ?r60)
                case y60 => (intro w hSw; clear hSw; go_simp; try with_reducible rfl)
                case' r60 => skip
                try simp only [List.getElem_toArray, List.getElem_cons_succ, List.getElem_cons_zero, Act.put, List.setIfInBounds_toArray, List.set_cons_zero, List.set_cons_succ]
                refine wpAnyH_done (by kernel_rfl) ?_ _
                clear hCl
                go_wp2_with fail
                go_meet
                case rel => exact ⟨by rw [HM.out], (Below.refl _ _).drew.trans hHeld⟩
            · have hq : (x.blk == t.blk) = false := beq_eq_false_iff_ne.2 hblk
              have HM : Hid (metC x t = false) := Lib.hid (by unfold metC; rw [decide_eq_false hblk]; rfl)
              generalize metC x t = mt at *
              clear hblk
              refine wp_region_held_drew (S := Go.RowKit.Below ((wr.drew).heap.size) (wr.drew)) (by kernel_rfl) ?hb65 (fun hHeld => ?rest65)
              case hb65 =>
                exact Go.RowKit.Below.refl _ _
              case' rest65 => skip
              have hCl := fun (wS : World) (hSw : Go.RowKit.Below ((wr.drew).heap.size) (wr.drew) wS) => And.intro (Mem.bl_cell hSw e0 (by first | omega | (dsimp only; omega) | exact World.block_lt_of_cell? _ _ e0 | (simp <;> omega))) <| And.intro (Mem.bl_cell hSw e1 (by first | omega | (dsimp only; omega) | exact World.block_lt_of_cell? _ _ e1 | (simp <;> omega))) <| And.intro (Mem.bl_cell hSw e2 (by first | omega | (dsimp only; omega) | exact World.block_lt_of_cell? _ _ e2 | (simp <;> omega))) <| And.intro (Mem.bl_cell hSw e3 (by first | omega | (dsimp only; omega) | exact World.block_lt_of_cell? _ _ e3 | (simp <;> omega))) <| And.intro (Mem.bl_cell hSw s1 (by first | omega | (dsimp only; omega) | exact World.block_lt_of_cell? _ _ s1 | (simp <;> omega))) <| And.intro (Mem.bl_cell hSw s2 (by first | omega | (dsimp only; omega) | exact World.block_lt_of_cell? _ _ s2 | (simp <;> omega))) <| Mem.bl_cell hSw s3 (by first | omega | (dsimp only; omega) | exact World.block_lt_of_cell? _ _ s3 | (simp <;> omega))
              replace hCl := Go.Lib.hid hCl
              refine Mem.tkY 0 ?v66 (hy := Or.inl ⟨by rfl, ?y66⟩) (hS := by assumption) (h := ?r66)
              case y66 => (intro w hSw; clear hSw; go_simp; try with_reducible rfl)
              case' r66 => skip
              refine Mem.tkY 1 ?v67 (hy := Or.inl ⟨by rfl, ?y67⟩) (hS := by assumption) (h := ?r67)
              case y67 => (intro w hSw; clear hSw; go_simp; try with_reducible rfl)
              case' r67 => skip
              refine Mem.tkY 2 ?v68 (hy := Or.inl ⟨by rfl, ?y68⟩) (hS := by assumption) (h := ?r68)
              case y68 => (intro w hSw; clear hSw; go_simp; try with_reducible rfl)
              case' r68 => skip
              try simp only [List.getElem_toArray, List.getElem_cons_succ, List.getElem_cons_zero, Act.put, List.setIfInBounds_toArray, List.set_cons_zero, List.set_cons_succ]
              refine Mem.tkY 3 ?v69 (hy := Or.inl ⟨by rfl, ?y69⟩) (hS := by assumption) (h := ?r69)
              case y69 => (intro w hSw; clear hSw; go_simp; try with_reducible rfl)
              case' r69 => skip
              refine Mem.tkY 4 ?v70 (hy := Or.inl ⟨by rfl, ?y70⟩) (hS := by assumption) (h := ?r70)
              case y70 => (intro w hSw; obtain ⟨hT0, hT1, hT2, hT3, hT4, hT5, hT6⟩ := hCl.out w hSw; clear hSw; go_simp; try with_reducible rfl)
              case' r70 => skip
              refine Mem.tkY 5 ?v71 (hy := Or.inl ⟨by rfl, ?y71⟩) (hS := by assumption) (h := ?r71)
              case y71 => (intro w hSw; clear hSw; go_simp; try with_reducible rfl)
              case' r71 => skip
              try simp only [List.getElem_toArray, List.getElem_cons_succ, List.getElem_cons_zero, Act.put, List.setIfInBounds_toArray, List.set_cons_zero, List.set_cons_succ]
              refine Mem.tkY 6 ?v72 (hy := Or.inl ⟨by rfl, ?y72⟩) (hS := by assumption) (h := ?r72)
              case y72 => (intro w hSw; clear hSw; go_simp; try with_reducible rfl)
              case' r72 => skip
              refine Mem.tkY 7 ?v73 (hy := Or.inl ⟨by rfl, ?y73⟩) (hS := by assumption) (h := ?r73)
              case y73 => (intro w hSw; clear hSw; go_simp; try with_reducible rfl)
              case' r73 => skip
              refine Mem.tkY 8 ?v74 (hy := Or.inl ⟨by rfl, ?y74⟩) (hS := by assumption) (h := ?r74)
              case y74 => (intro w hSw; clear hSw; go_simp; try with_reducible rfl)
              case' r74 => skip
              try simp only [List.getElem_toArray, List.getElem_cons_succ, List.getElem_cons_zero, Act.put, List.setIfInBounds_toArray, List.set_cons_zero, List.set_cons_succ]
              refine Mem.tkY 9 ?v75 (hy := Or.inl ⟨by rfl, ?y75⟩) (hS := by assumption) (h := ?r75)
              case y75 => (intro w hSw; obtain ⟨hT0, hT1, hT2, hT3, hT4, hT5, hT6⟩ := hCl.out w hSw; clear hSw; go_simp; try with_reducible rfl)
              case' r75 => skip
              refine Mem.tkY 10 ?v76 (hy := Or.inl ⟨by rfl, ?y76⟩) (hS := by assumption) (h := ?r76)
              case y76 => (intro w hSw; clear hSw; go_simp; try with_reducible rfl)
              case' r76 => skip
              refine Mem.tkY 11 ?v77 (hy := Or.inl ⟨by rfl, ?y77⟩) (hS := by assumption) (h := ?r77)
              case y77 => (intro w hSw; clear hSw; go_simp; try with_reducible rfl)
              case' r77 => skip
              try simp only [List.getElem_toArray, List.getElem_cons_succ, List.getElem_cons_zero, Act.put, List.setIfInBounds_toArray, List.set_cons_zero, List.set_cons_succ]
              first | refine Mem.tkY 12 undef (hy := Or.inr ⟨by rfl, rfl⟩) (hS := by assumption) (h := ?r78) | (refine Mem.tkY 12 ?v78 (hy := Or.inl ⟨by rfl, ?y78⟩) (hS := by assumption) (h := ?r78); case y78 => (intro w hSw; clear hSw; go_simp; try with_reducible rfl))
              case' r78 => skip
              try simp only [List.getElem_toArray, List.getElem_cons_succ, List.getElem_cons_zero, Act.put, List.setIfInBounds_toArray, List.set_cons_zero, List.set_cons_succ]
              first | refine Mem.tkY 13 undef (hy := Or.inr ⟨by rfl, rfl⟩) (hS := by assumption) (h := ?r79) | (refine Mem.tkY 13 ?v79 (hy := Or.inl ⟨by rfl, ?y79⟩) (hS := by assumption) (h := ?r79); case y79 => (intro w hSw; clear hSw; go_simp; try with_reducible rfl))
              case' r79 => skip
              try simp only [List.getElem_toArray, List.getElem_cons_succ, List.getElem_cons_zero, Act.put, List.setIfInBounds_toArray, List.set_cons_zero, List.set_cons_succ]
              first | refine Mem.tkY 14 undef (hy := Or.inr ⟨by rfl, rfl⟩) (hS := by assumption) (h := ?r80) | (refine Mem.tkY 14 ?v80 (hy := Or.inl ⟨by rfl, ?y80⟩) (hS := by assumption) (h := ?r80); case y80 => (intro w hSw; clear hSw; go_simp; try with_reducible rfl))
              case' r80 => skip
              try simp only [List.getElem_toArray, List.getElem_cons_succ, List.getElem_cons_zero, Act.put, List.setIfInBounds_toArray, List.set_cons_zero, List.set_cons_succ]
              first | refine Mem.tkY 15 undef (hy := Or.inr ⟨by rfl, rfl⟩) (hS := by assumption) (h := ?r81) | (refine Mem.tkY 15 ?v81 (hy := Or.inl ⟨by rfl, ?y81⟩) (hS := by assumption) (h := ?r81); case y81 => (intro w hSw; clear hSw; go_simp; try with_reducible rfl))
              case' r81 => skip
              try simp only [List.getElem_toArray, List.getElem_cons_succ, List.getElem_cons_zero, Act.put, List.setIfInBounds_toArray, List.set_cons_zero, List.set_cons_succ]
              first | refine Mem.tkY 16 undef (hy := Or.inr ⟨by rfl, rfl⟩) (hS := by assumption) (h := ?r82) | (refine Mem.tkY 16 ?v82 (hy := Or.inl ⟨by rfl, ?y82⟩) (hS := by assumption) (h := ?r82); case y82 => (intro w hSw; obtain ⟨hT0, hT1, hT2, hT3, hT4, hT5, hT6⟩ := hCl.out w hSw; clear hSw; go_simp; try with_reducible rfl))
              case' r82 => skip
              try simp only [List.getElem_toArray, List.getElem_cons_succ, List.getElem_cons_zero, Act.put, List.setIfInBounds_toArray, List.set_cons_zero, List.set_cons_succ]
              first | refine Mem.tkY 17 undef (hy := Or.inr ⟨by rfl, rfl⟩) (hS := by assumption) (h := ?r83) | (refine Mem.tkY 17 ?v83 (hy := Or.inl ⟨by rfl, ?y83⟩) (hS := by assumption) (h := ?r83); case y83 => (intro w hSw; clear hSw; go_simp; try with_reducible rfl))
              case' r83 => skip
              try simp only [List.getElem_toArray, List.getElem_cons_succ, List.getElem_cons_zero, Act.put, List.setIfInBounds_toArray, List.set_cons_zero, List.set_cons_succ]
              first | refine Mem.tkY 18 undef (hy := Or.inr ⟨by rfl, rfl⟩) (hS := by assumption) (h := ?r84) | (refine Mem.tkY 18 ?v84 (hy := Or.inl ⟨by rfl, ?y84⟩) (hS := by assumption) (h := ?r84); case y84 => (intro w hSw; clear hSw; go_simp; try with_reducible rfl))
              case' r84 => skip
              try simp only [List.getElem_toArray, List.getElem_cons_succ, List.getElem_cons_zero, Act.put, List.setIfInBounds_toArray, List.set_cons_zero, List.set_cons_succ]
              first | refine Mem.tkY 19 undef (hy := Or.inr ⟨by rfl, rfl⟩) (hS := by assumption) (h := ?r85) | (refine Mem.tkY 19 ?v85 (hy := Or.inl ⟨by rfl, ?y85⟩) (hS := by assumption) (h := ?r85); case y85 => (intro w hSw; clear hSw; go_simp; try with_reducible rfl))
              case' r85 => skip
              try simp only [List.getElem_toArray, List.getElem_cons_succ, List.getElem_cons_zero, Act.put, List.setIfInBounds_toArray, List.set_cons_zero, List.set_cons_succ]
              first | refine Mem.tkY 20 undef (hy := Or.inr ⟨by rfl, rfl⟩) (hS := by assumption) (h := ?r86) | (refine Mem.tkY 20 ?v86 (hy := Or.inl ⟨by rfl, ?y86⟩) (hS := by assumption) (h := ?r86); case y86 => (intro w hSw; clear hSw; go_simp; try with_reducible rfl))
              case' r86 => skip
              try simp only [List.getElem_toArray, List.getElem_cons_succ, List.getElem_cons_zero, Act.put, List.setIfInBounds_toArray, List.set_cons_zero, List.set_cons_succ]
              first | refine Mem.tkY 21 undef (hy := Or.inr ⟨by rfl, rfl⟩) (hS := by assumption) (h := ?r87) | (refine Mem.tkY 21 ?v87 (hy := Or.inl ⟨by rfl, ?y87⟩) (hS := by assumption) (h := ?r87); case y87 => (intro w hSw; obtain ⟨hT0, hT1, hT2, hT3, hT4, hT5, hT6⟩ := hCl.out w hSw; clear hSw; go_simp; try with_reducible rfl))
              case' r87 => skip
              try simp only [List.getElem_toArray, List.getElem_cons_succ, List.getElem_cons_zero, Act.put, List.setIfInBounds_toArray, List.set_cons_zero, List.set_cons_succ]
              first | refine Mem.tkY 22 undef (hy := Or.inr ⟨by rfl, rfl⟩) (hS := by assumption) (h := ?r88) | (refine Mem.tkY 22 ?v88 (hy := Or.inl ⟨by rfl, ?y88⟩) (hS := by assumption) (h := ?r88); case y88 => (intro w hSw; clear hSw; go_simp; try with_reducible rfl))
              case' r88 => skip
              refine Mem.tkY 23 ?v89 (hy := Or.inl ⟨by rfl, ?y89⟩) (hS := by assumption) (h := ?r89)
              case y89 => (intro w hSw; clear hSw; go_simp; try with_reducible rfl)
              case' r89 => skip
              refine Mem.tkY 24 ?v90 (hy := Or.inl ⟨by rfl, ?y90⟩) (hS := by assumption) (h := ?r90)
              case y90 => (intro w hSw; clear hSw; go_simp; try with_reducible rfl)
              case' r90 => skip
              try simp only [List.getElem_toArray, List.getElem_cons_succ, List.getElem_cons_zero, Act.put, List.setIfInBounds_toArray, List.set_cons_zero, List.set_cons_succ]
              refine wpAnyH_done (by kernel_rfl) ?_ _
              clear hCl
              go_wp2_with fail
              go_meet
              case rel => exact ⟨by rw [HM.out], (Below.refl _ _).drew.trans hHeld⟩
          case rest =>
            obtain ⟨rfl, hb8⟩ := hcut
            clear e0 e1 e2 e3 s1 s2 s3 CM
            have HB8 := Lib.hid (HBR.out.trans (hb8.mono HBR.out.size))
            have HO8 := Lib.hid (HOR.out.below hb8)
            have f0 : wc.drew.cell? ⟨g, o + j * 5, none⟩ = some (.int .i64 x.id) := HE.out wc HB8.out
            have f4 : wc.drew.cell? ⟨g, o + k * 5 + 4, none⟩ = some (.slice T2 t.needs.length d2) := HT.out wc HB8.out
            have hgc : g < wc.drew.heap.size := Nat.lt_of_lt_of_le hg HB8.out.size
            have hnn : Is wc.drew T2 t.needs := (HNE.out.below HB8.out).drew
            clear hb8
            cases hmt : metC x t with
            | true =>
              have HY : Hid (waitK xs (j + 1) t = R ++ [x.id]) := Lib.hid (by rw [HR2.out]; exact HYY.out (by rw [hmt]; rfl))
              clear hmt
              go_wp2_with fail
              refine wp_region_held_drew (S := Go.RowKit.Below ((wc.drew).heap.size) (wc.drew)) (by kernel_rfl) ?hb106 (fun hHeld => ?rest106)
              case hb106 =>
                exact Go.RowKit.Below.refl _ _
              case' rest106 => skip
              have hCl := fun (wS : World) (hSw : Go.RowKit.Below ((wc.drew).heap.size) (wc.drew) wS) => And.intro (Mem.bl_cell hSw f0 (by first | omega | (dsimp only; omega) | exact World.block_lt_of_cell? _ _ f0 | (simp <;> omega))) <| Mem.bl_cell hSw f4 (by first | omega | (dsimp only; omega) | exact World.block_lt_of_cell? _ _ f4 | (simp <;> omega))
              replace hCl := Go.Lib.hid hCl
              refine Mem.tkY 0 ?v107 (hy := Or.inl ⟨by rfl, ?y107⟩) (hS := by assumption) (h := ?r107)
              case y107 => (intro w hSw; clear hSw; go_simp; try with_reducible rfl)
              case' r107 => skip
              refine Mem.tkY 1 ?v108 (hy := Or.inl ⟨by rfl, ?y108⟩) (hS := by assumption) (h := ?r108)
              case y108 => (intro w hSw; clear hSw; go_simp; try with_reducible rfl)
              case' r108 => skip
              try simp only [List.getElem_toArray, List.getElem_cons_succ, List.getElem_cons_zero, Act.put, List.setIfInBounds_toArray, List.set_cons_zero, List.set_cons_succ]
              first | refine Mem.tkY 2 undef (hy := Or.inr ⟨by rfl, rfl⟩) (hS := by assumption) (h := ?r109) | (refine Mem.tkY 2 ?v109 (hy := Or.inl ⟨by rfl, ?y109⟩) (hS := by assumption) (h := ?r109); case y109 => (intro w hSw; clear hSw; go_simp; try with_reducible rfl))
              case' r109 => skip
              try simp only [List.getElem_toArray, List.getElem_cons_succ, List.getElem_cons_zero, Act.put, List.setIfInBounds_toArray, List.set_cons_zero, List.set_cons_succ]
              first | refine Mem.tkY 3 undef (hy := Or.inr ⟨by rfl, rfl⟩) (hS := by assumption) (h := ?r110) | (refine Mem.tkY 3 ?v110 (hy := Or.inl ⟨by rfl, ?y110⟩) (hS := by assumption) (h := ?r110); case y110 => (intro w hSw; clear hSw; go_simp; try with_reducible rfl))
              case' r110 => skip
              try simp only [List.getElem_toArray, List.getElem_cons_succ, List.getElem_cons_zero, Act.put, List.setIfInBounds_toArray, List.set_cons_zero, List.set_cons_succ]
              first | refine Mem.tkY 4 undef (hy := Or.inr ⟨by rfl, rfl⟩) (hS := by assumption) (h := ?r111) | (refine Mem.tkY 4 ?v111 (hy := Or.inl ⟨by rfl, ?y111⟩) (hS := by assumption) (h := ?r111); case y111 => (intro w hSw; clear hSw; go_simp; try with_reducible rfl))
              case' r111 => skip
              try simp only [List.getElem_toArray, List.getElem_cons_succ, List.getElem_cons_zero, Act.put, List.setIfInBounds_toArray, List.set_cons_zero, List.set_cons_succ]
              first | refine Mem.tkY 5 undef (hy := Or.inr ⟨by rfl, rfl⟩) (hS := by assumption) (h := ?r112) | (refine Mem.tkY 5 ?v112 (hy := Or.inl ⟨by rfl, ?y112⟩) (hS := by assumption) (h := ?r112); case y112 => (intro w hSw; clear hSw; go_simp; try with_reducible rfl))
              case' r112 => skip
              try simp only [List.getElem_toArray, List.getElem_cons_succ, List.getElem_cons_zero, Act.put, List.setIfInBounds_toArray, List.set_cons_zero, List.set_cons_succ]
              first | refine Mem.tkY 6 undef (hy := Or.inr ⟨by rfl, rfl⟩) (hS := by assumption) (h := ?r113) | (refine Mem.tkY 6 ?v113 (hy := Or.inl ⟨by rfl, ?y113⟩) (hS := by assumption) (h := ?r113); case y113 => (intro w hSw; obtain ⟨hT0, hT1⟩ := hCl.out w hSw; clear hSw; go_simp; try with_reducible rfl))
              case' r113 => skip
              try simp only [List.getElem_toArray, List.getElem_cons_succ, List.getElem_cons_zero, Act.put, List.setIfInBounds_toArray, List.set_cons_zero, List.set_cons_succ]
              first | refine Mem.tkY 7 undef (hy := Or.inr ⟨by rfl, rfl⟩) (hS := by assumption) (h := ?r114) | (refine Mem.tkY 7 ?v114 (hy := Or.inl ⟨by rfl, ?y114⟩) (hS := by assumption) (h := ?r114); case y114 => (intro w hSw; clear hSw; go_simp; try with_reducible rfl))
              case' r114 => skip
              try simp only [List.getElem_toArray, List.getElem_cons_succ, List.getElem_cons_zero, Act.put, List.setIfInBounds_toArray, List.set_cons_zero, List.set_cons_succ]
              first | refine Mem.tkY 8 undef (hy := Or.inr ⟨by rfl, rfl⟩) (hS := by assumption) (h := ?r115) | (refine Mem.tkY 8 ?v115 (hy := Or.inl ⟨by rfl, ?y115⟩) (hS := by assumption) (h := ?r115); case y115 => (intro w hSw; clear hSw; go_simp; try with_reducible rfl))
              case' r115 => skip
              try simp only [List.getElem_toArray, List.getElem_cons_succ, List.getElem_cons_zero, Act.put, List.setIfInBounds_toArray, List.set_cons_zero, List.set_cons_succ]
              first | refine Mem.tkY 9 undef (hy := Or.inr ⟨by rfl, rfl⟩) (hS := by assumption) (h := ?r116) | (refine Mem.tkY 9 ?v116 (hy := Or.inl ⟨by rfl, ?y116⟩) (hS := by assumption) (h := ?r116); case y116 => (intro w hSw; clear hSw; go_simp; try with_reducible rfl))
              case' r116 => skip
              try simp only [List.getElem_toArray, List.getElem_cons_succ, List.getElem_cons_zero, Act.put, List.setIfInBounds_toArray, List.set_cons_zero, List.set_cons_succ]
              first | refine Mem.tkY 10 undef (hy := Or.inr ⟨by rfl, rfl⟩) (hS := by assumption) (h := ?r117) | (refine Mem.tkY 10 ?v117 (hy := Or.inl ⟨by rfl, ?y117⟩) (hS := by assumption) (h := ?r117); case y117 => (intro w hSw; clear hSw; go_simp; try with_reducible rfl))
              case' r117 => skip
              try simp only [List.getElem_toArray, List.getElem_cons_succ, List.getElem_cons_zero, Act.put, List.setIfInBounds_toArray, List.set_cons_zero, List.set_cons_succ]
              first | refine Mem.tkY 11 undef (hy := Or.inr ⟨by rfl, rfl⟩) (hS := by assumption) (h := ?r118) | (refine Mem.tkY 11 ?v118 (hy := Or.inl ⟨by rfl, ?y118⟩) (hS := by assumption) (h := ?r118); case y118 => (intro w hSw; obtain ⟨hT0, hT1⟩ := hCl.out w hSw; clear hSw; go_simp; try with_reducible rfl))
              case' r118 => skip
              try simp only [List.getElem_toArray, List.getElem_cons_succ, List.getElem_cons_zero, Act.put, List.setIfInBounds_toArray, List.set_cons_zero, List.set_cons_succ]
              first | refine Mem.tkY 12 undef (hy := Or.inr ⟨by rfl, rfl⟩) (hS := by assumption) (h := ?r119) | (refine Mem.tkY 12 ?v119 (hy := Or.inl ⟨by rfl, ?y119⟩) (hS := by assumption) (h := ?r119); case y119 => (intro w hSw; clear hSw; go_simp; try with_reducible rfl))
              case' r119 => skip
              refine Mem.tkY 13 ?v120 (hy := Or.inl ⟨by rfl, ?y120⟩) (hS := by assumption) (h := ?r120)
              case y120 => (intro w hSw; clear hSw; go_simp; try with_reducible rfl)
              case' r120 => skip
              try simp only [List.getElem_toArray, List.getElem_cons_succ, List.getElem_cons_zero, Act.put, List.setIfInBounds_toArray, List.set_cons_zero, List.set_cons_succ]
              refine wpAnyH_done (by kernel_rfl) ?_ _
              clear hCl
              have HB9 := Lib.hid (HB8.out.trans (((Below.refl _ _).drew.trans hHeld).mono HB8.out.size))
              have HO9 := Lib.hid (HO8.out.below ((Below.refl _ _).drew.trans hHeld))
              clear hHeld f0 f4 hnn
              generalize wc.drew = w9 at *
              have hc1 : (w9.alloc (.cells #[.int .i64 x.id] 3)).cell? ⟨w9.heap.size, 0, none⟩ = some (.int .i64 x.id) := by rw [cell_of_row _ _ _ _ _ _ (heap_alloc_new w9 _)]; rfl
              have q0 : w9.cell? ⟨g, o + j * 5, none⟩ = some (.int .i64 x.id) := HE.out w9 HB9.out
              have hle9 : w.heap.size ≤ w9.heap.size := HB9.out.size
              go_wp2_with (at_builtin; go_loud (refine wpList_app1 rfl _ _ 28 rfl w.heap.size 3 (.int .i64 0) 8 V64 Try.underlying28 intInfo3 rfl u5 R x.id rfl _ w9.heap.size rfl (HO9.out.alloc _) hc1 rfl (by omega) (by omega) (by simp; omega) ?_); intro v7 w7 hown7 hb7 hg7)
              have NB := Lib.hid ((HB9.out.alloc hle9 (.cells #[.int .i64 x.id] 3)).trans hb7)
              have NO := Lib.hid hown7
              clear hown7 hb7 hg7
              go_roundw
              case rel => exact ⟨j + 1, by omega, by go_num, by rw [HY.out]; exact NO.out, NB.out⟩
              case measure => simp [intOf]; omega
            | false =>
              by_cases hin : x.id ∈ t.needs
              · have HY : Hid (waitK xs (j + 1) t = R ++ [x.id]) := Lib.hid (by rw [HR2.out]; exact HYY.out (by rw [hmt, decide_eq_true hin]; rfl))
                rw [decide_eq_true hin] at CI
                clear hmt hin
                go_wp2_with fail
                refine wp_region_held_drew (S := Go.RowKit.Below ((wc.drew).heap.size) (wc.drew)) (by kernel_rfl) ?hb136 (fun hHeld => ?rest136)
                case hb136 =>
                  exact Go.RowKit.Below.refl _ _
                case' rest136 => skip
                have hCl := fun (wS : World) (hSw : Go.RowKit.Below ((wc.drew).heap.size) (wc.drew) wS) => And.intro (Mem.bl_cell hSw f0 (by first | omega | (dsimp only; omega) | exact World.block_lt_of_cell? _ _ f0 | (simp <;> omega))) <| Mem.bl_cell hSw f4 (by first | omega | (dsimp only; omega) | exact World.block_lt_of_cell? _ _ f4 | (simp <;> omega))
                replace hCl := Go.Lib.hid hCl
                refine Mem.tkY 0 ?v137 (hy := Or.inl ⟨by rfl, ?y137⟩) (hS := by assumption) (h := ?r137)
                case y137 => (intro w hSw; clear hSw; go_simp; try with_reducible rfl)
                case' r137 => skip
                refine Mem.tkY 1 ?v138 (hy := Or.inl ⟨by rfl, ?y138⟩) (hS := by assumption) (h := ?r138)
                case y138 => (intro w hSw; clear hSw; go_simp; try with_reducible rfl)
                case' r138 => skip
                try simp only [List.getElem_toArray, List.getElem_cons_succ, List.getElem_cons_zero, Act.put, List.setIfInBounds_toArray, List.set_cons_zero, List.set_cons_succ]
                first | refine Mem.tkY 2 undef (hy := Or.inr ⟨by rfl, rfl⟩) (hS := by assumption) (h := ?r139) | (refine Mem.tkY 2 ?v139 (hy := Or.inl ⟨by rfl, ?y139⟩) (hS := by assumption) (h := ?r139); case y139 => (intro w hSw; clear hSw; go_simp; try with_reducible rfl))
                case' r139 => skip
                try simp only [List.getElem_toArray, List.getElem_cons_succ, List.getElem_cons_zero, Act.put, List.setIfInBounds_toArray, List.set_cons_zero, List.set_cons_succ]
                first | refine Mem.tkY 3 undef (hy := Or.inr ⟨by rfl, rfl⟩) (hS := by assumption) (h := ?r140) | (refine Mem.tkY 3 ?v140 (hy := Or.inl ⟨by rfl, ?y140⟩) (hS := by assumption) (h := ?r140); case y140 => (intro w hSw; clear hSw; go_simp; try with_reducible rfl))
                case' r140 => skip
                try simp only [List.getElem_toArray, List.getElem_cons_succ, List.getElem_cons_zero, Act.put, List.setIfInBounds_toArray, List.set_cons_zero, List.set_cons_succ]
                first | refine Mem.tkY 4 undef (hy := Or.inr ⟨by rfl, rfl⟩) (hS := by assumption) (h := ?r141) | (refine Mem.tkY 4 ?v141 (hy := Or.inl ⟨by rfl, ?y141⟩) (hS := by assumption) (h := ?r141); case y141 => (intro w hSw; clear hSw; go_simp; try with_reducible rfl))
                case' r141 => skip
                try simp only [List.getElem_toArray, List.getElem_cons_succ, List.getElem_cons_zero, Act.put, List.setIfInBounds_toArray, List.set_cons_zero, List.set_cons_succ]
                first | refine Mem.tkY 5 undef (hy := Or.inr ⟨by rfl, rfl⟩) (hS := by assumption) (h := ?r142) | (refine Mem.tkY 5 ?v142 (hy := Or.inl ⟨by rfl, ?y142⟩) (hS := by assumption) (h := ?r142); case y142 => (intro w hSw; clear hSw; go_simp; try with_reducible rfl))
                case' r142 => skip
                try simp only [List.getElem_toArray, List.getElem_cons_succ, List.getElem_cons_zero, Act.put, List.setIfInBounds_toArray, List.set_cons_zero, List.set_cons_succ]
                first | refine Mem.tkY 6 undef (hy := Or.inr ⟨by rfl, rfl⟩) (hS := by assumption) (h := ?r143) | (refine Mem.tkY 6 ?v143 (hy := Or.inl ⟨by rfl, ?y143⟩) (hS := by assumption) (h := ?r143); case y143 => (intro w hSw; obtain ⟨hT0, hT1⟩ := hCl.out w hSw; clear hSw; go_simp; try with_reducible rfl))
                case' r143 => skip
                try simp only [List.getElem_toArray, List.getElem_cons_succ, List.getElem_cons_zero, Act.put, List.setIfInBounds_toArray, List.set_cons_zero, List.set_cons_succ]
                first | refine Mem.tkY 7 undef (hy := Or.inr ⟨by rfl, rfl⟩) (hS := by assumption) (h := ?r144) | (refine Mem.tkY 7 ?v144 (hy := Or.inl ⟨by rfl, ?y144⟩) (hS := by assumption) (h := ?r144); case y144 => (intro w hSw; clear hSw; go_simp; try with_reducible rfl))
                case' r144 => skip
                try simp only [List.getElem_toArray, List.getElem_cons_succ, List.getElem_cons_zero, Act.put, List.setIfInBounds_toArray, List.set_cons_zero, List.set_cons_succ]
                first | refine Mem.tkY 8 undef (hy := Or.inr ⟨by rfl, rfl⟩) (hS := by assumption) (h := ?r145) | (refine Mem.tkY 8 ?v145 (hy := Or.inl ⟨by rfl, ?y145⟩) (hS := by assumption) (h := ?r145); case y145 => (intro w hSw; clear hSw; go_simp; try with_reducible rfl))
                case' r145 => skip
                try simp only [List.getElem_toArray, List.getElem_cons_succ, List.getElem_cons_zero, Act.put, List.setIfInBounds_toArray, List.set_cons_zero, List.set_cons_succ]
                first | refine Mem.tkY 9 undef (hy := Or.inr ⟨by rfl, rfl⟩) (hS := by assumption) (h := ?r146) | (refine Mem.tkY 9 ?v146 (hy := Or.inl ⟨by rfl, ?y146⟩) (hS := by assumption) (h := ?r146); case y146 => (intro w hSw; clear hSw; go_simp; try with_reducible rfl))
                case' r146 => skip
                try simp only [List.getElem_toArray, List.getElem_cons_succ, List.getElem_cons_zero, Act.put, List.setIfInBounds_toArray, List.set_cons_zero, List.set_cons_succ]
                first | refine Mem.tkY 10 undef (hy := Or.inr ⟨by rfl, rfl⟩) (hS := by assumption) (h := ?r147) | (refine Mem.tkY 10 ?v147 (hy := Or.inl ⟨by rfl, ?y147⟩) (hS := by assumption) (h := ?r147); case y147 => (intro w hSw; clear hSw; go_simp; try with_reducible rfl))
                case' r147 => skip
                try simp only [List.getElem_toArray, List.getElem_cons_succ, List.getElem_cons_zero, Act.put, List.setIfInBounds_toArray, List.set_cons_zero, List.set_cons_succ]
                first | refine Mem.tkY 11 undef (hy := Or.inr ⟨by rfl, rfl⟩) (hS := by assumption) (h := ?r148) | (refine Mem.tkY 11 ?v148 (hy := Or.inl ⟨by rfl, ?y148⟩) (hS := by assumption) (h := ?r148); case y148 => (intro w hSw; obtain ⟨hT0, hT1⟩ := hCl.out w hSw; clear hSw; go_simp; try with_reducible rfl))
                case' r148 => skip
                try simp only [List.getElem_toArray, List.getElem_cons_succ, List.getElem_cons_zero, Act.put, List.setIfInBounds_toArray, List.set_cons_zero, List.set_cons_succ]
                refine wpAnyH_ready (rs := [12]) (by kernel_rfl) (by simp) ?_
                refine AllReadyH.cons rfl (fun K hK => ?_) AllReadyH.nil
                go_simp
                (refine (CI.out _ hnn).mono ?_; rintro e w9 ⟨rfl, hbl⟩)
                try go_wp2_with fail
                have hSnew := Mem.bl_step hHeld hbl (by first | exact Nat.le_refl _ | omega | (simp <;> omega))
                refine hK.out _ _ ?_ (fun hHeld2 => ?_)
                · exact hSnew
                try replace hnn := hnn.below hbl
                clear hbl
                clear hK K hHeld hSnew
                have hHeld := hHeld2
                clear hHeld2
                try simp only [List.getElem_toArray, List.getElem_cons_succ, List.getElem_cons_zero, Act.put, List.setIfInBounds_toArray, List.set_cons_zero, List.set_cons_succ]
                refine Mem.tkY 13 ?v149 (hy := Or.inl ⟨by rfl, ?y149⟩) (hS := by assumption) (h := ?r149)
                case y149 => (intro w hSw; clear hSw; go_simp; try with_reducible rfl)
                case' r149 => skip
                try simp only [List.getElem_toArray, List.getElem_cons_succ, List.getElem_cons_zero, Act.put, List.setIfInBounds_toArray, List.set_cons_zero, List.set_cons_succ]
                refine wpAnyH_done (by kernel_rfl) ?_ _
                clear hCl
                have HB9 := Lib.hid (HB8.out.trans (((Below.refl _ _).drew.trans hHeld).mono HB8.out.size))
                have HO9 := Lib.hid (HO8.out.below ((Below.refl _ _).drew.trans hHeld))
                clear hHeld f0 f4 hnn
                have hc1 : (w9.alloc (.cells #[.int .i64 x.id] 3)).cell? ⟨w9.heap.size, 0, none⟩ = some (.int .i64 x.id) := by rw [cell_of_row _ _ _ _ _ _ (heap_alloc_new w9 _)]; rfl
                have q0 : w9.cell? ⟨g, o + j * 5, none⟩ = some (.int .i64 x.id) := HE.out w9 HB9.out
                have hle9 : w.heap.size ≤ w9.heap.size := HB9.out.size
                go_wp2_with (at_builtin; go_loud (refine wpList_app1 rfl _ _ 28 rfl w.heap.size 3 (.int .i64 0) 8 V64 Try.underlying28 intInfo3 rfl u5 R x.id rfl _ w9.heap.size rfl (HO9.out.alloc _) hc1 rfl (by omega) (by omega) (by simp; omega) ?_); intro v7 w7 hown7 hb7 hg7)
                have NB := Lib.hid ((HB9.out.alloc hle9 (.cells #[.int .i64 x.id] 3)).trans hb7)
                have NO := Lib.hid hown7
                clear hown7 hb7 hg7
                go_roundw
                case rel => exact ⟨j + 1, by omega, by go_num, by rw [HY.out]; exact NO.out, NB.out⟩
                case measure => simp [intOf]; omega
              · have HN : Hid (waitK xs (j + 1) t = R) := Lib.hid (by rw [HR2.out]; exact HNN.out (by rw [hmt, decide_eq_false hin]; rfl))
                rw [decide_eq_false hin] at CI
                clear hmt hin
                go_wp2_with fail
                refine wp_region_held_drew (S := Go.RowKit.Below ((wc.drew).heap.size) (wc.drew)) (by kernel_rfl) ?hb159 (fun hHeld => ?rest159)
                case hb159 =>
                  exact Go.RowKit.Below.refl _ _
                case' rest159 => skip
                have hCl := fun (wS : World) (hSw : Go.RowKit.Below ((wc.drew).heap.size) (wc.drew) wS) => And.intro (Mem.bl_cell hSw f0 (by first | omega | (dsimp only; omega) | exact World.block_lt_of_cell? _ _ f0 | (simp <;> omega))) <| Mem.bl_cell hSw f4 (by first | omega | (dsimp only; omega) | exact World.block_lt_of_cell? _ _ f4 | (simp <;> omega))
                replace hCl := Go.Lib.hid hCl
                refine Mem.tkY 0 ?v160 (hy := Or.inl ⟨by rfl, ?y160⟩) (hS := by assumption) (h := ?r160)
                case y160 => (intro w hSw; clear hSw; go_simp; try with_reducible rfl)
                case' r160 => skip
                refine Mem.tkY 1 ?v161 (hy := Or.inl ⟨by rfl, ?y161⟩) (hS := by assumption) (h := ?r161)
                case y161 => (intro w hSw; clear hSw; go_simp; try with_reducible rfl)
                case' r161 => skip
                try simp only [List.getElem_toArray, List.getElem_cons_succ, List.getElem_cons_zero, Act.put, List.setIfInBounds_toArray, List.set_cons_zero, List.set_cons_succ]
                first | refine Mem.tkY 2 undef (hy := Or.inr ⟨by rfl, rfl⟩) (hS := by assumption) (h := ?r162) | (refine Mem.tkY 2 ?v162 (hy := Or.inl ⟨by rfl, ?y162⟩) (hS := by assumption) (h := ?r162); case y162 => (intro w hSw; clear hSw; go_simp; try with_reducible rfl))
                case' r162 => skip
                try simp only [List.getElem_toArray, List.getElem_cons_succ, List.getElem_cons_zero, Act.put, List.setIfInBounds_toArray, List.set_cons_zero, List.set_cons_succ]
                first | refine Mem.tkY 3 undef (hy := Or.inr ⟨by rfl, rfl⟩) (hS := by assumption) (h := ?r163) | (refine Mem.tkY 3 ?v163 (hy := Or.inl ⟨by rfl, ?y163⟩) (hS := by assumption) (h := ?r163); case y163 => (intro w hSw; clear hSw; go_simp; try with_reducible rfl))
                case' r163 => skip
                try simp only [List.getElem_toArray, List.getElem_cons_succ, List.getElem_cons_zero, Act.put, List.setIfInBounds_toArray, List.set_cons_zero, List.set_cons_succ]
                first | refine Mem.tkY 4 undef (hy := Or.inr ⟨by rfl, rfl⟩) (hS := by assumption) (h := ?r164) | (refine Mem.tkY 4 ?v164 (hy := Or.inl ⟨by rfl, ?y164⟩) (hS := by assumption) (h := ?r164); case y164 => (intro w hSw; clear hSw; go_simp; try with_reducible rfl))
                case' r164 => skip
                try simp only [List.getElem_toArray, List.getElem_cons_succ, List.getElem_cons_zero, Act.put, List.setIfInBounds_toArray, List.set_cons_zero, List.set_cons_succ]
                first | refine Mem.tkY 5 undef (hy := Or.inr ⟨by rfl, rfl⟩) (hS := by assumption) (h := ?r165) | (refine Mem.tkY 5 ?v165 (hy := Or.inl ⟨by rfl, ?y165⟩) (hS := by assumption) (h := ?r165); case y165 => (intro w hSw; clear hSw; go_simp; try with_reducible rfl))
                case' r165 => skip
                try simp only [List.getElem_toArray, List.getElem_cons_succ, List.getElem_cons_zero, Act.put, List.setIfInBounds_toArray, List.set_cons_zero, List.set_cons_succ]
                first | refine Mem.tkY 6 undef (hy := Or.inr ⟨by rfl, rfl⟩) (hS := by assumption) (h := ?r166) | (refine Mem.tkY 6 ?v166 (hy := Or.inl ⟨by rfl, ?y166⟩) (hS := by assumption) (h := ?r166); case y166 => (intro w hSw; obtain ⟨hT0, hT1⟩ := hCl.out w hSw; clear hSw; go_simp; try with_reducible rfl))
                case' r166 => skip
                try simp only [List.getElem_toArray, List.getElem_cons_succ, List.getElem_cons_zero, Act.put, List.setIfInBounds_toArray, List.set_cons_zero, List.set_cons_succ]
                first | refine Mem.tkY 7 undef (hy := Or.inr ⟨by rfl, rfl⟩) (hS := by assumption) (h := ?r167) | (refine Mem.tkY 7 ?v167 (hy := Or.inl ⟨by rfl, ?y167⟩) (hS := by assumption) (h := ?r167); case y167 => (intro w hSw; clear hSw; go_simp; try with_reducible rfl))
                case' r167 => skip
                try simp only [List.getElem_toArray, List.getElem_cons_succ, List.getElem_cons_zero, Act.put, List.setIfInBounds_toArray, List.set_cons_zero, List.set_cons_succ]
                first | refine Mem.tkY 8 undef (hy := Or.inr ⟨by rfl, rfl⟩) (hS := by assumption) (h := ?r168) | (refine Mem.tkY 8 ?v168 (hy := Or.inl ⟨by rfl, ?y168⟩) (hS := by assumption) (h := ?r168); case y168 => (intro w hSw; clear hSw; go_simp; try with_reducible rfl))
                case' r168 => skip
                try simp only [List.getElem_toArray, List.getElem_cons_succ, List.getElem_cons_zero, Act.put, List.setIfInBounds_toArray, List.set_cons_zero, List.set_cons_succ]
                first | refine Mem.tkY 9 undef (hy := Or.inr ⟨by rfl, rfl⟩) (hS := by assumption) (h := ?r169) | (refine Mem.tkY 9 ?v169 (hy := Or.inl ⟨by rfl, ?y169⟩) (hS := by assumption) (h := ?r169); case y169 => (intro w hSw; clear hSw; go_simp; try with_reducible rfl))
                case' r169 => skip
                try simp only [List.getElem_toArray, List.getElem_cons_succ, List.getElem_cons_zero, Act.put, List.setIfInBounds_toArray, List.set_cons_zero, List.set_cons_succ]
                first | refine Mem.tkY 10 undef (hy := Or.inr ⟨by rfl, rfl⟩) (hS := by assumption) (h := ?r170) | (refine Mem.tkY 10 ?v170 (hy := Or.inl ⟨by rfl, ?y170⟩) (hS := by assumption) (h := ?r170); case y170 => (intro w hSw; clear hSw; go_simp; try with_reducible rfl))
                case' r170 => skip
                try simp only [List.getElem_toArray, List.getElem_cons_succ, List.getElem_cons_zero, Act.put, List.setIfInBounds_toArray, List.set_cons_zero, List.set_cons_succ]
                first | refine Mem.tkY 11 undef (hy := Or.inr ⟨by rfl, rfl⟩) (hS := by assumption) (h := ?r171) | (refine Mem.tkY 11 ?v171 (hy := Or.inl ⟨by rfl, ?y171⟩) (hS := by assumption) (h := ?r171); case y171 => (intro w hSw; obtain ⟨hT0, hT1⟩ := hCl.out w hSw; clear hSw; go_simp; try with_reducible rfl))
                case' r171 => skip
                try simp only [List.getElem_toArray, List.getElem_cons_succ, List.getElem_cons_zero, Act.put, List.setIfInBounds_toArray, List.set_cons_zero, List.set_cons_succ]
                refine wpAnyH_ready (rs := [12]) (by kernel_rfl) (by simp) ?_
                refine AllReadyH.cons rfl (fun K hK => ?_) AllReadyH.nil
                go_simp
                (refine (CI.out _ hnn).mono ?_; rintro e w9 ⟨rfl, hbl⟩)
                try go_wp2_with fail
                have hSnew := Mem.bl_step hHeld hbl (by first | exact Nat.le_refl _ | omega | (simp <;> omega))
                refine hK.out _ _ ?_ (fun hHeld2 => ?_)
                · exact hSnew
                try replace hnn := hnn.below hbl
                clear hbl
                clear hK K hHeld hSnew
                have hHeld := hHeld2
                clear hHeld2
                try simp only [List.getElem_toArray, List.getElem_cons_succ, List.getElem_cons_zero, Act.put, List.setIfInBounds_toArray, List.set_cons_zero, List.set_cons_succ]
                refine Mem.tkY 13 ?v172 (hy := Or.inl ⟨by rfl, ?y172⟩) (hS := by assumption) (h := ?r172)
                case y172 => (intro w hSw; clear hSw; go_simp; try with_reducible rfl)
                case' r172 => skip
                try simp only [List.getElem_toArray, List.getElem_cons_succ, List.getElem_cons_zero, Act.put, List.setIfInBounds_toArray, List.set_cons_zero, List.set_cons_succ]
                refine wpAnyH_done (by kernel_rfl) ?_ _
                clear hCl
                have HB9 := Lib.hid (HB8.out.trans (((Below.refl _ _).drew.trans hHeld).mono HB8.out.size))
                have HO9 := Lib.hid (HO8.out.below ((Below.refl _ _).drew.trans hHeld))
                clear hHeld f0 f4 hnn
                go_wp2_with fail
                go_roundw
                case rel => exact ⟨j + 1, by omega, by go_num, by rw [HN.out]; exact HO9.out, HB9.out⟩
                case measure => simp [intOf]; omega
        · obtain rfl : j = k := by omega
          have HO := Lib.hid hown
          clear hown
          go_wp2
          go_ret
          exact ⟨_, rfl, by rw [HR.out]; exact HO.out, hbr⟩
end Go.Proofs.Yteeodeooicoekaa.Rd
