/- Changes as the program has them. No statement is proved here. -/
import Derived.Test.YteeodeooicoekaaRd2
import Derived.Test.YteeodeooicoekaaCp
namespace Go.Proofs.Yteeodeooicoekaa.Rd
open Go.RowKit Go.Proofs.Yteeodeooicoekaa.Mem Go.Proofs.Yteeodeooicoekaa.Open Go.Proofs.Yteeodeooicoekaa.Kind Go.Proofs.Yteeodeooicoekaa.Blk Go.Proofs.Yteeodeooicoekaa.App Go.Proofs.Yteeodeooicoekaa.Pat
set_option linter.unusedVariables false
set_option linter.unusedSimpArgs false
theorem intInfo3 : (Try.prog.info? 3).map (fun i => (i.zero, i.size, i.bytes)) = some (some (.int .i64 0), 1, 8) := by kernel_rfl
theorem chInfo3 : (Try.prog.info? 62).map (fun i => (i.zero, i.size, i.bytes)) = some (some (.agg chZ), 5, 72) := by kernel_rfl
/-- Nothing below a block has changed, on and on. -/
structure Gw (B : Nat) (a w : World) : Prop where
  out : Below B a w
  le : B ≤ a.heap.size
theorem Gw.below {B : Nat} {a w w' : World} (h : Gw B a w) (hb : Below w.heap.size w w') : Gw B a w' := ⟨h.out.trans (hb.mono (Nat.le_trans h.le h.out.size)), h.le⟩
/-- None is more than is gone through. -/
def Small (xs : List Chg) : Prop := ∀ x ∈ xs, x.pd.length ≤ 300 ∧ x.needs.length ≤ 60
theorem muchC_no {xs : List Chg} {m : Nat} (h : muchC xs m = false) : xs.length ≤ m ∧ Small xs := by
  unfold muchC at h
  rw [Bool.or_eq_false_iff] at h
  refine ⟨by have := of_decide_eq_false h.1; omega, fun x hx => ?_⟩
  have := List.any_eq_false.1 h.2 x hx
  simp [bigC] at this
  exact this
theorem take_next {α : Type} {xs : List α} {k : Nat} (h : k < xs.length) : xs.take (k + 1) = xs.take k ++ [xs[k]] := by rw [List.take_add_one, List.getElem?_eq_getElem h]; rfl
set_option maxHeartbeats 4000000 in
set_option maxRecDepth 100000 in
theorem to9_any (A : Option Addr) (c : Nat) (xs : List Chg) (w : World) (hx : Chs w A xs) (hs : Small xs) (hn : xs.length ≤ 1000) :
    Calls Try.prog 15 #[.slice A xs.length c] w fun r w' => ∃ v, r = .returned v ∧ OwnK kChg w' w.heap.size 62 v xs ∧ Below w.heap.size w w' := by
  go_enter Try.func15, Try.ntmps15
  go_wp2
  go_loopw [3, 4] (fun v i wr => ∃ (k : Nat), k ≤ xs.length ∧ i = .int .i64 k ∧ OwnK kChg wr w.heap.size 62 v (xs.take k) ∧ Below w.heap.size w wr) (fun _ i _ => xs.length - (intOf i).toNat)
  case atStart => exact ⟨0, by omega, rfl, OwnK.nil _ _ _ _, Below.refl _ _⟩
  case round =>
    obtain ⟨k, hk, rfl, hown0, hbr⟩ := hrel
    by_cases hlt : k < xs.length
    · obtain ⟨g, o, rfl, hg⟩ := ch_form hx (by omega)
      obtain ⟨A1, c1, A2, c2, hat0⟩ := ch_at hx k hlt
      have hat := hat0.below hbr
      have e0 : wr.drew.cell? ⟨g, o + k * 5, none⟩ = some (.int .i64 xs[k].id) := hat.v0
      have e1 : wr.drew.cell? ⟨g, o + k * 5 + 1, none⟩ = some (.int .i64 xs[k].blk) := hat.v1
      have e2 : wr.drew.cell? ⟨g, o + k * 5 + 2, none⟩ = some (.int .i64 xs[k].pa) := hat.v2
      have e3 : wr.drew.cell? ⟨g, o + k * 5 + 2 + 1, none⟩ = some (.slice A1 xs[k].pd.length c1) := hat.v3
      have e4 : wr.drew.cell? ⟨g, o + k * 5 + 4, none⟩ = some (.slice A2 xs[k].needs.length c2) := hat.v4
      have hby : By wr.drew A1 xs[k].pd := hat.p.2.2.2.drew
      have hnn : Is wr.drew A2 xs[k].needs := hat.n.2.2.2.drew
      have hcA := hat.p.2.2.1
      have hcN := hat.n.2.2.1
      have hok := hat.ok
      obtain ⟨s1, s2⟩ := hs _ (List.getElem_mem hlt)
      have HT := Lib.hid (take_next hlt)
      have hl : (xs.take k).length = k := by rw [List.length_take]; omega
      have hlt1 := hown0.lt
      have hown := hown0.drew
      have hgw : Gw wr.heap.size wr wr.drew := ⟨(Below.refl _ _).drew, Nat.le_refl _⟩
      have hbr0 := hbr.size
      have hbr1 : w.heap.size ≤ wr.drew.heap.size := hbr0
      clear hat0 hat hown0
      generalize xs[k] = x at *
      go_wp2_with fail
      refine wp_region_held_drew (S := Go.RowKit.Below (w.heap.size) (wr.drew)) (by kernel_rfl) ?hb11 (fun hHeld => ?rest11)
      case hb11 =>
        exact Go.RowKit.Below.refl _ _
      case' rest11 => skip
      have hCl := fun (wS : World) (hSw : Go.RowKit.Below (w.heap.size) (wr.drew) wS) => And.intro (Mem.bl_cell hSw e0 (by first | omega | (dsimp only; omega) | exact World.block_lt_of_cell? _ _ e0 | (simp <;> omega))) <| And.intro (Mem.bl_cell hSw e1 (by first | omega | (dsimp only; omega) | exact World.block_lt_of_cell? _ _ e1 | (simp <;> omega))) <| And.intro (Mem.bl_cell hSw e2 (by first | omega | (dsimp only; omega) | exact World.block_lt_of_cell? _ _ e2 | (simp <;> omega))) <| And.intro (Mem.bl_cell hSw e3 (by first | omega | (dsimp only; omega) | exact World.block_lt_of_cell? _ _ e3 | (simp <;> omega))) <| Mem.bl_cell hSw e4 (by first | omega | (dsimp only; omega) | exact World.block_lt_of_cell? _ _ e4 | (simp <;> omega))
      replace hCl := Go.Lib.hid hCl
      refine Mem.tkY 0 ?v12 (hy := Or.inl ⟨by rfl, ?y12⟩) (hS := by assumption) (h := ?r12)
      case y12 => (intro w hSw; clear hSw; go_simp; try with_reducible rfl)
      case' r12 => skip
      refine Mem.tkY 1 ?v13 (hy := Or.inl ⟨by rfl, ?y13⟩) (hS := by assumption) (h := ?r13)
      case y13 => (intro w hSw; clear hSw; go_simp; try with_reducible rfl)
      case' r13 => skip
      refine Mem.tkY 2 ?v14 (hy := Or.inl ⟨by rfl, ?y14⟩) (hS := by assumption) (h := ?r14)
      case y14 => (intro w hSw; clear hSw; go_simp; try with_reducible rfl)
      case' r14 => skip
      try simp only [List.getElem_toArray, List.getElem_cons_succ, List.getElem_cons_zero, Act.put, List.setIfInBounds_toArray, List.set_cons_zero, List.set_cons_succ]
      refine Mem.tkY 3 ?v15 (hy := Or.inl ⟨by rfl, ?y15⟩) (hS := by assumption) (h := ?r15)
      case y15 => (intro w hSw; clear hSw; go_simp; try with_reducible rfl)
      case' r15 => skip
      refine Mem.tkY 4 ?v16 (hy := Or.inl ⟨by rfl, ?y16⟩) (hS := by assumption) (h := ?r16)
      case y16 => (intro w hSw; clear hSw; go_simp; try with_reducible rfl)
      case' r16 => skip
      refine Mem.tkY 5 ?v17 (hy := Or.inl ⟨by rfl, ?y17⟩) (hS := by assumption) (h := ?r17)
      case y17 => (intro w hSw; obtain ⟨hT0, hT1, hT2, hT3, hT4⟩ := hCl.out w hSw; clear hSw; go_simp; try with_reducible rfl)
      case' r17 => skip
      try simp only [List.getElem_toArray, List.getElem_cons_succ, List.getElem_cons_zero, Act.put, List.setIfInBounds_toArray, List.set_cons_zero, List.set_cons_succ]
      refine Mem.tkY 6 ?v18 (hy := Or.inl ⟨by rfl, ?y18⟩) (hS := by assumption) (h := ?r18)
      case y18 => (intro w hSw; clear hSw; go_simp; try with_reducible rfl)
      case' r18 => skip
      refine Mem.tkY 7 ?v19 (hy := Or.inl ⟨by rfl, ?y19⟩) (hS := by assumption) (h := ?r19)
      case y19 => (intro w hSw; clear hSw; go_simp; try with_reducible rfl)
      case' r19 => skip
      refine Mem.tkY 8 ?v20 (hy := Or.inl ⟨by rfl, ?y20⟩) (hS := by assumption) (h := ?r20)
      case y20 => (intro w hSw; clear hSw; go_simp; try with_reducible rfl)
      case' r20 => skip
      try simp only [List.getElem_toArray, List.getElem_cons_succ, List.getElem_cons_zero, Act.put, List.setIfInBounds_toArray, List.set_cons_zero, List.set_cons_succ]
      refine Mem.tkY 9 ?v21 (hy := Or.inl ⟨by rfl, ?y21⟩) (hS := by assumption) (h := ?r21)
      case y21 => (intro w hSw; clear hSw; go_simp; try with_reducible rfl)
      case' r21 => skip
      refine Mem.tkY 10 ?v22 (hy := Or.inl ⟨by rfl, ?y22⟩) (hS := by assumption) (h := ?r22)
      case y22 => (intro w hSw; obtain ⟨hT0, hT1, hT2, hT3, hT4⟩ := hCl.out w hSw; clear hSw; go_simp; try with_reducible rfl)
      case' r22 => skip
      refine Mem.tkY 11 ?v23 (hy := Or.inl ⟨by rfl, ?y23⟩) (hS := by assumption) (h := ?r23)
      case y23 => (intro w hSw; clear hSw; go_simp; try with_reducible rfl)
      case' r23 => skip
      try simp only [List.getElem_toArray, List.getElem_cons_succ, List.getElem_cons_zero, Act.put, List.setIfInBounds_toArray, List.set_cons_zero, List.set_cons_succ]
      refine Mem.tkY 12 ?v24 (hy := Or.inl ⟨by rfl, ?y24⟩) (hS := by assumption) (h := ?r24)
      case y24 => (intro w hSw; clear hSw; go_simp; try with_reducible rfl)
      case' r24 => skip
      refine Mem.tkY 13 ?v25 (hy := Or.inl ⟨by rfl, ?y25⟩) (hS := by assumption) (h := ?r25)
      case y25 => (intro w hSw; clear hSw; go_simp; try with_reducible rfl)
      case' r25 => skip
      refine Mem.tkY 14 ?v26 (hy := Or.inl ⟨by rfl, ?y26⟩) (hS := by assumption) (h := ?r26)
      case y26 => (intro w hSw; clear hSw; go_simp; try with_reducible rfl)
      case' r26 => skip
      try simp only [List.getElem_toArray, List.getElem_cons_succ, List.getElem_cons_zero, Act.put, List.setIfInBounds_toArray, List.set_cons_zero, List.set_cons_succ]
      refine Mem.tkY 15 ?v27 (hy := Or.inl ⟨by rfl, ?y27⟩) (hS := by assumption) (h := ?r27)
      case y27 => (intro w hSw; obtain ⟨hT0, hT1, hT2, hT3, hT4⟩ := hCl.out w hSw; clear hSw; go_simp; try with_reducible rfl)
      case' r27 => skip
      refine Mem.tkY 18 ?v28 (hy := Or.inl ⟨by rfl, ?y28⟩) (hS := by assumption) (h := ?r28)
      case y28 => (intro w hSw; clear hSw; go_simp; try with_reducible rfl)
      case' r28 => skip
      refine Mem.tkY 19 ?v29 (hy := Or.inl ⟨by rfl, ?y29⟩) (hS := by assumption) (h := ?r29)
      case y29 => (intro w hSw; clear hSw; go_simp; try with_reducible rfl)
      case' r29 => skip
      try simp only [List.getElem_toArray, List.getElem_cons_succ, List.getElem_cons_zero, Act.put, List.setIfInBounds_toArray, List.set_cons_zero, List.set_cons_succ]
      refine Mem.tkY 20 ?v30 (hy := Or.inl ⟨by rfl, ?y30⟩) (hS := by assumption) (h := ?r30)
      case y30 => (intro w hSw; clear hSw; go_simp; try with_reducible rfl)
      case' r30 => skip
      refine Mem.tkY 21 ?v31 (hy := Or.inl ⟨by rfl, ?y31⟩) (hS := by assumption) (h := ?r31)
      case y31 => (intro w hSw; clear hSw; go_simp; try with_reducible rfl)
      case' r31 => skip
      refine Mem.tkY 22 ?v32 (hy := Or.inl ⟨by rfl, ?y32⟩) (hS := by assumption) (h := ?r32)
      case y32 => (intro w hSw; obtain ⟨hT0, hT1, hT2, hT3, hT4⟩ := hCl.out w hSw; clear hSw; go_simp; try with_reducible rfl)
      case' r32 => skip
      try simp only [List.getElem_toArray, List.getElem_cons_succ, List.getElem_cons_zero, Act.put, List.setIfInBounds_toArray, List.set_cons_zero, List.set_cons_succ]
      refine wpAnyH_ready (rs := [16, 17]) (by kernel_rfl) (by simp) ?_
      refine AllReadyH.cons rfl (fun K hK => ?_) ?_
      · skip
        go_simp
        (refine (to_any x.pa A1 c1 x.pd _ hby hcA (by omega)).mono ?_; rintro e wb ⟨A3, c3, rfl, k1, k2, k3, k4, hbl⟩; have hpd : Fr kByte wb wr.heap.size A3 x.pd := (⟨k4⟩ : Fr kByte wb _ A3 x.pd).mono hgw.out.size)
        try go_wp2_with fail
        have hSnew := Mem.bl_step hHeld hbl (by first | exact Nat.le_refl _ | omega | (simp <;> omega))
        refine hK.out _ _ ?_ (fun hHeld2 => ?_)
        · exact hSnew
        try replace hown := hown.below hbl
        try replace hby := hby.below hbl
        try replace hnn := hnn.below hbl
        try replace hpd := hpd.below hbl
        try replace hnd := hnd.below hbl
        try replace hgw := hgw.below hbl
        clear hbl
        clear hK K hHeld hSnew
        have hHeld := hHeld2
        clear hHeld2
        try simp only [List.getElem_toArray, List.getElem_cons_succ, List.getElem_cons_zero, Act.put, List.setIfInBounds_toArray, List.set_cons_zero, List.set_cons_succ]
        refine wpAnyH_ready (rs := [17]) (by kernel_rfl) (by simp) ?_
        refine AllReadyH.cons rfl (fun K hK => ?_) AllReadyH.nil
        rw [if_pos (by rfl)]
        refine wp_build0 28 (by rfl) Try.underlying28 (by kernel_rfl) ?_; intro g5 wa hbl hg5
        have hSnew := Mem.bl_step hHeld hbl (by first | exact Nat.le_refl _ | omega | (simp <;> omega))
        refine hK.out _ _ ?_ (fun hHeld2 => ?_)
        · exact hSnew
        try replace hown := hown.below hbl
        try replace hby := hby.below hbl
        try replace hnn := hnn.below hbl
        try replace hpd := hpd.below hbl
        try replace hnd := hnd.below hbl
        try replace hgw := hgw.below hbl
        clear hbl
        clear hK K hHeld hSnew
        have hHeld := hHeld2
        clear hHeld2
        try simp only [List.getElem_toArray, List.getElem_cons_succ, List.getElem_cons_zero, Act.put, List.setIfInBounds_toArray, List.set_cons_zero, List.set_cons_succ]
        refine wpAnyH_ready (rs := [23]) (by kernel_rfl) (by simp) ?_
        refine AllReadyH.cons rfl (fun K hK => ?_) AllReadyH.nil
        rw [if_pos (by rfl)]
        refine wp_copy0 (flat_int .i64) _ _ 28 (by rfl) (.int .i64 0) 8 Try.underlying28 intInfo3 rfl (by decide) g5 (by rfl) (by rfl) hnn hcN (by omega) (by omega) ?_; intro A4 c4 wa q1 q2 q3 q4 hbl; have hnd := q4.mono hgw.out.size
        have hSnew := Mem.bl_step hHeld hbl (by first | exact Nat.le_refl _ | omega | (simp <;> omega))
        refine hK.out _ _ ?_ (fun hHeld2 => ?_)
        · exact hSnew
        try replace hown := hown.below hbl
        try replace hby := hby.below hbl
        try replace hnn := hnn.below hbl
        try replace hpd := hpd.below hbl
        try replace hnd := hnd.below hbl
        try replace hgw := hgw.below hbl
        clear hbl
        clear hK K hHeld hSnew
        have hHeld := hHeld2
        clear hHeld2
        try simp only [List.getElem_toArray, List.getElem_cons_succ, List.getElem_cons_zero, Act.put, List.setIfInBounds_toArray, List.set_cons_zero, List.set_cons_succ]
        refine Mem.tkY 24 ?v33 (hy := Or.inl ⟨by rfl, ?y33⟩) (hS := by assumption) (h := ?r33)
        case y33 => (intro w hSw; clear hSw; go_simp; try with_reducible rfl)
        case' r33 => skip
        try simp only [List.getElem_toArray, List.getElem_cons_succ, List.getElem_cons_zero, Act.put, List.setIfInBounds_toArray, List.set_cons_zero, List.set_cons_succ]
        refine wpAnyH_ready (rs := [25]) (by kernel_rfl) (by simp) ?_
        refine AllReadyH.cons rfl (fun K hK => ?_) AllReadyH.nil
        rw [if_pos (by rfl)]
        refine wp_build1 27 62 _ (by rfl) 5 72 (.agg chZ) (chC x A3 c3 A4 c4) (by rfl) rfl (by decide) (by omega) Try.underlying27 chInfo3 ?_; intro g6 wa hr6 hbl hg6
        have hSnew := Mem.bl_step hHeld hbl (by first | exact Nat.le_refl _ | omega | (simp <;> omega))
        refine hK.out _ _ ?_ (fun hHeld2 => ?_)
        · exact hSnew
        try replace hown := hown.below hbl
        try replace hby := hby.below hbl
        try replace hnn := hnn.below hbl
        try replace hpd := hpd.below hbl
        try replace hnd := hnd.below hbl
        try replace hgw := hgw.below hbl
        clear hbl
        clear hK K hHeld hSnew
        have hHeld := hHeld2
        clear hHeld2
        try simp only [List.getElem_toArray, List.getElem_cons_succ, List.getElem_cons_zero, Act.put, List.setIfInBounds_toArray, List.set_cons_zero, List.set_cons_succ]
        refine wpAnyH_ready (rs := [26]) (by kernel_rfl) (by simp) ?_
        refine AllReadyH.cons rfl (fun K hK => ?_) AllReadyH.nil
        rw [if_pos (by rfl)]
        refine wp_appK (k := kChg) _ _ 27 (by rfl) (.agg chZ) 72 Try.underlying27 chInfo3 rfl (by decide) (by rfl) g6 1 (by rfl) hown 62 (chC x A3 c3 A4 c4).toList (by rw [Array.toArray_toList]; exact hr6) x _ (kChg_mk hok k1 k2 k3 hpd.out q1 q2 q3 hnd.out) (fun b hb => ⟨fun e => by have := hlt1 b e.symm; omega, hb.2⟩) (by omega) (by omega) (Nat.le_trans hbr0 hgw.out.size) ?_; intro v7 w7 hown7 hg7 hat7; have hSnew := hHeld.grown hg7 (Nat.le_trans hbr0 hgw.out.size) (fun q hq => (hlt1 q hq).1)
        refine hK.out _ _ ?_ (fun hHeld2 => ?_)
        · exact hSnew
        clear hK K hHeld hSnew
        have hHeld := hHeld2
        clear hHeld2
        try simp only [List.getElem_toArray, List.getElem_cons_succ, List.getElem_cons_zero, Act.put, List.setIfInBounds_toArray, List.set_cons_zero, List.set_cons_succ]
        refine Mem.tkY 27 ?v34 (hy := Or.inl ⟨by rfl, ?y34⟩) (hS := by assumption) (h := ?r34)
        case y34 => (intro w hSw; clear hSw; go_simp; try with_reducible rfl)
        case' r34 => skip
        try simp only [List.getElem_toArray, List.getElem_cons_succ, List.getElem_cons_zero, Act.put, List.setIfInBounds_toArray, List.set_cons_zero, List.set_cons_succ]
        refine wpAnyH_done (by kernel_rfl) ?_ _
        clear hCl
        go_wp2_with fail
        go_roundw
        case rel => exact ⟨k + 1, by omega, by go_num, by rw [HT.out]; exact hown7, hbr.drew.trans hHeld⟩
        case measure => simp [intOf]; omega
      refine AllReadyH.cons rfl (fun K hK => ?_) ?_
      · skip
        rw [if_pos (by rfl)]
        refine wp_build0 28 (by rfl) Try.underlying28 (by kernel_rfl) ?_; intro g5 wa hbl hg5
        have hSnew := Mem.bl_step hHeld hbl (by first | exact Nat.le_refl _ | omega | (simp <;> omega))
        refine hK.out _ _ ?_ (fun hHeld2 => ?_)
        · exact hSnew
        try replace hown := hown.below hbl
        try replace hby := hby.below hbl
        try replace hnn := hnn.below hbl
        try replace hpd := hpd.below hbl
        try replace hnd := hnd.below hbl
        try replace hgw := hgw.below hbl
        clear hbl
        clear hK K hHeld hSnew
        have hHeld := hHeld2
        clear hHeld2
        try simp only [List.getElem_toArray, List.getElem_cons_succ, List.getElem_cons_zero, Act.put, List.setIfInBounds_toArray, List.set_cons_zero, List.set_cons_succ]
        refine wpAnyH_ready (rs := [16]) (by kernel_rfl) (by simp) ?_
        refine AllReadyH.cons rfl (fun K hK => ?_) AllReadyH.nil
        go_simp
        (refine (to_any x.pa A1 c1 x.pd _ hby hcA (by omega)).mono ?_; rintro e wb ⟨A3, c3, rfl, k1, k2, k3, k4, hbl⟩; have hpd : Fr kByte wb wr.heap.size A3 x.pd := (⟨k4⟩ : Fr kByte wb _ A3 x.pd).mono hgw.out.size)
        try go_wp2_with fail
        have hSnew := Mem.bl_step hHeld hbl (by first | exact Nat.le_refl _ | omega | (simp <;> omega))
        refine hK.out _ _ ?_ (fun hHeld2 => ?_)
        · exact hSnew
        try replace hown := hown.below hbl
        try replace hby := hby.below hbl
        try replace hnn := hnn.below hbl
        try replace hpd := hpd.below hbl
        try replace hnd := hnd.below hbl
        try replace hgw := hgw.below hbl
        clear hbl
        clear hK K hHeld hSnew
        have hHeld := hHeld2
        clear hHeld2
        try simp only [List.getElem_toArray, List.getElem_cons_succ, List.getElem_cons_zero, Act.put, List.setIfInBounds_toArray, List.set_cons_zero, List.set_cons_succ]
        refine wpAnyH_ready (rs := [23]) (by kernel_rfl) (by simp) ?_
        refine AllReadyH.cons rfl (fun K hK => ?_) AllReadyH.nil
        rw [if_pos (by rfl)]
        refine wp_copy0 (flat_int .i64) _ _ 28 (by rfl) (.int .i64 0) 8 Try.underlying28 intInfo3 rfl (by decide) g5 (by rfl) (by rfl) hnn hcN (by omega) (by omega) ?_; intro A4 c4 wa q1 q2 q3 q4 hbl; have hnd := q4.mono hgw.out.size
        have hSnew := Mem.bl_step hHeld hbl (by first | exact Nat.le_refl _ | omega | (simp <;> omega))
        refine hK.out _ _ ?_ (fun hHeld2 => ?_)
        · exact hSnew
        try replace hown := hown.below hbl
        try replace hby := hby.below hbl
        try replace hnn := hnn.below hbl
        try replace hpd := hpd.below hbl
        try replace hnd := hnd.below hbl
        try replace hgw := hgw.below hbl
        clear hbl
        clear hK K hHeld hSnew
        have hHeld := hHeld2
        clear hHeld2
        try simp only [List.getElem_toArray, List.getElem_cons_succ, List.getElem_cons_zero, Act.put, List.setIfInBounds_toArray, List.set_cons_zero, List.set_cons_succ]
        refine Mem.tkY 24 ?v35 (hy := Or.inl ⟨by rfl, ?y35⟩) (hS := by assumption) (h := ?r35)
        case y35 => (intro w hSw; clear hSw; go_simp; try with_reducible rfl)
        case' r35 => skip
        try simp only [List.getElem_toArray, List.getElem_cons_succ, List.getElem_cons_zero, Act.put, List.setIfInBounds_toArray, List.set_cons_zero, List.set_cons_succ]
        refine wpAnyH_ready (rs := [25]) (by kernel_rfl) (by simp) ?_
        refine AllReadyH.cons rfl (fun K hK => ?_) AllReadyH.nil
        rw [if_pos (by rfl)]
        refine wp_build1 27 62 _ (by rfl) 5 72 (.agg chZ) (chC x A3 c3 A4 c4) (by rfl) rfl (by decide) (by omega) Try.underlying27 chInfo3 ?_; intro g6 wa hr6 hbl hg6
        have hSnew := Mem.bl_step hHeld hbl (by first | exact Nat.le_refl _ | omega | (simp <;> omega))
        refine hK.out _ _ ?_ (fun hHeld2 => ?_)
        · exact hSnew
        try replace hown := hown.below hbl
        try replace hby := hby.below hbl
        try replace hnn := hnn.below hbl
        try replace hpd := hpd.below hbl
        try replace hnd := hnd.below hbl
        try replace hgw := hgw.below hbl
        clear hbl
        clear hK K hHeld hSnew
        have hHeld := hHeld2
        clear hHeld2
        try simp only [List.getElem_toArray, List.getElem_cons_succ, List.getElem_cons_zero, Act.put, List.setIfInBounds_toArray, List.set_cons_zero, List.set_cons_succ]
        refine wpAnyH_ready (rs := [26]) (by kernel_rfl) (by simp) ?_
        refine AllReadyH.cons rfl (fun K hK => ?_) AllReadyH.nil
        rw [if_pos (by rfl)]
        refine wp_appK (k := kChg) _ _ 27 (by rfl) (.agg chZ) 72 Try.underlying27 chInfo3 rfl (by decide) (by rfl) g6 1 (by rfl) hown 62 (chC x A3 c3 A4 c4).toList (by rw [Array.toArray_toList]; exact hr6) x _ (kChg_mk hok k1 k2 k3 hpd.out q1 q2 q3 hnd.out) (fun b hb => ⟨fun e => by have := hlt1 b e.symm; omega, hb.2⟩) (by omega) (by omega) (Nat.le_trans hbr0 hgw.out.size) ?_; intro v7 w7 hown7 hg7 hat7; have hSnew := hHeld.grown hg7 (Nat.le_trans hbr0 hgw.out.size) (fun q hq => (hlt1 q hq).1)
        refine hK.out _ _ ?_ (fun hHeld2 => ?_)
        · exact hSnew
        clear hK K hHeld hSnew
        have hHeld := hHeld2
        clear hHeld2
        try simp only [List.getElem_toArray, List.getElem_cons_succ, List.getElem_cons_zero, Act.put, List.setIfInBounds_toArray, List.set_cons_zero, List.set_cons_succ]
        refine Mem.tkY 27 ?v36 (hy := Or.inl ⟨by rfl, ?y36⟩) (hS := by assumption) (h := ?r36)
        case y36 => (intro w hSw; clear hSw; go_simp; try with_reducible rfl)
        case' r36 => skip
        try simp only [List.getElem_toArray, List.getElem_cons_succ, List.getElem_cons_zero, Act.put, List.setIfInBounds_toArray, List.set_cons_zero, List.set_cons_succ]
        refine wpAnyH_done (by kernel_rfl) ?_ _
        clear hCl
        go_wp2_with fail
        go_roundw
        case rel => exact ⟨k + 1, by omega, by go_num, by rw [HT.out]; exact hown7, hbr.drew.trans hHeld⟩
        case measure => simp [intOf]; omega
      exact AllReadyH.nil
    · obtain rfl : k = xs.length := by omega
      rw [List.take_length] at hown0
      go_wp2
      go_ret
      exact ⟨_, rfl, hown0, hbr⟩
end Go.Proofs.Yteeodeooicoekaa.Rd
