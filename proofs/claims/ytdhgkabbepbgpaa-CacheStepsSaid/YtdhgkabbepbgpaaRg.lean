/- Laws and contracts of several chapters, laid in one text. No statement is proved here. -/
import Derived.Test.YtdhgkabbepbgpaaSw
/- The document's Of, Without; changes as the document has them. No statement is proved here. -/
namespace Go.Proofs.Ytdhgkabbepbgpaa.Rd
open Go.RowKit Go.Proofs.Ytdhgkabbepbgpaa.Mem Go.Proofs.Ytdhgkabbepbgpaa.Open Go.Proofs.Ytdhgkabbepbgpaa.Kind Go.Proofs.Ytdhgkabbepbgpaa.Blk Go.Proofs.Ytdhgkabbepbgpaa.App Go.Proofs.Ytdhgkabbepbgpaa.Pat
set_option linter.unusedVariables false
set_option linter.unusedSimpArgs false
theorem rchInfo3 : (Try.prog.info? 94).map (fun i => (i.zero, i.size, i.bytes)) = some (some (.agg chZ), 5, 72) := by kernel_rfl
/-- A list of changes that the call has laid, as the document has them. -/
abbrev RK (w : World) (B : Nat) (v : Value) (xs : List Chg) : Prop := OwnK kChg w B 94 v xs
theorem ChS.old {w w' : World} {x : Chg} {A : Option Addr} {c : Nat} {A2 : Option Addr} {c2 : Nat} (h : ChS w x A c A2 c2) (hb : Below w.heap.size w w') : kChg.K w' (fun b => b < w.heap.size) x (chC x A c A2 c2).toList :=
  kChg.stay (w := w) (fun b hb' => hb.block b hb') (by have := h.k; exact this)
set_option maxHeartbeats 2000000 in
set_option maxRecDepth 100000 in
theorem RWithout_any (A : Option Addr) (c : Nat) (xs : List Chg) (A2 : Option Addr) (c2 : Nat) (ids : List Int) (w : World) (hx : Chs w A xs) (hi : Is w A2 ids) (hn : xs.length ≤ 1000) :
    Calls Try.prog 63 #[.slice A xs.length c, .slice A2 ids.length c2] w fun r w' => ∃ v, r = .returned v ∧ RK w' w.heap.size v (woS xs ids) ∧ Below w.heap.size w w' := by
  have hl : xs.length ≤ 9223372036854775807 := hx.2.1
  obtain ⟨is, his⟩ : ∃ is : Chg → Bool, is = fun x => !decide (x.id ∈ ids) := ⟨_, rfl⟩
  have HR : Hid (woS xs ids = xs.filter is) := Lib.hid (by rw [his]; rfl)
  have HIS : Hid (∀ x, is x = !decide (x.id ∈ ids)) := Lib.hid (fun x => by rw [his])
  clear his
  go_enter Try.func63, Try.ntmps63
  go_wp2
  go_loopw [5, 6] (fun v i wr => ∃ (k : Nat), k ≤ xs.length ∧ i = .int .i64 k ∧ RK wr w.heap.size v ((xs.take k).filter is) ∧ Below w.heap.size w wr) (fun _ i _ => xs.length - (intOf i).toNat)
  case atStart => exact ⟨0, by omega, rfl, OwnK.nil _ _ _ _, Below.refl _ _⟩
  case round =>
    obtain ⟨k, hk, rfl, hown, hbr⟩ := hrel
    by_cases hlt : k < xs.length
    · have CI0 := in_any A2 c2 ids xs[k].id wr (hi.below hbr)
      obtain ⟨g, o, rfl, hg⟩ := ch_form hx (by omega)
      obtain ⟨A1, c1, A2', c2', hat0⟩ := ch_at hx k hlt
      have hat := hat0.below hbr
      have e0 := hat.v0
      have e1 := hat.v1
      have e2 := hat.v2
      have e3 : wr.cell? ⟨g, o + k * 5 + 3, none⟩ = _ := hat.v3
      have e4 := hat.v4
      have hK0 : ∀ wX, Below w.heap.size w wX → kChg.K wX (fun b => b < w.heap.size) xs[k] (chC xs[k] A1 c1 A2' c2').toList := fun wX hb => hat0.s.old hb
      have HE : Hid (∀ w9, Below w.heap.size w w9 → ChAt w9 g o k xs[k] A1 c1 A2' c2') := Lib.hid fun w9 h => hat0.below h
      have HT := Lib.hid (take_next hlt)
      have HK := Lib.hid hK0
      have HO := Lib.hid hown
      have HB := Lib.hid hbr
      have HLT := Lib.hid hown.lt
      have hle := hbr.size
      have hl2 : ((xs.take k).filter is).length ≤ k := Nat.le_trans (List.length_filter_le _ _) (by rw [List.length_take]; omega)
      clear hat0 hat hown hbr hK0
      generalize xs[k] = x at *
      obtain ⟨R, hR⟩ : ∃ R, (xs.take k).filter is = R := ⟨_, rfl⟩
      rw [hR] at HO hl2
      have HRR := Lib.hid hR
      have CI := Lib.hid CI0
      clear hR CI0
      by_cases hin : x.id ∈ ids
      · have HT2 : Hid ((xs.take (k + 1)).filter is = R) := Lib.hid (by rw [HT.out, List.filter_append, List.filter_cons_of_neg (by rw [HIS.out, decide_eq_true hin]; simp), List.filter_nil, List.append_nil, HRR.out])
        rw [decide_eq_true hin] at CI
        clear hin
        go_wp2_with fail
        refine CI.out.mono ?_
        rintro e wX ⟨rfl, hbX⟩
        have HOX := Lib.hid (HO.out.below hbX)
        have HBX := Lib.hid (HB.out.trans (hbX.mono HB.out.size))
        clear hbX CI
        go_wp2_with fail
        go_roundw
        case rel => exact ⟨k + 1, by omega, by go_num, by rw [HT2.out]; exact HOX.out, HBX.out⟩
        case measure => simp [intOf]; omega
      · have hf : is x = true := by rw [HIS.out, decide_eq_false hin]; rfl
        rw [decide_eq_false hin] at CI
        clear hin
        go_wp2_with fail
        refine CI.out.mono ?_
        rintro e wX ⟨rfl, hbX⟩
        have HOX := Lib.hid (HO.out.below hbX)
        have HBX := Lib.hid (HB.out.trans (hbX.mono HB.out.size))
        clear hbX CI e0 e1 e2 e3 e4
        have HT2 : Hid ((xs.take (k + 1)).filter is = R ++ [x]) := Lib.hid (by rw [HT.out, List.filter_append, List.filter_cons_of_pos hf, List.filter_nil, HRR.out])
        have hrow : Row (wX.alloc (.cells (chC x A1 c1 A2' c2') 94)) wX.heap.size 94 (chC x A1 c1 A2' c2').toList.toArray := by rw [Array.toArray_toList]; exact Row.new wX _ _
        have hO4 := HOX.out.alloc (.cells (chC x A1 c1 A2' c2') 94)
        have HB4 := Lib.hid (HBX.out.alloc HBX.out.size (.cells (chC x A1 c1 A2' c2') 94))
        have hK := HK.out _ HB4.out
        have hle5 : w.heap.size ≤ (wX.alloc (.cells (chC x A1 c1 A2' c2') 94)).heap.size := HB4.out.size
        have q := HE.out wX HBX.out
        have q0 := q.v0
        have q1 := q.v1
        have q2 := q.v2
        have q3 : wX.cell? ⟨g, o + k * 5 + 3, none⟩ = _ := q.v3
        have q4 := q.v4
        clear q hf
        go_wp2_with (at_builtin; go_loud (refine wpList_appK (k := kChg) rfl _ _ 60 rfl (.agg chZ) 72 Try.underlying60 rchInfo3 rfl (by decide) rfl _ _ rfl hO4 94 (chC x A1 c1 A2' c2').toList hrow x _ hK (fun b hb => ⟨fun e => by have := HLT.out b e.symm; omega, Nat.lt_of_lt_of_le hb hle5⟩) (by omega) (by omega) hle5 ?_); intro v7 w7 hown7 hg7 hat7)
        have HO7 := Lib.hid hown7
        have HB7 := Lib.hid (HB4.out.grown hg7 hle5 (fun q hq => (HLT.out q hq).1))
        clear hown7 hg7 hat7
        go_roundw
        case rel => exact ⟨k + 1, by omega, by go_num, by rw [HT2.out]; exact HO7.out, HB7.out⟩
        case measure => simp [intOf]; omega
    · obtain rfl : k = xs.length := by omega
      rw [List.take_length] at hown
      have HO := Lib.hid hown
      clear hown
      go_wp2
      go_ret
      exact ⟨_, rfl, by rw [HR.out]; exact HO.out, hbr⟩
end Go.Proofs.Ytdhgkabbepbgpaa.Rd

/- Changes as the document has them; the same lists. No statement is proved here. -/
namespace Go.Proofs.Ytdhgkabbepbgpaa.Rd
open Go.RowKit Go.Proofs.Ytdhgkabbepbgpaa.Mem Go.Proofs.Ytdhgkabbepbgpaa.Open Go.Proofs.Ytdhgkabbepbgpaa.Kind Go.Proofs.Ytdhgkabbepbgpaa.Blk Go.Proofs.Ytdhgkabbepbgpaa.App Go.Proofs.Ytdhgkabbepbgpaa.Pat
set_option linter.unusedVariables false
set_option linter.unusedSimpArgs false
set_option maxHeartbeats 4000000 in
set_option maxRecDepth 100000 in
theorem lof_any (A : Option Addr) (c : Nat) (xs : List Chg) (w : World) (hx : Chs w A xs) (hn : xs.length ≤ 1000) :
    Calls Try.prog 31 #[.slice A xs.length c] w fun r w' => ∃ v, r = .returned v ∧ RK w' w.heap.size v xs ∧ Below w.heap.size w w' := by
  go_enter Try.func31, Try.ntmps31
  go_wp2
  go_loopw [3, 4] (fun v i wr => ∃ (k : Nat), k ≤ xs.length ∧ i = .int .i64 k ∧ RK wr w.heap.size v (xs.take k) ∧ Below w.heap.size w wr) (fun _ i _ => xs.length - (intOf i).toNat)
  case atStart => exact ⟨0, by omega, rfl, OwnK.nil _ _ _ _, Below.refl _ _⟩
  case round =>
    obtain ⟨k, hk, rfl, hown0, hbr⟩ := hrel
    by_cases hlt : k < xs.length
    · obtain ⟨g, o, rfl, hg⟩ := ch_form hx (by omega)
      obtain ⟨A1, c1, A2, c2, hat0⟩ := ch_at hx k hlt
      have hat := hat0.below hbr
      have e0 : wr.drew.cell? ⟨g, o + k * 5, none⟩ = some (.int .i64 xs[k].id) := hat.v0
      have e1 : wr.drew.cell? ⟨g, o + k * 5 + 1, none⟩ = some (.int .i64 xs[k].blk) := hat.v1
      have e2 : wr.drew.cell? ⟨g, o + k * 5 + 2, none⟩ = some (.int .i64 xs[k].pa) := hat.v2
      have e3 : wr.drew.cell? ⟨g, o + k * 5 + 2 + 1, none⟩ = some (.slice A1 xs[k].pd.length c1) := hat.v3
      have e4 : wr.drew.cell? ⟨g, o + k * 5 + 4, none⟩ = some (.slice A2 xs[k].needs.length c2) := hat.v4
      have hK0 : ∀ wX, Below w.heap.size w wX → kChg.K wX (fun b => b < w.heap.size) xs[k] (chC xs[k] A1 c1 A2 c2).toList := fun wX hb => hat0.s.old hb
      have HK := Lib.hid hK0
      have HT := Lib.hid (take_next hlt)
      have hl : (xs.take k).length = k := by rw [List.length_take]; omega
      have hlt1 := hown0.lt
      have hown := hown0.drew
      have hgw : Gw wr.heap.size wr wr.drew := ⟨(Below.refl _ _).drew, Nat.le_refl _⟩
      have hbr0 := hbr.size
      have hbr1 : w.heap.size ≤ wr.drew.heap.size := hbr0
      clear hat0 hat hown0 hK0
      generalize xs[k] = x at *
      go_wp2_with fail
      refine wp_region_held_drew (S := Go.RowKit.Below (w.heap.size) (wr.drew)) (by kernel_rfl) ?hb9 (fun hHeld => ?rest9)
      case hb9 =>
        exact Go.RowKit.Below.refl _ _
      case' rest9 => skip
      have hCl := fun (wS : World) (hSw : Go.RowKit.Below (w.heap.size) (wr.drew) wS) => And.intro (Mem.bl_cell hSw e0 (by first | omega | (dsimp only; omega) | exact World.block_lt_of_cell? _ _ e0 | (simp <;> omega))) <| And.intro (Mem.bl_cell hSw e1 (by first | omega | (dsimp only; omega) | exact World.block_lt_of_cell? _ _ e1 | (simp <;> omega))) <| And.intro (Mem.bl_cell hSw e2 (by first | omega | (dsimp only; omega) | exact World.block_lt_of_cell? _ _ e2 | (simp <;> omega))) <| And.intro (Mem.bl_cell hSw e3 (by first | omega | (dsimp only; omega) | exact World.block_lt_of_cell? _ _ e3 | (simp <;> omega))) <| Mem.bl_cell hSw e4 (by first | omega | (dsimp only; omega) | exact World.block_lt_of_cell? _ _ e4 | (simp <;> omega))
      replace hCl := Go.Lib.hid hCl
      refine Mem.tkY 0 ?v10 (hy := Or.inl ⟨by rfl, ?y10⟩) (hS := by assumption) (h := ?r10)
      case y10 => (intro w hSw; clear hSw; go_simp; try with_reducible rfl)
      case' r10 => skip
      refine Mem.tkY 1 ?v11 (hy := Or.inl ⟨by rfl, ?y11⟩) (hS := by assumption) (h := ?r11)
      case y11 => (intro w hSw; clear hSw; go_simp; try with_reducible rfl)
      case' r11 => skip
      refine Mem.tkY 2 ?v12 (hy := Or.inl ⟨by rfl, ?y12⟩) (hS := by assumption) (h := ?r12)
      case y12 => (intro w hSw; clear hSw; go_simp; try with_reducible rfl)
      case' r12 => skip
      try simp only [List.getElem_toArray, List.getElem_cons_succ, List.getElem_cons_zero, Act.put, List.setIfInBounds_toArray, List.set_cons_zero, List.set_cons_succ]
      refine Mem.tkY 3 ?v13 (hy := Or.inl ⟨by rfl, ?y13⟩) (hS := by assumption) (h := ?r13)
      case y13 => (intro w hSw; clear hSw; go_simp; try with_reducible rfl)
      case' r13 => skip
      refine Mem.tkY 4 ?v14 (hy := Or.inl ⟨by rfl, ?y14⟩) (hS := by assumption) (h := ?r14)
      case y14 => (intro w hSw; clear hSw; go_simp; try with_reducible rfl)
      case' r14 => skip
      refine Mem.tkY 5 ?v15 (hy := Or.inl ⟨by rfl, ?y15⟩) (hS := by assumption) (h := ?r15)
      case y15 => (intro w hSw; obtain ⟨hT0, hT1, hT2, hT3, hT4⟩ := hCl.out w hSw; clear hSw; go_simp; try with_reducible rfl)
      case' r15 => skip
      try simp only [List.getElem_toArray, List.getElem_cons_succ, List.getElem_cons_zero, Act.put, List.setIfInBounds_toArray, List.set_cons_zero, List.set_cons_succ]
      refine Mem.tkY 6 ?v16 (hy := Or.inl ⟨by rfl, ?y16⟩) (hS := by assumption) (h := ?r16)
      case y16 => (intro w hSw; clear hSw; go_simp; try with_reducible rfl)
      case' r16 => skip
      refine Mem.tkY 7 ?v17 (hy := Or.inl ⟨by rfl, ?y17⟩) (hS := by assumption) (h := ?r17)
      case y17 => (intro w hSw; clear hSw; go_simp; try with_reducible rfl)
      case' r17 => skip
      refine Mem.tkY 8 ?v18 (hy := Or.inl ⟨by rfl, ?y18⟩) (hS := by assumption) (h := ?r18)
      case y18 => (intro w hSw; clear hSw; go_simp; try with_reducible rfl)
      case' r18 => skip
      try simp only [List.getElem_toArray, List.getElem_cons_succ, List.getElem_cons_zero, Act.put, List.setIfInBounds_toArray, List.set_cons_zero, List.set_cons_succ]
      refine Mem.tkY 9 ?v19 (hy := Or.inl ⟨by rfl, ?y19⟩) (hS := by assumption) (h := ?r19)
      case y19 => (intro w hSw; clear hSw; go_simp; try with_reducible rfl)
      case' r19 => skip
      refine Mem.tkY 10 ?v20 (hy := Or.inl ⟨by rfl, ?y20⟩) (hS := by assumption) (h := ?r20)
      case y20 => (intro w hSw; obtain ⟨hT0, hT1, hT2, hT3, hT4⟩ := hCl.out w hSw; clear hSw; go_simp; try with_reducible rfl)
      case' r20 => skip
      refine Mem.tkY 11 ?v21 (hy := Or.inl ⟨by rfl, ?y21⟩) (hS := by assumption) (h := ?r21)
      case y21 => (intro w hSw; clear hSw; go_simp; try with_reducible rfl)
      case' r21 => skip
      try simp only [List.getElem_toArray, List.getElem_cons_succ, List.getElem_cons_zero, Act.put, List.setIfInBounds_toArray, List.set_cons_zero, List.set_cons_succ]
      refine Mem.tkY 12 ?v22 (hy := Or.inl ⟨by rfl, ?y22⟩) (hS := by assumption) (h := ?r22)
      case y22 => (intro w hSw; clear hSw; go_simp; try with_reducible rfl)
      case' r22 => skip
      refine Mem.tkY 13 ?v23 (hy := Or.inl ⟨by rfl, ?y23⟩) (hS := by assumption) (h := ?r23)
      case y23 => (intro w hSw; clear hSw; go_simp; try with_reducible rfl)
      case' r23 => skip
      refine Mem.tkY 14 ?v24 (hy := Or.inl ⟨by rfl, ?y24⟩) (hS := by assumption) (h := ?r24)
      case y24 => (intro w hSw; clear hSw; go_simp; try with_reducible rfl)
      case' r24 => skip
      try simp only [List.getElem_toArray, List.getElem_cons_succ, List.getElem_cons_zero, Act.put, List.setIfInBounds_toArray, List.set_cons_zero, List.set_cons_succ]
      refine Mem.tkY 15 ?v25 (hy := Or.inl ⟨by rfl, ?y25⟩) (hS := by assumption) (h := ?r25)
      case y25 => (intro w hSw; obtain ⟨hT0, hT1, hT2, hT3, hT4⟩ := hCl.out w hSw; clear hSw; go_simp; try with_reducible rfl)
      case' r25 => skip
      refine Mem.tkY 17 ?v26 (hy := Or.inl ⟨by rfl, ?y26⟩) (hS := by assumption) (h := ?r26)
      case y26 => (intro w hSw; clear hSw; go_simp; try with_reducible rfl)
      case' r26 => skip
      refine Mem.tkY 18 ?v27 (hy := Or.inl ⟨by rfl, ?y27⟩) (hS := by assumption) (h := ?r27)
      case y27 => (intro w hSw; clear hSw; go_simp; try with_reducible rfl)
      case' r27 => skip
      try simp only [List.getElem_toArray, List.getElem_cons_succ, List.getElem_cons_zero, Act.put, List.setIfInBounds_toArray, List.set_cons_zero, List.set_cons_succ]
      refine Mem.tkY 19 ?v28 (hy := Or.inl ⟨by rfl, ?y28⟩) (hS := by assumption) (h := ?r28)
      case y28 => (intro w hSw; clear hSw; go_simp; try with_reducible rfl)
      case' r28 => skip
      refine Mem.tkY 20 ?v29 (hy := Or.inl ⟨by rfl, ?y29⟩) (hS := by assumption) (h := ?r29)
      case y29 => (intro w hSw; clear hSw; go_simp; try with_reducible rfl)
      case' r29 => skip
      refine Mem.tkY 21 ?v30 (hy := Or.inl ⟨by rfl, ?y30⟩) (hS := by assumption) (h := ?r30)
      case y30 => (intro w hSw; obtain ⟨hT0, hT1, hT2, hT3, hT4⟩ := hCl.out w hSw; clear hSw; go_simp; try with_reducible rfl)
      case' r30 => skip
      try simp only [List.getElem_toArray, List.getElem_cons_succ, List.getElem_cons_zero, Act.put, List.setIfInBounds_toArray, List.set_cons_zero, List.set_cons_succ]
      refine wpAnyH_ready (rs := [16]) (by kernel_rfl) (by simp) ?_
      refine AllReadyH.cons rfl (fun K hK => ?_) AllReadyH.nil
      go_simp
      (refine (of_any x.pa A1 x.pd.length c1 _).mono ?_; rintro e wb ⟨rfl, hbl⟩)
      try go_wp2_with fail
      have hSnew := Mem.bl_step hHeld hbl (by first | exact Nat.le_refl _ | omega | (simp <;> omega))
      refine hK.out _ _ ?_ (fun hHeld2 => ?_)
      · exact hSnew
      try replace hown := hown.below hbl
      try replace hgw := hgw.below hbl
      clear hbl
      clear hK K hHeld hSnew
      have hHeld := hHeld2
      clear hHeld2
      try simp only [List.getElem_toArray, List.getElem_cons_succ, List.getElem_cons_zero, Act.put, List.setIfInBounds_toArray, List.set_cons_zero, List.set_cons_succ]
      refine Mem.tkY 22 ?v31 (hy := Or.inl ⟨by rfl, ?y31⟩) (hS := by assumption) (h := ?r31)
      case y31 => (intro w hSw; clear hSw; go_simp; try with_reducible rfl)
      case' r31 => skip
      try simp only [List.getElem_toArray, List.getElem_cons_succ, List.getElem_cons_zero, Act.put, List.setIfInBounds_toArray, List.set_cons_zero, List.set_cons_succ]
      refine wpAnyH_ready (rs := [23]) (by kernel_rfl) (by simp) ?_
      refine AllReadyH.cons rfl (fun K hK => ?_) AllReadyH.nil
      rw [if_pos (by rfl)]
      refine wp_build1 60 94 _ (by rfl) 5 72 (.agg chZ) (chC x A1 c1 A2 c2) (by rfl) rfl (by decide) (by omega) Try.underlying60 rchInfo3 ?_; intro g6 wa hr6 hbl hg6
      have hSnew := Mem.bl_step hHeld hbl (by first | exact Nat.le_refl _ | omega | (simp <;> omega))
      refine hK.out _ _ ?_ (fun hHeld2 => ?_)
      · exact hSnew
      try replace hown := hown.below hbl
      try replace hgw := hgw.below hbl
      clear hbl
      clear hK K hHeld hSnew
      have hHeld := hHeld2
      clear hHeld2
      try simp only [List.getElem_toArray, List.getElem_cons_succ, List.getElem_cons_zero, Act.put, List.setIfInBounds_toArray, List.set_cons_zero, List.set_cons_succ]
      refine wpAnyH_ready (rs := [24]) (by kernel_rfl) (by simp) ?_
      refine AllReadyH.cons rfl (fun K hK => ?_) AllReadyH.nil
      rw [if_pos (by rfl)]
      refine wp_appK (k := kChg) _ _ 60 (by rfl) (.agg chZ) 72 Try.underlying60 rchInfo3 rfl (by decide) (by rfl) g6 1 (by rfl) hown 94 (chC x A1 c1 A2 c2).toList (by rw [Array.toArray_toList]; exact hr6) x _ (HK.out _ (hbr.drew.trans hHeld)) (fun b hb => ⟨fun e => by have := hlt1 b e.symm; omega, Nat.lt_of_lt_of_le hb (Nat.le_trans hbr0 hgw.out.size)⟩) (by omega) (by omega) (Nat.le_trans hbr0 hgw.out.size) ?_; intro v7 w7 hown7 hg7 hat7; have hSnew := hHeld.grown hg7 (Nat.le_trans hbr0 hgw.out.size) (fun q hq => (hlt1 q hq).1)
      refine hK.out _ _ ?_ (fun hHeld2 => ?_)
      · exact hSnew
      clear hK K hHeld hSnew
      have hHeld := hHeld2
      clear hHeld2
      try simp only [List.getElem_toArray, List.getElem_cons_succ, List.getElem_cons_zero, Act.put, List.setIfInBounds_toArray, List.set_cons_zero, List.set_cons_succ]
      refine Mem.tkY 25 ?v32 (hy := Or.inl ⟨by rfl, ?y32⟩) (hS := by assumption) (h := ?r32)
      case y32 => (intro w hSw; clear hSw; go_simp; try with_reducible rfl)
      case' r32 => skip
      try simp only [List.getElem_toArray, List.getElem_cons_succ, List.getElem_cons_zero, Act.put, List.setIfInBounds_toArray, List.set_cons_zero, List.set_cons_succ]
      refine wpAnyH_done (by kernel_rfl) ?_ _
      clear hCl
      go_wp2_with fail
      go_roundw
      case rel => exact ⟨k + 1, by omega, by go_num, by rw [HT.out]; exact hown7, hbr.drew.trans hHeld⟩
      case measure => simp [intOf]; omega
    · obtain rfl : k = xs.length := by omega
      rw [List.take_length] at hown0
      go_wp2
      go_ret
      exact ⟨_, rfl, hown0, hbr⟩
set_option maxHeartbeats 1000000 in
set_option maxRecDepth 100000 in
theorem same_yes (x : Chg) (A1 : Option Addr) (c1 : Nat) (A2 : Option Addr) (c2 : Nat) (B1 : Option Addr) (d1 : Nat) (B2 : Option Addr) (d2 : Nat) (w : World) (hx : ChS w x A1 c1 A2 c2) (hy : ChS w x B1 d1 B2 d2) :
    Calls Try.prog 48 #[.agg (chC x A1 c1 A2 c2), .agg (chC x B1 d1 B2 d2)] w fun r w' => r = .returned (.bool true) ∧ Below w.heap.size w w' := by
  have r1 : Row ((w.alloc (.cells (chC x A1 c1 A2 c2) 94)).alloc (.cells (chC x B1 d1 B2 d2) 94)) w.heap.size 94 (chC x A1 c1 A2 c2) := (Row.new _ _ _).alloc _
  have r2 := rowAt (w := w.alloc (.cells (chC x A1 c1 A2 c2) 94)) (g := w.heap.size + 1) 94 (chC x B1 d1 B2 d2) (by simp)
  have hb := (bb0 w (.cells (chC x A1 c1 A2 c2) 94)).alloc (by simp) (.cells (chC x B1 d1 B2 d2) 94)
  have CS := Lib.hid (fun w' h1 h2 => rsame_any x.pa A1 c1 x.pd x.pa B1 d1 x.pd w' h1 h2)
  rw [show psameB x.pa x.pd x.pa x.pd = true from by unfold psameB; simp] at CS
  have CI := Lib.hid (fun w' h1 h2 => Same.ints_any A2 B2 x.needs.length x.needs.length c2 d2 x.needs x.needs w' h1 h2)
  rw [decide_eq_true rfl] at CI
  have HX := Lib.hid (hx.below hb)
  have HY := Lib.hid (hy.below hb)
  have HB := Lib.hid hb
  have HR1 := Lib.hid r1
  have HR2 := Lib.hid r2
  have k0 : World.cell? _ ⟨w.heap.size, 0, none⟩ = some (.int .i64 x.id) := r1.cell 0 rfl
  have k1 : World.cell? _ ⟨w.heap.size, 1, none⟩ = some (.int .i64 x.blk) := r1.cell 1 rfl
  have k2 : World.cell? _ ⟨w.heap.size, 2, none⟩ = some (.int .i64 x.pa) := r1.cell 2 rfl
  have k3 : World.cell? _ ⟨w.heap.size, 2 + 1, none⟩ = some (.slice A1 x.pd.length c1) := r1.cell 3 rfl
  have q0 : World.cell? _ ⟨w.heap.size + 1, 0, none⟩ = some (.int .i64 x.id) := r2.cell 0 rfl
  have q1 : World.cell? _ ⟨w.heap.size + 1, 1, none⟩ = some (.int .i64 x.blk) := r2.cell 1 rfl
  have q2 : World.cell? _ ⟨w.heap.size + 1, 2, none⟩ = some (.int .i64 x.pa) := r2.cell 2 rfl
  have q3 : World.cell? _ ⟨w.heap.size + 1, 2 + 1, none⟩ = some (.slice B1 x.pd.length d1) := r2.cell 3 rfl
  clear hx hy r1 r2 hb
  go_enter Try.func48, Try.ntmps48
  go_wp2_with fail
  refine (CS.out _ HX.out.p4 HY.out.p4).mono ?_
  rintro e w3 ⟨rfl, hb3⟩
  have k4 : World.cell? _ ⟨w.heap.size, 4, none⟩ = some (.slice A2 x.needs.length c2) := (HR1.out.below hb3).cell 4 rfl
  have q4 : World.cell? _ ⟨w.heap.size + 1, 4, none⟩ = some (.slice B2 x.needs.length d2) := (HR2.out.below hb3).cell 4 rfl
  have i1 := (HX.out.n4.below hb3).sl_int
  have i2 := (HY.out.n4.below hb3).sl_int
  have C2 := Lib.hid (CI.out w3 i1 i2)
  have HB3 := Lib.hid (HB.out.trans (hb3.mono HB.out.size))
  clear hb3 i1 i2 CI CS k0 k1 k2 k3 q0 q1 q2 q3
  go_wp2_with fail
  refine C2.out.mono ?_
  rintro e w4 ⟨rfl, q, rfl⟩
  go_wp2
  go_ret
  exact ⟨rfl, bdrewN HB3.out q⟩
set_option maxHeartbeats 2000000 in
set_option maxRecDepth 100000 in
theorem sameall_yes (A : Option Addr) (c : Nat) (B : Option Addr) (d : Nat) (xs : List Chg) (w : World) (hx : Chs w A xs) (hy : Chs w B xs) :
    Calls Try.prog 30 #[.slice A xs.length c, .slice B xs.length d] w fun r w' => r = .returned (.bool true) ∧ Below w.heap.size w w' := by
  have hl : xs.length ≤ 9223372036854775807 := hx.2.1
  go_enter Try.func30, Try.ntmps30
  go_wp2
  go_loopw [5] (fun i wr => ∃ (k : Nat), k ≤ xs.length ∧ i = .int .i64 k ∧ Below w.heap.size w wr) (fun i _ => xs.length - (intOf i).toNat)
  case atStart => exact ⟨0, by omega, rfl, Below.refl _ _⟩
  case round =>
    obtain ⟨k, hk, rfl, hbr⟩ := hrel
    by_cases hlt : k < xs.length
    · obtain ⟨g, o, rfl, hg⟩ := ch_form hx (by omega)
      obtain ⟨g', o', rfl, hg'⟩ := ch_form hy (by omega)
      obtain ⟨A1, c1, A2, c2, hat0⟩ := ch_at hx k hlt
      obtain ⟨B1, d1, B2, d2, hbt0⟩ := ch_at hy k hlt
      have hat := hat0.below hbr
      have hbt := hbt0.below hbr
      have e0 : wr.drew.cell? ⟨g, o + k * 5, none⟩ = some (.int .i64 xs[k].id) := hat.v0
      have e1 : wr.drew.cell? ⟨g, o + k * 5 + 1, none⟩ = some (.int .i64 xs[k].blk) := hat.v1
      have e2 : wr.drew.cell? ⟨g, o + k * 5 + 2, none⟩ = some (.int .i64 xs[k].pa) := hat.v2
      have e3 : wr.drew.cell? ⟨g, o + k * 5 + 3, none⟩ = some (.slice A1 xs[k].pd.length c1) := hat.v3
      have e4 : wr.drew.cell? ⟨g, o + k * 5 + 4, none⟩ = some (.slice A2 xs[k].needs.length c2) := hat.v4
      have f0 : wr.drew.cell? ⟨g', o' + k * 5, none⟩ = some (.int .i64 xs[k].id) := hbt.v0
      have f1 : wr.drew.cell? ⟨g', o' + k * 5 + 1, none⟩ = some (.int .i64 xs[k].blk) := hbt.v1
      have f2 : wr.drew.cell? ⟨g', o' + k * 5 + 2, none⟩ = some (.int .i64 xs[k].pa) := hbt.v2
      have f3 : wr.drew.cell? ⟨g', o' + k * 5 + 3, none⟩ = some (.slice B1 xs[k].pd.length d1) := hbt.v3
      have f4 : wr.drew.cell? ⟨g', o' + k * 5 + 4, none⟩ = some (.slice B2 xs[k].needs.length d2) := hbt.v4
      have CS := Lib.hid (same_yes xs[k] A1 c1 A2 c2 B1 d1 B2 d2 wr.drew (hat.s.below (Below.refl _ _).drew) (hbt.s.below (Below.refl _ _).drew))
      have hg1 : g < wr.drew.heap.size := Nat.lt_of_lt_of_le hg hbr.size
      have hg2 : g' < wr.drew.heap.size := Nat.lt_of_lt_of_le hg' hbr.size
      clear hat0 hat hbt0 hbt
      generalize xs[k] = x at *
      go_wp2_with fail
      refine wp_region_held_drew (S := Go.RowKit.Below ((wr.drew).heap.size) (wr.drew)) (by kernel_rfl) ?hb39 (fun hHeld => ?rest39)
      case hb39 =>
        exact Go.RowKit.Below.refl _ _
      case' rest39 => skip
      have hCl := fun (wS : World) (hSw : Go.RowKit.Below ((wr.drew).heap.size) (wr.drew) wS) => And.intro (Mem.bl_cell hSw e0 (by first | omega | (dsimp only; omega) | exact World.block_lt_of_cell? _ _ e0 | (simp <;> omega))) <| And.intro (Mem.bl_cell hSw e1 (by first | omega | (dsimp only; omega) | exact World.block_lt_of_cell? _ _ e1 | (simp <;> omega))) <| And.intro (Mem.bl_cell hSw e2 (by first | omega | (dsimp only; omega) | exact World.block_lt_of_cell? _ _ e2 | (simp <;> omega))) <| And.intro (Mem.bl_cell hSw e3 (by first | omega | (dsimp only; omega) | exact World.block_lt_of_cell? _ _ e3 | (simp <;> omega))) <| And.intro (Mem.bl_cell hSw e4 (by first | omega | (dsimp only; omega) | exact World.block_lt_of_cell? _ _ e4 | (simp <;> omega))) <| And.intro (Mem.bl_cell hSw f0 (by first | omega | (dsimp only; omega) | exact World.block_lt_of_cell? _ _ f0 | (simp <;> omega))) <| And.intro (Mem.bl_cell hSw f1 (by first | omega | (dsimp only; omega) | exact World.block_lt_of_cell? _ _ f1 | (simp <;> omega))) <| And.intro (Mem.bl_cell hSw f2 (by first | omega | (dsimp only; omega) | exact World.block_lt_of_cell? _ _ f2 | (simp <;> omega))) <| And.intro (Mem.bl_cell hSw f3 (by first | omega | (dsimp only; omega) | exact World.block_lt_of_cell? _ _ f3 | (simp <;> omega))) <| Mem.bl_cell hSw f4 (by first | omega | (dsimp only; omega) | exact World.block_lt_of_cell? _ _ f4 | (simp <;> omega))
      replace hCl := Go.Lib.hid hCl
      refine Mem.tkY 0 ?v40 (hy := Or.inl ⟨by rfl, ?y40⟩) (hS := by assumption) (h := ?r40)
      case y40 => (intro w hSw; clear hSw; go_simp; try with_reducible rfl)
      case' r40 => skip
      refine Mem.tkY 1 ?v41 (hy := Or.inl ⟨by rfl, ?y41⟩) (hS := by assumption) (h := ?r41)
      case y41 => (intro w hSw; clear hSw; go_simp; try with_reducible rfl)
      case' r41 => skip
      refine Mem.tkY 2 ?v42 (hy := Or.inl ⟨by rfl, ?y42⟩) (hS := by assumption) (h := ?r42)
      case y42 => (intro w hSw; clear hSw; go_simp; try with_reducible rfl)
      case' r42 => skip
      try simp only [List.getElem_toArray, List.getElem_cons_succ, List.getElem_cons_zero, Act.put, List.setIfInBounds_toArray, List.set_cons_zero, List.set_cons_succ]
      refine Mem.tkY 3 ?v43 (hy := Or.inl ⟨by rfl, ?y43⟩) (hS := by assumption) (h := ?r43)
      case y43 => (intro w hSw; obtain ⟨hT0, hT1, hT2, hT3, hT4, hT5, hT6, hT7, hT8, hT9⟩ := hCl.out w hSw; clear hSw; go_simp; try with_reducible rfl)
      case' r43 => skip
      refine Mem.tkY 4 ?v44 (hy := Or.inl ⟨by rfl, ?y44⟩) (hS := by assumption) (h := ?r44)
      case y44 => (intro w hSw; clear hSw; go_simp; try with_reducible rfl)
      case' r44 => skip
      refine Mem.tkY 5 ?v45 (hy := Or.inl ⟨by rfl, ?y45⟩) (hS := by assumption) (h := ?r45)
      case y45 => (intro w hSw; clear hSw; go_simp; try with_reducible rfl)
      case' r45 => skip
      try simp only [List.getElem_toArray, List.getElem_cons_succ, List.getElem_cons_zero, Act.put, List.setIfInBounds_toArray, List.set_cons_zero, List.set_cons_succ]
      refine Mem.tkY 6 ?v46 (hy := Or.inl ⟨by rfl, ?y46⟩) (hS := by assumption) (h := ?r46)
      case y46 => (intro w hSw; clear hSw; go_simp; try with_reducible rfl)
      case' r46 => skip
      refine Mem.tkY 7 ?v47 (hy := Or.inl ⟨by rfl, ?y47⟩) (hS := by assumption) (h := ?r47)
      case y47 => (intro w hSw; obtain ⟨hT0, hT1, hT2, hT3, hT4, hT5, hT6, hT7, hT8, hT9⟩ := hCl.out w hSw; clear hSw; go_simp; try with_reducible rfl)
      case' r47 => skip
      try simp only [List.getElem_toArray, List.getElem_cons_succ, List.getElem_cons_zero, Act.put, List.setIfInBounds_toArray, List.set_cons_zero, List.set_cons_succ]
      refine wpAnyH_ready (rs := [8]) (by kernel_rfl) (by simp) ?_
      refine AllReadyH.cons rfl (fun K hK => ?_) AllReadyH.nil
      go_simp
      (refine CS.out.mono ?_; rintro e wb ⟨rfl, hbl⟩)
      try go_wp2_with fail
      have hSnew := Mem.bl_step hHeld hbl (by first | exact Nat.le_refl _ | omega | (simp <;> omega))
      refine hK.out _ _ ?_ (fun hHeld2 => ?_)
      · exact hSnew
      clear hbl
      clear hK K hHeld hSnew
      have hHeld := hHeld2
      clear hHeld2
      try simp only [List.getElem_toArray, List.getElem_cons_succ, List.getElem_cons_zero, Act.put, List.setIfInBounds_toArray, List.set_cons_zero, List.set_cons_succ]
      refine Mem.tkY 9 ?v48 (hy := Or.inl ⟨by rfl, ?y48⟩) (hS := by assumption) (h := ?r48)
      case y48 => (intro w hSw; clear hSw; go_simp; try with_reducible rfl)
      case' r48 => skip
      try simp only [List.getElem_toArray, List.getElem_cons_succ, List.getElem_cons_zero, Act.put, List.setIfInBounds_toArray, List.set_cons_zero, List.set_cons_succ]
      refine wpAnyH_done (by kernel_rfl) ?_ _
      clear hCl
      go_wp2_with fail
      go_roundw
      case rel => exact ⟨k + 1, by omega, by go_num, hbr.trans (((Below.refl _ _).drew.trans hHeld).mono hbr.size)⟩
      case measure => simp [intOf]; omega
    · obtain rfl : k = xs.length := by omega
      go_wp2
      go_ret
      exact ⟨rfl, hbr⟩
end Go.Proofs.Ytdhgkabbepbgpaa.Rd

