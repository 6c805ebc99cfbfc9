/- A cache is the document's: a contract. No statement is proved here. -/
import Derived.Test.YtbamhiegabeicaaGreatTb
import Derived.Test.YtbamhiegabeicaaGreatDi
namespace Go.Proofs.YtbamhiegabeicaaGreat.Cb
open Go.RowKit Go.Proofs.YtbamhiegabeicaaGreat.Mem Go.Proofs.YtbamhiegabeicaaGreat.Open Go.Proofs.YtbamhiegabeicaaGreat.Kind Go.Proofs.YtbamhiegabeicaaGreat.Blk Go.Proofs.YtbamhiegabeicaaGreat.App Go.Proofs.YtbamhiegabeicaaGreat.Pat Go.Proofs.YtbamhiegabeicaaGreat.Rd
open Go.Proofs.YtbamhiegabeicaaGreat.Db (Dv Dev Asd Bks)
set_option linter.unusedVariables false
set_option linter.unusedSimpArgs false
theorem same_blkC (A B : Option Addr) (n m c d : Nat) (xs : List Nat) (w : World) (hx : Sl w V8 A n xs) (hy : Sl w V8 B m xs) :
    Calls Tryz.prog 33 #[.slice A n c, .slice B m d] w fun e w' => e = .returned (.bool true) ∧ Below w.heap.size w w' := by
  refine (Same.same_any A B n m c d xs xs w hx hy).mono ?_
  rintro e w' ⟨rfl, q, rfl⟩
  exact ⟨by rw [decide_eq_true rfl], bdrewN (Below.refl _ _) q⟩
theorem bks_sl {w : World} {g i : Nat} {bs : List (List Nat)} {L : List Nat} (h : Bks w g bs) (hL : bs[i]? = some L) : Sl w V8 (some ⟨g, i * 256, none⟩) 256 L := by
  obtain ⟨hl, hr⟩ := h.1 i L hL
  refine ⟨hl, by decide, fun j x hx => ⟨_, rfl, h.2.2, ?_⟩⟩
  have := hr j (V8 x) (by
    rw [Array.getElem?_toList]
    obtain ⟨hj, rfl⟩ := List.getElem?_eq_some_iff.1 hx
    exact blk_get _ _ hj)
  rw [Kind.addr_add]
  exact this
set_option maxHeartbeats 2000000 in
set_option maxRecDepth 100000 in
theorem Same13_any (c d g b : Nat) (N N' : Nat → Prop) (v : Value) (S : St) (p : Rp) (w : World) (hc : Ca w c d g b N v S) (hi : Inv S) (hr : Rc N' w p S) :
    Calls Tryz.prog 9 #[.pointer (some ⟨c, 0, none⟩), .pointer (some ⟨d, 0, none⟩), .agg (rcP p S)] w fun e w' => e = .returned (.bool true) ∧ Below w.heap.size w w' := by
  obtain ⟨AB, cB, AL, cL, AK, cK⟩ := p
  change Calls Tryz.prog 9 #[.pointer (some ⟨c, 0, none⟩), .pointer (some ⟨d, 0, none⟩), .agg (rcC AB cB AL S.xs.length cL AK cK S.last (rfu S.dv) S.dv.off S.dv.wr)] w _
  have hb0 : Below w.heap.size w (w.alloc (.cells (rcC AB cB AL S.xs.length cL AK cK S.last (rfu S.dv) S.dv.off S.dv.wr) 32)) := bb0 _ _
  have R0 : Row (w.alloc (.cells (rcC AB cB AL S.xs.length cL AK cK S.last (rfu S.dv) S.dv.off S.dv.wr) 32)) w.heap.size 32 (rcC AB cB AL S.xs.length cL AK cK S.last (rfu S.dv) S.dv.off S.dv.wr) := Row.new _ _ _
  have hc1 := hc.below hb0
  have hr1 := hr.below hb0
  go_enter Tryz.func9, Tryz.ntmps9
  go_wp2_with fail
  obtain ⟨bx, hbx⟩ : ∃ bx, w.heap.size = bx := ⟨_, rfl⟩
  obtain ⟨w1, hw1⟩ : ∃ w1, w.alloc (.cells (rcC AB cB AL S.xs.length cL AK cK S.last (rfu S.dv) S.dv.off S.dv.wr) 32) = w1 := ⟨_, rfl⟩
  rw [hw1]
  rw [hw1] at hb0 R0 hc1 hr1
  try rw [hbx]
  rw [hbx] at R0
  clear hw1 hc hr
  have hrow : Row w1.drew bx 32 (rcC AB cB AL S.xs.length cL AK cK S.last (rfu S.dv) S.dv.off S.dv.wr) := R0.drew
  have hca := hc1.below (Below.refl _ _).drew
  have hrc := Rc.below hr1 (Below.refl _ _).drew
  have HB0 := Lib.hid hb0
  have CLast := Lib.hid (fun w' (h : Ca w' c d g b N v S) => (Last_any c d g b N v S w' h).mono (fun e w'' h2 => (⟨h2.1, h2.2 ▸ Below.refl _ _⟩ : e = .returned (.int .i64 S.last) ∧ Below w'.heap.size w' w'')))
  have CWr := Lib.hid (fun w' (h : Ca w' c d g b N v S) => (Db.writes_any d g S.dv w' h.dev).mono (fun e w'' h2 => (⟨h2.1, h2.2 ▸ Below.refl _ _⟩ : e = .returned (.int .i64 S.dv.wr) ∧ Below w'.heap.size w' w'')))
  have CDn := Lib.hid (fun w' (h : Ca w' c d g b N v S) => (Db.down_any d g S.dv w' h.dev).mono (fun e w'' h2 => (⟨h2.1, h2.2 ▸ Below.refl _ _⟩ : e = .returned (.bool S.dv.off) ∧ Below w'.heap.size w' w'')))
  have HI := Lib.hid hi
  clear hb0 R0 hc1 hr1 hi
  refine wp_region_held_drew (S := Go.RowKit.Below ((w1.drew).heap.size) (w1.drew)) (by kernel_rfl) ?hb8 (fun hHeld => ?rest8)
  case hb8 =>
    exact Go.RowKit.Below.refl _ _
  case' rest8 => skip
  have hCl := fun (wS : World) (hSw : Go.RowKit.Below ((w1.drew).heap.size) (w1.drew) wS) => And.intro ((Mem.bl_row hSw hrow (by first | exact Mem.Row.lt hrow | omega | (simp <;> omega))).cell 0 rfl) <| And.intro ((Mem.bl_row hSw hrow (by first | exact Mem.Row.lt hrow | omega | (simp <;> omega))).cell 1 rfl) <| And.intro ((Mem.bl_row hSw hrow (by first | exact Mem.Row.lt hrow | omega | (simp <;> omega))).cell 2 rfl) <| And.intro ((Mem.bl_row hSw hrow (by first | exact Mem.Row.lt hrow | omega | (simp <;> omega))).cell 3 rfl) <| And.intro ((Mem.bl_row hSw hrow (by first | exact Mem.Row.lt hrow | omega | (simp <;> omega))).cell 4 rfl) <| And.intro ((Mem.bl_row hSw hrow (by first | exact Mem.Row.lt hrow | omega | (simp <;> omega))).cell 5 rfl) <| (Mem.bl_row hSw hrow (by first | exact Mem.Row.lt hrow | omega | (simp <;> omega))).cell 6 rfl
  replace hCl := Go.Lib.hid hCl
  refine Mem.tkV 0 ?v9 ?y9 ?r9
  case y9 => (intro w hSw; clear hSw; go_simp; try with_reducible rfl)
  refine Mem.tkV 2 ?v10 ?y10 ?r10
  case y10 => (intro w hSw; clear hSw; go_simp; try with_reducible rfl)
  refine Mem.tkV 3 ?v11 ?y11 ?r11
  case y11 => (intro w hSw; obtain ⟨hT0, hT1, hT2, hT3, hT4, hT5, hT6⟩ := hCl.out w hSw; clear hSw; go_simp; try with_reducible rfl)
  try simp only [Mem.pa, Mem.pb, Mem.pc, Act.put, Mem.pd, Mem.pe, Mem.pf]
  refine wpAnyH_ready (rs := [1]) (by kernel_rfl) (by simp) ?_
  refine AllReadyH.cons rfl (fun K hK => ?_) AllReadyH.nil
  go_simp
  (refine (CLast.out _ hca).mono ?_; rintro e wb ⟨rfl, hbl⟩)
  try go_wp2_with fail
  have hSnew := Mem.bl_step hHeld hbl (by first | exact Nat.le_refl _ | omega | (simp <;> omega))
  refine hK.out _ _ ?_ (fun hHeld2 => ?_)
  · exact hSnew
  try replace hca := hca.below hbl
  try replace hrc := hrc.below hbl
  try replace x5 := x5.below hbl
  try replace x6 := x6.below hbl
  clear hbl
  clear hK K hHeld hSnew
  have hHeld := hHeld2
  clear hHeld2
  try simp only [Mem.pa, Mem.pb, Mem.pc, Act.put, Mem.pd, Mem.pe, Mem.pf]
  refine Mem.tkV 4 ?v12 ?y12 ?r12
  case y12 => (intro w hSw; clear hSw; go_simp; try with_reducible rfl)
  refine Mem.tkV 5 ?v13 ?y13 ?r13
  case y13 => (intro w hSw; clear hSw; go_simp; try with_reducible rfl)
  try simp only [Mem.pa, Mem.pb, Mem.pc, Act.put, Mem.pd, Mem.pe, Mem.pf]
  first | refine Mem.tkN 6 ?r14 | (refine Mem.tkV 6 ?v14 ?y14 ?r14; case y14 => (intro w hSw; clear hSw; go_simp; try with_reducible rfl))
  try simp only [Mem.pa, Mem.pb, Mem.pc, Act.put, Mem.pd, Mem.pe, Mem.pf]
  first | refine Mem.tkN 8 ?r15 | (refine Mem.tkV 8 ?v15 ?y15 ?r15; case y15 => (intro w hSw; clear hSw; go_simp; try with_reducible rfl))
  try simp only [Mem.pa, Mem.pb, Mem.pc, Act.put, Mem.pd, Mem.pe, Mem.pf]
  first | refine Mem.tkN 9 ?r16 | (refine Mem.tkV 9 ?v16 ?y16 ?r16; case y16 => (intro w hSw; obtain ⟨hT0, hT1, hT2, hT3, hT4, hT5, hT6⟩ := hCl.out w hSw; clear hSw; go_simp; try with_reducible rfl))
  try simp only [Mem.pa, Mem.pb, Mem.pc, Act.put, Mem.pd, Mem.pe, Mem.pf]
  refine wpAnyH_ready (rs := [7]) (by kernel_rfl) (by simp) ?_
  refine AllReadyH.cons rfl (fun K hK => ?_) AllReadyH.nil
  go_simp
  (refine (CWr.out _ hca).mono ?_; rintro e wb ⟨rfl, hbl⟩)
  try go_wp2_with fail
  have hSnew := Mem.bl_step hHeld hbl (by first | exact Nat.le_refl _ | omega | (simp <;> omega))
  refine hK.out _ _ ?_ (fun hHeld2 => ?_)
  · exact hSnew
  try replace hca := hca.below hbl
  try replace hrc := hrc.below hbl
  try replace x5 := x5.below hbl
  try replace x6 := x6.below hbl
  clear hbl
  clear hK K hHeld hSnew
  have hHeld := hHeld2
  clear hHeld2
  try simp only [Mem.pa, Mem.pb, Mem.pc, Act.put, Mem.pd, Mem.pe, Mem.pf]
  first | refine Mem.tkN 10 ?r17 | (refine Mem.tkV 10 ?v17 ?y17 ?r17; case y17 => (intro w hSw; clear hSw; go_simp; try with_reducible rfl))
  refine Mem.tkV 11 ?v18 ?y18 ?r18
  case y18 => (intro w hSw; clear hSw; go_simp; try with_reducible rfl)
  refine Mem.tkV 12 ?v19 ?y19 ?r19
  case y19 => (intro w hSw; clear hSw; go_simp; try with_reducible rfl)
  try simp only [Mem.pa, Mem.pb, Mem.pc, Act.put, Mem.pd, Mem.pe, Mem.pf]
  first | refine Mem.tkN 13 ?r20 | (refine Mem.tkV 13 ?v20 ?y20 ?r20; case y20 => (intro w hSw; clear hSw; go_simp; try with_reducible rfl))
  try simp only [Mem.pa, Mem.pb, Mem.pc, Act.put, Mem.pd, Mem.pe, Mem.pf]
  first | refine Mem.tkN 15 ?r21 | (refine Mem.tkV 15 ?v21 ?y21 ?r21; case y21 => (intro w hSw; clear hSw; go_simp; try with_reducible rfl))
  try simp only [Mem.pa, Mem.pb, Mem.pc, Act.put, Mem.pd, Mem.pe, Mem.pf]
  first | refine Mem.tkN 16 ?r22 | (refine Mem.tkV 16 ?v22 ?y22 ?r22; case y22 => (intro w hSw; obtain ⟨hT0, hT1, hT2, hT3, hT4, hT5, hT6⟩ := hCl.out w hSw; clear hSw; go_simp; try with_reducible rfl))
  try simp only [Mem.pa, Mem.pb, Mem.pc, Act.put, Mem.pd, Mem.pe, Mem.pf]
  refine wpAnyH_ready (rs := [14]) (by kernel_rfl) (by simp) ?_
  refine AllReadyH.cons rfl (fun K hK => ?_) AllReadyH.nil
  go_simp
  (refine (CDn.out _ hca).mono ?_; rintro e wb ⟨rfl, hbl⟩)
  try go_wp2_with fail
  have hSnew := Mem.bl_step hHeld hbl (by first | exact Nat.le_refl _ | omega | (simp <;> omega))
  refine hK.out _ _ ?_ (fun hHeld2 => ?_)
  · exact hSnew
  try replace hca := hca.below hbl
  try replace hrc := hrc.below hbl
  try replace x5 := x5.below hbl
  try replace x6 := x6.below hbl
  clear hbl
  clear hK K hHeld hSnew
  have hHeld := hHeld2
  clear hHeld2
  try simp only [Mem.pa, Mem.pb, Mem.pc, Act.put, Mem.pd, Mem.pe, Mem.pf]
  first | refine Mem.tkN 17 ?r23 | (refine Mem.tkV 17 ?v23 ?y23 ?r23; case y23 => (intro w hSw; clear hSw; go_simp; try with_reducible rfl))
  refine Mem.tkV 18 ?v24 ?y24 ?r24
  case y24 => (intro w hSw; clear hSw; go_simp; try with_reducible rfl)
  refine Mem.tkV 19 ?v25 ?y25 ?r25
  case y25 => (intro w hSw; clear hSw; go_simp; try with_reducible rfl)
  try simp only [Mem.pa, Mem.pb, Mem.pc, Act.put, Mem.pd, Mem.pe, Mem.pf]
  first | refine Mem.tkN 20 ?r26 | (refine Mem.tkV 20 ?v26 ?y26 ?r26; case y26 => (intro w hSw; clear hSw; go_simp; try with_reducible rfl))
  try simp only [Mem.pa, Mem.pb, Mem.pc, Act.put, Mem.pd, Mem.pe, Mem.pf]
  first | refine Mem.tkN 23 ?r27 | (refine Mem.tkV 23 ?v27 ?y27 ?r27; case y27 => (intro w hSw; clear hSw; go_simp; try with_reducible rfl))
  try simp only [Mem.pa, Mem.pb, Mem.pc, Act.put, Mem.pd, Mem.pe, Mem.pf]
  first | refine Mem.tkN 24 ?r28 | (refine Mem.tkV 24 ?v28 ?y28 ?r28; case y28 => (intro w hSw; obtain ⟨hT0, hT1, hT2, hT3, hT4, hT5, hT6⟩ := hCl.out w hSw; clear hSw; go_simp; try with_reducible rfl))
  try simp only [Mem.pa, Mem.pb, Mem.pc, Act.put, Mem.pd, Mem.pe, Mem.pf]
  refine wpAnyH_ready (rs := [21]) (by kernel_rfl) (by simp) ?_
  refine AllReadyH.cons rfl (fun K hK => ?_) AllReadyH.nil
  go_simp
  (refine (Left_any c d g b N v S _ hca HI.out).mono ?_; rintro e wb ⟨v5, rfl, ho5, hbl⟩; obtain ⟨A5, c5, rfl, -, -, -, x5⟩ := OwnK.rw_ ho5; clear ho5)
  try go_wp2_with fail
  have hSnew := Mem.bl_step hHeld hbl (by first | exact Nat.le_refl _ | omega | (simp <;> omega))
  refine hK.out _ _ ?_ (fun hHeld2 => ?_)
  · exact hSnew
  try replace hca := hca.below hbl
  try replace hrc := hrc.below hbl
  try replace x5 := x5.below hbl
  try replace x6 := x6.below hbl
  clear hbl
  clear hK K hHeld hSnew
  have hHeld := hHeld2
  clear hHeld2
  try simp only [Mem.pa, Mem.pb, Mem.pc, Act.put, Mem.pd, Mem.pe, Mem.pf]
  refine wpAnyH_ready (rs := [22]) (by kernel_rfl) (by simp) ?_
  refine AllReadyH.cons rfl (fun K hK => ?_) AllReadyH.nil
  go_simp
  (refine (lof_any A5 c5 S.xs _ x5 HI.out.xl).mono ?_; rintro e wb ⟨v6, rfl, ho6, hbl⟩; obtain ⟨A6, c6, rfl, -, -, -, x6⟩ := OwnK.rw_ ho6; clear ho6)
  try go_wp2_with fail
  have hSnew := Mem.bl_step hHeld hbl (by first | exact Nat.le_refl _ | omega | (simp <;> omega))
  refine hK.out _ _ ?_ (fun hHeld2 => ?_)
  · exact hSnew
  try replace hca := hca.below hbl
  try replace hrc := hrc.below hbl
  try replace x5 := x5.below hbl
  try replace x6 := x6.below hbl
  clear hbl
  clear hK K hHeld hSnew
  have hHeld := hHeld2
  clear hHeld2
  try simp only [Mem.pa, Mem.pb, Mem.pc, Act.put, Mem.pd, Mem.pe, Mem.pf]
  refine wpAnyH_ready (rs := [25]) (by kernel_rfl) (by simp) ?_
  refine AllReadyH.cons rfl (fun K hK => ?_) AllReadyH.nil
  go_simp
  (refine (sameall_yes A6 c6 AL cL S.xs _ x6 (Rc.chs hrc)).mono ?_; rintro e wb ⟨rfl, hbl⟩)
  try go_wp2_with fail
  have hSnew := Mem.bl_step hHeld hbl (by first | exact Nat.le_refl _ | omega | (simp <;> omega))
  refine hK.out _ _ ?_ (fun hHeld2 => ?_)
  · exact hSnew
  try replace hca := hca.below hbl
  try replace hrc := hrc.below hbl
  try replace x5 := x5.below hbl
  try replace x6 := x6.below hbl
  clear hbl
  clear hK K hHeld hSnew
  have hHeld := hHeld2
  clear hHeld2
  try simp only [Mem.pa, Mem.pb, Mem.pc, Act.put, Mem.pd, Mem.pe, Mem.pf]
  first | refine Mem.tkN 26 ?r29 | (refine Mem.tkV 26 ?v29 ?y29 ?r29; case y29 => (intro w hSw; clear hSw; go_simp; try with_reducible rfl))
  refine Mem.tkV 27 ?v30 ?y30 ?r30
  case y30 => (intro w hSw; clear hSw; go_simp; try with_reducible rfl)
  try simp only [Mem.pa, Mem.pb, Mem.pc, Act.put, Mem.pd, Mem.pe, Mem.pf]
  refine wpAnyH_done (by kernel_rfl) ?_ _
  clear hCl
  have HCI := Lib.hid (Db.image_any d g S.dv _ hca.dev (by rw [HI.out.len]; omega) (by rw [HI.out.len]; omega))
  rw [HI.out.len] at HCI
  have HBR := Lib.hid (HB0.out.trans (((Below.refl _ _).drew.trans hHeld).mono HB0.out.size))
  have HRB := Lib.hid (hrow.below hHeld)
  have HRC := Lib.hid hrc
  clear hHeld hrow hrc hca x5 x6 CLast CWr CDn HB0
  go_wp2_with fail
  refine HCI.out.mono ?_
  rintro e we ⟨gi, ci, rfl, hbi, hgi, hci1, hci2, hbe⟩
  have HRBe := Lib.hid (HRB.out.below hbe)
  have hbase := (HRC.out.below hbe).base
  have HBASE := Lib.hid hbase
  have HBKe := Lib.hid hbi
  have HBe := Lib.hid (HBR.out.trans (hbe.mono HBR.out.size))
  obtain ⟨gB, oB, hAB, hgB⟩ : ∃ gB oB, AB = some ⟨gB, oB, none⟩ ∧ gB < we.heap.size := by
    rcases hbase.2.2 with h0 | ⟨g', o, e, _, hlt', _⟩
    · omega
    · exact ⟨g', o, e, hlt'⟩
  subst hAB
  clear hbe hbi HCI HRB HRC HBR hbase
  have hlen := HI.out.len
  go_wp2_with fail
  go_loopw [8] (fun i wr => ∃ (m : Nat), m ≤ 16 ∧ i = .int .i64 m ∧ Below we.heap.size we wr) (fun i _ => 16 - (intOf i).toNat)
  case atStart => exact ⟨0, by omega, rfl, Below.refl _ _⟩
  case round =>
    obtain ⟨m, hm, rfl, hbm⟩ := hrel
    by_cases hlm : m < 16
    · obtain ⟨u, hcu, ⟨Ai, ci', e1, q2, q3, q4, q5⟩⟩ := rw_cell1 rfl HBASE.out (i := m) (by omega)
      injection e1 with e1
      subst e1
      have hLl : S.dv.bs[m].length = 256 := HI.out.each _ (List.getElem_mem _)
      have hLg : S.dv.bs[m]? = some S.dv.bs[m] := List.getElem?_eq_getElem (by omega)
      have q6 : By we Ai S.dv.bs[m] := Rw.mono (fun b hb => hb.1) q5
      obtain ⟨L, hL⟩ : ∃ L, S.dv.bs[m] = L := ⟨_, rfl⟩
      rw [hL] at hcu q2 q6 hLl hLg
      rw [hLl] at hcu
      have hcb : wr.drew.cell? ⟨gB, oB + m, none⟩ = some (.slice Ai 256 ci') := (hbm.cell (p := ⟨gB, oB + m, none⟩) hgB).trans hcu
      have hrow : Row wr.drew bx 32 (rcC (some ⟨gB, oB, none⟩) cB AL S.xs.length cL AK cK S.last (rfu S.dv) S.dv.off S.dv.wr) := (HRBe.out.below hbm).drew
      have hs1 := bks_sl (Bks.below (Bks.below HBKe.out hbm) (Below.refl _ _).drew) hLg
      have hs2 := Rw.sl_byte ((q6.below hbm).below (Below.refl _ _).drew)
      have HS1 := Lib.hid hs1
      have HS2 := Lib.hid hs2
      rw [hLl] at HS2
      have hgBr : gB < wr.heap.size := Nat.lt_of_lt_of_le hgB hbm.size
      have hbxr : bx < wr.heap.size := Row.lt hrow
      have HBM := Lib.hid hbm
      clear hcu hL q2 q3 q4 q5 q6 hs1 hs2 hbm hLl hLg
      go_wp2_with fail
      refine wp_region_held_drew (S := Go.RowKit.Below ((wr.drew).heap.size) (wr.drew)) (by kernel_rfl) ?hb37 (fun hHeld => ?rest37)
      case hb37 =>
        exact Go.RowKit.Below.refl _ _
      case' rest37 => skip
      have hCl := fun (wS : World) (hSw : Go.RowKit.Below ((wr.drew).heap.size) (wr.drew) wS) => And.intro ((Mem.bl_row hSw hrow (by first | exact Mem.Row.lt hrow | omega | (simp <;> omega))).cell 0 rfl) <| Mem.bl_cell hSw hcb (by first | omega | (dsimp only; omega) | exact World.block_lt_of_cell? _ _ hcb | (simp <;> omega))
      replace hCl := Go.Lib.hid hCl
      refine Mem.tkV 0 ?v38 ?y38 ?r38
      case y38 => (intro w hSw; clear hSw; go_simp; try with_reducible rfl)
      refine Mem.tkV 1 ?v39 ?y39 ?r39
      case y39 => (intro w hSw; clear hSw; go_simp; try with_reducible rfl)
      refine Mem.tkV 2 ?v40 ?y40 ?r40
      case y40 => (intro w hSw; clear hSw; go_simp; try with_reducible rfl)
      try simp only [Mem.pa, Mem.pb, Mem.pc, Act.put, Mem.pd, Mem.pe, Mem.pf]
      refine Mem.tkV 3 ?v41 ?y41 ?r41
      case y41 => (intro w hSw; clear hSw; go_simp; try with_reducible rfl)
      try simp only [Mem.pa, Mem.pb, Mem.pc, Act.put, Mem.pd, Mem.pe, Mem.pf]
      first | refine Mem.tkN 4 ?r42 | (refine Mem.tkV 4 ?v42 ?y42 ?r42; case y42 => (intro w hSw; clear hSw; go_simp; try with_reducible rfl))
      try simp only [Mem.pa, Mem.pb, Mem.pc, Act.put, Mem.pd, Mem.pe, Mem.pf]
      first | refine Mem.tkN 5 ?r43 | (refine Mem.tkV 5 ?v43 ?y43 ?r43; case y43 => (intro w hSw; clear hSw; go_simp; try with_reducible rfl))
      try simp only [Mem.pa, Mem.pb, Mem.pc, Act.put, Mem.pd, Mem.pe, Mem.pf]
      first | refine Mem.tkN 6 ?r44 | (refine Mem.tkV 6 ?v44 ?y44 ?r44; case y44 => (intro w hSw; clear hSw; go_simp; try with_reducible rfl))
      try simp only [Mem.pa, Mem.pb, Mem.pc, Act.put, Mem.pd, Mem.pe, Mem.pf]
      first | refine Mem.tkN 7 ?r45 | (refine Mem.tkV 7 ?v45 ?y45 ?r45; case y45 => (intro w hSw; clear hSw; go_simp; try with_reducible rfl))
      try simp only [Mem.pa, Mem.pb, Mem.pc, Act.put, Mem.pd, Mem.pe, Mem.pf]
      first | refine Mem.tkN 8 ?r46 | (refine Mem.tkV 8 ?v46 ?y46 ?r46; case y46 => (intro w hSw; clear hSw; go_simp; try with_reducible rfl))
      try simp only [Mem.pa, Mem.pb, Mem.pc, Act.put, Mem.pd, Mem.pe, Mem.pf]
      first | refine Mem.tkN 9 ?r47 | (refine Mem.tkV 9 ?v47 ?y47 ?r47; case y47 => (intro w hSw; obtain ⟨hT0, hT1⟩ := hCl.out w hSw; clear hSw; go_simp; try with_reducible rfl))
      try simp only [Mem.pa, Mem.pb, Mem.pc, Act.put, Mem.pd, Mem.pe, Mem.pf]
      first | refine Mem.tkN 10 ?r48 | (refine Mem.tkV 10 ?v48 ?y48 ?r48; case y48 => (intro w hSw; clear hSw; go_simp; try with_reducible rfl))
      try simp only [Mem.pa, Mem.pb, Mem.pc, Act.put, Mem.pd, Mem.pe, Mem.pf]
      first | refine Mem.tkN 11 ?r49 | (refine Mem.tkV 11 ?v49 ?y49 ?r49; case y49 => (intro w hSw; clear hSw; go_simp; try with_reducible rfl))
      try simp only [Mem.pa, Mem.pb, Mem.pc, Act.put, Mem.pd, Mem.pe, Mem.pf]
      first | refine Mem.tkN 12 ?r50 | (refine Mem.tkV 12 ?v50 ?y50 ?r50; case y50 => (intro w hSw; obtain ⟨hT0, hT1⟩ := hCl.out w hSw; clear hSw; go_simp; try with_reducible rfl))
      try simp only [Mem.pa, Mem.pb, Mem.pc, Act.put, Mem.pd, Mem.pe, Mem.pf]
      refine wpAnyH_ready (rs := [13]) (by kernel_rfl) (by simp) ?_
      refine AllReadyH.cons rfl (fun K hK => ?_) AllReadyH.nil
      go_simp
      (refine (same_blkC (some ⟨gi, m * 256, none⟩) Ai 256 256 256 ci' L _ HS1.out HS2.out).mono ?_; rintro e wb ⟨rfl, hbl⟩)
      try go_wp2_with fail
      have hSnew := Mem.bl_step hHeld hbl (by first | exact Nat.le_refl _ | omega | (simp <;> omega))
      refine hK.out _ _ ?_ (fun hHeld2 => ?_)
      · exact hSnew
      clear hbl
      clear hK K hHeld hSnew
      have hHeld := hHeld2
      clear hHeld2
      try simp only [Mem.pa, Mem.pb, Mem.pc, Act.put, Mem.pd, Mem.pe, Mem.pf]
      first | refine Mem.tkN 14 ?r51 | (refine Mem.tkV 14 ?v51 ?y51 ?r51; case y51 => (intro w hSw; clear hSw; go_simp; try with_reducible rfl))
      refine Mem.tkV 15 ?v52 ?y52 ?r52
      case y52 => (intro w hSw; clear hSw; go_simp; try with_reducible rfl)
      try simp only [Mem.pa, Mem.pb, Mem.pc, Act.put, Mem.pd, Mem.pe, Mem.pf]
      refine wpAnyH_done (by kernel_rfl) ?_ _
      clear hCl
      go_wp2_with fail
      go_roundw
      case rel => exact ⟨m + 1, by omega, by go_num, HBM.out.trans (((Below.refl _ _).drew.trans hHeld).mono HBM.out.size)⟩
      case measure => simp [intOf]; omega
    · obtain rfl : m = 16 := by omega
      have HB := Lib.hid (HBe.out.trans (hbm.mono HBe.out.size))
      clear hbm
      go_wp2
      go_ret
      exact ⟨rfl, HB.out⟩
end Go.Proofs.YtbamhiegabeicaaGreat.Cb
