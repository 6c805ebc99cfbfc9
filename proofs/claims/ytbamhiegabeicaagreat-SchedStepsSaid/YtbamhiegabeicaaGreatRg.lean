/- Laws and contracts of several chapters, laid in one text. No statement is proved here. -/
import Derived.Test.YtbamhiegabeicaaGreatSw
/- The document's Of, Without; changes as the document has them. No statement is proved here. -/
namespace Go.Proofs.YtbamhiegabeicaaGreat.Rd
open Go.RowKit Go.Proofs.YtbamhiegabeicaaGreat.Mem Go.Proofs.YtbamhiegabeicaaGreat.Open Go.Proofs.YtbamhiegabeicaaGreat.Kind Go.Proofs.YtbamhiegabeicaaGreat.Blk Go.Proofs.YtbamhiegabeicaaGreat.App Go.Proofs.YtbamhiegabeicaaGreat.Pat
set_option linter.unusedVariables false
set_option linter.unusedSimpArgs false
theorem rchInfo3 : (Tryz.prog.info? 97).map (fun i => (i.zero, i.size, i.bytes)) = some (some (.agg chZ), 5, 72) := by kernel_rfl
/-- A list of changes that the call has laid, as the document has them. -/
abbrev RK (w : World) (B : Nat) (v : Value) (xs : List Chg) : Prop := OwnK kChg w B 97 v xs
theorem ChS.old {w w' : World} {x : Chg} {A : Option Addr} {c : Nat} {A2 : Option Addr} {c2 : Nat} (h : ChS w x A c A2 c2) (hb : Below w.heap.size w w') : kChg.K w' (fun b => b < w.heap.size) x (chC x A c A2 c2).toList :=
  kChg.stay (w := w) (fun b hb' => hb.block b hb') (by have := h.k; exact this)
end Go.Proofs.YtbamhiegabeicaaGreat.Rd

/- Changes as the document has them; the same lists. No statement is proved here. -/
namespace Go.Proofs.YtbamhiegabeicaaGreat.Rd
open Go.RowKit Go.Proofs.YtbamhiegabeicaaGreat.Mem Go.Proofs.YtbamhiegabeicaaGreat.Open Go.Proofs.YtbamhiegabeicaaGreat.Kind Go.Proofs.YtbamhiegabeicaaGreat.Blk Go.Proofs.YtbamhiegabeicaaGreat.App Go.Proofs.YtbamhiegabeicaaGreat.Pat
set_option linter.unusedVariables false
set_option linter.unusedSimpArgs false
set_option maxHeartbeats 4000000 in
set_option maxRecDepth 100000 in
theorem lof_any (A : Option Addr) (c : Nat) (xs : List Chg) (w : World) (hx : Chs w A xs) (hn : xs.length ≤ 1000) :
    Calls Tryz.prog 30 #[.slice A xs.length c] w fun r w' => ∃ v, r = .returned v ∧ RK w' w.heap.size v xs ∧ Below w.heap.size w w' := by
  go_enter Tryz.func30, Tryz.ntmps30
  go_wp2
  go_loopw [3, 4] (fun v i wr => ∃ (k : Nat), k ≤ xs.length ∧ i = .int .i64 k ∧ RK wr w.heap.size v (xs.take k) ∧ Below w.heap.size w wr) (fun _ i _ => xs.length - (intOf i).toNat)
  case atStart => exact ⟨0, by omega, rfl, OwnK.nil _ _ _ _, Below.refl _ _⟩
  case round =>
    obtain ⟨k, hk, rfl, hown0, hbr⟩ := hrel
    by_cases hlt : k < xs.length
    · obtain ⟨g, o, rfl, hg⟩ := ch_form hx (by omega)
      obtain ⟨A1, c1, A2, c2, hat0⟩ := ch_at hx k hlt
      have hat := hat0.below hbr
      have e0 : wr.drew.cell? ⟨g, o + k * 5, none⟩ = some (.int .i64 xs[k].id) := hat.v0
      have e1 : wr.drew.cell? ⟨g, o + k * 5 + 1, none⟩ = some (.int .i64 xs[k].blk) := hat.v1
      have e2 : wr.drew.cell? ⟨g, o + k * 5 + 2, none⟩ = some (.int .i64 xs[k].pa) := hat.v2
      have e3 : wr.drew.cell? ⟨g, o + k * 5 + 2 + 1, none⟩ = some (.slice A1 xs[k].pd.length c1) := hat.v3
      have e4 : wr.drew.cell? ⟨g, o + k * 5 + 4, none⟩ = some (.slice A2 xs[k].needs.length c2) := hat.v4
      have hK0 : ∀ wX, Below w.heap.size w wX → kChg.K wX (fun b => b < w.heap.size) xs[k] (chC xs[k] A1 c1 A2 c2).toList := fun wX hb => hat0.s.old hb
      have HK := Lib.hid hK0
      have HT := Lib.hid (take_next hlt)
      have hl : (xs.take k).length = k := by rw [List.length_take]; omega
      have hlt1 := hown0.lt
      have hown := hown0.drew
      have hgw : Gw wr.heap.size wr wr.drew := ⟨(Below.refl _ _).drew, Nat.le_refl _⟩
      have hbr0 := hbr.size
      have hbr1 : w.heap.size ≤ wr.drew.heap.size := hbr0
      clear hat0 hat hown0 hK0
      generalize xs[k] = x at *
      go_wp2_with fail
      refine wp_region_held_drew (S := Go.RowKit.Below (w.heap.size) (wr.drew)) (by kernel_rfl) ?hb9 (fun hHeld => ?rest9)
      case hb9 =>
        exact Go.RowKit.Below.refl _ _
      case' rest9 => skip
      have hCl := fun (wS : World) (hSw : Go.RowKit.Below (w.heap.size) (wr.drew) wS) => And.intro (Mem.bl_cell hSw e0 (by first | omega | (dsimp only; omega) | exact World.block_lt_of_cell? _ _ e0 | (simp <;> omega))) <| And.intro (Mem.bl_cell hSw e1 (by first | omega | (dsimp only; omega) | exact World.block_lt_of_cell? _ _ e1 | (simp <;> omega))) <| And.intro (Mem.bl_cell hSw e2 (by first | omega | (dsimp only; omega) | exact World.block_lt_of_cell? _ _ e2 | (simp <;> omega))) <| And.intro (Mem.bl_cell hSw e3 (by first | omega | (dsimp only; omega) | exact World.block_lt_of_cell? _ _ e3 | (simp <;> omega))) <| Mem.bl_cell hSw e4 (by first | omega | (dsimp only; omega) | exact World.block_lt_of_cell? _ _ e4 | (simp <;> omega))
      replace hCl := Go.Lib.hid hCl
      refine Mem.tkV 0 ?v10 ?y10 ?r10
      case y10 => (intro w hSw; clear hSw; go_simp; try with_reducible rfl)
      refine Mem.tkV 1 ?v11 ?y11 ?r11
      case y11 => (intro w hSw; clear hSw; go_simp; try with_reducible rfl)
      refine Mem.tkV 2 ?v12 ?y12 ?r12
      case y12 => (intro w hSw; clear hSw; go_simp; try with_reducible rfl)
      try simp only [Mem.pa, Mem.pb, Mem.pc, Act.put, Mem.pd, Mem.pe, Mem.pf]
      refine Mem.tkV 3 ?v13 ?y13 ?r13
      case y13 => (intro w hSw; clear hSw; go_simp; try with_reducible rfl)
      refine Mem.tkV 4 ?v14 ?y14 ?r14
      case y14 => (intro w hSw; clear hSw; go_simp; try with_reducible rfl)
      refine Mem.tkV 5 ?v15 ?y15 ?r15
      case y15 => (intro w hSw; obtain ⟨hT0, hT1, hT2, hT3, hT4⟩ := hCl.out w hSw; clear hSw; go_simp; try with_reducible rfl)
      try simp only [Mem.pa, Mem.pb, Mem.pc, Act.put, Mem.pd, Mem.pe, Mem.pf]
      refine Mem.tkV 6 ?v16 ?y16 ?r16
      case y16 => (intro w hSw; clear hSw; go_simp; try with_reducible rfl)
      refine Mem.tkV 7 ?v17 ?y17 ?r17
      case y17 => (intro w hSw; clear hSw; go_simp; try with_reducible rfl)
      refine Mem.tkV 8 ?v18 ?y18 ?r18
      case y18 => (intro w hSw; clear hSw; go_simp; try with_reducible rfl)
      try simp only [Mem.pa, Mem.pb, Mem.pc, Act.put, Mem.pd, Mem.pe, Mem.pf]
      refine Mem.tkV 9 ?v19 ?y19 ?r19
      case y19 => (intro w hSw; clear hSw; go_simp; try with_reducible rfl)
      refine Mem.tkV 10 ?v20 ?y20 ?r20
      case y20 => (intro w hSw; obtain ⟨hT0, hT1, hT2, hT3, hT4⟩ := hCl.out w hSw; clear hSw; go_simp; try with_reducible rfl)
      refine Mem.tkV 11 ?v21 ?y21 ?r21
      case y21 => (intro w hSw; clear hSw; go_simp; try with_reducible rfl)
      try simp only [Mem.pa, Mem.pb, Mem.pc, Act.put, Mem.pd, Mem.pe, Mem.pf]
      refine Mem.tkV 12 ?v22 ?y22 ?r22
      case y22 => (intro w hSw; clear hSw; go_simp; try with_reducible rfl)
      refine Mem.tkV 13 ?v23 ?y23 ?r23
      case y23 => (intro w hSw; clear hSw; go_simp; try with_reducible rfl)
      refine Mem.tkV 14 ?v24 ?y24 ?r24
      case y24 => (intro w hSw; clear hSw; go_simp; try with_reducible rfl)
      try simp only [Mem.pa, Mem.pb, Mem.pc, Act.put, Mem.pd, Mem.pe, Mem.pf]
      refine Mem.tkV 15 ?v25 ?y25 ?r25
      case y25 => (intro w hSw; obtain ⟨hT0, hT1, hT2, hT3, hT4⟩ := hCl.out w hSw; clear hSw; go_simp; try with_reducible rfl)
      refine Mem.tkV 17 ?v26 ?y26 ?r26
      case y26 => (intro w hSw; clear hSw; go_simp; try with_reducible rfl)
      refine Mem.tkV 18 ?v27 ?y27 ?r27
      case y27 => (intro w hSw; clear hSw; go_simp; try with_reducible rfl)
      try simp only [Mem.pa, Mem.pb, Mem.pc, Act.put, Mem.pd, Mem.pe, Mem.pf]
      refine Mem.tkV 19 ?v28 ?y28 ?r28
      case y28 => (intro w hSw; clear hSw; go_simp; try with_reducible rfl)
      refine Mem.tkV 20 ?v29 ?y29 ?r29
      case y29 => (intro w hSw; clear hSw; go_simp; try with_reducible rfl)
      refine Mem.tkV 21 ?v30 ?y30 ?r30
      case y30 => (intro w hSw; obtain ⟨hT0, hT1, hT2, hT3, hT4⟩ := hCl.out w hSw; clear hSw; go_simp; try with_reducible rfl)
      try simp only [Mem.pa, Mem.pb, Mem.pc, Act.put, Mem.pd, Mem.pe, Mem.pf]
      refine wpAnyH_ready (rs := [16]) (by kernel_rfl) (by simp) ?_
      refine AllReadyH.cons rfl (fun K hK => ?_) AllReadyH.nil
      go_simp
      (refine (of_any x.pa A1 x.pd.length c1 _).mono ?_; rintro e wb ⟨rfl, hbl⟩)
      try go_wp2_with fail
      have hSnew := Mem.bl_step hHeld hbl (by first | exact Nat.le_refl _ | omega | (simp <;> omega))
      refine hK.out _ _ ?_ (fun hHeld2 => ?_)
      · exact hSnew
      try replace hown := hown.below hbl
      try replace hgw := hgw.below hbl
      clear hbl
      clear hK K hHeld hSnew
      have hHeld := hHeld2
      clear hHeld2
      try simp only [Mem.pa, Mem.pb, Mem.pc, Act.put, Mem.pd, Mem.pe, Mem.pf]
      refine Mem.tkV 22 ?v31 ?y31 ?r31
      case y31 => (intro w hSw; clear hSw; go_simp; try with_reducible rfl)
      try simp only [Mem.pa, Mem.pb, Mem.pc, Act.put, Mem.pd, Mem.pe, Mem.pf]
      refine wpAnyH_ready (rs := [23]) (by kernel_rfl) (by simp) ?_
      refine AllReadyH.cons rfl (fun K hK => ?_) AllReadyH.nil
      rw [if_pos (by rfl)]
      refine wp_build1 29 97 _ (by rfl) 5 72 (.agg chZ) (chC x A1 c1 A2 c2) (by rfl) rfl (by decide) (by omega) Tryz.underlying29 rchInfo3 ?_; intro g6 wa hr6 hbl hg6
      have hSnew := Mem.bl_step hHeld hbl (by first | exact Nat.le_refl _ | omega | (simp <;> omega))
      refine hK.out _ _ ?_ (fun hHeld2 => ?_)
      · exact hSnew
      try replace hown := hown.below hbl
      try replace hgw := hgw.below hbl
      clear hbl
      clear hK K hHeld hSnew
      have hHeld := hHeld2
      clear hHeld2
      try simp only [Mem.pa, Mem.pb, Mem.pc, Act.put, Mem.pd, Mem.pe, Mem.pf]
      refine wpAnyH_ready (rs := [24]) (by kernel_rfl) (by simp) ?_
      refine AllReadyH.cons rfl (fun K hK => ?_) AllReadyH.nil
      rw [if_pos (by rfl)]
      refine wp_appK (k := kChg) _ _ 29 (by rfl) (.agg chZ) 72 Tryz.underlying29 rchInfo3 rfl (by decide) (by rfl) g6 1 (by rfl) hown 97 (chC x A1 c1 A2 c2).toList (by rw [Array.toArray_toList]; exact hr6) x _ (HK.out _ (hbr.drew.trans hHeld)) (fun b hb => ⟨fun e => by have := hlt1 b e.symm; omega, Nat.lt_of_lt_of_le hb (Nat.le_trans hbr0 hgw.out.size)⟩) (by omega) (by omega) (Nat.le_trans hbr0 hgw.out.size) ?_; intro v7 w7 hown7 hg7 hat7; have hSnew := hHeld.grown hg7 (Nat.le_trans hbr0 hgw.out.size) (fun q hq => (hlt1 q hq).1)
      refine hK.out _ _ ?_ (fun hHeld2 => ?_)
      · exact hSnew
      clear hK K hHeld hSnew
      have hHeld := hHeld2
      clear hHeld2
      try simp only [Mem.pa, Mem.pb, Mem.pc, Act.put, Mem.pd, Mem.pe, Mem.pf]
      refine Mem.tkV 25 ?v32 ?y32 ?r32
      case y32 => (intro w hSw; clear hSw; go_simp; try with_reducible rfl)
      try simp only [Mem.pa, Mem.pb, Mem.pc, Act.put, Mem.pd, Mem.pe, Mem.pf]
      refine wpAnyH_done (by kernel_rfl) ?_ _
      clear hCl
      go_wp2_with fail
      go_roundw
      case rel => exact ⟨k + 1, by omega, by go_num, by rw [HT.out]; exact hown7, hbr.drew.trans hHeld⟩
      case measure => simp [intOf]; omega
    · obtain rfl : k = xs.length := by omega
      rw [List.take_length] at hown0
      go_wp2
      go_ret
      exact ⟨_, rfl, hown0, hbr⟩
set_option maxHeartbeats 1000000 in
set_option maxRecDepth 100000 in
theorem same_yes (x : Chg) (A1 : Option Addr) (c1 : Nat) (A2 : Option Addr) (c2 : Nat) (B1 : Option Addr) (d1 : Nat) (B2 : Option Addr) (d2 : Nat) (w : World) (hx : ChS w x A1 c1 A2 c2) (hy : ChS w x B1 d1 B2 d2) :
    Calls Tryz.prog 59 #[.agg (chC x A1 c1 A2 c2), .agg (chC x B1 d1 B2 d2)] w fun r w' => r = .returned (.bool true) ∧ Below w.heap.size w w' := by
  have r1 : Row ((w.alloc (.cells (chC x A1 c1 A2 c2) 97)).alloc (.cells (chC x B1 d1 B2 d2) 97)) w.heap.size 97 (chC x A1 c1 A2 c2) := (Row.new _ _ _).alloc _
  have r2 := rowAt (w := w.alloc (.cells (chC x A1 c1 A2 c2) 97)) (g := w.heap.size + 1) 97 (chC x B1 d1 B2 d2) (by simp)
  have hb := (bb0 w (.cells (chC x A1 c1 A2 c2) 97)).alloc (by simp) (.cells (chC x B1 d1 B2 d2) 97)
  have CS := Lib.hid (fun w' h1 h2 => rsame_any x.pa A1 c1 x.pd x.pa B1 d1 x.pd w' h1 h2)
  rw [show psameB x.pa x.pd x.pa x.pd = true from by unfold psameB; simp] at CS
  have CI := Lib.hid (fun w' h1 h2 => Same.ints_any A2 B2 x.needs.length x.needs.length c2 d2 x.needs x.needs w' h1 h2)
  rw [decide_eq_true rfl] at CI
  have HX := Lib.hid (hx.below hb)
  have HY := Lib.hid (hy.below hb)
  have HB := Lib.hid hb
  have HR1 := Lib.hid r1
  have HR2 := Lib.hid r2
  have k0 : World.cell? _ ⟨w.heap.size, 0, none⟩ = some (.int .i64 x.id) := r1.cell 0 rfl
  have k1 : World.cell? _ ⟨w.heap.size, 1, none⟩ = some (.int .i64 x.blk) := r1.cell 1 rfl
  have k2 : World.cell? _ ⟨w.heap.size, 2, none⟩ = some (.int .i64 x.pa) := r1.cell 2 rfl
  have k3 : World.cell? _ ⟨w.heap.size, 2 + 1, none⟩ = some (.slice A1 x.pd.length c1) := r1.cell 3 rfl
  have q0 : World.cell? _ ⟨w.heap.size + 1, 0, none⟩ = some (.int .i64 x.id) := r2.cell 0 rfl
  have q1 : World.cell? _ ⟨w.heap.size + 1, 1, none⟩ = some (.int .i64 x.blk) := r2.cell 1 rfl
  have q2 : World.cell? _ ⟨w.heap.size + 1, 2, none⟩ = some (.int .i64 x.pa) := r2.cell 2 rfl
  have q3 : World.cell? _ ⟨w.heap.size + 1, 2 + 1, none⟩ = some (.slice B1 x.pd.length d1) := r2.cell 3 rfl
  clear hx hy r1 r2 hb
  go_enter Tryz.func59, Tryz.ntmps59
  go_wp2_with fail
  refine (CS.out _ HX.out.p4 HY.out.p4).mono ?_
  rintro e w3 ⟨rfl, hb3⟩
  have k4 : World.cell? _ ⟨w.heap.size, 4, none⟩ = some (.slice A2 x.needs.length c2) := (HR1.out.below hb3).cell 4 rfl
  have q4 : World.cell? _ ⟨w.heap.size + 1, 4, none⟩ = some (.slice B2 x.needs.length d2) := (HR2.out.below hb3).cell 4 rfl
  have i1 := (HX.out.n4.below hb3).sl_int
  have i2 := (HY.out.n4.below hb3).sl_int
  have C2 := Lib.hid (CI.out w3 i1 i2)
  have HB3 := Lib.hid (HB.out.trans (hb3.mono HB.out.size))
  clear hb3 i1 i2 CI CS k0 k1 k2 k3 q0 q1 q2 q3
  go_wp2_with fail
  refine C2.out.mono ?_
  rintro e w4 ⟨rfl, q, rfl⟩
  go_wp2
  go_ret
  exact ⟨rfl, bdrewN HB3.out q⟩
set_option maxHeartbeats 2000000 in
set_option maxRecDepth 100000 in
theorem sameall_yes (A : Option Addr) (c : Nat) (B : Option Addr) (d : Nat) (xs : List Chg) (w : World) (hx : Chs w A xs) (hy : Chs w B xs) :
    Calls Tryz.prog 29 #[.slice A xs.length c, .slice B xs.length d] w fun r w' => r = .returned (.bool true) ∧ Below w.heap.size w w' := by
  have hl : xs.length ≤ 9223372036854775807 := hx.2.1
  go_enter Tryz.func29, Tryz.ntmps29
  go_wp2
  go_loopw [5] (fun i wr => ∃ (k : Nat), k ≤ xs.length ∧ i = .int .i64 k ∧ Below w.heap.size w wr) (fun i _ => xs.length - (intOf i).toNat)
  case atStart => exact ⟨0, by omega, rfl, Below.refl _ _⟩
  case round =>
    obtain ⟨k, hk, rfl, hbr⟩ := hrel
    by_cases hlt : k < xs.length
    · obtain ⟨g, o, rfl, hg⟩ := ch_form hx (by omega)
      obtain ⟨g', o', rfl, hg'⟩ := ch_form hy (by omega)
      obtain ⟨A1, c1, A2, c2, hat0⟩ := ch_at hx k hlt
      obtain ⟨B1, d1, B2, d2, hbt0⟩ := ch_at hy k hlt
      have hat := hat0.below hbr
      have hbt := hbt0.below hbr
      have e0 : wr.drew.cell? ⟨g, o + k * 5, none⟩ = some (.int .i64 xs[k].id) := hat.v0
      have e1 : wr.drew.cell? ⟨g, o + k * 5 + 1, none⟩ = some (.int .i64 xs[k].blk) := hat.v1
      have e2 : wr.drew.cell? ⟨g, o + k * 5 + 2, none⟩ = some (.int .i64 xs[k].pa) := hat.v2
      have e3 : wr.drew.cell? ⟨g, o + k * 5 + 3, none⟩ = some (.slice A1 xs[k].pd.length c1) := hat.v3
      have e4 : wr.drew.cell? ⟨g, o + k * 5 + 4, none⟩ = some (.slice A2 xs[k].needs.length c2) := hat.v4
      have f0 : wr.drew.cell? ⟨g', o' + k * 5, none⟩ = some (.int .i64 xs[k].id) := hbt.v0
      have f1 : wr.drew.cell? ⟨g', o' + k * 5 + 1, none⟩ = some (.int .i64 xs[k].blk) := hbt.v1
      have f2 : wr.drew.cell? ⟨g', o' + k * 5 + 2, none⟩ = some (.int .i64 xs[k].pa) := hbt.v2
      have f3 : wr.drew.cell? ⟨g', o' + k * 5 + 3, none⟩ = some (.slice B1 xs[k].pd.length d1) := hbt.v3
      have f4 : wr.drew.cell? ⟨g', o' + k * 5 + 4, none⟩ = some (.slice B2 xs[k].needs.length d2) := hbt.v4
      have CS := Lib.hid (same_yes xs[k] A1 c1 A2 c2 B1 d1 B2 d2 wr.drew (hat.s.below (Below.refl _ _).drew) (hbt.s.below (Below.refl _ _).drew))
      have hg1 : g < wr.drew.heap.size := Nat.lt_of_lt_of_le hg hbr.size
      have hg2 : g' < wr.drew.heap.size := Nat.lt_of_lt_of_le hg' hbr.size
      clear hat0 hat hbt0 hbt
      generalize xs[k] = x at *
      go_wp2_with fail
      refine wp_region_held_drew (S := Go.RowKit.Below ((wr.drew).heap.size) (wr.drew)) (by kernel_rfl) ?hb39 (fun hHeld => ?rest39)
      case hb39 =>
        exact Go.RowKit.Below.refl _ _
      case' rest39 => skip
      have hCl := fun (wS : World) (hSw : Go.RowKit.Below ((wr.drew).heap.size) (wr.drew) wS) => And.intro (Mem.bl_cell hSw e0 (by first | omega | (dsimp only; omega) | exact World.block_lt_of_cell? _ _ e0 | (simp <;> omega))) <| And.intro (Mem.bl_cell hSw e1 (by first | omega | (dsimp only; omega) | exact World.block_lt_of_cell? _ _ e1 | (simp <;> omega))) <| And.intro (Mem.bl_cell hSw e2 (by first | omega | (dsimp only; omega) | exact World.block_lt_of_cell? _ _ e2 | (simp <;> omega))) <| And.intro (Mem.bl_cell hSw e3 (by first | omega | (dsimp only; omega) | exact World.block_lt_of_cell? _ _ e3 | (simp <;> omega))) <| And.intro (Mem.bl_cell hSw e4 (by first | omega | (dsimp only; omega) | exact World.block_lt_of_cell? _ _ e4 | (simp <;> omega))) <| And.intro (Mem.bl_cell hSw f0 (by first | omega | (dsimp only; omega) | exact World.block_lt_of_cell? _ _ f0 | (simp <;> omega))) <| And.intro (Mem.bl_cell hSw f1 (by first | omega | (dsimp only; omega) | exact World.block_lt_of_cell? _ _ f1 | (simp <;> omega))) <| And.intro (Mem.bl_cell hSw f2 (by first | omega | (dsimp only; omega) | exact World.block_lt_of_cell? _ _ f2 | (simp <;> omega))) <| And.intro (Mem.bl_cell hSw f3 (by first | omega | (dsimp only; omega) | exact World.block_lt_of_cell? _ _ f3 | (simp <;> omega))) <| Mem.bl_cell hSw f4 (by first | omega | (dsimp only; omega) | exact World.block_lt_of_cell? _ _ f4 | (simp <;> omega))
      replace hCl := Go.Lib.hid hCl
      refine Mem.tkV 0 ?v40 ?y40 ?r40
      case y40 => (intro w hSw; clear hSw; go_simp; try with_reducible rfl)
      refine Mem.tkV 1 ?v41 ?y41 ?r41
      case y41 => (intro w hSw; clear hSw; go_simp; try with_reducible rfl)
      refine Mem.tkV 2 ?v42 ?y42 ?r42
      case y42 => (intro w hSw; clear hSw; go_simp; try with_reducible rfl)
      try simp only [Mem.pa, Mem.pb, Mem.pc, Act.put, Mem.pd, Mem.pe, Mem.pf]
      refine Mem.tkV 3 ?v43 ?y43 ?r43
      case y43 => (intro w hSw; obtain ⟨hT0, hT1, hT2, hT3, hT4, hT5, hT6, hT7, hT8, hT9⟩ := hCl.out w hSw; clear hSw; go_simp; try with_reducible rfl)
      refine Mem.tkV 4 ?v44 ?y44 ?r44
      case y44 => (intro w hSw; clear hSw; go_simp; try with_reducible rfl)
      refine Mem.tkV 5 ?v45 ?y45 ?r45
      case y45 => (intro w hSw; clear hSw; go_simp; try with_reducible rfl)
      try simp only [Mem.pa, Mem.pb, Mem.pc, Act.put, Mem.pd, Mem.pe, Mem.pf]
      refine Mem.tkV 6 ?v46 ?y46 ?r46
      case y46 => (intro w hSw; clear hSw; go_simp; try with_reducible rfl)
      refine Mem.tkV 7 ?v47 ?y47 ?r47
      case y47 => (intro w hSw; obtain ⟨hT0, hT1, hT2, hT3, hT4, hT5, hT6, hT7, hT8, hT9⟩ := hCl.out w hSw; clear hSw; go_simp; try with_reducible rfl)
      try simp only [Mem.pa, Mem.pb, Mem.pc, Act.put, Mem.pd, Mem.pe, Mem.pf]
      refine wpAnyH_ready (rs := [8]) (by kernel_rfl) (by simp) ?_
      refine AllReadyH.cons rfl (fun K hK => ?_) AllReadyH.nil
      go_simp
      (refine CS.out.mono ?_; rintro e wb ⟨rfl, hbl⟩)
      try go_wp2_with fail
      have hSnew := Mem.bl_step hHeld hbl (by first | exact Nat.le_refl _ | omega | (simp <;> omega))
      refine hK.out _ _ ?_ (fun hHeld2 => ?_)
      · exact hSnew
      clear hbl
      clear hK K hHeld hSnew
      have hHeld := hHeld2
      clear hHeld2
      try simp only [Mem.pa, Mem.pb, Mem.pc, Act.put, Mem.pd, Mem.pe, Mem.pf]
      refine Mem.tkV 9 ?v48 ?y48 ?r48
      case y48 => (intro w hSw; clear hSw; go_simp; try with_reducible rfl)
      try simp only [Mem.pa, Mem.pb, Mem.pc, Act.put, Mem.pd, Mem.pe, Mem.pf]
      refine wpAnyH_done (by kernel_rfl) ?_ _
      clear hCl
      go_wp2_with fail
      go_roundw
      case rel => exact ⟨k + 1, by omega, by go_num, hbr.trans (((Below.refl _ _).drew.trans hHeld).mono hbr.size)⟩
      case measure => simp [intOf]; omega
    · obtain rfl : k = xs.length := by omega
      go_wp2
      go_ret
      exact ⟨rfl, hbr⟩
end Go.Proofs.YtbamhiegabeicaaGreat.Rd


