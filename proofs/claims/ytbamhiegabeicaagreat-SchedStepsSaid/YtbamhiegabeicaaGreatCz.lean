/- The document's Go. No statement is proved here. -/
import Derived.Test.YtbamhiegabeicaaGreatCo
namespace Go.Proofs.YtbamhiegabeicaaGreat.Cb
open Go.RowKit Go.Proofs.YtbamhiegabeicaaGreat.Mem Go.Proofs.YtbamhiegabeicaaGreat.Open Go.Proofs.YtbamhiegabeicaaGreat.Kind Go.Proofs.YtbamhiegabeicaaGreat.Blk Go.Proofs.YtbamhiegabeicaaGreat.App Go.Proofs.YtbamhiegabeicaaGreat.Pat Go.Proofs.YtbamhiegabeicaaGreat.Rd
open Go.Proofs.YtbamhiegabeicaaGreat.Db (Dv Dev Asd Bks)
set_option linter.unusedVariables false
set_option linter.unusedSimpArgs false
theorem rfu_fu (d : Dv) (n : Int) : rfu (Db.fuS d n) = if n < 0 then -1 else n := by
  unfold rfu Db.fuS
  by_cases h : n < 0
  · rw [if_pos h, if_neg (by simp; omega)]
  · rw [if_neg h, if_pos (by simp; omega)]
    show max n 0 = n
    omega
set_option maxHeartbeats 2000000 in
set_option maxRecDepth 100000 in
theorem RGo_any (N : Nat → Prop) (x : Chg) (A : Option Addr) (cp : Nat) (A2 : Option Addr) (cn : Nat) (p : Rp) (s : St) (w : World) (h : Rc N w p s) (hN : ∀ b, N b → b < w.heap.size) (hi : Inv s) (hx : ChS w x A cp A2 cn) (hpd : Rw kByte w (Out2 N w) A x.pd.length x.pd) (hnl : x.needs.length ≤ 60) (hlast : s.last < 1000) :
    Calls Tryz.prog 18 #[.agg (rcP p s), .agg (chC x A cp A2 cn)] w fun e w' => ∃ p', e = .returned (.tuple #[.agg (rcP p' (goS s x)), .int .i64 (goN s x), .int .i64 (goE s x)]) ∧ Rc N w' p' (goS s x) ∧ Below w.heap.size w w' := by
  obtain ⟨AB, cB, AL, cL, AK, cK⟩ := p
  change Calls Tryz.prog 18 #[.agg (rcC AB cB AL s.xs.length cL AK cK s.last (rfu s.dv) s.dv.off s.dv.wr), .agg (chC x A cp A2 cn)] w _
  have b3 := bb3 w (.cells (rcC AB cB AL s.xs.length cL AK cK s.last (rfu s.dv) s.dv.off s.dv.wr) 32) (.cells (chC x A cp A2 cn) 49) (.cells rcZ 32)
  have R2 : Row (((w.alloc (.cells (rcC AB cB AL s.xs.length cL AK cK s.last (rfu s.dv) s.dv.off s.dv.wr) 32)).alloc (.cells (chC x A cp A2 cn) 49)).alloc (.cells rcZ 32)) w.heap.size 32 (rcC AB cB AL s.xs.length cL AK cK s.last (rfu s.dv) s.dv.off s.dv.wr) := ((Row.new _ _ _).alloc _).alloc _
  have R3 := (row2 w (.cells (rcC AB cB AL s.xs.length cL AK cK s.last (rfu s.dv) s.dv.off s.dv.wr) 32) 49 (chC x A cp A2 cn)).alloc (.cells rcZ 32)
  have R4 := row3 w (.cells (rcC AB cB AL s.xs.length cL AK cK s.last (rfu s.dv) s.dv.off s.dv.wr) 32) (.cells (chC x A cp A2 cn) 49) 32 rcZ
  obtain ⟨N2, hN2e⟩ : ∃ N2 : Nat → Prop, N2 = fun b => N b ∨ b = w.heap.size ∨ b = w.heap.size + 1 ∨ b = w.heap.size + 1 + 1 := ⟨_, rfl⟩
  have HN2L : Hid (∀ k, N2 k → k < w.heap.size + 3) := Lib.hid (fun k hk => by rw [hN2e] at hk; rcases hk with h | h | h | h; have := hN k h; omega; omega; omega; omega)
  have HN2 : Hid (∀ k, N k ∨ k = w.heap.size ∨ k = w.heap.size + 1 ∨ k = w.heap.size + 1 + 1 → N2 k) := Lib.hid (fun k hk => by rw [hN2e]; exact hk)
  have hN3 : ∀ k, k < w.heap.size → ¬ N k → ¬ N2 k := fun k h1 h2 h3 => by rw [hN2e] at h3; rcases h3 with h | h | h | h; exact h2 h; omega; omega; omega
  have HRC := Lib.hid (h.go (N' := N2) (fun k h1 _ => b3.block k h1) b3.size hN3)
  have HPD := Lib.hid (Rw.out2 (N' := N2) hpd (fun k h1 _ => b3.block k h1) b3.size hN3)
  have HX := Lib.hid (hx.below b3)
  have HI := Lib.hid hi
  have HS : Hid (goS s x = if x.id = 0 then pS s x.blk x.pa x.pd x.needs else if x.id = 1 then flS s x.blk else if x.id = 2 then upS s x.blk else if x.id = 3 then upS s s.last else if x.id = 4 then { s with dv := Db.fuS s.dv x.blk } else if x.id = 5 then { s with dv := { s.dv with fuse := 0, lit := false, off := false } } else s) := Lib.hid rfl
  have HE : Hid (goE s x = if x.id = 0 then pE s x.blk x.pa x.pd x.needs else if x.id = 1 then flE s x.blk else if x.id = 2 then upE s x.blk else if x.id = 3 then upE s s.last else 0) := Lib.hid rfl
  have HN : Hid (goN s x = if x.id = 0 then pN s x.blk x.pa x.pd x.needs else 0) := Lib.hid rfl
  generalize goS s x = S2 at *
  generalize goE s x = E2 at *
  generalize goN s x = N2' at *
  have HSZ : (((w.alloc (.cells (rcC AB cB AL s.xs.length cL AK cK s.last (rfu s.dv) s.dv.off s.dv.wr) 32)).alloc (.cells (chC x A cp A2 cn) 49)).alloc (.cells rcZ 32)).heap.size = w.heap.size + 3 := by simp
  have HNL : Hid (∀ b, N2 b → b < (((w.alloc (.cells (rcC AB cB AL s.xs.length cL AK cK s.last (rfu s.dv) s.dv.off s.dv.wr) 32)).alloc (.cells (chC x A cp A2 cn) 49)).alloc (.cells rcZ 32)).heap.size) := Lib.hid (fun b hb => by rw [HSZ]; exact HN2L.out b hb)
  have HH := Lib.hid h
  have HXB : Hid (WfI x.blk) := Lib.hid hx.ok.2.1
  clear h hi hx hpd hN2e hN3 hN HSZ HN2L
  have HR2 := Lib.hid R2
  have HR3 := Lib.hid R3
  have HR4 := Lib.hid R4
  have HB3 := Lib.hid b3
  clear R2 R3 R4 b3
  by_cases q0 : x.id = 0
  · have HS2 : Hid (S2 = pS s x.blk x.pa x.pd x.needs) := Lib.hid (HS.out.trans (if_pos q0))
    have HE2 : Hid (E2 = pE s x.blk x.pa x.pd x.needs) := Lib.hid (HE.out.trans (if_pos q0))
    have HN2' : Hid (N2' = pN s x.blk x.pa x.pd x.needs) := Lib.hid (HN.out.trans (if_pos q0))
    have b0 : (x.id == 0) = true := by rw [q0]; rfl
    have C := RPut_any N2 x A cp A2 cn ⟨AB, cB, AL, cL, AK, cK⟩ s _ HRC.out HNL.out HI.out HX.out HPD.out hnl hlast
    rw [← HS2.out, ← HE2.out, ← HN2'.out] at C
    have HC := Lib.hid C
    clear C HS2 HE2 HN2' q0 HS HE HN
    go_enter Tryz.func18, Tryz.ntmps18
    go_wp2_with fail
    refine HC.out.mono ?_
    rintro e w4 ⟨p2, rfl, hR, hb⟩
    have R4Z := Lib.hid (HR4.out.below hb)
    have BZ := Lib.hid (HB3.out.trans (hb.mono HB3.out.size))
    have RCZ := Lib.hid hR
    clear hb hR HC HR2 HR3 HR4 HB3
    go_wp2_with (with_reducible refine wpList_storeRow rfl 32 _ _ rfl (w.heap.size + 1 + 1) rfl (rcP p2 S2) rfl rcZ 32 7 rcSize rfl rfl (rcC_one _ _ _ _ _ _ _ _ _ _ _) R4Z.out ?_)
    refine bodyPost_ret (v := .tuple #[.agg (rcP p2 S2), .int .i64 N2', .int .i64 E2]) (Rd.results_cell_2 (p := 4) (t2 := 5) (t3 := 6) rfl _ _ (w.heap.size + 1 + 1) 32 (rcP p2 S2) (0, 0) _ rfl (R4Z.out.set _) Tryz.underlying32 rfl rcSize) rfl ?_
    exact ⟨p2, rfl, Rc.store RCZ.out _ (HN2.out _ (.inr (.inr (.inr rfl)))) (fun b hb => HN2.out b (.inl hb)), below_setRow BZ.out (by omega) _⟩
  have b0 : (x.id == 0) = false := beq_eq_false_iff_ne.2 q0
  have HN2' : Hid (N2' = 0) := Lib.hid (HN.out.trans (if_neg q0))
  rw [if_neg q0] at HS HE
  clear HN
  by_cases q1 : x.id = 1
  · have HS2 : Hid (S2 = flS s x.blk) := Lib.hid (HS.out.trans (if_pos q1))
    have HE2 : Hid (E2 = flE s x.blk) := Lib.hid (HE.out.trans (if_pos q1))
    have b1 : (x.id == 1) = true := by rw [q1]; rfl
    have C := RFlush_any N2 x.blk ⟨AB, cB, AL, cL, AK, cK⟩ s _ HRC.out HNL.out HI.out
    rw [← HS2.out, ← HE2.out] at C
    have HC := Lib.hid C
    clear C HS2 HE2 q0 q1 HS HE
    have HR4L : Hid (∀ w', Below (((w.alloc (.cells (rcC AB cB AL s.xs.length cL AK cK s.last (rfu s.dv) s.dv.off s.dv.wr) 32)).alloc (.cells (chC x A cp A2 cn) 49)).alloc (.cells rcZ 32)).heap.size (((w.alloc (.cells (rcC AB cB AL s.xs.length cL AK cK s.last (rfu s.dv) s.dv.off s.dv.wr) 32)).alloc (.cells (chC x A cp A2 cn) 49)).alloc (.cells rcZ 32)) w' → Row w' (w.heap.size + 1 + 1) 32 rcZ ∧ Below w.heap.size w w') := Lib.hid (fun w' hb => ⟨HR4.out.below hb, HB3.out.trans (hb.mono HB3.out.size)⟩)
    clear HR2 HR3 HR4 HB3 HRC HPD HX HNL
    go_enter Tryz.func18, Tryz.ntmps18
    go_wp2_with fail
    refine HC.out.mono ?_
    rintro e w4 ⟨p2, rfl, hR, hb⟩
    have hb5 := hb.trans ((bb0 w4 (.cells (rcP p2 S2) 32)).mono hb.size)
    have R4Z := Lib.hid (HR4L.out _ hb5).1
    have BZ := Lib.hid (HR4L.out _ hb5).2
    have RCZ := Lib.hid (hR.below (bb0 w4 (.cells (rcP p2 S2) 32)))
    clear hb hR HC HR4L hb5
    go_wp2_with (with_reducible refine wpList_storeRow rfl 32 _ _ rfl (w.heap.size + 1 + 1) rfl (rcP p2 S2) rfl rcZ 32 7 rcSize rfl rfl (rcC_one _ _ _ _ _ _ _ _ _ _ _) R4Z.out ?_)
    refine bodyPost_ret (v := .tuple #[.agg (rcP p2 S2), .int .i64 0, .int .i64 E2]) (Rd.results_cell_2 (p := 4) (t2 := 5) (t3 := 6) rfl _ _ (w.heap.size + 1 + 1) 32 (rcP p2 S2) (0, 0) _ rfl (R4Z.out.set _) Tryz.underlying32 rfl rcSize) rfl ?_
    exact ⟨p2, by rw [HN2'.out], Rc.store RCZ.out _ (HN2.out _ (.inr (.inr (.inr rfl)))) (fun b hb => HN2.out b (.inl hb)), below_setRow BZ.out (by omega) _⟩
  have b1 : (x.id == 1) = false := beq_eq_false_iff_ne.2 q1
  rw [if_neg q1] at HS HE
  by_cases q2 : x.id = 2
  · have HS2 : Hid (S2 = upS s x.blk) := Lib.hid (HS.out.trans (if_pos q2))
    have HE2 : Hid (E2 = upE s x.blk) := Lib.hid (HE.out.trans (if_pos q2))
    have b2 : (x.id == 2) = true := by rw [q2]; rfl
    have C := RUpto_any N2 x.blk ⟨AB, cB, AL, cL, AK, cK⟩ s _ HRC.out HNL.out HI.out
    rw [← HS2.out, ← HE2.out] at C
    have HC := Lib.hid C
    clear C HS2 HE2 q0 q1 q2 HS HE
    have HR4L : Hid (∀ w', Below (((w.alloc (.cells (rcC AB cB AL s.xs.length cL AK cK s.last (rfu s.dv) s.dv.off s.dv.wr) 32)).alloc (.cells (chC x A cp A2 cn) 49)).alloc (.cells rcZ 32)).heap.size (((w.alloc (.cells (rcC AB cB AL s.xs.length cL AK cK s.last (rfu s.dv) s.dv.off s.dv.wr) 32)).alloc (.cells (chC x A cp A2 cn) 49)).alloc (.cells rcZ 32)) w' → Row w' (w.heap.size + 1 + 1) 32 rcZ ∧ Below w.heap.size w w') := Lib.hid (fun w' hb => ⟨HR4.out.below hb, HB3.out.trans (hb.mono HB3.out.size)⟩)
    clear HR2 HR3 HR4 HB3 HRC HPD HX HNL
    go_enter Tryz.func18, Tryz.ntmps18
    go_wp2_with fail
    refine HC.out.mono ?_
    rintro e w4 ⟨p2, rfl, hR, hb⟩
    have hb5 := hb.trans ((bb0 w4 (.cells (rcP p2 S2) 32)).mono hb.size)
    have R4Z := Lib.hid (HR4L.out _ hb5).1
    have BZ := Lib.hid (HR4L.out _ hb5).2
    have RCZ := Lib.hid (hR.below (bb0 w4 (.cells (rcP p2 S2) 32)))
    clear hb hR HC HR4L hb5
    go_wp2_with (with_reducible refine wpList_storeRow rfl 32 _ _ rfl (w.heap.size + 1 + 1) rfl (rcP p2 S2) rfl rcZ 32 7 rcSize rfl rfl (rcC_one _ _ _ _ _ _ _ _ _ _ _) R4Z.out ?_)
    refine bodyPost_ret (v := .tuple #[.agg (rcP p2 S2), .int .i64 0, .int .i64 E2]) (Rd.results_cell_2 (p := 4) (t2 := 5) (t3 := 6) rfl _ _ (w.heap.size + 1 + 1) 32 (rcP p2 S2) (0, 0) _ rfl (R4Z.out.set _) Tryz.underlying32 rfl rcSize) rfl ?_
    exact ⟨p2, by rw [HN2'.out], Rc.store RCZ.out _ (HN2.out _ (.inr (.inr (.inr rfl)))) (fun b hb => HN2.out b (.inl hb)), below_setRow BZ.out (by omega) _⟩
  have b2 : (x.id == 2) = false := beq_eq_false_iff_ne.2 q2
  rw [if_neg q2] at HS HE
  by_cases q3 : x.id = 3
  · have HS2 : Hid (S2 = upS s s.last) := Lib.hid (HS.out.trans (if_pos q3))
    have HE2 : Hid (E2 = upE s s.last) := Lib.hid (HE.out.trans (if_pos q3))
    have b3 : (x.id == 3) = true := by rw [q3]; rfl
    have C := RUpto_any N2 s.last ⟨AB, cB, AL, cL, AK, cK⟩ s _ HRC.out HNL.out HI.out
    rw [← HS2.out, ← HE2.out] at C
    have HC := Lib.hid C
    clear C HS2 HE2 q0 q1 q2 q3 HS HE
    have HR4L : Hid (∀ w', Below (((w.alloc (.cells (rcC AB cB AL s.xs.length cL AK cK s.last (rfu s.dv) s.dv.off s.dv.wr) 32)).alloc (.cells (chC x A cp A2 cn) 49)).alloc (.cells rcZ 32)).heap.size (((w.alloc (.cells (rcC AB cB AL s.xs.length cL AK cK s.last (rfu s.dv) s.dv.off s.dv.wr) 32)).alloc (.cells (chC x A cp A2 cn) 49)).alloc (.cells rcZ 32)) w' → Row w' (w.heap.size + 1 + 1) 32 rcZ ∧ Below w.heap.size w w') := Lib.hid (fun w' hb => ⟨HR4.out.below hb, HB3.out.trans (hb.mono HB3.out.size)⟩)
    clear HR2 HR3 HR4 HB3 HRC HPD HX HNL
    go_enter Tryz.func18, Tryz.ntmps18
    go_wp2_with fail
    refine HC.out.mono ?_
    rintro e w4 ⟨p2, rfl, hR, hb⟩
    have hb5 := hb.trans ((bb0 w4 (.cells (rcP p2 S2) 32)).mono hb.size)
    have R4Z := Lib.hid (HR4L.out _ hb5).1
    have BZ := Lib.hid (HR4L.out _ hb5).2
    have RCZ := Lib.hid (hR.below (bb0 w4 (.cells (rcP p2 S2) 32)))
    clear hb hR HC HR4L hb5
    go_wp2_with (with_reducible refine wpList_storeRow rfl 32 _ _ rfl (w.heap.size + 1 + 1) rfl (rcP p2 S2) rfl rcZ 32 7 rcSize rfl rfl (rcC_one _ _ _ _ _ _ _ _ _ _ _) R4Z.out ?_)
    refine bodyPost_ret (v := .tuple #[.agg (rcP p2 S2), .int .i64 0, .int .i64 E2]) (Rd.results_cell_2 (p := 4) (t2 := 5) (t3 := 6) rfl _ _ (w.heap.size + 1 + 1) 32 (rcP p2 S2) (0, 0) _ rfl (R4Z.out.set _) Tryz.underlying32 rfl rcSize) rfl ?_
    exact ⟨p2, by rw [HN2'.out], Rc.store RCZ.out _ (HN2.out _ (.inr (.inr (.inr rfl)))) (fun b hb => HN2.out b (.inl hb)), below_setRow BZ.out (by omega) _⟩
  have b3 : (x.id == 3) = false := beq_eq_false_iff_ne.2 q3
  rw [if_neg q3] at HS HE
  have HE2 : Hid (E2 = 0) := HE
  clear HR2 HR3 HR4 HB3 HRC HPD HX HNL HE
  by_cases q4 : x.id = 4
  · have HS2 : Hid (S2 = { s with dv := Db.fuS s.dv x.blk }) := Lib.hid (HS.out.trans (if_pos q4))
    have b4 : (x.id == 4) = true := by rw [q4]; rfl
    clear q0 q1 q2 q3 q4 HS
    have hrf := rfu_fu s.dv x.blk
    have HRF := Lib.hid hrf
    have HHF : Hid (∀ w', Below w.heap.size w w' → Rc N w' ⟨AB, cB, AL, cL, AK, cK⟩ { s with dv := Db.fuS s.dv x.blk }) := Lib.hid (fun w' hb => by
      have := HH.out.below hb
      exact ⟨this.base, this.list, this.lc, this.knows⟩)
    clear hrf
    by_cases hneg : x.blk < 0
    · rw [if_pos hneg] at HRF
      go_enter Tryz.func18, Tryz.ntmps18
      go_wp2
      have hb := bb3 w (.cells (rcC AB cB AL s.xs.length cL AK cK s.last (-1) s.dv.off s.dv.wr) 32) (.cells (chC x A cp A2 cn) 49) (.cells (rcC AB cB AL s.xs.length cL AK cK s.last (-1) s.dv.off s.dv.wr) 32)
      refine bodyPost_ret (v := .tuple #[.agg (rcC AB cB AL s.xs.length cL AK cK s.last (-1) s.dv.off s.dv.wr), .int .i64 0, .int .i64 0]) (Rd.results_cell_2 (p := 4) (t2 := 5) (t3 := 6) rfl _ _ (w.heap.size + 1 + 1) 32 (rcC AB cB AL s.xs.length cL AK cK s.last (-1) s.dv.off s.dv.wr) (0, 0) _ rfl (row3 _ _ _ _ _) Tryz.underlying32 rfl rcSize) rfl ?_
      refine ⟨⟨AB, cB, AL, cL, AK, cK⟩, ?_, by rw [HS2.out]; exact HHF.out _ hb, hb⟩
      rw [HS2.out, HE2.out, HN2'.out]
      show _ = Ending.returned (.tuple #[.agg (rcC AB cB AL s.xs.length cL AK cK s.last (rfu (Db.fuS s.dv x.blk)) s.dv.off s.dv.wr), .int .i64 0, .int .i64 0])
      rw [HRF.out]
    · rw [if_neg hneg] at HRF
      go_enter Tryz.func18, Tryz.ntmps18
      go_wp2
      have hb := bb3 w (.cells (rcC AB cB AL s.xs.length cL AK cK s.last x.blk s.dv.off s.dv.wr) 32) (.cells (chC x A cp A2 cn) 49) (.cells (rcC AB cB AL s.xs.length cL AK cK s.last x.blk s.dv.off s.dv.wr) 32)
      refine bodyPost_ret (v := .tuple #[.agg (rcC AB cB AL s.xs.length cL AK cK s.last x.blk s.dv.off s.dv.wr), .int .i64 0, .int .i64 0]) (Rd.results_cell_2 (p := 4) (t2 := 5) (t3 := 6) rfl _ _ (w.heap.size + 1 + 1) 32 (rcC AB cB AL s.xs.length cL AK cK s.last x.blk s.dv.off s.dv.wr) (0, 0) _ rfl (row3 _ _ _ _ _) Tryz.underlying32 rfl rcSize) rfl ?_
      refine ⟨⟨AB, cB, AL, cL, AK, cK⟩, ?_, by rw [HS2.out]; exact HHF.out _ hb, hb⟩
      rw [HS2.out, HE2.out, HN2'.out]
      show _ = Ending.returned (.tuple #[.agg (rcC AB cB AL s.xs.length cL AK cK s.last (rfu (Db.fuS s.dv x.blk)) s.dv.off s.dv.wr), .int .i64 0, .int .i64 0])
      rw [HRF.out]
  have b4 : (x.id == 4) = false := beq_eq_false_iff_ne.2 q4
  rw [if_neg q4] at HS
  by_cases q5 : x.id = 5
  · have HS2 : Hid (S2 = { s with dv := { s.dv with fuse := 0, lit := false, off := false } }) := Lib.hid (HS.out.trans (if_pos q5))
    have b5 : (x.id == 5) = true := by rw [q5]; rfl
    clear q0 q1 q2 q3 q4 q5 HS
    have HHF : Hid (∀ w', Below w.heap.size w w' → Rc N w' ⟨AB, cB, AL, cL, AK, cK⟩ { s with dv := { s.dv with fuse := 0, lit := false, off := false } }) := Lib.hid (fun w' hb => by
      have := HH.out.below hb
      exact ⟨this.base, this.list, this.lc, this.knows⟩)
    go_enter Tryz.func18, Tryz.ntmps18
    go_wp2
    have hb := bb3 w (.cells (rcC AB cB AL s.xs.length cL AK cK s.last (-1) false s.dv.wr) 32) (.cells (chC x A cp A2 cn) 49) (.cells (rcC AB cB AL s.xs.length cL AK cK s.last (-1) false s.dv.wr) 32)
    refine bodyPost_ret (v := .tuple #[.agg (rcC AB cB AL s.xs.length cL AK cK s.last (-1) false s.dv.wr), .int .i64 0, .int .i64 0]) (Rd.results_cell_2 (p := 4) (t2 := 5) (t3 := 6) rfl _ _ (w.heap.size + 1 + 1) 32 (rcC AB cB AL s.xs.length cL AK cK s.last (-1) false s.dv.wr) (0, 0) _ rfl (row3 _ _ _ _ _) Tryz.underlying32 rfl rcSize) rfl ?_
    refine ⟨⟨AB, cB, AL, cL, AK, cK⟩, ?_, by rw [HS2.out]; exact HHF.out _ hb, hb⟩
    rw [HS2.out, HE2.out, HN2'.out]
    rfl
  · have b5 : (x.id == 5) = false := beq_eq_false_iff_ne.2 q5
    have HS2 : Hid (S2 = s) := Lib.hid (HS.out.trans (if_neg q5))
    clear q0 q1 q2 q3 q4 q5 HS
    go_enter Tryz.func18, Tryz.ntmps18
    go_wp2
    have hb := bb3 w (.cells (rcC AB cB AL s.xs.length cL AK cK s.last (rfu s.dv) s.dv.off s.dv.wr) 32) (.cells (chC x A cp A2 cn) 49) (.cells (rcC AB cB AL s.xs.length cL AK cK s.last (rfu s.dv) s.dv.off s.dv.wr) 32)
    refine bodyPost_ret (v := .tuple #[.agg (rcC AB cB AL s.xs.length cL AK cK s.last (rfu s.dv) s.dv.off s.dv.wr), .int .i64 0, .int .i64 0]) (Rd.results_cell_2 (p := 4) (t2 := 5) (t3 := 6) rfl _ _ (w.heap.size + 1 + 1) 32 (rcC AB cB AL s.xs.length cL AK cK s.last (rfu s.dv) s.dv.off s.dv.wr) (0, 0) _ rfl (row3 _ _ _ _ _) Tryz.underlying32 rfl rcSize) rfl ?_
    refine ⟨⟨AB, cB, AL, cL, AK, cK⟩, ?_, by rw [HS2.out]; exact HH.out.below hb, hb⟩
    rw [HS2.out, HE2.out, HN2'.out]
end Go.Proofs.YtbamhiegabeicaaGreat.Cb

