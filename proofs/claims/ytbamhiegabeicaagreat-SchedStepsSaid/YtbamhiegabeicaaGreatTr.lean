/- The document's Step: contracts. No statement is proved here. -/
import Derived.Test.YtbamhiegabeicaaGreatTu
import Derived.Test.YtbamhiegabeicaaGreatFr3
namespace Go.Proofs.YtbamhiegabeicaaGreat.Cb
open Go.RowKit Go.Proofs.YtbamhiegabeicaaGreat.Mem Go.Proofs.YtbamhiegabeicaaGreat.Open Go.Proofs.YtbamhiegabeicaaGreat.Kind Go.Proofs.YtbamhiegabeicaaGreat.Blk Go.Proofs.YtbamhiegabeicaaGreat.App Go.Proofs.YtbamhiegabeicaaGreat.Pat Go.Proofs.YtbamhiegabeicaaGreat.Rd
open Go.Proofs.YtbamhiegabeicaaGreat.Db (Dv Dev Asd Bks)
set_option linter.unusedVariables false
set_option linter.unusedSimpArgs false
theorem u64Info : (Tryz.prog.info? 37).map (·.size) = some 1 := by kernel_rfl
theorem run_slice8 (A1 : Option Addr) (len c j : Nat) (h : j ≤ len) (w : World) : (Instr.slice 23 (.slice A1 len c) (some (.int .i64 j)) none none).run Tryz.prog w = .ok (.slice (if c = j then A1 else A1.map (·.add (j * 1))) (len - j) (c - j)) w := by
  have hs : (sizeOf 37).run Tryz.prog w = .ok 1 w := by
    have := u64Info
    cases hq : Tryz.prog.info? 37 with
    | none => rw [hq] at this; cases this
    | some i => rw [hq] at this; simp at this; simp [sizeOf, typeInfo, hq, this]
  simp [Instr.slice, Instr.sliceBounds, Instr.sliceBound, asIntOf, run_underlying Tryz.underlying23, h, hs]
theorem rw_tail {w wr : World} {S : Nat → Prop} {A1 : Option Addr} {c j : Nat} {ws : List Int} (h : Rw (kInt .u64) w (All w) A1 ws.length ws) (hj : j ≤ ws.length) (hc : ws.length ≤ c) (hb : Below w.heap.size w wr) (hS : ∀ k, k < w.heap.size → S k) :
    Rw (kInt .u64) wr S (if c = j then A1 else A1.map (·.add (j * 1))) (ws.drop j).length (ws.drop j) := by
  by_cases hjl : j = ws.length
  · rw [List.drop_eq_nil_of_le (by omega)]
    exact ⟨rfl, by simp, .inl rfl⟩
  · rw [if_neg (by omega)]
    obtain ⟨g, o, cs, hA, -⟩ := h.at_ (i := j) (by omega)
    subst hA
    have h1 := Rw.drop h j hj
    rw [show o + j * (kInt .u64).sz = o + j * 1 from rfl] at h1
    rw [List.length_drop, Option.map_some, addr_add]
    exact (Rw.stay (w := w) (fun k hk => hb.block k hk) h1).mono hS
theorem at_nan {n : Int} {x : Nat} (h1 : 1 ≤ n) (h : Fl.nan x = true) : Fl.at_ n x = 0 := by
  have hk : Fl.kd x < 5 := by rcases Fl.kd_cases x with e | e | e | e | e | e | e <;> first | omega | (exfalso; have := e.2.1; rw [h] at this; cases this)
  unfold Fl.at_
  rw [if_neg (by omega), if_pos ((Fl.kd_low x).2 hk)]
theorem RAt_any (n : Int) (x : Nat) (h1 : 1 ≤ n) (hx : x < 18446744073709551616) (hn : WfI n) (w : World) :
    Calls Tryz.prog 20 #[.int .i64 n, .int .u64 x] w fun e w' => e = .returned (.int .i64 (Fl.at_ n x)) ∧ Below w.heap.size w w' := by
  have C0 := Fl.from5_any x hx w
  cases hnb : Fl.nan x with
  | true =>
    have HA := Lib.hid (at_nan h1 hnb)
    have hf : Fl.frV x = 0 := by unfold Fl.frV; rw [hnb]; rfl
    rw [hnb, hf] at C0
    have HC := Lib.hid C0
    clear C0 hnb hf
    go_enter Tryz.func20, Tryz.ntmps20
    go_wp2_with fail
    refine HC.out.mono ?_
    rintro e w1 ⟨rfl, rfl⟩
    go_wp2
    go_ret
    exact ⟨by rw [HA.out]; rfl, Below.refl _ _⟩
  | false =>
    have hf : Fl.frV x = x := by unfold Fl.frV; rw [hnb]; rfl
    rw [hnb, hf] at C0
    have HC := Lib.hid C0
    have C2 := Lib.hid (fun w' => Fl.at6_any n x hx hn w')
    clear C0 hnb hf
    generalize Fl.at_ n x = a at *
    go_enter Tryz.func20, Tryz.ntmps20
    go_wp2_with fail
    refine HC.out.mono ?_
    rintro e w1 ⟨rfl, rfl⟩
    go_wp2_with fail
    refine (C2.out _).mono ?_
    rintro e w2 ⟨rfl, q, rfl⟩
    go_wp2
    go_ret
    exact ⟨rfl, below_drewN (Below.refl _ _) q⟩
set_option maxHeartbeats 2000000 in
set_option maxRecDepth 100000 in
theorem RStep_any (N : Nat → Prop) (x : Nat) (hx : x < 18446744073709551616) (p : Rp) (s : St) (w : World) (h : Rc N w p s) (hN : ∀ b, N b → b < w.heap.size) (hi : Inv s) :
    Calls Tryz.prog 7 #[.agg (rcP p s), .int .u64 x] w fun e w' => ∃ p', e = .returned (.tuple #[.agg (rcP p' (stS s x)), .int .i64 (stN s x), .int .i64 (stE s x)]) ∧ Rc N w' p' (stS s x) ∧ Below w.heap.size w w' := by
  obtain ⟨AB, cB, AL, cL, AK, cK⟩ := p
  change Calls Tryz.prog 7 #[.agg (rcC AB cB AL s.xs.length cL AK cK s.last (rfu s.dv) s.dv.off s.dv.wr), .int .u64 x] w _
  have b2 : Below w.heap.size w ((w.alloc (.cells (rcC AB cB AL s.xs.length cL AK cK s.last (rfu s.dv) s.dv.off s.dv.wr) 32)).alloc (.cells rcZ 32)) := ((Below.refl _ _).alloc (Nat.le_refl _) _).alloc (by simp) _
  have R2 : Row ((w.alloc (.cells (rcC AB cB AL s.xs.length cL AK cK s.last (rfu s.dv) s.dv.off s.dv.wr) 32)).alloc (.cells rcZ 32)) w.heap.size 32 (rcC AB cB AL s.xs.length cL AK cK s.last (rfu s.dv) s.dv.off s.dv.wr) := (Row.new _ _ _).alloc _
  have R4 := row2 w (.cells (rcC AB cB AL s.xs.length cL AK cK s.last (rfu s.dv) s.dv.off s.dv.wr) 32) 32 rcZ
  have HSZ : ((w.alloc (.cells (rcC AB cB AL s.xs.length cL AK cK s.last (rfu s.dv) s.dv.off s.dv.wr) 32)).alloc (.cells rcZ 32)).heap.size = w.heap.size + 2 := by simp
  obtain ⟨N2, hN2e⟩ : ∃ N2 : Nat → Prop, N2 = fun b => N b ∨ b = w.heap.size ∨ b = w.heap.size + 1 := ⟨_, rfl⟩
  have HN2L : Hid (∀ k, N2 k → k < w.heap.size + 2) := Lib.hid (fun k hk => by rw [hN2e] at hk; rcases hk with h | h | h; have := hN k h; omega; omega; omega)
  have HN2 : Hid (∀ k, N k ∨ k = w.heap.size ∨ k = w.heap.size + 1 → N2 k) := Lib.hid (fun k hk => by rw [hN2e]; exact hk)
  have hN3 : ∀ k, k < w.heap.size → ¬ N k → ¬ N2 k := fun k h1 h2 h3 => by rw [hN2e] at h3; rcases h3 with h | h | h; exact h2 h; omega; omega
  have HRC := Lib.hid (h.go (N' := N2) (fun k h1 _ => b2.block k h1) b2.size hN3)
  have HI := Lib.hid hi
  have HR2 := Lib.hid R2
  have HR4 := Lib.hid R4
  have HB2 := Lib.hid b2
  have HWD := dirty_wf hi
  have CB := RBlocks_any AL cL s.xs _ (Rc.chs HRC.out) hi.xl
  change Calls _ _ _ _ fun e w' => ∃ v2, e = .returned v2 ∧ Ns w' _ v2 (dty s) ∧ _ at CB
  change ∀ n ∈ dty s, WfI n at HWD
  have HCB := Lib.hid CB
  have HN0 : Hid (stN s x = if atS s x < 0 then -1 else (dty s).getD (atS s x).toNat 0) := Lib.hid rfl
  have HE0 : Hid (stE s x = if atS s x < 0 then 0 else flE s (stN s x)) := Lib.hid rfl
  have HS0 : Hid (stS s x = if atS s x < 0 then s else flS s (stN s x)) := Lib.hid rfl
  have HA : Hid (atS s x = Fl.at_ (dty s).length x) := Lib.hid rfl
  have HLT := at_lt (dty s).length x
  clear h hi b2 R2 R4 hN2e hN3 hN CB
  go_enter Tryz.func7, Tryz.ntmps7
  go_wp2_with fail
  refine HCB.out.mono ?_
  rintro e w3 ⟨v3, rfl, ho3, hb3⟩
  obtain ⟨A3, c3, rfl, hl3, hm3, -, x3⟩ := own_is ho3 HWD
  have hm63 : M63 = 9223372036854775807 := rfl
  have hln : WfI ((dty s).length : Int) := (wf_iff _).2 ⟨by omega, by omega⟩
  have HR2b := Lib.hid (HR2.out.below hb3)
  have HR4b := Lib.hid (HR4.out.below hb3)
  have HRCb := Lib.hid (HRC.out.below hb3)
  have HBb := Lib.hid (HB2.out.trans (hb3.mono HB2.out.size))
  have hz3 := hb3.size
  rw [HSZ] at hz3
  have HX3 := Lib.hid x3
  clear ho3 hb3 HCB HR2 HR4 HRC HB2 HSZ x3
  by_cases q : dty s = []
  · obtain ⟨e1, e2, e3⟩ := st_none q x
    have HE := Lib.hid (And.intro e1 (And.intro e2 e3))
    rw [q]
    clear q e1 e2 e3 HN0 HE0 HS0 HA HLT HX3 HWD hln hl3
    go_wp2_with (first
      | (with_reducible refine wpList_ldC rfl _ rfl _ rfl _ rfl HR2b.out ?_)
      | (with_reducible refine wpList_storeRow rfl 32 _ _ rfl (w.heap.size + 1) rfl (rcC AB cB AL s.xs.length cL AK cK s.last (rfu s.dv) s.dv.off s.dv.wr) rfl rcZ 32 7 rcSize rfl rfl (rcC_one _ _ _ _ _ _ _ _ _ _ _) HR4b.out ?_))
    refine bodyPost_ret (v := .tuple #[.agg (rcC AB cB AL s.xs.length cL AK cK s.last (rfu s.dv) s.dv.off s.dv.wr), .int .i64 (-1), .int .i64 0]) (Rd.results_cell_2 (p := 4) (t2 := 5) (t3 := 6) rfl _ _ (w.heap.size + 1) 32 (rcC AB cB AL s.xs.length cL AK cK s.last (rfu s.dv) s.dv.off s.dv.wr) (0, 0) _ rfl (HR4b.out.set _) Tryz.underlying32 rfl rcSize) rfl ?_
    exact ⟨⟨AB, cB, AL, cL, AK, cK⟩, by rw [HE.out.1, HE.out.2.1, HE.out.2.2], by rw [HE.out.2.2]; exact Rc.store HRCb.out _ (HN2.out _ (.inr (.inr rfl))) (fun b hb => HN2.out b (.inl hb)), below_setRow HBb.out (by omega) _⟩
  · have hlp : 0 < (dty s).length := List.length_pos_iff.2 q
    have hz : (((dty s).length : Int) == 0) = false := by rw [beq_eq_false_iff_ne]; omega
    have h0 : ¬ atS s x < 0 := by
      rw [HA.out]
      rcases HLT with h | h
      · unfold Fl.at_ at h
        rw [if_neg (by omega)] at h
        repeat' split at h
        all_goals omega
      · omega
    have HLT2 : atS s x < (dty s).length := by rw [HA.out]; rcases HLT with h | h; omega; exact h.2
    obtain ⟨k, hk0⟩ : ∃ k : Nat, atS s x = (k : Int) := ⟨(atS s x).toNat, by omega⟩
    have hk : k < (dty s).length := by omega
    have hg0 : (dty s).getD k 0 = (dty s)[k] := by rw [List.getD_eq_getElem?_getD, List.getElem?_eq_getElem hk]; rfl
    have HN : Hid (stN s x = (dty s)[k]) := Lib.hid ((HN0.out.trans (if_neg h0)).trans (by rw [hk0, Int.toNat_natCast]; exact hg0))
    have HE : Hid (stE s x = flE s (stN s x)) := Lib.hid (HE0.out.trans (if_neg h0))
    have HS : Hid (stS s x = flS s (stN s x)) := Lib.hid (HS0.out.trans (if_neg h0))
    have CA := Lib.hid (fun w' => RAt_any (dty s).length x (by omega) hx hln w')
    rw [← HA.out, hk0] at CA
    obtain ⟨gl, ol, rfl, hgl, hcl⟩ := is_at HX3.out k hk
    have hwM := HWD _ (List.getElem_mem hk)
    rw [← HN.out] at hcl hwM
    have CF := Lib.hid (fun w' h' hN' => RFlush_any N2 (stN s x) ⟨AB, cB, AL, cL, AK, cK⟩ s w' h' hN' HI.out)
    rw [← HE.out, ← HS.out] at CF
    clear HN0 HE0 HS0 HA HLT HX3 HWD h0 HLT2 hk0 hg0 HN HE HS q hl3
    obtain ⟨E2, hE2⟩ : ∃ E2, stE s x = E2 := ⟨_, rfl⟩
    obtain ⟨S2, hS2⟩ : ∃ S2, stS s x = S2 := ⟨_, rfl⟩
    obtain ⟨M2, hM2⟩ : ∃ M2, stN s x = M2 := ⟨_, rfl⟩
    rw [hM2] at hcl hwM
    rw [hE2, hS2, hM2] at CF
    have HEQ := Lib.hid (And.intro hS2 (And.intro hM2 hE2))
    clear hE2 hS2 hM2
    generalize dty s = L at *
    go_wp2_with fail
    refine (CA.out _).mono ?_
    rintro e w4 ⟨rfl, hb4⟩
    have hcl4 := (hb4.cell (p := ⟨gl, ol + k, none⟩) hgl).trans hcl
    have HR2c := Lib.hid (HR2b.out.below hb4)
    have HR4c := Lib.hid (HR4b.out.below hb4)
    have HBc := Lib.hid (HBb.out.trans (hb4.mono (by have := HBb.out.size; omega)))
    have CF4 := Lib.hid (CF.out w4 (HRCb.out.below hb4) (fun b hb => by have h1 := HN2L.out b hb; have h2 := hb4.size; omega))
    clear hb4 HR2b HR4b HBb HRCb CA CF hcl
    go_wp2_with (first
      | (with_reducible refine wpList_ldC rfl _ rfl _ rfl _ rfl HR2c.out ?_))
    refine CF4.out.mono ?_
    rintro e w5 ⟨p2, rfl, hR, hb⟩
    have hb5 := hb.trans ((bb0 w5 (.cells (rcP p2 S2) 32)).mono hb.size)
    have R4Z := Lib.hid (HR4c.out.below hb5)
    have BZ := Lib.hid (HBc.out.trans (hb5.mono (by have := HBc.out.size; omega)))
    have RCZ := Lib.hid (hR.below (bb0 w5 (.cells (rcP p2 S2) 32)))
    clear hb hR CF4 hb5 HR2c HR4c HBc hcl4
    go_wp2_with (with_reducible refine wpList_storeRow rfl 32 _ _ rfl (w.heap.size + 1) rfl (rcP p2 S2) rfl rcZ 32 7 rcSize rfl rfl (rcC_one _ _ _ _ _ _ _ _ _ _ _) R4Z.out ?_)
    refine bodyPost_ret (v := .tuple #[.agg (rcP p2 S2), .int .i64 M2, .int .i64 E2]) (Rd.results_cell_2 (p := 4) (t2 := 5) (t3 := 6) rfl _ _ (w.heap.size + 1) 32 (rcP p2 S2) (0, 0) _ rfl (R4Z.out.set _) Tryz.underlying32 rfl rcSize) rfl ?_
    refine ⟨p2, ?_, ?_, below_setRow BZ.out (by omega) _⟩
    · rw [HEQ.out.1, HEQ.out.2.1, HEQ.out.2.2]
    · rw [HEQ.out.1]
      exact Rc.store RCZ.out _ (HN2.out _ (.inr (.inr rfl))) (fun b hb => HN2.out b (.inl hb))
theorem RStep_held {N : Nat → Prop} {x : Nat} (hx : x < 18446744073709551616) {p : Rp} {s : St} {W0 W : World} (hH : Below W0.heap.size W0 W) (h : Rc N W0 p s) (hN : ∀ b, N b → b < W0.heap.size) (hi : Inv s) :
    Calls Tryz.prog 7 #[.agg (rcP p s), .int .u64 x] W fun e w' => ∃ p', e = .returned (.tuple #[.agg (rcP p' (stS s x)), .int .i64 (stN s x), .int .i64 (stE s x)]) ∧ Rc (fun b => N b ∨ (W0.heap.size ≤ b ∧ b < W.heap.size)) w' p' (stS s x) ∧ Below W.heap.size W w' :=
  RStep_any (fun b => N b ∨ (W0.heap.size ≤ b ∧ b < W.heap.size)) x hx p s W (h.go (fun b h1 _ => hH.block b h1) hH.size (fun b h1 h2 e => by rcases e with e | e; exact h2 e; omega))
    (fun b e => by rcases e with e | e; exact Nat.lt_of_lt_of_le (hN b e) hH.size; exact e.2) hi
end Go.Proofs.YtbamhiegabeicaaGreat.Cb
