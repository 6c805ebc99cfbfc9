/- What a cache's block is seen as: the contract of Get. No statement is proved here. -/
import Derived.Test.YtbamhiegabeicaaCb
namespace Go.Proofs.Ytbamhiegabeicaa.Cb
open Go.RowKit Go.Proofs.Ytbamhiegabeicaa.Mem Go.Proofs.Ytbamhiegabeicaa.Open Go.Proofs.Ytbamhiegabeicaa.Kind Go.Proofs.Ytbamhiegabeicaa.Blk Go.Proofs.Ytbamhiegabeicaa.App Go.Proofs.Ytbamhiegabeicaa.Pat Go.Proofs.Ytbamhiegabeicaa.Rd
open Go.Proofs.Ytbamhiegabeicaa.Db (Dv Dev Asd)
set_option linter.unusedVariables false
set_option linter.unusedSimpArgs false
def gV (s : St) (no : Int) : List Nat := if kE s no ≠ 0 then zblk else laidF no (fun _ => true) (s.dv.bs.getD no.toNat zblk) s.xs
theorem Tn.set {w w' : World} {c d g b : Nat} {N : Nat → Prop} (h : Tn N c d g b w w') {k : Nat} (hk : ¬ N k) (cs : Array Value) : Tn N c d g b w (w'.setRow k cs) :=
  ⟨h.os, h.tape, h.output, by simpa using h.size, fun j hj => (setRow_other _ _ _ _ (fun (e : j = k) => hk (e ▸ hj.n))).trans (h.block j hj)⟩
theorem kS_xs (s : St) (no : Int) : (kS s no).xs = s.xs := by unfold kS; split <;> rfl
theorem kS_last (s : St) (no : Int) : (kS s no).last = s.last := by unfold kS; split <;> rfl
theorem kS_bs (s : St) (no : Int) : (kS s no).dv.bs = s.dv.bs := by unfold kS; split <;> rfl
theorem kS_F {s : St} {no : Int} (h : kE s no = 0) : (kS s no).F no = some (s.dv.bs.getD no.toNat zblk) := by
  unfold St.F
  rw [kS_bs]
  rw [if_pos]
  unfold kS
  unfold kE at h
  by_cases hk : s.K no = true
  · rw [if_pos (.inl hk)]; exact hk
  · rw [if_neg hk] at h
    rw [if_neg (by rintro (e | e); exact hk e; exact e h)]
    show (s.K no || no == no) = true
    simp
set_option maxHeartbeats 4000000 in
set_option maxRecDepth 100000 in
theorem Get_any (no : Int) (hno : WfI no) (c d g b : Nat) (N : Nat → Prop) (v : Value) (s : St) (w : World) (h : Ca w c d g b N v s) (hi : Inv s) :
    Calls Try.prog 12 #[.pointer (some ⟨c, 0, none⟩), .int .i64 no] w fun e w' => e = .returned (.tuple #[.agg (blk (gV s no)), .int .i64 (kE s no)]) ∧ Ca w' c d g b N v (kS s no) ∧ Tn N c d g b w w' := by
  have hz : (blk zblk).size = 256 := zblk_size
  have b0 : Below w.heap.size w (w.alloc (.cells (blk zblk) 42)) := bb0 _ _
  have HH := Lib.hid h
  have H1 := h.grow b0
  obtain ⟨N1, hN1⟩ : ∃ N1 : Nat → Prop, N1 = fun j => N j ∨ (w.heap.size ≤ j ∧ j < (w.alloc (.cells (blk zblk) 42)).heap.size) := ⟨_, rfl⟩
  rw [← hN1] at H1
  have hF1 : Far N1 c d g b w.heap.size := ⟨by rw [hN1]; exact .inr ⟨Nat.le_refl _, by simp⟩, by have := h.lt c h.Nc; omega, by have := h.lt d h.Nd; omega, by have := h.lt g h.Ng; omega, by have := h.lt b h.Nb; omega⟩
  have hsub : ∀ j, N j → N1 j := fun j hj => by rw [hN1]; exact .inl hj
  have R4 : Row (w.alloc (.cells (blk zblk) 42)) w.heap.size 42 (blk zblk) := Row.new _ _ _
  have HT1 := Lib.hid (h.tn b0)
  have CK := Lib.hid (known_any no hno c d g b N1 v s _ H1 hi)
  have HH1 := Lib.hid H1
  have hNk : ¬ N w.heap.size := fun e => by have := h.lt _ e; omega
  clear hN1 h
  by_cases hq : kE s no = 0
  · have HV : Hid (gV s no = laidF no (fun _ => true) (s.dv.bs.getD no.toNat zblk) s.xs) := Lib.hid (if_neg (fun e => e hq))
    have hF := kS_F hq
    have hB : (s.dv.bs.getD no.toNat zblk).length = 256 := getD_mem _ _ hi.each
    have hxs := kS_xs s no
    have hxl := hi.xl
    obtain ⟨S2, hS2⟩ : ∃ S2, kS s no = S2 := ⟨_, rfl⟩
    rw [hS2] at CK hF hxs ⊢
    rw [hq] at CK ⊢
    generalize gV s no = G at *
    generalize s.dv.bs.getD no.toNat zblk = B at *
    generalize hX : s.xs = xs at *
    have hBs : (blk B).size = 256 := by rw [blk_size]; exact hB
    have hg : (.agg (blk ((S2.F no).getD zblk)) : Value) = .agg (blk B) := by rw [hF]; rfl
    clear hq hF hS2 hX
    go_enter Try.func12, Try.ntmps12
    go_wp2_with (with_reducible refine wpList_allocA rfl 42 rfl _ blkZero ?_)
    refine CK.out.mono ?_
    rintro e w2 ⟨rfl, hc2, ht2'⟩
    have ht2 := HH1.out.tq ht2'
    clear ht2'
    have r4 := ht2.row hF1 R4
    obtain ⟨c0, c1, c2, c3⟩ := hc2.cells
    obtain ⟨A, n, rfl, hn1, hn2, hn3, hx⟩ := hc2.list
    rw [hxs] at c2 hx hn1
    have hm := hc2.map
    have HC2 := Lib.hid hc2
    have HT2 := Lib.hid (HT1.out.trans (ht2.weak hsub))
    have hl : xs.length ≤ 9223372036854775807 := hx.2.1
    have R7 : Row (w2.alloc (.cells (blk zblk) 42)) w2.heap.size 42 (blk zblk) := Row.new _ _ _
    obtain ⟨⟨r9, b9, z9⟩⟩ : Nonempty (_ ∧ _ ∧ _) := ⟨boxed w2 42 (blk zblk) (blk B)⟩
    have h2lt : w.heap.size < w2.heap.size := r4.lt
    have c2' : World.cell? _ ⟨c, 2, none⟩ = some (.slice A xs.length n) := (b9.cell (p := ⟨c, 2, none⟩) hc2.row.lt).trans c2
    have r4' := r4.below b9
    have HR9 := Lib.hid r9
    have HB9 := Lib.hid b9
    have HR4 := Lib.hid r4'
    clear r9 b9 z9 hc2 ht2 CK HT1 c3 c0 r4 r4'
    go_wp2_with (first
      | (at_lookup; go_loud (refine wpList_mbGet rfl _ _ rfl rfl hm no rfl hno ?_); rw [hg])
      | (with_reducible refine wpList_allocA rfl 42 rfl _ blkZero ?_)
      | (with_reducible refine wpList_storeRow rfl 42 _ _ rfl w2.heap.size rfl (blk B) rfl (blk zblk) 42 256 blkSize hBs hz (blk_one _) R7 ?_))
    go_loopw [28] (fun i wr => ∃ (k : Nat), k ≤ xs.length ∧ i = .int .i64 k ∧ Row wr w2.heap.size 42 (blk (laidF no (fun _ => true) B (xs.take k))) ∧ Row wr w.heap.size 42 (blk zblk) ∧ Below w2.heap.size w2 wr) (fun i _ => xs.length - (intOf i).toNat)
    case atStart => exact ⟨0, by omega, rfl, HR9.out, HR4.out, HB9.out⟩
    case round =>
      obtain ⟨k, hk, rfl, hr1, hr2, hbr⟩ := hrel
      obtain ⟨L, hL⟩ : ∃ L, laidF no (fun _ => true) B (xs.take k) = L := ⟨_, rfl⟩
      have hLl : L.length = 256 := by rw [← hL, laidF_len]; exact hB
      have HL := Lib.hid hL
      rw [hL] at hr1
      clear hL
      have hLs : (blk L).size = 256 := by rw [blk_size]; exact hLl
      by_cases hlt : k < xs.length
      · obtain ⟨gx, ox, rfl, hgx⟩ := ch_form hx (by omega)
        obtain ⟨A1, c1', A2, c2'', hat0⟩ := ch_at hx k hlt
        have hat := hat0.below hbr
        have e0 := hat.v0
        have e1 := hat.v1
        have e2 := hat.v2
        have e3 : wr.cell? ⟨gx, ox + k * 5 + 3, none⟩ = _ := hat.v3
        have e4 := hat.v4
        have HT := Lib.hid (take_next hlt)
        have hS := hat.s
        clear hat0 hat
        generalize xs[k] = x at *
        obtain ⟨⟨b1, b2, b3⟩⟩ : Nonempty (_ ∧ _ ∧ _) := ⟨boxed wr 71 chZ (chC x A1 c1' A2 c2'')⟩
        have R0 : Row (wr.alloc (.cells chZ 71)) wr.heap.size 71 chZ := Row.new _ _ _
        have k1 : World.cell? _ ⟨wr.heap.size, 1, none⟩ = some (.int .i64 x.blk) := b1.cell 1 rfl
        have k2 : World.cell? _ ⟨wr.heap.size, 2, none⟩ = some (.int .i64 x.pa) := b1.cell 2 rfl
        have k3 : World.cell? _ ⟨wr.heap.size, 2 + 1, none⟩ = some (.slice A1 x.pd.length c1') := b1.cell 3 rfl
        have HR1 := Lib.hid (hr1.below b2)
        have HR2 := Lib.hid (hr2.below b2)
        have HS := Lib.hid (hS.below b2)
        have HB := Lib.hid (hbr.trans (b2.mono hbr.size))
        clear b1 b2 b3 hr1 hr2 hbr hS
        by_cases hbk : x.blk = no
        · have hq : (x.blk == no) = true := by rw [hbk]; exact beq_self_eq_true _
          have HT2 : Hid (laidF no (fun _ => true) B (xs.take (k + 1)) = lay1 L x) := Lib.hid (by rw [HT.out, laidF_app, if_pos ⟨hbk, rfl⟩, HL.out])
          have CLY0 := lay_any L x.pa A1 x.pd.length c1' x.pd _ hLl HS.out.p4.sl_byte
          rw [show layL L x.pa x.pd = lay1 L x from rfl] at CLY0
          have CLY := Lib.hid CLY0
          have hNl := (lay1_len L x).trans hLl
          generalize lay1 L x = M at *
          have hMs : (blk M).size = 256 := by rw [blk_size]; exact hNl
          clear CLY0 hbk
          go_wp2_with (first
            | (with_reducible refine wpList_allocA rfl 71 rfl _ chZero ?_)
            | (with_reducible refine wpList_storeRow rfl 71 _ _ rfl wr.heap.size rfl (chC x A1 c1' A2 c2'') rfl chZ 71 5 chSize rfl rfl (chC_one _ _ _ _ _) R0 ?_)
            | (with_reducible refine wpList_load rfl 42 _ rfl _ rfl 42 (blk L) 256 5 blkUnd blkSize hLs HR1.out.out ?_))
          refine CLY.out.mono ?_
          rintro e wc ⟨rfl, hbc⟩
          have HR1 := Lib.hid (HR1.out.below hbc)
          have HR2 := Lib.hid (HR2.out.below hbc)
          have HB := Lib.hid (HB.out.trans (hbc.mono HB.out.size))
          have R1 := HR1.out
          clear hbc CLY k2 k3
          go_wp2_with (with_reducible refine wpList_storeRow rfl 42 _ _ rfl w2.heap.size rfl (blk M) rfl (blk L) 42 256 blkSize hMs hLs (blk_one _) R1 ?_)
          go_roundw
          case rel => exact ⟨k + 1, by omega, by go_num, by rw [HT2.out]; exact HR1.out.set _, (setRow_other _ _ _ _ (by omega)).trans HR2.out, below_setRow HB.out (Nat.le_refl _) _⟩
          case measure => simp [intOf]; omega
        · have hq : (x.blk == no) = false := beq_eq_false_iff_ne.2 hbk
          have HL2 : Hid (laidF no (fun _ => true) B (xs.take (k + 1)) = L) := Lib.hid (by rw [HT.out, laidF_app, if_neg (fun e => hbk e.1)]; exact HL.out)
          clear hbk
          go_wp2_with (first
            | (with_reducible refine wpList_allocA rfl 71 rfl _ chZero ?_)
            | (with_reducible refine wpList_storeRow rfl 71 _ _ rfl wr.heap.size rfl (chC x A1 c1' A2 c2'') rfl chZ 71 5 chSize rfl rfl (chC_one _ _ _ _ _) R0 ?_))
          go_roundw
          case rel => exact ⟨k + 1, by omega, by go_num, by rw [HL2.out]; exact HR1.out, HR2.out, HB.out⟩
          case measure => simp [intOf]; omega
      · obtain rfl : k = xs.length := by omega
        rw [List.take_length] at HL
        have HR1 := Lib.hid hr1
        have HR2 := Lib.hid hr2
        have HB := Lib.hid hbr
        have R2 := HR2.out
        clear hr1 hr2 hbr
        go_wp2_with (first
          | (with_reducible refine wpList_load rfl 42 _ rfl _ rfl 42 (blk L) 256 5 blkUnd blkSize hLs HR1.out.out ?_)
          | (with_reducible refine wpList_storeRow rfl 42 _ _ rfl w.heap.size rfl (blk L) rfl (blk zblk) 42 256 blkSize hLs zblk_size (blk_one _) R2 ?_))
        exact bodyPost_ret (v := .tuple #[.agg (blk L), .int .i64 0]) (Rd.results_cell_tmp (p := 4) (t2 := 5) rfl _ _ w.heap.size 42 (blk L) (0, 0) _ rfl (HR2.out.set _) blkUnd rfl (by rw [hLs]; exact blkSize)) rfl
          ⟨by rw [HV.out, HL.out], ((HC2.out.below HB.out).setRow hF1 _).weak hsub HH.out.Nc HH.out.Nd HH.out.Ng HH.out.Nb, (HT2.out.trans ((HC2.out.tn HB.out).weak hsub)).set hNk _⟩
  · have HV : Hid (gV s no = zblk) := Lib.hid (if_pos hq)
    obtain ⟨e, he⟩ : ∃ e, kE s no = e := ⟨_, rfl⟩
    rw [he] at CK hq ⊢
    have hne : (e == 0) = false := by rw [beq_eq_false_iff_ne]; exact hq
    clear he hq
    go_enter Try.func12, Try.ntmps12
    go_wp2_with (with_reducible refine wpList_allocA rfl 42 rfl _ blkZero ?_)
    refine CK.out.mono ?_
    rintro e1 w2 ⟨rfl, hc2, ht2'⟩
    have ht2 := HH1.out.tq ht2'
    clear ht2'
    have r4 := ht2.row hF1 R4
    have HC2 := Lib.hid hc2
    have HT2 := Lib.hid (HT1.out.trans (ht2.weak hsub))
    clear hc2 ht2 CK HT1
    go_wp2_with (with_reducible refine wpList_storeRow rfl 42 _ _ rfl w.heap.size rfl (blk zblk) rfl (blk zblk) 42 256 blkSize hz hz (blk_one _) r4 ?_)
    exact bodyPost_ret (v := .tuple #[.agg (blk zblk), .int .i64 e]) (Rd.results_cell_tmp (p := 4) (t2 := 5) rfl _ _ w.heap.size 42 (blk zblk) (0, 0) _ rfl (r4.set _) blkUnd rfl (by rw [hz]; exact blkSize)) rfl
      ⟨by rw [HV.out], (HC2.out.setRow hF1 _).weak hsub HH.out.Nc HH.out.Nd HH.out.Ng HH.out.Nb, HT2.out.set hNk _⟩
end Go.Proofs.Ytbamhiegabeicaa.Cb

