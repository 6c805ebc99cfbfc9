/- CacheViews. -/
import Derived.Test.YtdhgkabbepbgpaaCv
namespace Go.Proofs.Ytdhgkabbepbgpaa.Cb
open Go.RowKit Go.Proofs.Ytdhgkabbepbgpaa.Mem Go.Proofs.Ytdhgkabbepbgpaa.Open Go.Proofs.Ytdhgkabbepbgpaa.Kind Go.Proofs.Ytdhgkabbepbgpaa.Blk Go.Proofs.Ytdhgkabbepbgpaa.App Go.Proofs.Ytdhgkabbepbgpaa.Pat Go.Proofs.Ytdhgkabbepbgpaa.Rd
open Go.Proofs.Ytdhgkabbepbgpaa.Db (Dv Dev Asd Bks)
set_option linter.unusedVariables false
set_option linter.unusedSimpArgs false
/-- What is wanted is what is seen. -/
def Wt (W : List (List Nat)) (s : St) : Prop := W.length = 16 ∧ ∀ i : Nat, i < 16 → W[i]? = some (seen s i)
theorem Wt.new : Wt (List.replicate 16 zblk) (newS (Db.fresh 16)) := by
  refine ⟨List.length_replicate, fun i hi => ?_⟩
  rw [List.getElem?_replicate, if_pos hi]
  have : seen (newS (Db.fresh 16)) (i : Int) = zblk := by
    show laidF _ _ ((List.replicate 16 zblk).getD (i : Int).toNat zblk) [] = zblk
    rw [Int.toNat_natCast, List.getD_eq_getElem?_getD, List.getElem?_replicate, if_pos hi]
    rfl
  rw [this]
theorem Wt.len {W : List (List Nat)} {s : St} (h : Wt W s) (hi : Inv s) {i : Nat} (h16 : i < 16) : (seen s i).length = 256 := seen_len hi _
theorem Wt.same {W : List (List Nat)} {s t : St} (h : Wt W s) (hs : ∀ i : Nat, i < 16 → seen t i = seen s i) : Wt W t := ⟨h.1, fun i hi => by rw [hs i hi]; exact h.2 i hi⟩
theorem Wt.next {W : List (List Nat)} {s t : St} (h : Wt W s) {i0 : Nat} (h16 : i0 < 16) {M : List Nat} (h1 : seen t i0 = M) (h2 : ∀ i : Nat, i ≠ i0 → seen t i = seen s i) : Wt (W.set i0 M) t :=
  ⟨by rw [List.length_set]; exact h.1, fun i hi => by
    have hl := h.1
    rw [List.getElem?_set]
    by_cases hq : i0 = i
    · subst hq
      rw [if_pos rfl, if_pos (by omega), h1]
    · rw [if_neg hq, h2 i (fun e => hq e.symm)]
      exact h.2 i hi⟩
set_option maxHeartbeats 4000000 in
set_option maxRecDepth 100000 in
theorem views_walk (A : Option Addr) (n : Nat) (xs : List Chg) (w : World) (hx : Chs w A xs) (hA : A = none → n = 0) :
    Calls Try.prog 4 #[.slice A xs.length n] w fun e w' => e = .returned (.bool true) ∧ Below w.heap.size w w' := by
  have hz : (blk zblk).size = 256 := zblk_size
  have CM := Lib.hid (muchT_any A n xs 20 w hx (by omega))
  have hl9 : xs.length ≤ 9223372036854775807 := hx.2.1
  cases hm : muchT xs 20 with
  | true =>
    rw [hm] at CM
    go_enter Try.func4, Try.ntmps4
    go_wp2_with fail
    refine CM.out.mono ?_
    rintro e w1 ⟨rfl, hb1⟩
    go_wp2_with fail
    refine (works12 _).mono ?_
    rintro e w2 ⟨rfl, hb2⟩
    go_wp2
    go_ret
    exact ⟨rfl, hb1.trans (hb2.mono hb1.size)⟩
  | false =>
    obtain ⟨hl20, hsm⟩ := muchT_no hm
    have hby := chs_bytes hx
    rw [hm] at CM
    go_enter Try.func4, Try.ntmps4
    go_wp2_with fail
    refine CM.out.mono ?_
    rintro e w1 ⟨rfl, hb1⟩
    go_wp2_with fail
    refine (Db.new_any 16 16 (.inl ⟨by omega, rfl⟩) w1).mono ?_
    rintro e w2 ⟨d, rfl, g, hd, hd1, hg1, hb2⟩
    go_wp2_with fail
    refine (New_any d g _ w2 hd).mono ?_
    rintro e w3 ⟨c, b, rfl, hc3, hc1, hbb1, hb3⟩
    have b4 : Below w3.heap.size w3 (w3.alloc (.cells (blk (List.replicate 4096 0)) 39)) := bb0 _ _
    have hc4 := hc3.grow b4
    obtain ⟨N, hN⟩ : ∃ N : Nat → Prop, N = fun j => j < w3.heap.size ∨ (w3.heap.size ≤ j ∧ j < (w3.alloc (.cells (blk (List.replicate 4096 0)) 39)).heap.size) := ⟨_, rfl⟩
    rw [← hN] at hc4
    have hs1 := hb1.size
    have hs2 := hb2.size
    have hs3 := hb3.size
    have HBD : Hid (Bd w.heap.size c d g b N) := Lib.hid ⟨by omega, by omega, by omega, by omega, fun k hk => by rw [hN]; exact .inl (by omega)⟩
    have FK : Far N c d g b w3.heap.size := ⟨by rw [hN]; exact .inr ⟨Nat.le_refl _, by simp⟩, by have := hc3.row.lt; omega, by have := hc3.dev.1.lt; omega, by have := hc3.dev.2.1.2.2; omega, by have := hc3.map.lt; omega⟩
    have HBK := Lib.hid (bks_arr w3 39)
    have HB4 := Lib.hid (((hb1.trans (hb2.mono hs1)).trans (hb3.mono (by omega))).trans (b4.mono (by omega)))
    have HC4 := Lib.hid hc4
    obtain ⟨kw, hkw⟩ : ∃ kw, w3.heap.size = kw := ⟨_, rfl⟩
    rw [hkw] at HBK FK
    have hkwB : w.heap.size ≤ kw := by omega
    clear hd hd1 hg1 hb1 hb2 hb3 b4 hc3 hc4 hN hs1 hs2 hs3 hc1 hbb1 hm CM
    go_wp2_with (with_reducible refine wpList_allocA rfl 39 rfl _ arrZero ?_)
    go_loopw [6] (fun i wr => ∃ (k : Nat) (v : Value) (S : St) (W : List (List Nat)), k ≤ xs.length ∧ i = .int .i64 k ∧ Ca wr c d g b N v S ∧ Hid (Inv S) ∧ Hid (S.dv.rd ≤ k ∧ S.last ≤ k) ∧ Bks wr kw W ∧ Hid (Wt W S) ∧ Below w.heap.size w wr) (fun i _ => xs.length - (intOf i).toNat)
    case atStart => exact ⟨0, _, _, _, by omega, rfl, HC4.out, Lib.hid i0, Lib.hid ⟨by show (0 : Int) ≤ 0; decide, by show (0 : Int) ≤ 0; decide⟩, HBK.out, Lib.hid Wt.new, HB4.out⟩
    case round =>
      obtain ⟨k, v, S, W, hk, rfl, hc, HIS, HRD, hbk, HWT, hbr⟩ := hrel
      by_cases hlt : k < xs.length
      · obtain ⟨gx, ox, rfl, hgx⟩ := ch_form hx (by omega)
        obtain ⟨A1, c1, A2, c2, hat0⟩ := ch_at hx k hlt
        have hat := hat0.below hbr
        have hxm := List.getElem_mem hlt
        have hxb := hby _ hxm
        obtain ⟨hxp, hxn⟩ := hsm _ hxm
        generalize xs[k] = x at *
        have e0 := hat.v0
        have e1 := hat.v1
        have e2 := hat.v2
        have e3 : wr.cell? ⟨gx, ox + k * 5 + 3, none⟩ = _ := hat.v3
        have e4 := hat.v4
        have CG := Lib.hid (Go_any x A1 c1 A2 c2 c d g b N v S wr hc HIS.out hat.s hxp hxn)
        have HI2 := Lib.hid (goS_inv HIS.out hxb hxp hxn hat.ok.2.1 (by have := HRD.out; omega) (by have := HRD.out; omega))
        have HRD2 : Hid ((goS S x).dv.rd ≤ ((k + 1 : Nat) : Int) ∧ (goS S x).last ≤ ((k + 1 : Nat) : Int)) := Lib.hid (by have := goS_rd S x; have := HRD.out; omega)
        have HSEEN := Lib.hid (fun (i : Nat) => seen_goS HIS.out x (i := (i : Int)) (by omega))
        have HPUT := Lib.hid (fun h0 hE => goS_put HIS.out (x := x) h0 hE)
        have HBK := Lib.hid hbk
        have HBR := Lib.hid hbr
        have HAT0 := Lib.hid hat0
        have HPB := Lib.hid hxb
        clear hc hbk hbr hat hat0 hxb hxn
        generalize goS S x = S2 at *
        generalize goN S x = N2 at *
        generalize goE S x = E2 at *
        go_wp2_with fail
        refine CG.out.mono ?_
        rintro e w5 ⟨v5, rfl, hc5, ht5⟩
        have HC5 := Lib.hid hc5
        have HB5 := Lib.hid (Tn.bel HBR.out ht5 HBD.out)
        have HBK5 := Lib.hid (Bks.tn HBK.out ht5 FK)
        have hat5 := HAT0.out.below HB5.out
        clear hc5 ht5 CG HBR HBK e0 e1 e2 e3 e4
        have e0 := hat5.v0
        by_cases hp : x.id = 0 ∧ E2 = 0
        · obtain ⟨hp0, hpE⟩ := hp
          subst hpE
          have q0 : (x.id == 0) = true := by rw [hp0]; rfl
          obtain ⟨hp1, hp2, hp3⟩ := HPUT.out hp0 rfl
          have HSEEN2 : Hid (∀ i : Nat, seen S2 i = if (i : Int) = x.blk then layL (seen S i) x.pa x.pd else seen S i) := Lib.hid (fun i => by
            rw [HSEEN.out i]
            by_cases hq : (i : Int) = x.blk
            · rw [if_pos hq, if_pos ⟨hp0, rfl, hq⟩]
            · rw [if_neg hq, if_neg (fun e => hq e.2.2)])
          obtain ⟨i0, hi0⟩ : ∃ i0 : Nat, x.blk = (i0 : Int) := ⟨x.blk.toNat, by omega⟩
          have hi16 : i0 < 16 := by omega
          have hi16z : (i0 : Int) < 16 := by omega
          have e1 := hat5.v1
          rw [hi0] at e1
          have HAT5 := Lib.hid hat5
          clear hat5
          go_wp2_with fail
          have e1d : w5.drew.cell? ⟨gx, ox + k * 5 + 1, none⟩ = _ := e1
          have e2d : w5.drew.cell? ⟨gx, ox + k * 5 + 2, none⟩ = _ := HAT5.out.v2
          have e3d : w5.drew.cell? ⟨gx, ox + k * 5 + 2 + 1, none⟩ = _ := HAT5.out.v3
          have hgk : ¬ gx = kw := by omega
          have hWl := HWT.out.1
          have hLg := HWT.out.2 i0 hi16
          have hLl : (seen S i0).length = 256 := seen_len HIS.out _
          obtain ⟨L, hL⟩ : ∃ L, seen S (i0 : Int) = L := ⟨_, rfl⟩
          rw [hL] at hLg hLl
          have hMl : (layL L x.pa x.pd).length = 256 := (layL_length _ _ _).trans hLl
          have hLi := blkSizeL L hLl
          have hMi : (Try.prog.info? 38).map (·.size) = some (blk (layL L x.pa x.pd)).size := by rw [blk_size, hMl]; exact blkSize
          have hBW : Bks w5.drew kw W := Bks.below HBK5.out (Below.refl _ _).drew
          have hbyW : By w5.drew A1 x.pd := Rw.drew HAT5.out.p.2.2.2
          have HC5D := Lib.hid (HC5.out.below (Below.refl _ _).drew)
          have HL := Lib.hid hL
          have HMS : Hid ((blk (layL L x.pa x.pd)).size = 256) := Lib.hid (by rw [blk_size]; exact hMl)
          have hbT := Below.refl w5.drew.heap.size w5.drew
          obtain ⟨M, hM⟩ : ∃ M, layL L x.pa x.pd = M := ⟨_, rfl⟩
          have CLY : ∀ (w' : World) (A' : Option Addr) (c' : Nat), Sl w' V8 A' x.pd.length x.pd → Calls Try.prog 14 #[.agg (blk L), patV x.pa A' x.pd.length c'] w' fun e w'' => e = .returned (.agg (blk M)) ∧ Below w'.heap.size w' w'' := fun w' A' c' hsl => by
            have := lay_any L x.pa A' x.pd.length c' x.pd w' hLl hsl
            rw [hM] at this
            exact this
          have HCLY := Lib.hid CLY
          rw [hM] at hMl hMi HMS
          have HM := Lib.hid hM
          clear hM CLY hL
          refine wp_region_held_drew (S := fun w' => World.grownBy (w5.drew) w' (some (kw))) (by kernel_rfl) ?hb10 (fun hHeld => ?rest10)
          case hb10 =>
            exact Mem.gb_refl _ _
          case' rest10 => skip
          have hCl := fun (wS : World) (hSw : World.grownBy (w5.drew) wS (some (kw))) => And.intro (Mem.gb_cell hSw e1d (by intro e; injection e with e; dsimp only at e; omega)) <| And.intro (Mem.gb_cell hSw e2d (by intro e; injection e with e; dsimp only at e; omega)) <| Mem.gb_cell hSw e3d (by intro e; injection e with e; dsimp only at e; omega)
          replace hCl := Go.Lib.hid hCl
          refine Mem.tkY 0 ?v11 (hy := Or.inl ⟨by rfl, ?y11⟩) (hS := by assumption) (h := ?r11)
          case y11 => (intro w hSw; clear hSw; go_simp; try with_reducible rfl)
          case' r11 => skip
          refine Mem.tkY 1 ?v12 (hy := Or.inl ⟨by rfl, ?y12⟩) (hS := by assumption) (h := ?r12)
          case y12 => (intro w hSw; clear hSw; go_simp; try with_reducible rfl)
          case' r12 => skip
          refine Mem.tkY 2 ?v13 (hy := Or.inl ⟨by rfl, ?y13⟩) (hS := by assumption) (h := ?r13)
          case y13 => (intro w hSw; clear hSw; go_simp; try with_reducible rfl)
          case' r13 => skip
          try simp only [List.getElem_toArray, List.getElem_cons_succ, List.getElem_cons_zero, Act.put, List.setIfInBounds_toArray, List.set_cons_zero, List.set_cons_succ]
          refine Mem.tkY 3 ?v14 (hy := Or.inl ⟨by rfl, ?y14⟩) (hS := by assumption) (h := ?r14)
          case y14 => (intro w hSw; clear hSw; go_simp; try with_reducible rfl)
          case' r14 => skip
          refine Mem.tkY 4 ?v15 (hy := Or.inl ⟨by rfl, ?y15⟩) (hS := by assumption) (h := ?r15)
          case y15 => (intro w hSw; obtain ⟨hT0, hT1, hT2⟩ := hCl.out w hSw; clear hSw; go_simp; try with_reducible rfl)
          case' r15 => skip
          refine Mem.tkY 5 ?v16 (hy := Or.inl ⟨by rfl, ?y16⟩) (hS := by assumption) (h := ?r16)
          case y16 => (intro w hSw; clear hSw; go_simp; try with_reducible rfl)
          case' r16 => skip
          try simp only [List.getElem_toArray, List.getElem_cons_succ, List.getElem_cons_zero, Act.put, List.setIfInBounds_toArray, List.set_cons_zero, List.set_cons_succ]
          refine Mem.tkY 6 ?v17 (hy := Or.inl ⟨by rfl, ?y17⟩) (hS := by assumption) (h := ?r17)
          case y17 => (intro w hSw; clear hSw; go_simp; try with_reducible rfl)
          case' r17 => skip
          refine Mem.tkY 7 ?v18 (hy := Or.inl ⟨by rfl, ?y18⟩) (hS := by assumption) (h := ?r18)
          case y18 => (intro w hSw; clear hSw; go_simp; try with_reducible rfl)
          case' r18 => skip
          refine Mem.tkY 8 ?v19 (hy := Or.inl ⟨by rfl, ?y19⟩) (hS := by assumption) (h := ?r19)
          case y19 => (intro w hSw; clear hSw; go_simp; try with_reducible rfl)
          case' r19 => skip
          try simp only [List.getElem_toArray, List.getElem_cons_succ, List.getElem_cons_zero, Act.put, List.setIfInBounds_toArray, List.set_cons_zero, List.set_cons_succ]
          refine Mem.tkY 9 ?v20 (hy := Or.inl ⟨by rfl, ?y20⟩) (hS := by assumption) (h := ?r20)
          case y20 => (intro w hSw; obtain ⟨hT0, hT1, hT2⟩ := hCl.out w hSw; clear hSw; go_simp; try with_reducible rfl)
          case' r20 => skip
          refine Mem.tkY 10 ?v21 (hy := Or.inl ⟨by rfl, ?y21⟩) (hS := by assumption) (h := ?r21)
          case y21 => (intro w hSw; clear hSw; go_simp; try with_reducible rfl)
          case' r21 => skip
          refine Mem.tkY 12 ?v22 (hy := Or.inl ⟨by rfl, ?y22⟩) (hS := by assumption) (h := ?r22)
          case y22 => (intro w hSw; clear hSw; go_simp; try with_reducible rfl)
          case' r22 => skip
          try simp only [List.getElem_toArray, List.getElem_cons_succ, List.getElem_cons_zero, Act.put, List.setIfInBounds_toArray, List.set_cons_zero, List.set_cons_succ]
          refine Mem.tkY 13 ?v23 (hy := Or.inl ⟨by rfl, ?y23⟩) (hS := by assumption) (h := ?r23)
          case y23 => (intro w hSw; clear hSw; go_simp; try with_reducible rfl)
          case' r23 => skip
          refine Mem.tkY 14 ?v24 (hy := Or.inl ⟨by rfl, ?y24⟩) (hS := by assumption) (h := ?r24)
          case y24 => (intro w hSw; clear hSw; go_simp; try with_reducible rfl)
          case' r24 => skip
          refine Mem.tkY 15 ?v25 (hy := Or.inl ⟨by rfl, ?y25⟩) (hS := by assumption) (h := ?r25)
          case y25 => (intro w hSw; clear hSw; go_simp; try with_reducible rfl)
          case' r25 => skip
          try simp only [List.getElem_toArray, List.getElem_cons_succ, List.getElem_cons_zero, Act.put, List.setIfInBounds_toArray, List.set_cons_zero, List.set_cons_succ]
          refine Mem.tkY 16 ?v26 (hy := Or.inl ⟨by rfl, ?y26⟩) (hS := by assumption) (h := ?r26)
          case y26 => (intro w hSw; obtain ⟨hT0, hT1, hT2⟩ := hCl.out w hSw; clear hSw; go_simp; try with_reducible rfl)
          case' r26 => skip
          try simp only [List.getElem_toArray, List.getElem_cons_succ, List.getElem_cons_zero, Act.put, List.setIfInBounds_toArray, List.set_cons_zero, List.set_cons_succ]
          refine wpAnyH_ready (rs := [11, 17]) (by kernel_rfl) (by simp) ?_
          refine AllReadyH.cons rfl (fun K hK => ?_) ?_
          · skip
            rw [if_pos (by rfl)]
            refine wp_load_mid 38 _ (by rfl) kw (i0 * 256) (by rfl) (blk L).toList _ (hBW.1 i0 L hLg).2 blkUnd rfl hLi ?_; have hSnew := hHeld
            refine hK.out _ _ ?_ (fun hHeld2 => ?_)
            · exact hSnew
            clear hK K hHeld hSnew
            have hHeld := hHeld2
            clear hHeld2
            try simp only [List.getElem_toArray, List.getElem_cons_succ, List.getElem_cons_zero, Act.put, List.setIfInBounds_toArray, List.set_cons_zero, List.set_cons_succ]
            refine wpAnyH_ready (rs := [17]) (by kernel_rfl) (by simp) ?_
            refine AllReadyH.cons rfl (fun K hK => ?_) AllReadyH.nil
            go_simp
            (refine (to_any x.pa A1 c1 x.pd _ hbyW HAT0.out.p.2.2.1 (by omega)).mono ?_; rintro e wb ⟨A', c', rfl, k1', k2', k3', hf, hbl⟩; have hSnew := Mem.gb_below hHeld hbl; replace hBW := Bks.below hBW hbl; have hbT := hbl; have hsl := Rw.sl_byte (hf.mono (fun j hj => hj.2)); clear hf hbl)
            try go_wp2_with fail
            refine hK.out _ _ ?_ (fun hHeld2 => ?_)
            · exact hSnew
            clear hK K hHeld hSnew
            have hHeld := hHeld2
            clear hHeld2
            try simp only [List.getElem_toArray, List.getElem_cons_succ, List.getElem_cons_zero, Act.put, List.setIfInBounds_toArray, List.set_cons_zero, List.set_cons_succ]
            refine wpAnyH_ready (rs := [18]) (by kernel_rfl) (by simp) ?_
            refine AllReadyH.cons rfl (fun K hK => ?_) AllReadyH.nil
            go_simp
            (refine (HCLY.out _ A' c' hsl).mono ?_; rintro e wl ⟨rfl, hbl⟩; have hSnew := Mem.gb_below hHeld hbl; replace hBW := Bks.below hBW hbl; replace hbT := hbT.trans (hbl.mono hbT.size); clear hbl hsl)
            try go_wp2_with fail
            refine hK.out _ _ ?_ (fun hHeld2 => ?_)
            · exact hSnew
            clear hK K hHeld hSnew
            have hHeld := hHeld2
            clear hHeld2
            try simp only [List.getElem_toArray, List.getElem_cons_succ, List.getElem_cons_zero, Act.put, List.setIfInBounds_toArray, List.set_cons_zero, List.set_cons_succ]
            refine Mem.tkY 19 ?v27 (hy := Or.inl ⟨by rfl, ?y27⟩) (hS := by assumption) (h := ?r27)
            case y27 => (intro w hSw; clear hSw; go_simp; try with_reducible rfl)
            case' r27 => skip
            try simp only [List.getElem_toArray, List.getElem_cons_succ, List.getElem_cons_zero, Act.put, List.setIfInBounds_toArray, List.set_cons_zero, List.set_cons_succ]
            refine wpAnyH_ready (rs := [20]) (by kernel_rfl) (by simp) ?_
            refine AllReadyH.cons rfl (fun K hK => ?_) AllReadyH.nil
            rw [if_pos (by rfl)]
            refine wp_store_mid 38 _ _ (by rfl) kw (i0 * 256) (blk M) (by rfl) (by rfl) (fun j hj => by rw [HMS.out] at hj; have h := hBW.2.1 (i0 * 256 + j) (by rw [hWl]; omega); rwa [Nat.zero_add] at h) hMi (blk_one _) ?_; have hSnew := Db.gb_setCells hHeld (i0 * 256) (blk M).toList
            refine hK.out _ _ ?_ (fun hHeld2 => ?_)
            · exact hSnew
            clear hK K hHeld hSnew
            have hHeld := hHeld2
            clear hHeld2
            try simp only [List.getElem_toArray, List.getElem_cons_succ, List.getElem_cons_zero, Act.put, List.setIfInBounds_toArray, List.set_cons_zero, List.set_cons_succ]
            refine wpAnyH_done (by kernel_rfl) ?_ _
            clear hCl
            go_wp2_with fail
            go_roundw
            case rel => exact ⟨k + 1, v5, S2, W.set i0 M, by omega, by go_num, (HC5D.out.below hbT).setCells FK _ _, HI2, HRD2, hBW.store hMl (by omega), Lib.hid (HWT.out.next hi16 (by rw [HSEEN2.out, if_pos hi0.symm, HL.out, HM.out]) (fun i hne => by rw [HSEEN2.out, if_neg (by omega)])), below_setCells ((HB5.out.drew).trans (hbT.mono HB5.out.size)) hkwB _ _⟩
            case measure => simp [intOf]; omega
          refine AllReadyH.cons rfl (fun K hK => ?_) ?_
          · skip
            go_simp
            (refine (to_any x.pa A1 c1 x.pd _ hbyW HAT0.out.p.2.2.1 (by omega)).mono ?_; rintro e wb ⟨A', c', rfl, k1', k2', k3', hf, hbl⟩; have hSnew := Mem.gb_below hHeld hbl; replace hBW := Bks.below hBW hbl; have hbT := hbl; have hsl := Rw.sl_byte (hf.mono (fun j hj => hj.2)); clear hf hbl)
            try go_wp2_with fail
            refine hK.out _ _ ?_ (fun hHeld2 => ?_)
            · exact hSnew
            clear hK K hHeld hSnew
            have hHeld := hHeld2
            clear hHeld2
            try simp only [List.getElem_toArray, List.getElem_cons_succ, List.getElem_cons_zero, Act.put, List.setIfInBounds_toArray, List.set_cons_zero, List.set_cons_succ]
            refine wpAnyH_ready (rs := [11]) (by kernel_rfl) (by simp) ?_
            refine AllReadyH.cons rfl (fun K hK => ?_) AllReadyH.nil
            rw [if_pos (by rfl)]
            refine wp_load_mid 38 _ (by rfl) kw (i0 * 256) (by rfl) (blk L).toList _ (hBW.1 i0 L hLg).2 blkUnd rfl hLi ?_; have hSnew := hHeld
            refine hK.out _ _ ?_ (fun hHeld2 => ?_)
            · exact hSnew
            clear hK K hHeld hSnew
            have hHeld := hHeld2
            clear hHeld2
            try simp only [List.getElem_toArray, List.getElem_cons_succ, List.getElem_cons_zero, Act.put, List.setIfInBounds_toArray, List.set_cons_zero, List.set_cons_succ]
            refine wpAnyH_ready (rs := [18]) (by kernel_rfl) (by simp) ?_
            refine AllReadyH.cons rfl (fun K hK => ?_) AllReadyH.nil
            go_simp
            (refine (HCLY.out _ A' c' hsl).mono ?_; rintro e wl ⟨rfl, hbl⟩; have hSnew := Mem.gb_below hHeld hbl; replace hBW := Bks.below hBW hbl; replace hbT := hbT.trans (hbl.mono hbT.size); clear hbl hsl)
            try go_wp2_with fail
            refine hK.out _ _ ?_ (fun hHeld2 => ?_)
            · exact hSnew
            clear hK K hHeld hSnew
            have hHeld := hHeld2
            clear hHeld2
            try simp only [List.getElem_toArray, List.getElem_cons_succ, List.getElem_cons_zero, Act.put, List.setIfInBounds_toArray, List.set_cons_zero, List.set_cons_succ]
            refine Mem.tkY 19 ?v28 (hy := Or.inl ⟨by rfl, ?y28⟩) (hS := by assumption) (h := ?r28)
            case y28 => (intro w hSw; clear hSw; go_simp; try with_reducible rfl)
            case' r28 => skip
            try simp only [List.getElem_toArray, List.getElem_cons_succ, List.getElem_cons_zero, Act.put, List.setIfInBounds_toArray, List.set_cons_zero, List.set_cons_succ]
            refine wpAnyH_ready (rs := [20]) (by kernel_rfl) (by simp) ?_
            refine AllReadyH.cons rfl (fun K hK => ?_) AllReadyH.nil
            rw [if_pos (by rfl)]
            refine wp_store_mid 38 _ _ (by rfl) kw (i0 * 256) (blk M) (by rfl) (by rfl) (fun j hj => by rw [HMS.out] at hj; have h := hBW.2.1 (i0 * 256 + j) (by rw [hWl]; omega); rwa [Nat.zero_add] at h) hMi (blk_one _) ?_; have hSnew := Db.gb_setCells hHeld (i0 * 256) (blk M).toList
            refine hK.out _ _ ?_ (fun hHeld2 => ?_)
            · exact hSnew
            clear hK K hHeld hSnew
            have hHeld := hHeld2
            clear hHeld2
            try simp only [List.getElem_toArray, List.getElem_cons_succ, List.getElem_cons_zero, Act.put, List.setIfInBounds_toArray, List.set_cons_zero, List.set_cons_succ]
            refine wpAnyH_done (by kernel_rfl) ?_ _
            clear hCl
            go_wp2_with fail
            go_roundw
            case rel => exact ⟨k + 1, v5, S2, W.set i0 M, by omega, by go_num, (HC5D.out.below hbT).setCells FK _ _, HI2, HRD2, hBW.store hMl (by omega), Lib.hid (HWT.out.next hi16 (by rw [HSEEN2.out, if_pos hi0.symm, HL.out, HM.out]) (fun i hne => by rw [HSEEN2.out, if_neg (by omega)])), below_setCells ((HB5.out.drew).trans (hbT.mono HB5.out.size)) hkwB _ _⟩
            case measure => simp [intOf]; omega
          exact AllReadyH.nil
        · have HSEEN2 : Hid (∀ i : Nat, seen S2 i = seen S i) := Lib.hid (fun i => by rw [HSEEN.out i, if_neg (fun e => hp ⟨e.1, e.2.1⟩)])
          have HW2 : Hid (Wt W S2) := Lib.hid (HWT.out.same (fun i _ => HSEEN2.out i))
          clear hat5
          by_cases hp0 : x.id = 0
          · have q0 : (x.id == 0) = true := by rw [hp0]; rfl
            have q1 : (E2 == 0) = false := beq_eq_false_iff_ne.2 (fun e => hp ⟨hp0, e⟩)
            clear hp hp0
            go_wp2
            go_roundw
            case rel => exact ⟨k + 1, v5, S2, W, by omega, by go_num, HC5.out, HI2, HRD2, HBK5.out, HW2, HB5.out⟩
            case measure => simp [intOf]; omega
          · have q0 : (x.id == 0) = false := beq_eq_false_iff_ne.2 hp0
            clear hp hp0
            go_wp2
            go_roundw
            case rel => exact ⟨k + 1, v5, S2, W, by omega, by go_num, HC5.out, HI2, HRD2, HBK5.out, HW2, HB5.out⟩
            case measure => simp [intOf]; omega
      · obtain rfl : k = xs.length := by omega
        have CU := Lib.hid (Db.up_any d g S.dv wr hc.dev)
        have HC := Lib.hid hc
        have HBK := Lib.hid hbk
        have HBR := Lib.hid hbr
        clear hc hbk hbr
        go_wp2_with fail
        refine CU.out.mono ?_
        rintro e w5 ⟨rfl, hd5, ha5⟩
        have HC5 := Lib.hid (HC.out.dev' ha5 hd5 (Nat.le_refl _) (fun _ => rfl))
        have HBK5 := Lib.hid (Bks.tn HBK.out (HC.out.tnd ha5) FK)
        have HB5 := Lib.hid (Tn.bel HBR.out (HC.out.tnd ha5) HBD.out)
        have HI5 := Lib.hid (dv_inv HIS.out (dv := { S.dv with fuse := 0, lit := false, off := false }) rfl rfl rfl (up_ok HIS.out.ok))
        have HW5 := Lib.hid (HWT.out.same (t := { S with dv := { S.dv with fuse := 0, lit := false, off := false } }) (fun i _ => rfl))
        have HRD5 := HRD
        clear HC HBK HBR hd5 ha5 CU HIS HWT
        go_wp2_with fail
        go_loopw [9] (fun i wr => ∃ (q : Nat) (v : Value) (S' : St), q ≤ 16 ∧ i = .int .i64 q ∧ Ca wr c d g b N v S' ∧ Hid (Inv S') ∧ Hid (S'.dv.off = false ∧ S'.dv.rd ≤ 20 + q) ∧ Bks wr kw W ∧ Hid (Wt W S') ∧ Below w.heap.size w wr) (fun i _ => 16 - (intOf i).toNat)
        case atStart => exact ⟨0, _, _, by omega, rfl, HC5.out, HI5, Lib.hid ⟨rfl, by have := HRD5.out; show S.dv.rd ≤ _; omega⟩, HBK5.out, HW5, HB5.out⟩
        case round =>
          obtain ⟨q, v, S', hq, rfl, hc, HIS, HRD, hbk, HWT, hbr⟩ := hrel
          by_cases hlt : q < 16
          · have hE := kE_in HIS.out hlt HRD.out.1
            have CG := Get_any (q : Int) ((wf_iff _).2 ⟨by omega, by omega⟩) c d g b N v S' wr hc HIS.out
            rw [hE, gV_seen hE] at CG
            have HI2 := Lib.hid (kS_inv HIS.out (q : Int) (by have := HRD.out.2; omega))
            have HRD2 : Hid ((kS S' q).dv.off = false ∧ (kS S' q).dv.rd ≤ 20 + ((q + 1 : Nat) : Int)) := Lib.hid ⟨by rw [kS_off]; exact HRD.out.1, by have h1 := HRD.out.2; have h2 := (kS_rd S' q).1; omega⟩
            have HW2 : Hid (Wt W (kS S' q)) := Lib.hid (HWT.out.same (fun i _ => seen_kS S' q i))
            have hLg := HWT.out.2 q hlt
            have hfl : (seen S' q).length = 256 := seen_len HIS.out _
            generalize kS S' q = S2 at *
            generalize seen S' q = L at *
            have HCG := Lib.hid CG
            have HBK := Lib.hid hbk
            have HBR := Lib.hid hbr
            clear CG hc hbk hbr hE HC5 HBK5 HB5 HI5 HW5 HRD5
            go_wp2_with fail
            refine HCG.out.mono ?_
            rintro e w6 ⟨rfl, hc6, ht6⟩
            obtain ⟨⟨q1, q2, q3⟩⟩ : Nonempty (_ ∧ _ ∧ _) := ⟨boxed w6 38 (blk zblk) (blk L)⟩
            have b1 := heap_alloc_new w6 (.cells (blk zblk) 38)
            have hB6 := Tn.bel HBR.out ht6 HBD.out
            have hbk6 := Bks.tn HBK.out ht6 FK
            have HC7 := Lib.hid (hc6.below q2)
            have HBK7 := Lib.hid (Bks.below hbk6 q2)
            have HB7 := Lib.hid (hB6.trans (q2.mono hB6.size))
            have k7 := q1
            have hsX : (blk L).size = 256 := by rw [blk_size, hfl]
            clear q1 q2 q3 hc6 ht6 hB6 hbk6 HCG HBR HBK
            go_wp2_with (first
              | (with_reducible refine wpList_allocA rfl 38 rfl _ blkZero ?_)
              | (with_reducible refine wpList_store rfl 38 _ _ rfl _ rfl (blk L) rfl (blk zblk) 38 256 blkSize hsX zblk_size (blk_one _) b1 ?_))
            clear b1
            generalize (w6.alloc (.cells (blk zblk) 38)).setRow w6.heap.size (blk L) = w7 at *
            have r1 : w7.drew.rangeAt kw (q * 256) (blk L).toList := (HBK7.out.1 q L hLg).2
            have hg7 := HBK7.out.2.2
            have k7d := k7.drew
            have hi : (Try.prog.info? 38).map (·.size) = some (blk L).toList.length := blkSizeL L hfl
            have heq : ∀ w, (Op.equalIn 10000 38 (.agg (blk L)) (.agg (blk L))).run Try.prog w = .ok true w := fun w => by rw [run_eq_blk _ _ hfl hfl, decide_eq_true rfl]
            have hgd := blkGuard
            clear k7 hfl hLg hsX
            refine wp_region_held_drew (S := Go.RowKit.Below ((w7.drew).heap.size) (w7.drew)) (by kernel_rfl) ?hb34 (fun hHeld => ?rest34)
            case hb34 =>
              exact Go.RowKit.Below.refl _ _
            case' rest34 => skip
            refine Mem.tkY 0 ?v35 (hy := Or.inl ⟨by rfl, ?y35⟩) (hS := by assumption) (h := ?r35)
            case y35 => (intro w hSw; clear hSw; go_simp; try with_reducible rfl)
            case' r35 => skip
            refine Mem.tkY 1 ?v36 (hy := Or.inl ⟨by rfl, ?y36⟩) (hS := by assumption) (h := ?r36)
            case y36 => (intro w hSw; clear hSw; go_simp; try with_reducible rfl)
            case' r36 => skip
            refine Mem.tkY 2 ?v37 (hy := Or.inl ⟨by rfl, ?y37⟩) (hS := by assumption) (h := ?r37)
            case y37 => (intro w hSw; clear hSw; go_simp; try with_reducible rfl)
            case' r37 => skip
            first
              | refine' wpAnyH_take (i := 3) (v := _) rfl (by kernel_rfl) (by kernel_rfl) (by kernel_rfl) (fun _ _ _ h => h) (yieldsIf_load_mid (by rfl) _ _ rfl _ _ rfl _ _ (fun w hSw => (Mem.bl_row hSw k7d (by first | exact Mem.Row.lt k7d | omega | (simp <;> omega))).range) blkUnd rfl hi) (by assumption) ?rest38
              | refine wpAnyH_take (i := 3) (v := undef) rfl (by kernel_rfl) (by kernel_rfl) (by kernel_rfl) (fun _ _ _ h => h) (Or.inr ⟨by rfl, rfl⟩) (by assumption) ?rest38
            case' rest38 => skip
            try simp only [List.getElem_toArray, List.getElem_cons_succ, List.getElem_cons_zero, Act.put, List.setIfInBounds_toArray, List.set_cons_zero, List.set_cons_succ]
            try simp only [List.getElem_toArray, List.getElem_cons_succ, List.getElem_cons_zero, Act.put, List.setIfInBounds_toArray, List.set_cons_zero, List.set_cons_succ]
            first | refine Mem.tkY 4 undef (hy := Or.inr ⟨by rfl, rfl⟩) (hS := by assumption) (h := ?r39) | (refine Mem.tkY 4 ?v39 (hy := Or.inl ⟨by rfl, ?y39⟩) (hS := by assumption) (h := ?r39); case y39 => (intro w hSw; clear hSw; go_simp; try with_reducible rfl))
            case' r39 => skip
            try simp only [List.getElem_toArray, List.getElem_cons_succ, List.getElem_cons_zero, Act.put, List.setIfInBounds_toArray, List.set_cons_zero, List.set_cons_succ]
            first | refine Mem.tkY 5 undef (hy := Or.inr ⟨by rfl, rfl⟩) (hS := by assumption) (h := ?r40) | (refine Mem.tkY 5 ?v40 (hy := Or.inl ⟨by rfl, ?y40⟩) (hS := by assumption) (h := ?r40); case y40 => (intro w hSw; clear hSw; go_simp; try with_reducible rfl))
            case' r40 => skip
            first
              | refine' wpAnyH_take (i := 6) (v := _) rfl (by kernel_rfl) (by kernel_rfl) (by kernel_rfl) (fun _ _ _ h => h) (yieldsIf_load_mid (by rfl) _ _ rfl _ _ rfl _ _ (fun w hSw => Mem.range_below hSw (by first | omega | (simp <;> omega)) r1) blkUnd rfl hi) (by assumption) ?rest41
              | refine wpAnyH_take (i := 6) (v := undef) rfl (by kernel_rfl) (by kernel_rfl) (by kernel_rfl) (fun _ _ _ h => h) (Or.inr ⟨by rfl, rfl⟩) (by assumption) ?rest41
            case' rest41 => skip
            try simp only [List.getElem_toArray, List.getElem_cons_succ, List.getElem_cons_zero, Act.put, List.setIfInBounds_toArray, List.set_cons_zero, List.set_cons_succ]
            try simp only [List.getElem_toArray, List.getElem_cons_succ, List.getElem_cons_zero, Act.put, List.setIfInBounds_toArray, List.set_cons_zero, List.set_cons_succ]
            first | refine Mem.tkY 7 undef (hy := Or.inr ⟨by rfl, rfl⟩) (hS := by assumption) (h := ?r42) | (refine Mem.tkY 7 ?v42 (hy := Or.inl ⟨by rfl, ?y42⟩) (hS := by assumption) (h := ?r42); case y42 => (intro w hSw; clear hSw; go_simp; try with_reducible rfl))
            case' r42 => skip
            refine Mem.tkY 8 ?v43 (hy := Or.inl ⟨by rfl, ?y43⟩) (hS := by assumption) (h := ?r43)
            case y43 => (intro w hSw; clear hSw; go_simp; try with_reducible rfl)
            case' r43 => skip
            try simp only [List.getElem_toArray, List.getElem_cons_succ, List.getElem_cons_zero, Act.put, List.setIfInBounds_toArray, List.set_cons_zero, List.set_cons_succ]
            refine wpAnyH_done (by kernel_rfl) ?_ _
            go_wp2_with fail
            go_roundw
            case rel => exact ⟨q + 1, v, S2, by omega, by go_num, HC7.out.below ((Below.refl _ _).drew.trans hHeld), HI2, HRD2, Bks.below HBK7.out ((Below.refl _ _).drew.trans hHeld), HW2, HB7.out.trans (((Below.refl _ _).drew.trans hHeld).mono HB7.out.size)⟩
            case measure => simp [intOf]; omega
          · obtain rfl : q = 16 := by omega
            have HBR := Lib.hid hbr
            clear hc hbk hbr
            go_wp2_with (refine (works12 _).mono ?_; rintro e w9 ⟨rfl, hb9⟩)
            go_ret
            exact ⟨rfl, HBR.out.trans (hb9.mono HBR.out.size)⟩
end Go.Proofs.Ytdhgkabbepbgpaa.Cb
