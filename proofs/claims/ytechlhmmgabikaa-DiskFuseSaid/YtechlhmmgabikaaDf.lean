/- DiskFuse. -/
import Derived.Test.YtechlhmmgabikaaDk12
namespace Go.Proofs.Ytechlhmmgabikaa.Dk
open Go.RowKit Go.Proofs.Ytechlhmmgabikaa.Mem Go.Proofs.Ytechlhmmgabikaa.Open Go.Proofs.Ytechlhmmgabikaa.Kind Go.Proofs.Ytechlhmmgabikaa.Blk
set_option linter.unusedVariables false
set_option linter.unusedSimpArgs false
set_option maxHeartbeats 4000000 in
set_option maxRecDepth 100000 in
theorem fuse_walk (fz : Int) (A : Option Addr) (c : Nat) (xs : List StD) (w : World) (hfz : (Lit.int .u8 fz).wf = true) (hx : Sts w A xs) (hc : A = none → c = 0) :
    Calls Try.prog 4 #[.int .u8 fz, .slice A xs.length c] w fun e w' => e = .returned (.bool true) ∧ Below w.heap.size w w' := by
  have hxm := hx.2.1
  unfold M63 at hxm
  obtain ⟨f, rfl, hf⟩ : ∃ f : Nat, fz = f ∧ f < 256 := by
    obtain ⟨l, hl, hb⟩ := u8_nats [fz] (by simpa using hfz)
    match l, hl, hb with
    | [m], hl, hb => simp at hl; exact ⟨m, hl, by simpa using hb⟩
    | [], hl, _ => simp at hl
    | _ :: _ :: _, hl, _ => simp at hl
  clear hfz
  by_cases h6 : 60 < xs.length
  · go_enter Try.func4, Try.ntmps4
    go_wp2_with (go_at_call 11; refine (works_any _).mono ?_; rintro e w' ⟨rfl, hbel2⟩)
    go_ret
    exact ⟨rfl, hbel2⟩
  go_enter Try.func4, Try.ntmps4
  go_wp2_with fail
  refine (new_any 20 20 (.inr (.inl ⟨by omega, by omega, rfl⟩)) w).mono ?_
  rintro e w1 ⟨d, rfl, g, hd, hd1, hg1, hb1⟩
  have hwd : d < w1.heap.size := hd.1.lt
  have hwg : g < w1.heap.size := hd.2.1.2.2
  go_wp2_with fail
  refine (new_any 20 20 (.inr (.inl ⟨by omega, by omega, rfl⟩)) w1).mono ?_
  rintro e w2 ⟨dx, rfl, gx, hdx, hd2, hg2, hb2⟩
  have hdA := hd.keep hb2
  have hb2' := hb1.trans (hb2.mono hb1.size)
  have hs1 := hb1.size
  clear hd hb1 hb2
  have CF := Lib.hid (fun w' h => fuse_any d g (fresh 20) (f : Int) w' h)
  rw [fuse_new] at CF
  go_wp2_with fail
  refine (CF.out w2 hdA).mono ?_
  rintro e w3 ⟨rfl, hdA3, ha3⟩
  have hb3 := Asd.below hb2' ha3 hd1 hg1 (Nat.le_refl _)
  have hdx3 := hdx.other ha3 (by omega) (by omega) (by omega) (by omega)
  clear hdA hdx hb2' ha3 CF
  go_wp2_with fail
  go_loopw [7] (fun i wr => ∃ (k : Nat) (bs : List Nat), k ≤ xs.length ∧ i = .int .i64 k ∧ bs.length = 20 ∧ Dev wr d g (sA f k bs) ∧ Dev wr dx gx (sX (min k f) bs) ∧ Below w.heap.size w wr) (fun i _ => xs.length - (intOf i).toNat)
  case atStart => exact ⟨0, List.replicate 20 0, by omega, rfl, by simp, hdA3, by rw [Nat.zero_min]; exact hdx3, hb3⟩
  case round =>
    obtain ⟨k, bs, hk, rfl, hbl, hdA, hdX, hbr⟩ := hrel
    clear hdA3 hdx3 hb3
    have hbr0 := hbr.size
    have hdl : d < wr.heap.size := hdA.1.lt
    have hgl0 : g < wr.heap.size := hdA.2.1.2.2
    have hdxl : dx < wr.heap.size := hdX.1.lt
    have hgxl : gx < wr.heap.size := hdX.2.1.2.2
    by_cases hlt : k < xs.length
    · obtain ⟨g', o, rfl, hgl⟩ := st_form hx (by omega)
      obtain ⟨c0, c1, c2, ho⟩ := st_at hx k hlt
      have e1 : wr.drew.cell? ⟨g', o + k * 3 + 1, none⟩ = some (.int .i64 xs[k].no) := (hbr.cell (p := ⟨g', o + k * 3 + 1, none⟩) hgl).trans c1
      have e2 : wr.drew.cell? ⟨g', o + k * 3 + 2, none⟩ = some (.int .u8 xs[k].b) := (hbr.cell (p := ⟨g', o + k * 3 + 2, none⟩) hgl).trans c2
      clear c0 c1 c2
      generalize xs[k] = p at *
      obtain ⟨pd, no, pb⟩ := p
      simp only at e1 e2
      have hpb : pb < 256 := ho.2.2
      have HA := Lib.hid hdA
      have HX := Lib.hid hdX
      clear hdA hdX
      go_wp2_with fail
      obtain ⟨i, hi20, hni⟩ := rem20 no
      go_cut [8] (fun s8 w' => ∃ (g8 : Nat), s8 = .pointer (some ⟨g8, 0, none⟩) ∧ Row w' g8 28 (stC 1 i pb) ∧ wr.heap.size ≤ g8 ∧ Below wr.heap.size wr w')
      case first =>
        refine wp_region_held_drew (S := Go.RowKit.Below ((wr.drew).heap.size) (wr.drew)) (by kernel_rfl) ?hb7 (fun hHeld => ?rest7)
        case hb7 =>
          exact Go.RowKit.Below.refl _ _
        case' rest7 => skip
        refine wpAnyH_take (i := 0) (v := ?v8) rfl (by kernel_rfl) (by kernel_rfl) (by kernel_rfl) (fun _ _ _ h => h) (Or.inl ⟨by rfl, ?y8⟩) (by assumption) ?rest8
        case y8 => (intro w hSw; have hT0 := Mem.bl_cell hSw e1 (by first | omega | exact World.block_lt_of_cell? _ _ e1 | (simp <;> omega)); have hT1 := Mem.bl_cell hSw e2 (by first | omega | exact World.block_lt_of_cell? _ _ e2 | (simp <;> omega)); clear hSw; go_simp; try with_reducible rfl)
        case' rest8 => skip
        try simp only [List.getElem_toArray, List.getElem_cons_succ, List.getElem_cons_zero, Act.put, List.setIfInBounds_toArray, List.set_cons_zero, List.set_cons_succ]
        refine wpAnyH_take (i := 1) (v := ?v9) rfl (by kernel_rfl) (by kernel_rfl) (by kernel_rfl) (fun _ _ _ h => h) (Or.inl ⟨by rfl, ?y9⟩) (by assumption) ?rest9
        case y9 => (intro w hSw; have hT0 := Mem.bl_cell hSw e1 (by first | omega | exact World.block_lt_of_cell? _ _ e1 | (simp <;> omega)); have hT1 := Mem.bl_cell hSw e2 (by first | omega | exact World.block_lt_of_cell? _ _ e2 | (simp <;> omega)); clear hSw; go_simp; try with_reducible rfl)
        case' rest9 => skip
        try simp only [List.getElem_toArray, List.getElem_cons_succ, List.getElem_cons_zero, Act.put, List.setIfInBounds_toArray, List.set_cons_zero, List.set_cons_succ]
        refine wpAnyH_take (i := 2) (v := ?v10) rfl (by kernel_rfl) (by kernel_rfl) (by kernel_rfl) (fun _ _ _ h => h) (Or.inl ⟨by rfl, ?y10⟩) (by assumption) ?rest10
        case y10 => (intro w hSw; have hT0 := Mem.bl_cell hSw e1 (by first | omega | exact World.block_lt_of_cell? _ _ e1 | (simp <;> omega)); have hT1 := Mem.bl_cell hSw e2 (by first | omega | exact World.block_lt_of_cell? _ _ e2 | (simp <;> omega)); clear hSw; go_simp; try with_reducible rfl)
        case' rest10 => skip
        try simp only [List.getElem_toArray, List.getElem_cons_succ, List.getElem_cons_zero, Act.put, List.setIfInBounds_toArray, List.set_cons_zero, List.set_cons_succ]
        refine wpAnyH_take (i := 3) (v := ?v11) rfl (by kernel_rfl) (by kernel_rfl) (by kernel_rfl) (fun _ _ _ h => h) (Or.inl ⟨by rfl, ?y11⟩) (by assumption) ?rest11
        case y11 => (intro w hSw; have hT0 := Mem.bl_cell hSw e1 (by first | omega | exact World.block_lt_of_cell? _ _ e1 | (simp <;> omega)); have hT1 := Mem.bl_cell hSw e2 (by first | omega | exact World.block_lt_of_cell? _ _ e2 | (simp <;> omega)); clear hSw; go_simp; try with_reducible rfl)
        case' rest11 => skip
        try simp only [List.getElem_toArray, List.getElem_cons_succ, List.getElem_cons_zero, Act.put, List.setIfInBounds_toArray, List.set_cons_zero, List.set_cons_succ]
        refine wpAnyH_take (i := 4) (v := ?v12) rfl (by kernel_rfl) (by kernel_rfl) (by kernel_rfl) (fun _ _ _ h => h) (Or.inl ⟨by rfl, ?y12⟩) (by assumption) ?rest12
        case y12 => (intro w hSw; have hT0 := Mem.bl_cell hSw e1 (by first | omega | exact World.block_lt_of_cell? _ _ e1 | (simp <;> omega)); have hT1 := Mem.bl_cell hSw e2 (by first | omega | exact World.block_lt_of_cell? _ _ e2 | (simp <;> omega)); clear hSw; go_simp; try with_reducible rfl)
        case' rest12 => skip
        try simp only [List.getElem_toArray, List.getElem_cons_succ, List.getElem_cons_zero, Act.put, List.setIfInBounds_toArray, List.set_cons_zero, List.set_cons_succ]
        refine wpAnyH_take (i := 5) (v := ?v13) rfl (by kernel_rfl) (by kernel_rfl) (by kernel_rfl) (fun _ _ _ h => h) (Or.inl ⟨by rfl, ?y13⟩) (by assumption) ?rest13
        case y13 => (intro w hSw; have hT0 := Mem.bl_cell hSw e1 (by first | omega | exact World.block_lt_of_cell? _ _ e1 | (simp <;> omega)); have hT1 := Mem.bl_cell hSw e2 (by first | omega | exact World.block_lt_of_cell? _ _ e2 | (simp <;> omega)); clear hSw; go_simp; try with_reducible rfl)
        case' rest13 => skip
        try simp only [List.getElem_toArray, List.getElem_cons_succ, List.getElem_cons_zero, Act.put, List.setIfInBounds_toArray, List.set_cons_zero, List.set_cons_succ]
        refine wpAnyH_take (i := 6) (v := ?v14) rfl (by kernel_rfl) (by kernel_rfl) (by kernel_rfl) (fun _ _ _ h => h) (Or.inl ⟨by rfl, ?y14⟩) (by assumption) ?rest14
        case y14 => (intro w hSw; have hT0 := Mem.bl_cell hSw e1 (by first | omega | exact World.block_lt_of_cell? _ _ e1 | (simp <;> omega)); have hT1 := Mem.bl_cell hSw e2 (by first | omega | exact World.block_lt_of_cell? _ _ e2 | (simp <;> omega)); clear hSw; go_simp; try with_reducible rfl)
        case' rest14 => skip
        try simp only [List.getElem_toArray, List.getElem_cons_succ, List.getElem_cons_zero, Act.put, List.setIfInBounds_toArray, List.set_cons_zero, List.set_cons_succ]
        refine wpAnyH_take (i := 7) (v := ?v15) rfl (by kernel_rfl) (by kernel_rfl) (by kernel_rfl) (fun _ _ _ h => h) (Or.inl ⟨by rfl, ?y15⟩) (by assumption) ?rest15
        case y15 => (intro w hSw; have hT0 := Mem.bl_cell hSw e1 (by first | omega | exact World.block_lt_of_cell? _ _ e1 | (simp <;> omega)); have hT1 := Mem.bl_cell hSw e2 (by first | omega | exact World.block_lt_of_cell? _ _ e2 | (simp <;> omega)); clear hSw; go_simp; try with_reducible rfl)
        case' rest15 => skip
        try simp only [List.getElem_toArray, List.getElem_cons_succ, List.getElem_cons_zero, Act.put, List.setIfInBounds_toArray, List.set_cons_zero, List.set_cons_succ]
        refine wpAnyH_take (i := 8) (v := ?v16) rfl (by kernel_rfl) (by kernel_rfl) (by kernel_rfl) (fun _ _ _ h => h) (Or.inl ⟨by rfl, ?y16⟩) (by assumption) ?rest16
        case y16 => (intro w hSw; have hT0 := Mem.bl_cell hSw e1 (by first | omega | exact World.block_lt_of_cell? _ _ e1 | (simp <;> omega)); have hT1 := Mem.bl_cell hSw e2 (by first | omega | exact World.block_lt_of_cell? _ _ e2 | (simp <;> omega)); clear hSw; go_simp; try with_reducible rfl)
        case' rest16 => skip
        try simp only [List.getElem_toArray, List.getElem_cons_succ, List.getElem_cons_zero, Act.put, List.setIfInBounds_toArray, List.set_cons_zero, List.set_cons_succ]
        refine wpAnyH_take (i := 9) (v := ?v17) rfl (by kernel_rfl) (by kernel_rfl) (by kernel_rfl) (fun _ _ _ h => h) (Or.inl ⟨by rfl, ?y17⟩) (by assumption) ?rest17
        case y17 => (intro w hSw; have hT0 := Mem.bl_cell hSw e1 (by first | omega | exact World.block_lt_of_cell? _ _ e1 | (simp <;> omega)); have hT1 := Mem.bl_cell hSw e2 (by first | omega | exact World.block_lt_of_cell? _ _ e2 | (simp <;> omega)); clear hSw; go_simp; try with_reducible rfl)
        case' rest17 => skip
        try simp only [List.getElem_toArray, List.getElem_cons_succ, List.getElem_cons_zero, Act.put, List.setIfInBounds_toArray, List.set_cons_zero, List.set_cons_succ]
        refine wpAnyH_take (i := 10) (v := ?v18) rfl (by kernel_rfl) (by kernel_rfl) (by kernel_rfl) (fun _ _ _ h => h) (Or.inl ⟨by rfl, ?y18⟩) (by assumption) ?rest18
        case y18 => (intro w hSw; have hT0 := Mem.bl_cell hSw e1 (by first | omega | exact World.block_lt_of_cell? _ _ e1 | (simp <;> omega)); have hT1 := Mem.bl_cell hSw e2 (by first | omega | exact World.block_lt_of_cell? _ _ e2 | (simp <;> omega)); clear hSw; go_simp; try with_reducible rfl)
        case' rest18 => skip
        try simp only [List.getElem_toArray, List.getElem_cons_succ, List.getElem_cons_zero, Act.put, List.setIfInBounds_toArray, List.set_cons_zero, List.set_cons_succ]
        refine wpAnyH_take (i := 11) (v := ?v19) rfl (by kernel_rfl) (by kernel_rfl) (by kernel_rfl) (fun _ _ _ h => h) (Or.inl ⟨by rfl, ?y19⟩) (by assumption) ?rest19
        case y19 => (intro w hSw; have hT0 := Mem.bl_cell hSw e1 (by first | omega | exact World.block_lt_of_cell? _ _ e1 | (simp <;> omega)); have hT1 := Mem.bl_cell hSw e2 (by first | omega | exact World.block_lt_of_cell? _ _ e2 | (simp <;> omega)); clear hSw; go_simp; try with_reducible rfl)
        case' rest19 => skip
        try simp only [List.getElem_toArray, List.getElem_cons_succ, List.getElem_cons_zero, Act.put, List.setIfInBounds_toArray, List.set_cons_zero, List.set_cons_succ]
        refine wpAnyH_take (i := 12) (v := ?v20) rfl (by kernel_rfl) (by kernel_rfl) (by kernel_rfl) (fun _ _ _ h => h) (Or.inl ⟨by rfl, ?y20⟩) (by assumption) ?rest20
        case y20 => (intro w hSw; have hT0 := Mem.bl_cell hSw e1 (by first | omega | exact World.block_lt_of_cell? _ _ e1 | (simp <;> omega)); have hT1 := Mem.bl_cell hSw e2 (by first | omega | exact World.block_lt_of_cell? _ _ e2 | (simp <;> omega)); clear hSw; go_simp; try with_reducible rfl)
        case' rest20 => skip
        try simp only [List.getElem_toArray, List.getElem_cons_succ, List.getElem_cons_zero, Act.put, List.setIfInBounds_toArray, List.set_cons_zero, List.set_cons_succ]
        refine wpAnyH_take (i := 13) (v := ?v21) rfl (by kernel_rfl) (by kernel_rfl) (by kernel_rfl) (fun _ _ _ h => h) (Or.inl ⟨by rfl, ?y21⟩) (by assumption) ?rest21
        case y21 => (intro w hSw; have hT0 := Mem.bl_cell hSw e1 (by first | omega | exact World.block_lt_of_cell? _ _ e1 | (simp <;> omega)); have hT1 := Mem.bl_cell hSw e2 (by first | omega | exact World.block_lt_of_cell? _ _ e2 | (simp <;> omega)); clear hSw; go_simp; try with_reducible rfl)
        case' rest21 => skip
        try simp only [List.getElem_toArray, List.getElem_cons_succ, List.getElem_cons_zero, Act.put, List.setIfInBounds_toArray, List.set_cons_zero, List.set_cons_succ]
        refine wpAnyH_ready (rs := [14]) (by kernel_rfl) (by simp) ?_
        refine AllReadyH.cons rfl (fun K hK => ?_) AllReadyH.nil
        rw [if_pos (by rfl)]
        refine wp_allocN 28 (by rfl) _ stZero ?_; intro g8 wa hr8 hbl hg8'; have hg8 : wr.heap.size ≤ g8 := Nat.le_trans hHeld.size hg8'
        have hSnew := Mem.bl_step hHeld hbl (by first | exact Nat.le_refl _ | omega | (simp <;> omega))
        refine hK.out _ _ ?_ (fun hHeld2 => ?_)
        · exact hSnew
        try replace hr8 := hr8.below hbl
        clear hbl
        clear hK K hHeld hSnew
        have hHeld := hHeld2
        clear hHeld2
        try simp only [List.getElem_toArray, List.getElem_cons_succ, List.getElem_cons_zero, Act.put, List.setIfInBounds_toArray, List.set_cons_zero, List.set_cons_succ]
        refine wpAnyH_ready (rs := [15]) (by kernel_rfl) (by simp) ?_
        refine AllReadyH.cons rfl (fun K hK => ?_) AllReadyH.nil
        rw [if_pos (by rfl)]
        refine wp_storeRow _ _ _ (by rfl) g8 (by rfl) (stC 1 i pb) (by rfl) (stC 0 0 0) 28 3 stSize rfl rfl (stC_one _ _ _) hr8 ?_; have hSnew := below_setRow hHeld hg8 (stC 1 i pb); have hr9 := Row.set hr8 (stC 1 i pb)
        refine hK.out _ _ ?_ (fun hHeld2 => ?_)
        · exact hSnew
        clear hK K hHeld hSnew
        have hHeld := hHeld2
        clear hHeld2
        try simp only [List.getElem_toArray, List.getElem_cons_succ, List.getElem_cons_zero, Act.put, List.setIfInBounds_toArray, List.set_cons_zero, List.set_cons_succ]
        refine wpAnyH_done (by kernel_rfl) ?_ _
        go_wp2_with fail
        go_meet
        case rel => exact ⟨g8, rfl, hr9, hg8, (Below.refl _ _).drew.trans hHeld⟩
      case rest =>
        obtain ⟨g8, rfl, hr8, hg8, hb8⟩ := hcut
        have hbc := hbr.trans (hb8.mono hbr.size)
        have hac := HA.out.keep hb8
        have hxc := HX.out.keep hb8
        have hwc := hbc.size
        clear e1 e2 hbr HA HX hb8
        generalize wc = w4 at *
        have CW := Lib.hid (fun w' h => fuse_write bs f k hf (by omega) hbl i pb hi20 d g w' h hpb)
        have CX := Lib.hid (fun w' h => plain_write bs k (by omega) hbl i pb hi20 dx gx w' h hpb)
        have k0 : w4.cell? ⟨g8, 0, none⟩ = some (.int .i64 1) := hr8.cell 0 rfl
        have k1 : w4.cell? ⟨g8, 1, none⟩ = some (.int .i64 i) := hr8.cell 1 rfl
        have k2 : w4.cell? ⟨g8, 2, none⟩ = some (.int .u8 pb) := hr8.cell 2 rfl
        by_cases hkf : k < f
        · rw [if_pos hkf, if_pos hkf] at CW
          rw [Nat.min_eq_left (by omega : k ≤ f)] at hxc
          go_wp2_with fail
          refine (CW.out w4 hac).mono ?_
          rintro e w5 ⟨rfl, ha5, as5⟩
          have hx5 := hxc.other as5 (by omega) (by omega) (by omega) (by omega)
          have hb5 := Asd.below hbc as5 hd1 hg1 (Nat.le_refl _)
          have hr5 := as5.kept hr8 (by omega) (by omega)
          clear hac hxc hbc hr8 as5 k0 k1 k2
          have b1 := heap_alloc_new w5 (.cells (blk zblk) 30)
          have hbn := below_setRow ((Below.refl _ _).alloc (Nat.le_refl _) (.cells (blk zblk) 30)) (Nat.le_refl w5.heap.size) (blk zblk)
          have ha6 := ha5.keep hbn
          have hx6 := hx5.keep hbn
          have hr6 := hr5.below hbn
          have hb6 := hb5.trans (hbn.mono hb5.size)
          have k0 := hr6.cell 0 rfl
          have k1 := hr6.cell 1 rfl
          have k2 := hr6.cell 2 rfl
          clear ha5 hx5 hr5 hb5 hbn
          go_wp2_with (first
            | (with_reducible refine wpList_allocA rfl 30 rfl _ blkZero ?_)
            | (with_reducible refine wpList_store rfl 30 _ _ rfl _ rfl (blk zblk) rfl (blk zblk) 30 256 blkSize zblk_size zblk_size (blk_one _) b1 ?_))
          generalize (w5.alloc (.cells (blk zblk) 30)).setRow w5.heap.size (blk zblk) = w6 at *
          refine (CX.out w6 hx6).mono ?_
          rintro e w7 ⟨rfl, hx7, as7⟩
          have ha7 := ha6.other as7 (by omega) (by omega) (by omega) (by omega)
          have hb7 := Asd.below hb6 as7 (by omega) (by omega) (Nat.le_refl _)
          go_wp2_with fail
          go_roundw
          case rel => exact ⟨k + 1, bs.set i pb, by omega, by go_num, by rw [List.length_set]; exact hbl, ha7, by rw [Nat.min_eq_left (by omega : k + 1 ≤ f)]; exact hx7, hb7⟩
          case measure => simp [intOf]; omega
        · rw [if_neg hkf, if_neg hkf] at CW
          rw [Nat.min_eq_right (by omega : f ≤ k)] at hxc
          go_wp2_with fail
          refine (CW.out w4 hac).mono ?_
          rintro e w5 ⟨rfl, ha5, as5⟩
          have hx5 := hxc.other as5 (by omega) (by omega) (by omega) (by omega)
          have hb5 := Asd.below hbc as5 hd1 hg1 (Nat.le_refl _)
          clear hac hxc hbc hr8 as5 k0 k1 k2
          have b1 := heap_alloc_new w5 (.cells (blk zblk) 30)
          have hbn := below_setRow ((Below.refl _ _).alloc (Nat.le_refl _) (.cells (blk zblk) 30)) (Nat.le_refl w5.heap.size) (blk zblk)
          have ha6 := ha5.keep hbn
          have hx6 := hx5.keep hbn
          have hb6 := hb5.trans (hbn.mono hb5.size)
          clear ha5 hx5 hb5 hbn
          go_wp2_with (first
            | (with_reducible refine wpList_allocA rfl 30 rfl _ blkZero ?_)
            | (with_reducible refine wpList_store rfl 30 _ _ rfl _ rfl (blk zblk) rfl (blk zblk) 30 256 blkSize zblk_size zblk_size (blk_one _) b1 ?_))
          generalize (w5.alloc (.cells (blk zblk) 30)).setRow w5.heap.size (blk zblk) = w6 at *
          go_roundw
          case rel => exact ⟨k + 1, bs, by omega, by go_num, hbl, ha6, by rw [Nat.min_eq_right (by omega : f ≤ k + 1)]; exact hx6, hb6⟩
          case measure => simp [intOf]; omega
    · obtain rfl : k = xs.length := by omega
      clear hx
      have HX := Lib.hid hdX
      have HA := Lib.hid hdA
      clear hdX
      go_wp2_with fail
      refine (image_any d g _ wr hdA (by rw [show (sA f xs.length bs).bs = bs from rfl]; omega) (by rw [show (sA f xs.length bs).bs = bs from rfl]; omega)).mono ?_
      rintro e w4 ⟨ga, ca, rfl, ia4, ga4, ca1, ca2, hb4⟩
      rw [show (sA f xs.length bs).bs = bs from rfl] at ia4 ca1
      rw [show (sA f xs.length bs).bs = bs from rfl, hbl]
      have hx4 := HX.out.keep hb4
      have ha4 := HA.out.keep hb4
      have hb4' := hbr.trans (hb4.mono hbr.size)
      clear HX HA hdA hbr hb4
      go_wp2_with fail
      refine (image_any dx gx _ w4 hx4 (by rw [show (sX (min xs.length f) bs).bs = bs from rfl]; omega) (by rw [show (sX (min xs.length f) bs).bs = bs from rfl]; omega)).mono ?_
      rintro e w5 ⟨gb, cb, rfl, ib5, gb5, cb1, cb2, hb5⟩
      rw [show (sX (min xs.length f) bs).bs = bs from rfl] at ib5 cb1
      rw [show (sX (min xs.length f) bs).bs = bs from rfl, hbl]
      have ia5 := ia4.keep (hb5.block ga ia4.2.2) hb5.size
      have ha5 := ha4.keep hb5
      have hb5' := hb4'.trans (hb5.mono hb4'.size)
      clear hx4 ia4 ha4 hb4' hb5
      have CD := Lib.hid (fun w' h => down_any d g (sA f xs.length bs) w' h)
      rw [show (sA f xs.length bs).off = decide (f < xs.length) from rfl] at CD
      by_cases hfl : f < xs.length
      · rw [decide_eq_true hfl] at CD
        go_wp2_with (refine (CD.out w5 ha5).mono ?_; rintro e w9 ⟨rfl, hw9⟩; subst w9)
        go_loopw [13] (fun j w6 => ∃ q : Nat, q ≤ 20 ∧ j = .int .i64 q ∧ Bks w6 ga bs ∧ Bks w6 gb bs ∧ Below w.heap.size w w6) (fun j _ => 20 - (intOf j).toNat)
        case atStart => exact ⟨0, by omega, rfl, ia5, ib5, hb5'⟩
        case round =>
          obtain ⟨q, hq, rfl, ia6, ib6, hb6⟩ := hrel
          by_cases hq2 : q < 20
          · have hqb : q < bs.length := by omega
            have r1 := ia6.1 q bs[q] (List.getElem?_eq_getElem hqb)
            have r2 := ib6.1 q bs[q] (List.getElem?_eq_getElem hqb)
            generalize bs[q] = x at *
            have hfl : (full x).length = 256 := List.length_replicate
            have hi : (Try.prog.info? 30).map (·.size) = some (blk (full x)).toList.length := by rw [full_len]; exact blkSize
            have heq : ∀ w, (Op.equalIn 10000 30 (.agg (blk (full x))) (.agg (blk (full x)))).run Try.prog w = .ok true w := fun w => by rw [run_eq_blk _ _ hfl hfl, decide_eq_true rfl]
            have hgd := blkGuard
            have IA := Lib.hid ia6
            have IB := Lib.hid ib6
            have HB := Lib.hid hb6
            clear ia6 ib6 hb6
            go_wp2_with fail
            refine wp_region_held_drew (S := fun w' => w'.rangeAt ga (q * 256) (blk (full x)).toList ∧ w'.rangeAt gb (q * 256) (blk (full x)).toList) (by kernel_rfl) ?hb22 (fun hHeld => ?rest22)
            case hb22 =>
              exact ⟨r1, r2⟩
            case' rest22 => skip
            refine wpAnyH_take (i := 0) (v := ?v23) rfl (by kernel_rfl) (by kernel_rfl) (by kernel_rfl) (fun _ _ _ h => h) (Or.inl ⟨by rfl, ?hy23⟩) (by assumption) ?rest23
            case hy23 =>
              intro w hSw
              try dsimp only at hSw
              try go_split_ands
              go_simp
              try with_reducible rfl
            case' rest23 => skip
            try simp only [List.getElem_toArray, List.getElem_cons_succ, List.getElem_cons_zero, Act.put, List.setIfInBounds_toArray, List.set_cons_zero, List.set_cons_succ]
            refine wpAnyH_take (i := 1) (v := ?v24) rfl (by kernel_rfl) (by kernel_rfl) (by kernel_rfl) (fun _ _ _ h => h) (Or.inl ⟨by rfl, ?hy24⟩) (by assumption) ?rest24
            case hy24 =>
              intro w hSw
              try dsimp only at hSw
              try go_split_ands
              go_simp
              try with_reducible rfl
            case' rest24 => skip
            try simp only [List.getElem_toArray, List.getElem_cons_succ, List.getElem_cons_zero, Act.put, List.setIfInBounds_toArray, List.set_cons_zero, List.set_cons_succ]
            refine wpAnyH_take (i := 2) (v := ?v25) rfl (by kernel_rfl) (by kernel_rfl) (by kernel_rfl) (fun _ _ _ h => h) (Or.inl ⟨by rfl, ?hy25⟩) (by assumption) ?rest25
            case hy25 =>
              intro w hSw
              try dsimp only at hSw
              try go_split_ands
              go_simp
              try with_reducible rfl
            case' rest25 => skip
            try simp only [List.getElem_toArray, List.getElem_cons_succ, List.getElem_cons_zero, Act.put, List.setIfInBounds_toArray, List.set_cons_zero, List.set_cons_succ]
            refine' wpAnyH_take (i := 3) (v := _) rfl (by kernel_rfl) (by kernel_rfl) (by kernel_rfl) (fun _ _ _ h => h) (yieldsIf_load_mid (by rfl) _ _ rfl _ _ rfl _ _ ?hS26 ?hu26 ?hd26 ?hi26) (by assumption) ?rest26
            case hS26 =>
              intro w hSw
              try dsimp only at hSw
              try go_split_ands
              assumption
            case hu26 => exact blkUnd
            case hd26 => rfl
            case hi26 => exact hi
            case' rest26 => skip
            try simp only [List.getElem_toArray, List.getElem_cons_succ, List.getElem_cons_zero, Act.put, List.setIfInBounds_toArray, List.set_cons_zero, List.set_cons_succ]
            refine wpAnyH_take (i := 4) (v := ?v27) rfl (by kernel_rfl) (by kernel_rfl) (by kernel_rfl) (fun _ _ _ h => h) (Or.inl ⟨by rfl, ?hy27⟩) (by assumption) ?rest27
            case hy27 =>
              intro w hSw
              try dsimp only at hSw
              try go_split_ands
              go_simp
              try with_reducible rfl
            case' rest27 => skip
            try simp only [List.getElem_toArray, List.getElem_cons_succ, List.getElem_cons_zero, Act.put, List.setIfInBounds_toArray, List.set_cons_zero, List.set_cons_succ]
            refine wpAnyH_take (i := 5) (v := ?v28) rfl (by kernel_rfl) (by kernel_rfl) (by kernel_rfl) (fun _ _ _ h => h) (Or.inl ⟨by rfl, ?hy28⟩) (by assumption) ?rest28
            case hy28 =>
              intro w hSw
              try dsimp only at hSw
              try go_split_ands
              go_simp
              try with_reducible rfl
            case' rest28 => skip
            try simp only [List.getElem_toArray, List.getElem_cons_succ, List.getElem_cons_zero, Act.put, List.setIfInBounds_toArray, List.set_cons_zero, List.set_cons_succ]
            refine wpAnyH_take (i := 6) (v := ?v29) rfl (by kernel_rfl) (by kernel_rfl) (by kernel_rfl) (fun _ _ _ h => h) (Or.inl ⟨by rfl, ?hy29⟩) (by assumption) ?rest29
            case hy29 =>
              intro w hSw
              try dsimp only at hSw
              try go_split_ands
              go_simp
              try with_reducible rfl
            case' rest29 => skip
            try simp only [List.getElem_toArray, List.getElem_cons_succ, List.getElem_cons_zero, Act.put, List.setIfInBounds_toArray, List.set_cons_zero, List.set_cons_succ]
            refine' wpAnyH_take (i := 7) (v := _) rfl (by kernel_rfl) (by kernel_rfl) (by kernel_rfl) (fun _ _ _ h => h) (yieldsIf_load_mid (by rfl) _ _ rfl _ _ rfl _ _ ?hS30 ?hu30 ?hd30 ?hi30) (by assumption) ?rest30
            case hS30 =>
              intro w hSw
              try dsimp only at hSw
              try go_split_ands
              assumption
            case hu30 => exact blkUnd
            case hd30 => rfl
            case hi30 => exact hi
            case' rest30 => skip
            try simp only [List.getElem_toArray, List.getElem_cons_succ, List.getElem_cons_zero, Act.put, List.setIfInBounds_toArray, List.set_cons_zero, List.set_cons_succ]
            refine wpAnyH_take (i := 8) (v := ?v31) rfl (by kernel_rfl) (by kernel_rfl) (by kernel_rfl) (fun _ _ _ h => h) (Or.inl ⟨by rfl, ?hy31⟩) (by assumption) ?rest31
            case hy31 =>
              intro w hSw
              try dsimp only at hSw
              try go_split_ands
              go_simp
              try with_reducible rfl
            case' rest31 => skip
            try simp only [List.getElem_toArray, List.getElem_cons_succ, List.getElem_cons_zero, Act.put, List.setIfInBounds_toArray, List.set_cons_zero, List.set_cons_succ]
            refine wpAnyH_done (by kernel_rfl) ?_ _
            go_wp2_with fail
            go_roundw
            case rel => exact ⟨q + 1, by omega, by go_num, IA.out.keep rfl (Nat.le_refl _), IB.out.keep rfl (Nat.le_refl _), HB.out.drew⟩
            case measure => simp [intOf]; omega
          · obtain rfl : q = 20 := by omega
            go_wp2_with (refine (works_any _).mono ?_; rintro e w9 ⟨rfl, hb9⟩)
            go_ret
            exact ⟨rfl, hb6.trans (hb9.mono hb6.size)⟩
      · rw [decide_eq_false hfl] at CD
        go_wp2_with (refine (CD.out w5 ha5).mono ?_; rintro e w9 ⟨rfl, hw9⟩; subst w9)
        go_loopw [13] (fun j w6 => ∃ q : Nat, q ≤ 20 ∧ j = .int .i64 q ∧ Bks w6 ga bs ∧ Bks w6 gb bs ∧ Below w.heap.size w w6) (fun j _ => 20 - (intOf j).toNat)
        case atStart => exact ⟨0, by omega, rfl, ia5, ib5, hb5'⟩
        case round =>
          obtain ⟨q, hq, rfl, ia6, ib6, hb6⟩ := hrel
          by_cases hq2 : q < 20
          · have hqb : q < bs.length := by omega
            have r1 := ia6.1 q bs[q] (List.getElem?_eq_getElem hqb)
            have r2 := ib6.1 q bs[q] (List.getElem?_eq_getElem hqb)
            generalize bs[q] = x at *
            have hfl : (full x).length = 256 := List.length_replicate
            have hi : (Try.prog.info? 30).map (·.size) = some (blk (full x)).toList.length := by rw [full_len]; exact blkSize
            have heq : ∀ w, (Op.equalIn 10000 30 (.agg (blk (full x))) (.agg (blk (full x)))).run Try.prog w = .ok true w := fun w => by rw [run_eq_blk _ _ hfl hfl, decide_eq_true rfl]
            have hgd := blkGuard
            have IA := Lib.hid ia6
            have IB := Lib.hid ib6
            have HB := Lib.hid hb6
            clear ia6 ib6 hb6
            go_wp2_with fail
            refine wp_region_held_drew (S := fun w' => w'.rangeAt ga (q * 256) (blk (full x)).toList ∧ w'.rangeAt gb (q * 256) (blk (full x)).toList) (by kernel_rfl) ?hb33 (fun hHeld => ?rest33)
            case hb33 =>
              exact ⟨r1, r2⟩
            case' rest33 => skip
            refine wpAnyH_take (i := 0) (v := ?v34) rfl (by kernel_rfl) (by kernel_rfl) (by kernel_rfl) (fun _ _ _ h => h) (Or.inl ⟨by rfl, ?hy34⟩) (by assumption) ?rest34
            case hy34 =>
              intro w hSw
              try dsimp only at hSw
              try go_split_ands
              go_simp
              try with_reducible rfl
            case' rest34 => skip
            try simp only [List.getElem_toArray, List.getElem_cons_succ, List.getElem_cons_zero, Act.put, List.setIfInBounds_toArray, List.set_cons_zero, List.set_cons_succ]
            refine wpAnyH_take (i := 1) (v := ?v35) rfl (by kernel_rfl) (by kernel_rfl) (by kernel_rfl) (fun _ _ _ h => h) (Or.inl ⟨by rfl, ?hy35⟩) (by assumption) ?rest35
            case hy35 =>
              intro w hSw
              try dsimp only at hSw
              try go_split_ands
              go_simp
              try with_reducible rfl
            case' rest35 => skip
            try simp only [List.getElem_toArray, List.getElem_cons_succ, List.getElem_cons_zero, Act.put, List.setIfInBounds_toArray, List.set_cons_zero, List.set_cons_succ]
            refine wpAnyH_take (i := 2) (v := ?v36) rfl (by kernel_rfl) (by kernel_rfl) (by kernel_rfl) (fun _ _ _ h => h) (Or.inl ⟨by rfl, ?hy36⟩) (by assumption) ?rest36
            case hy36 =>
              intro w hSw
              try dsimp only at hSw
              try go_split_ands
              go_simp
              try with_reducible rfl
            case' rest36 => skip
            try simp only [List.getElem_toArray, List.getElem_cons_succ, List.getElem_cons_zero, Act.put, List.setIfInBounds_toArray, List.set_cons_zero, List.set_cons_succ]
            refine' wpAnyH_take (i := 3) (v := _) rfl (by kernel_rfl) (by kernel_rfl) (by kernel_rfl) (fun _ _ _ h => h) (yieldsIf_load_mid (by rfl) _ _ rfl _ _ rfl _ _ ?hS37 ?hu37 ?hd37 ?hi37) (by assumption) ?rest37
            case hS37 =>
              intro w hSw
              try dsimp only at hSw
              try go_split_ands
              assumption
            case hu37 => exact blkUnd
            case hd37 => rfl
            case hi37 => exact hi
            case' rest37 => skip
            try simp only [List.getElem_toArray, List.getElem_cons_succ, List.getElem_cons_zero, Act.put, List.setIfInBounds_toArray, List.set_cons_zero, List.set_cons_succ]
            refine wpAnyH_take (i := 4) (v := ?v38) rfl (by kernel_rfl) (by kernel_rfl) (by kernel_rfl) (fun _ _ _ h => h) (Or.inl ⟨by rfl, ?hy38⟩) (by assumption) ?rest38
            case hy38 =>
              intro w hSw
              try dsimp only at hSw
              try go_split_ands
              go_simp
              try with_reducible rfl
            case' rest38 => skip
            try simp only [List.getElem_toArray, List.getElem_cons_succ, List.getElem_cons_zero, Act.put, List.setIfInBounds_toArray, List.set_cons_zero, List.set_cons_succ]
            refine wpAnyH_take (i := 5) (v := ?v39) rfl (by kernel_rfl) (by kernel_rfl) (by kernel_rfl) (fun _ _ _ h => h) (Or.inl ⟨by rfl, ?hy39⟩) (by assumption) ?rest39
            case hy39 =>
              intro w hSw
              try dsimp only at hSw
              try go_split_ands
              go_simp
              try with_reducible rfl
            case' rest39 => skip
            try simp only [List.getElem_toArray, List.getElem_cons_succ, List.getElem_cons_zero, Act.put, List.setIfInBounds_toArray, List.set_cons_zero, List.set_cons_succ]
            refine wpAnyH_take (i := 6) (v := ?v40) rfl (by kernel_rfl) (by kernel_rfl) (by kernel_rfl) (fun _ _ _ h => h) (Or.inl ⟨by rfl, ?hy40⟩) (by assumption) ?rest40
            case hy40 =>
              intro w hSw
              try dsimp only at hSw
              try go_split_ands
              go_simp
              try with_reducible rfl
            case' rest40 => skip
            try simp only [List.getElem_toArray, List.getElem_cons_succ, List.getElem_cons_zero, Act.put, List.setIfInBounds_toArray, List.set_cons_zero, List.set_cons_succ]
            refine' wpAnyH_take (i := 7) (v := _) rfl (by kernel_rfl) (by kernel_rfl) (by kernel_rfl) (fun _ _ _ h => h) (yieldsIf_load_mid (by rfl) _ _ rfl _ _ rfl _ _ ?hS41 ?hu41 ?hd41 ?hi41) (by assumption) ?rest41
            case hS41 =>
              intro w hSw
              try dsimp only at hSw
              try go_split_ands
              assumption
            case hu41 => exact blkUnd
            case hd41 => rfl
            case hi41 => exact hi
            case' rest41 => skip
            try simp only [List.getElem_toArray, List.getElem_cons_succ, List.getElem_cons_zero, Act.put, List.setIfInBounds_toArray, List.set_cons_zero, List.set_cons_succ]
            refine wpAnyH_take (i := 8) (v := ?v42) rfl (by kernel_rfl) (by kernel_rfl) (by kernel_rfl) (fun _ _ _ h => h) (Or.inl ⟨by rfl, ?hy42⟩) (by assumption) ?rest42
            case hy42 =>
              intro w hSw
              try dsimp only at hSw
              try go_split_ands
              go_simp
              try with_reducible rfl
            case' rest42 => skip
            try simp only [List.getElem_toArray, List.getElem_cons_succ, List.getElem_cons_zero, Act.put, List.setIfInBounds_toArray, List.set_cons_zero, List.set_cons_succ]
            refine wpAnyH_done (by kernel_rfl) ?_ _
            go_wp2_with fail
            go_roundw
            case rel => exact ⟨q + 1, by omega, by go_num, IA.out.keep rfl (Nat.le_refl _), IB.out.keep rfl (Nat.le_refl _), HB.out.drew⟩
            case measure => simp [intOf]; omega
          · obtain rfl : q = 20 := by omega
            go_wp2_with (refine (works_any _).mono ?_; rintro e w9 ⟨rfl, hb9⟩)
            go_ret
            exact ⟨rfl, hb6.trans (hb9.mono hb6.size)⟩
end Go.Proofs.Ytechlhmmgabikaa.Dk
