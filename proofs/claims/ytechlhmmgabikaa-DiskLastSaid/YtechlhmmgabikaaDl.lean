/- DiskLast. -/
import Derived.Test.YtechlhmmgabikaaDk10
namespace Go.Proofs.Ytechlhmmgabikaa.Dk
open Go.RowKit Go.Proofs.Ytechlhmmgabikaa.Mem Go.Proofs.Ytechlhmmgabikaa.Open Go.Proofs.Ytechlhmmgabikaa.Kind Go.Proofs.Ytechlhmmgabikaa.Blk
set_option linter.unusedVariables false
set_option linter.unusedSimpArgs false
theorem last_write (bs : List Nat) (m r : Int) (hm : 0 ≤ m ∧ m ≤ 1000) (hl : bs.length = 20) (no : Int) (x : Nat) (h0 : 0 ≤ no) (h2 : no < 20) (d g : Nat) (w : World) (hd : Dev w d g ⟨bs, 0, false, false, m, 0⟩) (hx : x < 256) :
    Calls Try.prog 13 #[.pointer (some ⟨d, 0, none⟩), .agg (stC 1 no x)] w fun e w' => e = .returned (.tuple #[.agg (blk zblk), .int .i64 0]) ∧ Dev w' d g ⟨bs.set no.toNat x, 0, false, false, m + 1, 0⟩ ∧ Asd d g w w' := by
  have hme : mayE ⟨bs, 0, false, false, m, 0⟩ no = 0 := by
    unfold mayE
    simp only [Bool.false_eq_true, if_false]
    rw [if_neg (by simp only [hl]; omega)]
  have h := do_write d g ⟨bs, 0, false, false, m, 0⟩ no x w hd ⟨by simp only [hl]; omega, by simp only []; omega, by simp only []; omega, by simp, by simp, by simp⟩ hx
  unfold wrE wrS at h
  rw [hme] at h
  simpa using h
theorem last_read (bs : List Nat) (m : Int) (r i : Nat) (hm : 0 ≤ m ∧ m ≤ 1000) (hr : r ≤ 1000) (hl : bs.length = 20) (h2 : i < 20) (d g : Nat) (w : World) (hd : Dev w d g ⟨bs, 0, false, false, m, r⟩) :
    Calls Try.prog 14 #[.pointer (some ⟨d, 0, none⟩), .int .i64 i] w fun e w' => e = .returned (.tuple #[.agg (blk (full (bs.getD i 0))), .int .i64 0]) ∧ Dev w' d g ⟨bs, 0, false, false, m, (r + 1 : Nat)⟩ ∧ Asd d g w w' := by
  have hme : mayE ⟨bs, 0, false, false, m, r⟩ i = 0 := by
    unfold mayE
    simp only [Bool.false_eq_true, if_false]
    rw [if_neg (by simp only [hl]; omega)]
  have h := read_any d g ⟨bs, 0, false, false, m, r⟩ i w hd ⟨by simp only [hl]; omega, by simp only []; omega, by simp only []; omega, by simp only []; omega, by simp only []; omega, by simp⟩
  unfold rdS rdV at h
  rw [hme] at h
  simpa using h
set_option maxHeartbeats 4000000 in
set_option maxRecDepth 100000 in
theorem last_walk (A : Option Addr) (c : Nat) (xs : List StD) (w : World) (hx : Sts w A xs) (hc : A = none → c = 0) :
    Calls Try.prog 3 #[.slice A xs.length c] w fun e w' => e = .returned (.bool true) ∧ Below w.heap.size w w' := by
  have hxm := hx.2.1
  unfold M63 at hxm
  by_cases h6 : 60 < xs.length
  · go_enter Try.func3, Try.ntmps3
    go_wp2_with (go_at_call 11; refine (works_any _).mono ?_; rintro e w' ⟨rfl, hbel2⟩)
    go_ret
    exact ⟨rfl, hbel2⟩
  go_enter Try.func3, Try.ntmps3
  go_wp2_with fail
  refine (new_any 20 20 (.inr (.inl ⟨by omega, by omega, rfl⟩)) w).mono ?_
  rintro e w1 ⟨d, rfl, g, hd, hd1, hg1, hb1⟩
  go_wp2_with (with_reducible refine wpList_allocA rfl 26 rfl _ blk20Zero ?_)
  have hd2 := hd.keep ((Below.refl _ _).alloc (Nat.le_refl _) (.cells (blk z20) 26))
  have rw2 : Row (w1.alloc (.cells (blk z20) 26)) w1.heap.size 26 (blk z20) := Row.new _ _ _
  have hb2 := hb1.alloc hb1.size (.cells (blk z20) 26)
  have hwd : d < w1.heap.size := hd.1.lt
  have hwg : g < w1.heap.size := hd.2.1.2.2
  have hbs := hb1.size
  clear hd hb1
  generalize w1.alloc (.cells (blk z20) 26) = w2 at *
  have T : Hid True := Lib.hid trivial
  go_loopw [5, 6] (fun v i wr => ∃ (k m : Nat) (bs : List Nat), k ≤ xs.length ∧ m ≤ k ∧ i = .int .i64 k ∧ v = .int .i64 m ∧ bs.length = 20 ∧ (∀ x ∈ bs, x < 256) ∧ Dev wr d g ⟨bs, 0, false, false, m, 0⟩ ∧ Row wr w1.heap.size 26 (blk bs) ∧ Below w.heap.size w wr) (fun _ i _ => xs.length - (intOf i).toNat)
  case atStart => exact ⟨0, 0, z20, by omega, by omega, rfl, rfl, by unfold z20; simp, by intro x hx; unfold z20 at hx; rw [List.mem_replicate] at hx; omega, hd2, rw2, hb2⟩
  case round =>
    obtain ⟨k, m, bs, hk, hmk, rfl, rfl, hbl, hbb, hdr, hrw, hbr⟩ := hrel
    have hbr0 := hbr.size
    by_cases hlt : k < xs.length
    · obtain ⟨g', o, rfl, hgl⟩ := st_form hx (by omega)
      obtain ⟨c0, c1, c2, ho⟩ := st_at hx k hlt
      have d0 := (hbr.cell (p := ⟨g', o + k * 3, none⟩) hgl).trans c0
      have d1 := (hbr.cell (p := ⟨g', o + k * 3 + 1, none⟩) hgl).trans c1
      have d2 := (hbr.cell (p := ⟨g', o + k * 3 + 2, none⟩) hgl).trans c2
      clear c0 c1 c2
      generalize xs[k] = p at *
      obtain ⟨pd, no, pb⟩ := p
      simp only at d0 d1 d2
      have hpb : pb < 256 := ho.2.2
      have HDR := Lib.hid hdr
      have HRW := Lib.hid hrw
      clear ho hdr hrw
      by_cases h1 : no < 0
      · go_wp2_with fail
        go_roundw
        case rel => exact ⟨k + 1, m, bs, by omega, by omega, by go_num, rfl, hbl, hbb, HDR.out, HRW.out, hbr⟩
        case measure => simp [intOf]; omega
      by_cases h2 : 20 ≤ no
      · go_wp2_with fail
        go_roundw
        case rel => exact ⟨k + 1, m, bs, by omega, by omega, by go_num, rfl, hbl, hbb, HDR.out, HRW.out, hbr⟩
        case measure => simp [intOf]; omega
      by_cases h3 : pd = 2
      · subst h3
        go_wp2_with fail
        go_roundw
        case rel => exact ⟨k + 1, m, bs, by omega, by omega, by go_num, rfl, hbl, hbb, HDR.out, HRW.out, hbr⟩
        case measure => simp [intOf]; omega
      have hne : (pd == 2) = false := by rw [beq_eq_false_iff_ne]; exact h3
      have CW := Lib.hid (fun w' h => last_write bs m 0 (by omega) hbl no pb (by omega) (by omega) d g w' h hpb)
      go_wp2_with fail
      have hdd := (HDR.out).drew
      have e0 : wr.drew.cell? ⟨g', o + k * 3 + 1, none⟩ = some (.int .i64 no) := d1
      have e1 : wr.drew.cell? ⟨g', o + k * 3 + 2, none⟩ = some (.int .u8 pb) := d2
      have n1 : g' ≠ d := by omega
      have n2 : g' ≠ g := by omega
      have n3 : d < wr.drew.heap.size := hdd.1.lt
      have n4 : g < wr.drew.heap.size := hdd.2.1.2.2
      go_cut [7, 8] (fun s7 s8 w' => ∃ g7, s7 = .pointer (some ⟨g7, 0, none⟩) ∧ s8 = .int .i64 0 ∧ Dev w' d g ⟨bs.set no.toNat pb, 0, false, false, m + 1, 0⟩ ∧ Asd d g wr w')
      case first =>
        refine wp_region_held_drew (S := fun w' => Dk.Asd d g (wr.drew) w') (by kernel_rfl) ?hb8 (fun hHeld => ?rest8)
        case hb8 =>
          exact Dk.Asd.refl _ _ _
        case' rest8 => skip
        refine wpAnyH_take (i := 0) (v := ?v9) rfl (by kernel_rfl) (by kernel_rfl) (by kernel_rfl) (fun _ _ _ h => h) (Or.inl ⟨by rfl, ?y9⟩) (by assumption) ?rest9
        case y9 => (intro w hSw; have hT0 := Dk.Asd.at_ hSw e0 (by dsimp only; omega) (by dsimp only; omega); have hT1 := Dk.Asd.at_ hSw e1 (by dsimp only; omega) (by dsimp only; omega); clear hSw; go_simp; try with_reducible rfl)
        case' rest9 => skip
        try simp only [List.getElem_toArray, List.getElem_cons_succ, List.getElem_cons_zero, Act.put, List.setIfInBounds_toArray, List.set_cons_zero, List.set_cons_succ]
        refine wpAnyH_take (i := 1) (v := ?v10) rfl (by kernel_rfl) (by kernel_rfl) (by kernel_rfl) (fun _ _ _ h => h) (Or.inl ⟨by rfl, ?y10⟩) (by assumption) ?rest10
        case y10 => (intro w hSw; have hT0 := Dk.Asd.at_ hSw e0 (by dsimp only; omega) (by dsimp only; omega); have hT1 := Dk.Asd.at_ hSw e1 (by dsimp only; omega) (by dsimp only; omega); clear hSw; go_simp; try with_reducible rfl)
        case' rest10 => skip
        try simp only [List.getElem_toArray, List.getElem_cons_succ, List.getElem_cons_zero, Act.put, List.setIfInBounds_toArray, List.set_cons_zero, List.set_cons_succ]
        refine wpAnyH_take (i := 2) (v := ?v11) rfl (by kernel_rfl) (by kernel_rfl) (by kernel_rfl) (fun _ _ _ h => h) (Or.inl ⟨by rfl, ?y11⟩) (by assumption) ?rest11
        case y11 => (intro w hSw; have hT0 := Dk.Asd.at_ hSw e0 (by dsimp only; omega) (by dsimp only; omega); have hT1 := Dk.Asd.at_ hSw e1 (by dsimp only; omega) (by dsimp only; omega); clear hSw; go_simp; try with_reducible rfl)
        case' rest11 => skip
        try simp only [List.getElem_toArray, List.getElem_cons_succ, List.getElem_cons_zero, Act.put, List.setIfInBounds_toArray, List.set_cons_zero, List.set_cons_succ]
        refine wpAnyH_take (i := 3) (v := ?v12) rfl (by kernel_rfl) (by kernel_rfl) (by kernel_rfl) (fun _ _ _ h => h) (Or.inl ⟨by rfl, ?y12⟩) (by assumption) ?rest12
        case y12 => (intro w hSw; have hT0 := Dk.Asd.at_ hSw e0 (by dsimp only; omega) (by dsimp only; omega); have hT1 := Dk.Asd.at_ hSw e1 (by dsimp only; omega) (by dsimp only; omega); clear hSw; go_simp; try with_reducible rfl)
        case' rest12 => skip
        try simp only [List.getElem_toArray, List.getElem_cons_succ, List.getElem_cons_zero, Act.put, List.setIfInBounds_toArray, List.set_cons_zero, List.set_cons_succ]
        refine wpAnyH_take (i := 4) (v := ?v13) rfl (by kernel_rfl) (by kernel_rfl) (by kernel_rfl) (fun _ _ _ h => h) (Or.inl ⟨by rfl, ?y13⟩) (by assumption) ?rest13
        case y13 => (intro w hSw; have hT0 := Dk.Asd.at_ hSw e0 (by dsimp only; omega) (by dsimp only; omega); have hT1 := Dk.Asd.at_ hSw e1 (by dsimp only; omega) (by dsimp only; omega); clear hSw; go_simp; try with_reducible rfl)
        case' rest13 => skip
        try simp only [List.getElem_toArray, List.getElem_cons_succ, List.getElem_cons_zero, Act.put, List.setIfInBounds_toArray, List.set_cons_zero, List.set_cons_succ]
        refine wpAnyH_take (i := 5) (v := ?v14) rfl (by kernel_rfl) (by kernel_rfl) (by kernel_rfl) (fun _ _ _ h => h) (Or.inl ⟨by rfl, ?y14⟩) (by assumption) ?rest14
        case y14 => (intro w hSw; have hT0 := Dk.Asd.at_ hSw e0 (by dsimp only; omega) (by dsimp only; omega); have hT1 := Dk.Asd.at_ hSw e1 (by dsimp only; omega) (by dsimp only; omega); clear hSw; go_simp; try with_reducible rfl)
        case' rest14 => skip
        try simp only [List.getElem_toArray, List.getElem_cons_succ, List.getElem_cons_zero, Act.put, List.setIfInBounds_toArray, List.set_cons_zero, List.set_cons_succ]
        refine wpAnyH_take (i := 6) (v := ?v15) rfl (by kernel_rfl) (by kernel_rfl) (by kernel_rfl) (fun _ _ _ h => h) (Or.inl ⟨by rfl, ?y15⟩) (by assumption) ?rest15
        case y15 => (intro w hSw; have hT0 := Dk.Asd.at_ hSw e0 (by dsimp only; omega) (by dsimp only; omega); have hT1 := Dk.Asd.at_ hSw e1 (by dsimp only; omega) (by dsimp only; omega); clear hSw; go_simp; try with_reducible rfl)
        case' rest15 => skip
        try simp only [List.getElem_toArray, List.getElem_cons_succ, List.getElem_cons_zero, Act.put, List.setIfInBounds_toArray, List.set_cons_zero, List.set_cons_succ]
        refine wpAnyH_take (i := 7) (v := ?v16) rfl (by kernel_rfl) (by kernel_rfl) (by kernel_rfl) (fun _ _ _ h => h) (Or.inl ⟨by rfl, ?y16⟩) (by assumption) ?rest16
        case y16 => (intro w hSw; have hT0 := Dk.Asd.at_ hSw e0 (by dsimp only; omega) (by dsimp only; omega); have hT1 := Dk.Asd.at_ hSw e1 (by dsimp only; omega) (by dsimp only; omega); clear hSw; go_simp; try with_reducible rfl)
        case' rest16 => skip
        try simp only [List.getElem_toArray, List.getElem_cons_succ, List.getElem_cons_zero, Act.put, List.setIfInBounds_toArray, List.set_cons_zero, List.set_cons_succ]
        refine wpAnyH_take (i := 8) (v := ?v17) rfl (by kernel_rfl) (by kernel_rfl) (by kernel_rfl) (fun _ _ _ h => h) (Or.inl ⟨by rfl, ?y17⟩) (by assumption) ?rest17
        case y17 => (intro w hSw; have hT0 := Dk.Asd.at_ hSw e0 (by dsimp only; omega) (by dsimp only; omega); have hT1 := Dk.Asd.at_ hSw e1 (by dsimp only; omega) (by dsimp only; omega); clear hSw; go_simp; try with_reducible rfl)
        case' rest17 => skip
        try simp only [List.getElem_toArray, List.getElem_cons_succ, List.getElem_cons_zero, Act.put, List.setIfInBounds_toArray, List.set_cons_zero, List.set_cons_succ]
        refine wpAnyH_take (i := 9) (v := ?v18) rfl (by kernel_rfl) (by kernel_rfl) (by kernel_rfl) (fun _ _ _ h => h) (Or.inl ⟨by rfl, ?y18⟩) (by assumption) ?rest18
        case y18 => (intro w hSw; have hT0 := Dk.Asd.at_ hSw e0 (by dsimp only; omega) (by dsimp only; omega); have hT1 := Dk.Asd.at_ hSw e1 (by dsimp only; omega) (by dsimp only; omega); clear hSw; go_simp; try with_reducible rfl)
        case' rest18 => skip
        try simp only [List.getElem_toArray, List.getElem_cons_succ, List.getElem_cons_zero, Act.put, List.setIfInBounds_toArray, List.set_cons_zero, List.set_cons_succ]
        refine wpAnyH_take (i := 10) (v := ?v19) rfl (by kernel_rfl) (by kernel_rfl) (by kernel_rfl) (fun _ _ _ h => h) (Or.inl ⟨by rfl, ?y19⟩) (by assumption) ?rest19
        case y19 => (intro w hSw; have hT0 := Dk.Asd.at_ hSw e0 (by dsimp only; omega) (by dsimp only; omega); have hT1 := Dk.Asd.at_ hSw e1 (by dsimp only; omega) (by dsimp only; omega); clear hSw; go_simp; try with_reducible rfl)
        case' rest19 => skip
        try simp only [List.getElem_toArray, List.getElem_cons_succ, List.getElem_cons_zero, Act.put, List.setIfInBounds_toArray, List.set_cons_zero, List.set_cons_succ]
        refine wpAnyH_take (i := 11) (v := ?v20) rfl (by kernel_rfl) (by kernel_rfl) (by kernel_rfl) (fun _ _ _ h => h) (Or.inl ⟨by rfl, ?y20⟩) (by assumption) ?rest20
        case y20 => (intro w hSw; have hT0 := Dk.Asd.at_ hSw e0 (by dsimp only; omega) (by dsimp only; omega); have hT1 := Dk.Asd.at_ hSw e1 (by dsimp only; omega) (by dsimp only; omega); clear hSw; go_simp; try with_reducible rfl)
        case' rest20 => skip
        try simp only [List.getElem_toArray, List.getElem_cons_succ, List.getElem_cons_zero, Act.put, List.setIfInBounds_toArray, List.set_cons_zero, List.set_cons_succ]
        refine wpAnyH_ready (rs := [12, 16]) (by kernel_rfl) (by simp) ?_
        refine AllReadyH.cons rfl (fun K hK => ?_) ?_
        · skip
          go_simp
          (refine (CW.out _ hdd).mono ?_; rintro e wb ⟨rfl, dvb, ab⟩; have hSnew := hHeld.trans ab; (try replace hr6 := ab.kept hr6 (by omega) (by omega)); clear hdd; have hdd := dvb; clear dvb ab)
          try go_wp2_with fail
          refine hK.out _ _ ?_ (fun hHeld2 => ?_)
          · exact hSnew
          clear hK K hHeld hSnew
          have hHeld := hHeld2
          clear hHeld2
          try simp only [List.getElem_toArray, List.getElem_cons_succ, List.getElem_cons_zero, Act.put, List.setIfInBounds_toArray, List.set_cons_zero, List.set_cons_succ]
          refine wpAnyH_take (i := 13) (v := ?v21) rfl (by kernel_rfl) (by kernel_rfl) (by kernel_rfl) (fun _ _ _ h => h) (Or.inl ⟨by rfl, ?y21⟩) (by assumption) ?rest21
          case y21 => (intro w hSw; have hT0 := Dk.Asd.at_ hSw e0 (by dsimp only; omega) (by dsimp only; omega); have hT1 := Dk.Asd.at_ hSw e1 (by dsimp only; omega) (by dsimp only; omega); clear hSw; go_simp; try with_reducible rfl)
          case' rest21 => skip
          try simp only [List.getElem_toArray, List.getElem_cons_succ, List.getElem_cons_zero, Act.put, List.setIfInBounds_toArray, List.set_cons_zero, List.set_cons_succ]
          refine wpAnyH_take (i := 14) (v := ?v22) rfl (by kernel_rfl) (by kernel_rfl) (by kernel_rfl) (fun _ _ _ h => h) (Or.inl ⟨by rfl, ?y22⟩) (by assumption) ?rest22
          case y22 => (intro w hSw; have hT0 := Dk.Asd.at_ hSw e0 (by dsimp only; omega) (by dsimp only; omega); have hT1 := Dk.Asd.at_ hSw e1 (by dsimp only; omega) (by dsimp only; omega); clear hSw; go_simp; try with_reducible rfl)
          case' rest22 => skip
          try simp only [List.getElem_toArray, List.getElem_cons_succ, List.getElem_cons_zero, Act.put, List.setIfInBounds_toArray, List.set_cons_zero, List.set_cons_succ]
          refine wpAnyH_take (i := 15) (v := ?v23) rfl (by kernel_rfl) (by kernel_rfl) (by kernel_rfl) (fun _ _ _ h => h) (Or.inl ⟨by rfl, ?y23⟩) (by assumption) ?rest23
          case y23 => (intro w hSw; have hT0 := Dk.Asd.at_ hSw e0 (by dsimp only; omega) (by dsimp only; omega); have hT1 := Dk.Asd.at_ hSw e1 (by dsimp only; omega) (by dsimp only; omega); clear hSw; go_simp; try with_reducible rfl)
          case' rest23 => skip
          try simp only [List.getElem_toArray, List.getElem_cons_succ, List.getElem_cons_zero, Act.put, List.setIfInBounds_toArray, List.set_cons_zero, List.set_cons_succ]
          refine wpAnyH_ready (rs := [16]) (by kernel_rfl) (by simp) ?_
          refine AllReadyH.cons rfl (fun K hK => ?_) AllReadyH.nil
          rw [if_pos (by rfl)]
          refine wp_allocN 30 (by rfl) _ blkZero ?_; intro g6 wa hr6 hbl hg6'; have hg6 : wr.drew.heap.size ≤ g6 := Nat.le_trans hHeld.size hg6'
          have hSnew := hHeld.trans (Dk.Asd.of hbl)
          refine hK.out _ _ ?_ (fun hHeld2 => ?_)
          · exact hSnew
          try replace hdd := hdd.below hbl
          try replace hr6 := hr6.below hbl
          clear hbl
          clear hK K hHeld hSnew
          have hHeld := hHeld2
          clear hHeld2
          try simp only [List.getElem_toArray, List.getElem_cons_succ, List.getElem_cons_zero, Act.put, List.setIfInBounds_toArray, List.set_cons_zero, List.set_cons_succ]
          refine wpAnyH_ready (rs := [17]) (by kernel_rfl) (by simp) ?_
          refine AllReadyH.cons rfl (fun K hK => ?_) AllReadyH.nil
          rw [if_pos (by rfl)]
          refine wp_storeRow _ _ _ (by rfl) g6 (by rfl) (blk zblk) (by rfl) (blk zblk) 30 256 blkSize zblk_size zblk_size (blk_one _) hr6 ?_; have hSnew := Asd.row hHeld hg6 (blk zblk); have hdd := hdd.row (k := g6) (by omega) (by omega) (blk zblk)
          refine hK.out _ _ ?_ (fun hHeld2 => ?_)
          · exact hSnew
          clear hK K hHeld hSnew
          have hHeld := hHeld2
          clear hHeld2
          try simp only [List.getElem_toArray, List.getElem_cons_succ, List.getElem_cons_zero, Act.put, List.setIfInBounds_toArray, List.set_cons_zero, List.set_cons_succ]
          refine wpAnyH_take (i := 18) (v := ?v24) rfl (by kernel_rfl) (by kernel_rfl) (by kernel_rfl) (fun _ _ _ h => h) (Or.inl ⟨by rfl, ?y24⟩) (by assumption) ?rest24
          case y24 => (intro w hSw; have hT0 := Dk.Asd.at_ hSw e0 (by dsimp only; omega) (by dsimp only; omega); have hT1 := Dk.Asd.at_ hSw e1 (by dsimp only; omega) (by dsimp only; omega); clear hSw; go_simp; try with_reducible rfl)
          case' rest24 => skip
          try simp only [List.getElem_toArray, List.getElem_cons_succ, List.getElem_cons_zero, Act.put, List.setIfInBounds_toArray, List.set_cons_zero, List.set_cons_succ]
          refine wpAnyH_done (by kernel_rfl) ?_ _
          go_wp2_with fail
          go_meet
          case rel => exact ⟨g6, rfl, rfl, hdd, (Asd.refl d g wr).drew.trans hHeld⟩
        refine AllReadyH.cons rfl (fun K hK => ?_) ?_
        · skip
          rw [if_pos (by rfl)]
          refine wp_allocN 30 (by rfl) _ blkZero ?_; intro g6 wa hr6 hbl hg6'; have hg6 : wr.drew.heap.size ≤ g6 := Nat.le_trans hHeld.size hg6'
          have hSnew := hHeld.trans (Dk.Asd.of hbl)
          refine hK.out _ _ ?_ (fun hHeld2 => ?_)
          · exact hSnew
          try replace hdd := hdd.below hbl
          try replace hr6 := hr6.below hbl
          clear hbl
          clear hK K hHeld hSnew
          have hHeld := hHeld2
          clear hHeld2
          try simp only [List.getElem_toArray, List.getElem_cons_succ, List.getElem_cons_zero, Act.put, List.setIfInBounds_toArray, List.set_cons_zero, List.set_cons_succ]
          refine wpAnyH_ready (rs := [12]) (by kernel_rfl) (by simp) ?_
          refine AllReadyH.cons rfl (fun K hK => ?_) AllReadyH.nil
          go_simp
          (refine (CW.out _ hdd).mono ?_; rintro e wb ⟨rfl, dvb, ab⟩; have hSnew := hHeld.trans ab; (try replace hr6 := ab.kept hr6 (by omega) (by omega)); clear hdd; have hdd := dvb; clear dvb ab)
          try go_wp2_with fail
          refine hK.out _ _ ?_ (fun hHeld2 => ?_)
          · exact hSnew
          clear hK K hHeld hSnew
          have hHeld := hHeld2
          clear hHeld2
          try simp only [List.getElem_toArray, List.getElem_cons_succ, List.getElem_cons_zero, Act.put, List.setIfInBounds_toArray, List.set_cons_zero, List.set_cons_succ]
          refine wpAnyH_take (i := 13) (v := ?v25) rfl (by kernel_rfl) (by kernel_rfl) (by kernel_rfl) (fun _ _ _ h => h) (Or.inl ⟨by rfl, ?y25⟩) (by assumption) ?rest25
          case y25 => (intro w hSw; have hT0 := Dk.Asd.at_ hSw e0 (by dsimp only; omega) (by dsimp only; omega); have hT1 := Dk.Asd.at_ hSw e1 (by dsimp only; omega) (by dsimp only; omega); clear hSw; go_simp; try with_reducible rfl)
          case' rest25 => skip
          try simp only [List.getElem_toArray, List.getElem_cons_succ, List.getElem_cons_zero, Act.put, List.setIfInBounds_toArray, List.set_cons_zero, List.set_cons_succ]
          refine wpAnyH_take (i := 14) (v := ?v26) rfl (by kernel_rfl) (by kernel_rfl) (by kernel_rfl) (fun _ _ _ h => h) (Or.inl ⟨by rfl, ?y26⟩) (by assumption) ?rest26
          case y26 => (intro w hSw; have hT0 := Dk.Asd.at_ hSw e0 (by dsimp only; omega) (by dsimp only; omega); have hT1 := Dk.Asd.at_ hSw e1 (by dsimp only; omega) (by dsimp only; omega); clear hSw; go_simp; try with_reducible rfl)
          case' rest26 => skip
          try simp only [List.getElem_toArray, List.getElem_cons_succ, List.getElem_cons_zero, Act.put, List.setIfInBounds_toArray, List.set_cons_zero, List.set_cons_succ]
          refine wpAnyH_take (i := 15) (v := ?v27) rfl (by kernel_rfl) (by kernel_rfl) (by kernel_rfl) (fun _ _ _ h => h) (Or.inl ⟨by rfl, ?y27⟩) (by assumption) ?rest27
          case y27 => (intro w hSw; have hT0 := Dk.Asd.at_ hSw e0 (by dsimp only; omega) (by dsimp only; omega); have hT1 := Dk.Asd.at_ hSw e1 (by dsimp only; omega) (by dsimp only; omega); clear hSw; go_simp; try with_reducible rfl)
          case' rest27 => skip
          try simp only [List.getElem_toArray, List.getElem_cons_succ, List.getElem_cons_zero, Act.put, List.setIfInBounds_toArray, List.set_cons_zero, List.set_cons_succ]
          refine wpAnyH_ready (rs := [17]) (by kernel_rfl) (by simp) ?_
          refine AllReadyH.cons rfl (fun K hK => ?_) AllReadyH.nil
          rw [if_pos (by rfl)]
          refine wp_storeRow _ _ _ (by rfl) g6 (by rfl) (blk zblk) (by rfl) (blk zblk) 30 256 blkSize zblk_size zblk_size (blk_one _) hr6 ?_; have hSnew := Asd.row hHeld hg6 (blk zblk); have hdd := hdd.row (k := g6) (by omega) (by omega) (blk zblk)
          refine hK.out _ _ ?_ (fun hHeld2 => ?_)
          · exact hSnew
          clear hK K hHeld hSnew
          have hHeld := hHeld2
          clear hHeld2
          try simp only [List.getElem_toArray, List.getElem_cons_succ, List.getElem_cons_zero, Act.put, List.setIfInBounds_toArray, List.set_cons_zero, List.set_cons_succ]
          refine wpAnyH_take (i := 18) (v := ?v28) rfl (by kernel_rfl) (by kernel_rfl) (by kernel_rfl) (fun _ _ _ h => h) (Or.inl ⟨by rfl, ?y28⟩) (by assumption) ?rest28
          case y28 => (intro w hSw; have hT0 := Dk.Asd.at_ hSw e0 (by dsimp only; omega) (by dsimp only; omega); have hT1 := Dk.Asd.at_ hSw e1 (by dsimp only; omega) (by dsimp only; omega); clear hSw; go_simp; try with_reducible rfl)
          case' rest28 => skip
          try simp only [List.getElem_toArray, List.getElem_cons_succ, List.getElem_cons_zero, Act.put, List.setIfInBounds_toArray, List.set_cons_zero, List.set_cons_succ]
          refine wpAnyH_done (by kernel_rfl) ?_ _
          go_wp2_with fail
          go_meet
          case rel => exact ⟨g6, rfl, rfl, hdd, (Asd.refl d g wr).drew.trans hHeld⟩
        exact AllReadyH.nil
      case rest =>
        obtain ⟨g7, rfl, rfl, dv7, as7⟩ := hcut
        obtain ⟨i, rfl⟩ : ∃ i : Nat, no = i := ⟨no.toNat, by omega⟩
        rw [Int.toNat_natCast] at dv7
        have hi20 : i < 20 := by omega
        have rw7 := as7.kept HRW.out (by omega) (by omega)
        have hb7 := Asd.below hbr as7 hd1 hg1 (Nat.le_refl _)
        have f1 : wc.cell? ⟨g', o + k * 3 + 1, none⟩ = some (.int .i64 i) := as7.at_ d1 (by dsimp only; omega) (by dsimp only; omega)
        have f2 : wc.cell? ⟨g', o + k * 3 + 2, none⟩ = some (.int .u8 pb) := as7.at_ d2 (by dsimp only; omega) (by dsimp only; omega)
        have f1 : wc.drew.cell? ⟨g', o + k * 3 + 1, none⟩ = some (.int .i64 i) := f1
        have f2 : wc.drew.cell? ⟨g', o + k * 3 + 2, none⟩ = some (.int .u8 pb) := f2
        have f3 : wc.drew.frozen? ⟨w1.heap.size, i, none⟩ = false := rw7.frozen i
        have f4 : wc.drew.cell? ⟨w1.heap.size, i, none⟩ = _ := rw7.cell i (blk_get bs i (by omega))
        obtain ⟨v4, f4⟩ : ∃ v, wc.drew.cell? ⟨w1.heap.size, i, none⟩ = some v := ⟨_, f4⟩
        have hn7 : g' ≠ w1.heap.size := by omega
        have DV := Lib.hid (dv7.far (k := w1.heap.size) (by omega) (by omega) i (.int .u8 pb))
        have RW := Lib.hid (rw7.put i (.int .u8 pb))
        rw [blk_set] at RW
        have HB := Lib.hid (hb7.setCell (p := ⟨w1.heap.size, i, none⟩) (by show w.heap.size ≤ w1.heap.size; omega) (.int .u8 pb))
        have HBB := Lib.hid (fun x (h : x ∈ bs.set i pb) => (List.mem_or_eq_of_mem_set h).elim (hbb x) (fun e => by rw [e]; exact hpb))
        clear d0 d1 d2 e0 e1 hdd HDR HRW dv7 rw7 hb7 as7 hbr CW hbb
        go_wp2_with fail
        refine wp_region_held_drew (S := fun w' => World.grownBy (wc.drew) w' (some (w1.heap.size))) (by kernel_rfl) ?hb35 (fun hHeld => ?rest35)
        case hb35 =>
          exact Mem.gb_refl _ _
        case' rest35 => skip
        refine wpAnyH_take (i := 0) (v := ?v36) rfl (by kernel_rfl) (by kernel_rfl) (by kernel_rfl) (fun _ _ _ h => h) (Or.inl ⟨by rfl, ?y36⟩) (by assumption) ?rest36
        case y36 => (intro w hSw; have hT0 := Mem.gb_cell hSw f1 (by intro e; injection e with e; dsimp only at e; omega); have hT1 := Mem.gb_cell hSw f2 (by intro e; injection e with e; dsimp only at e; omega); clear hSw; go_simp; try with_reducible rfl)
        case' rest36 => skip
        try simp only [List.getElem_toArray, List.getElem_cons_succ, List.getElem_cons_zero, Act.put, List.setIfInBounds_toArray, List.set_cons_zero, List.set_cons_succ]
        refine wpAnyH_take (i := 1) (v := ?v37) rfl (by kernel_rfl) (by kernel_rfl) (by kernel_rfl) (fun _ _ _ h => h) (Or.inl ⟨by rfl, ?y37⟩) (by assumption) ?rest37
        case y37 => (intro w hSw; have hT0 := Mem.gb_cell hSw f1 (by intro e; injection e with e; dsimp only at e; omega); have hT1 := Mem.gb_cell hSw f2 (by intro e; injection e with e; dsimp only at e; omega); clear hSw; go_simp; try with_reducible rfl)
        case' rest37 => skip
        try simp only [List.getElem_toArray, List.getElem_cons_succ, List.getElem_cons_zero, Act.put, List.setIfInBounds_toArray, List.set_cons_zero, List.set_cons_succ]
        refine wpAnyH_take (i := 2) (v := ?v38) rfl (by kernel_rfl) (by kernel_rfl) (by kernel_rfl) (fun _ _ _ h => h) (Or.inl ⟨by rfl, ?y38⟩) (by assumption) ?rest38
        case y38 => (intro w hSw; have hT0 := Mem.gb_cell hSw f1 (by intro e; injection e with e; dsimp only at e; omega); have hT1 := Mem.gb_cell hSw f2 (by intro e; injection e with e; dsimp only at e; omega); clear hSw; go_simp; try with_reducible rfl)
        case' rest38 => skip
        try simp only [List.getElem_toArray, List.getElem_cons_succ, List.getElem_cons_zero, Act.put, List.setIfInBounds_toArray, List.set_cons_zero, List.set_cons_succ]
        refine wpAnyH_take (i := 3) (v := ?v39) rfl (by kernel_rfl) (by kernel_rfl) (by kernel_rfl) (fun _ _ _ h => h) (Or.inl ⟨by rfl, ?y39⟩) (by assumption) ?rest39
        case y39 => (intro w hSw; have hT0 := Mem.gb_cell hSw f1 (by intro e; injection e with e; dsimp only at e; omega); have hT1 := Mem.gb_cell hSw f2 (by intro e; injection e with e; dsimp only at e; omega); clear hSw; go_simp; try with_reducible rfl)
        case' rest39 => skip
        try simp only [List.getElem_toArray, List.getElem_cons_succ, List.getElem_cons_zero, Act.put, List.setIfInBounds_toArray, List.set_cons_zero, List.set_cons_succ]
        refine wpAnyH_take (i := 4) (v := ?v40) rfl (by kernel_rfl) (by kernel_rfl) (by kernel_rfl) (fun _ _ _ h => h) (Or.inl ⟨by rfl, ?y40⟩) (by assumption) ?rest40
        case y40 => (intro w hSw; have hT0 := Mem.gb_cell hSw f1 (by intro e; injection e with e; dsimp only at e; omega); have hT1 := Mem.gb_cell hSw f2 (by intro e; injection e with e; dsimp only at e; omega); clear hSw; go_simp; try with_reducible rfl)
        case' rest40 => skip
        try simp only [List.getElem_toArray, List.getElem_cons_succ, List.getElem_cons_zero, Act.put, List.setIfInBounds_toArray, List.set_cons_zero, List.set_cons_succ]
        refine wpAnyH_take (i := 5) (v := ?v41) rfl (by kernel_rfl) (by kernel_rfl) (by kernel_rfl) (fun _ _ _ h => h) (Or.inl ⟨by rfl, ?y41⟩) (by assumption) ?rest41
        case y41 => (intro w hSw; have hT0 := Mem.gb_cell hSw f1 (by intro e; injection e with e; dsimp only at e; omega); have hT1 := Mem.gb_cell hSw f2 (by intro e; injection e with e; dsimp only at e; omega); clear hSw; go_simp; try with_reducible rfl)
        case' rest41 => skip
        try simp only [List.getElem_toArray, List.getElem_cons_succ, List.getElem_cons_zero, Act.put, List.setIfInBounds_toArray, List.set_cons_zero, List.set_cons_succ]
        refine wpAnyH_take (i := 6) (v := ?v42) rfl (by kernel_rfl) (by kernel_rfl) (by kernel_rfl) (fun _ _ _ h => h) (Or.inl ⟨by rfl, ?y42⟩) (by assumption) ?rest42
        case y42 => (intro w hSw; have hT0 := Mem.gb_cell hSw f1 (by intro e; injection e with e; dsimp only at e; omega); have hT1 := Mem.gb_cell hSw f2 (by intro e; injection e with e; dsimp only at e; omega); clear hSw; go_simp; try with_reducible rfl)
        case' rest42 => skip
        try simp only [List.getElem_toArray, List.getElem_cons_succ, List.getElem_cons_zero, Act.put, List.setIfInBounds_toArray, List.set_cons_zero, List.set_cons_succ]
        refine wpAnyH_take (i := 7) (v := ?v43) rfl (by kernel_rfl) (by kernel_rfl) (by kernel_rfl) (fun _ _ _ h => h) (Or.inl ⟨by rfl, ?y43⟩) (by assumption) ?rest43
        case y43 => (intro w hSw; have hT0 := Mem.gb_cell hSw f1 (by intro e; injection e with e; dsimp only at e; omega); have hT1 := Mem.gb_cell hSw f2 (by intro e; injection e with e; dsimp only at e; omega); clear hSw; go_simp; try with_reducible rfl)
        case' rest43 => skip
        try simp only [List.getElem_toArray, List.getElem_cons_succ, List.getElem_cons_zero, Act.put, List.setIfInBounds_toArray, List.set_cons_zero, List.set_cons_succ]
        refine wpAnyH_take (i := 8) (v := ?v44) rfl (by kernel_rfl) (by kernel_rfl) (by kernel_rfl) (fun _ _ _ h => h) (Or.inl ⟨by rfl, ?y44⟩) (by assumption) ?rest44
        case y44 => (intro w hSw; have hT0 := Mem.gb_cell hSw f1 (by intro e; injection e with e; dsimp only at e; omega); have hT1 := Mem.gb_cell hSw f2 (by intro e; injection e with e; dsimp only at e; omega); clear hSw; go_simp; try with_reducible rfl)
        case' rest44 => skip
        try simp only [List.getElem_toArray, List.getElem_cons_succ, List.getElem_cons_zero, Act.put, List.setIfInBounds_toArray, List.set_cons_zero, List.set_cons_succ]
        refine wpAnyH_take (i := 9) (v := ?v45) rfl (by kernel_rfl) (by kernel_rfl) (by kernel_rfl) (fun _ _ _ h => h) (Or.inl ⟨by rfl, ?y45⟩) (by assumption) ?rest45
        case y45 => (intro w hSw; have hT0 := Mem.gb_cell hSw f1 (by intro e; injection e with e; dsimp only at e; omega); have hT1 := Mem.gb_cell hSw f2 (by intro e; injection e with e; dsimp only at e; omega); clear hSw; go_simp; try with_reducible rfl)
        case' rest45 => skip
        try simp only [List.getElem_toArray, List.getElem_cons_succ, List.getElem_cons_zero, Act.put, List.setIfInBounds_toArray, List.set_cons_zero, List.set_cons_succ]
        refine wpAnyH_take (i := 10) (v := ?v46) rfl (by kernel_rfl) (by kernel_rfl) (by kernel_rfl) (fun _ _ _ h => h) (Or.inl ⟨by rfl, ?y46⟩) (by assumption) ?rest46
        case y46 => (intro w hSw; have hT0 := Mem.gb_cell hSw f1 (by intro e; injection e with e; dsimp only at e; omega); have hT1 := Mem.gb_cell hSw f2 (by intro e; injection e with e; dsimp only at e; omega); clear hSw; go_simp; try with_reducible rfl)
        case' rest46 => skip
        try simp only [List.getElem_toArray, List.getElem_cons_succ, List.getElem_cons_zero, Act.put, List.setIfInBounds_toArray, List.set_cons_zero, List.set_cons_succ]
        refine wpAnyH_ready (rs := [11]) (by kernel_rfl) (by simp) ?_
        refine AllReadyH.cons rfl (fun K hK => ?_) AllReadyH.nil
        go_simp
        have hSnew := Mem.gb_setCell hHeld i (.int .u8 pb)
        try go_wp2_with fail
        refine hK.out _ _ ?_ (fun hHeld2 => ?_)
        · exact hSnew
        clear hK K hHeld hSnew
        have hHeld := hHeld2
        clear hHeld2
        try simp only [List.getElem_toArray, List.getElem_cons_succ, List.getElem_cons_zero, Act.put, List.setIfInBounds_toArray, List.set_cons_zero, List.set_cons_succ]
        refine wpAnyH_done (by kernel_rfl) ?_ _
        go_wp2_with fail
        go_roundw
        case rel => exact ⟨k + 1, m + 1, bs.set i pb, by omega, by omega, by go_num, by go_num, by rw [List.length_set]; exact hbl, HBB.out, DV.out, RW.out, HB.out.drew⟩
        case measure => simp [intOf]; omega
    · obtain rfl : k = xs.length := by omega
      have HBB := Lib.hid hbb
      have HX0 := Lib.hid hbr
      clear hbb hbr hx
      go_wp2_with fail
      go_loopw [9] (fun j w5 => ∃ (q : Nat), q ≤ 20 ∧ j = .int .i64 q ∧ Dev w5 d g ⟨bs, 0, false, false, m, q⟩ ∧ Row w5 w1.heap.size 26 (blk bs) ∧ Below w.heap.size w w5) (fun j _ => 20 - (intOf j).toNat)
      case atStart => exact ⟨0, by omega, rfl, by first | exact hdr | exact hdr.drew, by first | exact hrw | exact hrw.drew, by first | exact HX0.out | exact HX0.out.drew⟩
      case round =>
        obtain ⟨q, hq, rfl, hd5, hr5, hb5⟩ := hrel
        have hb50 := hb5.size
        by_cases hq2 : q < 20
        · have CR := Lib.hid (fun w' h => last_read bs m q q (by omega) (by omega) hbl hq2 d g w' h)
          have hxb : bs[q] < 256 := HBB.out _ (List.getElem_mem (by omega))
          rw [List.getD_eq_getElem?_getD, List.getElem?_eq_getElem (by omega)] at CR
          have hcell := blk_get bs q (by omega)
          simp only [Option.getD_some] at CR
          generalize bs[q] = x at *
          go_wp2_with fail
          refine (CR.out wr hd5).mono ?_
          rintro e w6 ⟨rfl, hd6, ha6⟩
          have hb6 := Asd.below hb5 ha6 hd1 hg1 (Nat.le_refl _)
          have hr6 := ha6.kept hr5 (by omega) (by omega)
          have hw6 := ha6.size
          have hsX : (blk (full x)).size = 256 := by rw [blk_size, List.length_replicate]
          have b1 := heap_alloc_new w6 (.cells (blk zblk) 30)
          have hd7 := hd6.keep (below_setRow ((Below.refl _ _).alloc (Nat.le_refl _) (.cells (blk zblk) 30)) (Nat.le_refl w6.heap.size) (blk (full x)))
          have hr7 := Row.below hr6 (below_setRow ((Below.refl _ _).alloc (Nat.le_refl _) (.cells (blk zblk) 30)) (Nat.le_refl w6.heap.size) (blk (full x)))
          have hb7 := hb6.trans ((below_setRow ((Below.refl _ _).alloc (Nat.le_refl _) (.cells (blk zblk) 30)) (Nat.le_refl w6.heap.size) (blk (full x))).mono hb6.size)
          have k7 : Row ((w6.alloc (.cells (blk zblk) 30)).setRow w6.heap.size (blk (full x))) w6.heap.size 30 (blk (full x)) := Row.set b1 _
          clear CR hd5 hr5 hb5 ha6 hd6 hb6 hr6
          go_wp2_with (first
            | (with_reducible refine wpList_allocA rfl 30 rfl _ blkZero ?_)
            | (with_reducible refine wpList_store rfl 30 _ _ rfl _ rfl (blk (full x)) rfl (blk zblk) 30 256 blkSize hsX zblk_size (blk_one _) b1 ?_))
          generalize (w6.alloc (.cells (blk zblk) 30)).setRow w6.heap.size (blk (full x)) = w7 at *
          have k7d := k7.drew
          have c7 : w7.drew.cell? ⟨w1.heap.size, q, none⟩ = some (.int .u8 x) := hr7.cell q hcell
          have hfl : (full x).length = 256 := List.length_replicate
          have hi : (Try.prog.info? 30).map (·.size) = some (blk (full x)).toList.length := by rw [full_len]; exact blkSize
          have heq : ∀ w, (Op.equalIn 10000 30 (.agg (blk (full x))) (.agg (blk (full x)))).run Try.prog w = .ok true w := fun w => by rw [run_eq_blk _ _ hfl hfl, decide_eq_true rfl]
          have hgd := blkGuard
          have HD := Lib.hid hd7
          have HR := Lib.hid hr7
          have HB := Lib.hid hb7
          clear hd7 hr7 hb7 k7
          refine wp_region_held_drew (S := Go.RowKit.Below ((w7.drew).heap.size) (w7.drew)) (by kernel_rfl) ?hb53 (fun hHeld => ?rest53)
          case hb53 =>
            exact Go.RowKit.Below.refl _ _
          case' rest53 => skip
          refine wpAnyH_take (i := 0) (v := ?v54) rfl (by kernel_rfl) (by kernel_rfl) (by kernel_rfl) (fun _ _ _ h => h) (Or.inl ⟨by rfl, ?y54⟩) (by assumption) ?rest54
          case y54 => (intro w hSw; have hT0 := Mem.bl_cell hSw c7 (by first | omega | exact World.block_lt_of_cell? _ _ c7 | (simp <;> omega)); clear hSw; go_simp; try with_reducible rfl)
          case' rest54 => skip
          try simp only [List.getElem_toArray, List.getElem_cons_succ, List.getElem_cons_zero, Act.put, List.setIfInBounds_toArray, List.set_cons_zero, List.set_cons_succ]
          refine wpAnyH_take (i := 1) (v := ?v55) rfl (by kernel_rfl) (by kernel_rfl) (by kernel_rfl) (fun _ _ _ h => h) (Or.inl ⟨by rfl, ?y55⟩) (by assumption) ?rest55
          case y55 => (intro w hSw; have hT0 := Mem.bl_cell hSw c7 (by first | omega | exact World.block_lt_of_cell? _ _ c7 | (simp <;> omega)); clear hSw; go_simp; try with_reducible rfl)
          case' rest55 => skip
          try simp only [List.getElem_toArray, List.getElem_cons_succ, List.getElem_cons_zero, Act.put, List.setIfInBounds_toArray, List.set_cons_zero, List.set_cons_succ]
          refine wpAnyH_take (i := 2) (v := ?v56) rfl (by kernel_rfl) (by kernel_rfl) (by kernel_rfl) (fun _ _ _ h => h) (Or.inl ⟨by rfl, ?y56⟩) (by assumption) ?rest56
          case y56 => (intro w hSw; have hT0 := Mem.bl_cell hSw c7 (by first | omega | exact World.block_lt_of_cell? _ _ c7 | (simp <;> omega)); clear hSw; go_simp; try with_reducible rfl)
          case' rest56 => skip
          try simp only [List.getElem_toArray, List.getElem_cons_succ, List.getElem_cons_zero, Act.put, List.setIfInBounds_toArray, List.set_cons_zero, List.set_cons_succ]
          first
            | refine' wpAnyH_take (i := 3) (v := _) rfl (by kernel_rfl) (by kernel_rfl) (by kernel_rfl) (fun _ _ _ h => h) (yieldsIf_load_mid (by rfl) _ _ rfl _ _ rfl _ _ (fun w hSw => (Mem.bl_row hSw k7d (by first | exact Mem.Row.lt k7d | omega | (simp <;> omega))).range) blkUnd rfl hi) (by assumption) ?rest57
            | refine wpAnyH_take (i := 3) (v := undef) rfl (by kernel_rfl) (by kernel_rfl) (by kernel_rfl) (fun _ _ _ h => h) (Or.inr ⟨by rfl, rfl⟩) (by assumption) ?rest57
          case' rest57 => skip
          try simp only [List.getElem_toArray, List.getElem_cons_succ, List.getElem_cons_zero, Act.put, List.setIfInBounds_toArray, List.set_cons_zero, List.set_cons_succ]
          first
            | refine wpAnyH_take (i := 4) (v := undef) rfl (by kernel_rfl) (by kernel_rfl) (by kernel_rfl) (fun _ _ _ h => h) (Or.inr ⟨by rfl, rfl⟩) (by assumption) ?rest58
            | (refine wpAnyH_take (i := 4) (v := ?v58) rfl (by kernel_rfl) (by kernel_rfl) (by kernel_rfl) (fun _ _ _ h => h) (Or.inl ⟨by rfl, ?y58⟩) (by assumption) ?rest58; case y58 => (intro w hSw; have hT0 := Mem.bl_cell hSw c7 (by first | omega | exact World.block_lt_of_cell? _ _ c7 | (simp <;> omega)); clear hSw; go_simp; try with_reducible rfl))
          case' rest58 => skip
          try simp only [List.getElem_toArray, List.getElem_cons_succ, List.getElem_cons_zero, Act.put, List.setIfInBounds_toArray, List.set_cons_zero, List.set_cons_succ]
          first
            | refine wpAnyH_take (i := 5) (v := undef) rfl (by kernel_rfl) (by kernel_rfl) (by kernel_rfl) (fun _ _ _ h => h) (Or.inr ⟨by rfl, rfl⟩) (by assumption) ?rest59
            | (refine wpAnyH_take (i := 5) (v := ?v59) rfl (by kernel_rfl) (by kernel_rfl) (by kernel_rfl) (fun _ _ _ h => h) (Or.inl ⟨by rfl, ?y59⟩) (by assumption) ?rest59; case y59 => (intro w hSw; have hT0 := Mem.bl_cell hSw c7 (by first | omega | exact World.block_lt_of_cell? _ _ c7 | (simp <;> omega)); clear hSw; go_simp; try with_reducible rfl))
          case' rest59 => skip
          try simp only [List.getElem_toArray, List.getElem_cons_succ, List.getElem_cons_zero, Act.put, List.setIfInBounds_toArray, List.set_cons_zero, List.set_cons_succ]
          first
            | refine wpAnyH_take (i := 6) (v := undef) rfl (by kernel_rfl) (by kernel_rfl) (by kernel_rfl) (fun _ _ _ h => h) (Or.inr ⟨by rfl, rfl⟩) (by assumption) ?rest60
            | (refine wpAnyH_take (i := 6) (v := ?v60) rfl (by kernel_rfl) (by kernel_rfl) (by kernel_rfl) (fun _ _ _ h => h) (Or.inl ⟨by rfl, ?y60⟩) (by assumption) ?rest60; case y60 => (intro w hSw; have hT0 := Mem.bl_cell hSw c7 (by first | omega | exact World.block_lt_of_cell? _ _ c7 | (simp <;> omega)); clear hSw; go_simp; try with_reducible rfl))
          case' rest60 => skip
          try simp only [List.getElem_toArray, List.getElem_cons_succ, List.getElem_cons_zero, Act.put, List.setIfInBounds_toArray, List.set_cons_zero, List.set_cons_succ]
          refine wpAnyH_ready (rs := [7]) (by kernel_rfl) (by simp) ?_
          refine AllReadyH.cons rfl (fun K hK => ?_) AllReadyH.nil
          go_simp
          (refine (full_any x hxb _).mono ?_; rintro e wb ⟨rfl, hbl⟩)
          try go_wp2_with fail
          have hSnew := Mem.bl_step hHeld hbl (by first | exact Nat.le_refl _ | omega | (simp <;> omega))
          refine hK.out _ _ ?_ (fun hHeld2 => ?_)
          · exact hSnew
          clear hbl
          clear hK K hHeld hSnew
          have hHeld := hHeld2
          clear hHeld2
          try simp only [List.getElem_toArray, List.getElem_cons_succ, List.getElem_cons_zero, Act.put, List.setIfInBounds_toArray, List.set_cons_zero, List.set_cons_succ]
          first
            | refine wpAnyH_take (i := 8) (v := undef) rfl (by kernel_rfl) (by kernel_rfl) (by kernel_rfl) (fun _ _ _ h => h) (Or.inr ⟨by rfl, rfl⟩) (by assumption) ?rest61
            | (refine wpAnyH_take (i := 8) (v := ?v61) rfl (by kernel_rfl) (by kernel_rfl) (by kernel_rfl) (fun _ _ _ h => h) (Or.inl ⟨by rfl, ?y61⟩) (by assumption) ?rest61; case y61 => (intro w hSw; have hT0 := Mem.bl_cell hSw c7 (by first | omega | exact World.block_lt_of_cell? _ _ c7 | (simp <;> omega)); clear hSw; go_simp; try with_reducible rfl))
          case' rest61 => skip
          try simp only [List.getElem_toArray, List.getElem_cons_succ, List.getElem_cons_zero, Act.put, List.setIfInBounds_toArray, List.set_cons_zero, List.set_cons_succ]
          refine wpAnyH_take (i := 9) (v := ?v62) rfl (by kernel_rfl) (by kernel_rfl) (by kernel_rfl) (fun _ _ _ h => h) (Or.inl ⟨by rfl, ?y62⟩) (by assumption) ?rest62
          case y62 => (intro w hSw; have hT0 := Mem.bl_cell hSw c7 (by first | omega | exact World.block_lt_of_cell? _ _ c7 | (simp <;> omega)); clear hSw; go_simp; try with_reducible rfl)
          case' rest62 => skip
          try simp only [List.getElem_toArray, List.getElem_cons_succ, List.getElem_cons_zero, Act.put, List.setIfInBounds_toArray, List.set_cons_zero, List.set_cons_succ]
          refine wpAnyH_done (by kernel_rfl) ?_ _
          go_wp2_with fail
          go_roundw
          case rel => exact ⟨q + 1, by omega, by go_num, HD.out.keep ((Below.refl _ _).drew.trans hHeld), HR.out.below ((Below.refl _ _).drew.trans hHeld), HB.out.trans (((Below.refl _ _).drew.trans hHeld).mono HB.out.size)⟩
          case measure => simp [intOf]; omega
        · obtain rfl : q = 20 := by omega
          go_wp2_with fail
          refine (writes_any d g _ _ hd5).mono ?_
          rintro e w9 ⟨rfl, hw9⟩
          subst w9
          go_wp2_with fail
          refine (reads_any d g _ _ hd5).mono ?_
          rintro e w9 ⟨rfl, hw9⟩
          subst w9
          go_wp2_with fail
          refine (works_any _).mono ?_
          rintro e w9 ⟨rfl, hb9⟩
          go_wp2
          go_ret
          exact ⟨rfl, hb5.trans (hb9.mono hb5.size)⟩
end Go.Proofs.Ytechlhmmgabikaa.Dk
