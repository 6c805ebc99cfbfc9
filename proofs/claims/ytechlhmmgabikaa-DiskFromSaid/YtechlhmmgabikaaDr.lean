/- DiskFrom. -/
import Derived.Test.YtechlhmmgabikaaDm
namespace Go.Proofs.Ytechlhmmgabikaa.Dk
open Go.RowKit Go.Proofs.Ytechlhmmgabikaa.Mem Go.Proofs.Ytechlhmmgabikaa.Open Go.Proofs.Ytechlhmmgabikaa.Kind Go.Proofs.Ytechlhmmgabikaa.Blk Go.Proofs.Ytechlhmmgabikaa.App
set_option linter.unusedVariables false
set_option linter.unusedSimpArgs false
theorem boxed (w : World) (T : TypeId) (z cs : Array Value) : Row ((w.alloc (.cells z T)).setRow w.heap.size cs) w.heap.size T cs ∧ Below w.heap.size w ((w.alloc (.cells z T)).setRow w.heap.size cs) ∧ w.heap.size < ((w.alloc (.cells z T)).setRow w.heap.size cs).heap.size :=
  ⟨(Row.new w T z).set cs, below_setRow ((Below.refl _ _).alloc (Nat.le_refl _) _) (Nat.le_refl _) cs, by simp⟩
theorem zc : Try.zeroCells30 = blk zblk := by kernel_rfl
set_option maxHeartbeats 1000000 in
set_option maxRecDepth 100000 in
theorem from_walk (A : Option Addr) (n c : Nat) (bs : List Nat) (no : Int) (w : World) (hx : Sl w V8 A n bs) (hbb : ∀ x ∈ bs, x < 256) (hno : (Lit.int .i64 no).wf = true) :
    Calls Try.prog 6 #[.slice A n c, .int .i64 no] w fun e w' => e = .returned (.bool true) ∧ Below w.heap.size w w' := by
  obtain rfl : n = bs.length := hx.1.symm
  have hxm := hx.2.1
  by_cases h6 : 600 < bs.length
  · go_enter Try.func6, Try.ntmps6
    go_wp2_with (go_at_call 11; refine (works_any _).mono ?_; rintro e w' ⟨rfl, hbel2⟩)
    go_ret
    exact ⟨rfl, hbel2⟩
  have T : Hid True := Lib.hid trivial
  go_enter Try.func6, Try.ntmps6
  go_wp2_with fail
  go_loopw [5, 6] (fun v i wr => ∃ k : Nat, k ≤ bs.length ∧ i = .int .i64 k ∧ OwnK kBlk wr w.heap.size 30 v (bs.take k) ∧ Below w.heap.size w wr) (fun _ i _ => bs.length - (intOf i).toNat)
  case atStart => exact ⟨0, by omega, rfl, OwnK.nil _ _ _ _, Below.refl _ _⟩
  case round =>
    obtain ⟨k, hk, rfl, hown, hbr⟩ := hrel
    by_cases hlt : k < bs.length
    · obtain ⟨ad, rfl, hadl, hcell⟩ := hx.at_ (i := k) (by omega)
      have hc1 := (hbr.cell (p := ad.add k) (by rw [show (ad.add k).block = ad.block from by unfold Addr.add; split <;> rfl]; exact hadl)).trans hcell
      have hxb : bs[k] < 256 := hbb _ (List.getElem_mem (by omega))
      have htake : bs.take (k + 1) = bs.take k ++ [bs[k]] := by rw [List.take_add_one, List.getElem?_eq_getElem (by omega)]; rfl
      have HT := Lib.hid htake
      clear htake
      generalize bs[k] = x at *
      have hl : (bs.take k).length = k := by rw [List.length_take]; omega
      have hfl : (blk (full x)).size = 256 := by rw [blk_size, List.length_replicate]
      have mk : ∀ wb, Below wr.heap.size wr wb → Row (wb.alloc (.cells (blk (full x)) 30)) wb.heap.size 30 (blk (full x)).toList.toArray ∧ OwnK kBlk (wb.alloc (.cells (blk (full x)) 30)) w.heap.size 30 u5 (bs.take k) ∧ Below w.heap.size w (wb.alloc (.cells (blk (full x)) 30)) := fun wb hbl =>
        ⟨by rw [Array.toArray_toList]; exact Row.new wb _ _, (hown.below hbl).alloc (.cells (blk (full x)) 30), (hbr.trans (hbl.mono hbr.size)).alloc (Nat.le_trans hbr.size hbl.size) (.cells (blk (full x)) 30)⟩
      have MK := Lib.hid mk
      clear mk hown hbr
      have hS : ∀ (w : World) (b : Nat), False → some b ≠ u5.ownBlock ∧ b < w.heap.size := fun _ _ h => h.elim
      have hKx : ∀ w, kBlk.K w (fun _ => False) x (blk (full x)).toList := fun _ => rfl
      go_wp2_with (first
        | (go_at_call 15; refine (full_any x hxb _).mono ?_; rintro e wb ⟨rfl, hbl⟩; obtain ⟨hrow, hownb, hbb2⟩ := MK.out wb hbl; have HBB := Lib.hid hbb2)
        | (with_reducible refine wpList_build1 rfl 41 30 _ rfl 256 256 (.agg (blk zblk)) (blk (full x)) rfl hfl (by omega) (by omega) Try.underlying41 blkInfo3 ?_)
        | (at_builtin; go_loud (refine wpList_appK (k := kBlk) rfl _ _ 41 rfl (.agg (blk zblk)) 256 Try.underlying41 blkInfo3 zblk_size (by decide) rfl _ _ rfl hownb 30 (blk (full x)).toList hrow x (fun _ => False) (hKx _) (hS _) (by rw [hl]; omega) (by rw [hl]; omega) hbb2.size ?_); intro v3 w3 hown3 hg3 hat3; have hb3 := HBB.out.grown hg3 hbb2.size (fun q hq => (hownb.lt q hq).1); have HB3 := Lib.hid hb3; have HO3 := Lib.hid hown3; clear hown3 hownb hg3 hat3 hb3 hrow hbb2 HBB))
      go_roundw
      case rel => exact ⟨k + 1, by omega, by go_num, by rw [HT.out]; exact HO3.out, HB3.out⟩
      case measure => simp [intOf]; omega
    · obtain rfl : k = bs.length := by omega
      rw [List.take_of_length_le (by omega)] at hown
      obtain ⟨A5, c5, rfl, hc5, hc6, hc7, hrw5⟩ := hown.rw_
      have hb5 := hbr
      have CWn := Lib.hid (fun w' => write_nil no 0 w')
      rw [zfull, ← zc] at CWn
      by_cases hcase : bs.length < 16 ∨ 512 < bs.length
      · have CF := Lib.hid (fun w' => from_no A5 bs.length c5 hcase w')
        go_wp2_with fail
        refine (CF.out wr).mono ?_
        rintro e wF ⟨rfl, hwF⟩
        have hbF : Below w.heap.size w wF := by rw [hwF]; exact hb5
        clear hwF CF hrw5 hown
        go_wp2_with fail
        refine (read_nil no wF).mono ?_
        rintro e w7 ⟨rfl, hb7⟩
        obtain ⟨⟨q1, q2, q3⟩⟩ : Nonempty (_ ∧ _ ∧ _) := ⟨boxed w7 30 (blk zblk) (blk zblk)⟩
        have b1 := heap_alloc_new w7 (.cells (blk zblk) 30)
        have HB := Lib.hid ((hbF.trans (hb7.mono hbF.size)).trans (q2.mono (Nat.le_trans hbF.size hb7.size)))
        have HF := Lib.hid (hb7.trans (q2.mono hb7.size))
        clear q1 q2 q3 hbF
        go_wp2_with (first
            | (with_reducible refine wpList_allocA rfl 30 rfl _ blkZero ?_)
            | (with_reducible refine wpList_store rfl 30 _ _ rfl _ rfl (blk zblk) rfl (blk zblk) 30 256 blkSize zblk_size zblk_size (blk_one _) b1 ?_))
        clear b1 hb7
        generalize (w7.alloc (.cells (blk zblk) 30)).setRow w7.heap.size (blk zblk) = w8 at *
        refine (fuse_nil no w8).mono ?_
        rintro e wx ⟨rfl, hwx⟩
        subst wx
        go_wp2_with fail
        refine (up_nil w8).mono ?_
        rintro e wx ⟨rfl, hwx⟩
        subst wx
        go_wp2_with fail
        refine (CWn.out w8).mono ?_
        rintro e w9 ⟨rfl, hb9⟩
        have HB9 := Lib.hid (HB.out.trans (hb9.mono HB.out.size))
        have HF9 := Lib.hid (HF.out.trans (hb9.mono HF.out.size))
        clear hb9 HB HF
        go_wp2_with fail
        refine (down_nil w9).mono ?_
        rintro e wx ⟨rfl, hwx⟩
        subst wx
        go_wp2_with fail
        refine (size_nil w9).mono ?_
        rintro e wx ⟨rfl, hwx⟩
        subst wx
        go_wp2_with fail
        refine (writes_nil w9).mono ?_
        rintro e wx ⟨rfl, hwx⟩
        subst wx
        go_wp2_with fail
        refine (reads_nil w9).mono ?_
        rintro e wx ⟨rfl, hwx⟩
        subst wx
        go_wp2_with fail
        refine (image_nil w9).mono ?_
        rintro e wx ⟨rfl, hwx⟩
        subst wx
        have hb10 := HB9.out
        rcases hcase with hcase | hcase
        · go_wp2_with (refine (works_any _).mono ?_; rintro e w' ⟨rfl, hbel2⟩)
          go_ret
          exact ⟨rfl, hb10.trans (hbel2.mono hb10.size)⟩
        · go_wp2_with (refine (works_any _).mono ?_; rintro e w' ⟨rfl, hbel2⟩)
          go_ret
          exact ⟨rfl, hb10.trans (hbel2.mono hb10.size)⟩
      · obtain ⟨g5, c6, e5, h51, h52, hbk, hg5⟩ := own_bks hown (by omega)
        injection e5 with e51 e52 e53
        subst e51 e53
        have CF := Lib.hid (fun w' h => from_any g5 c5 bs w' h (by omega) (by omega))
        clear hown hrw5 h51 h52 hc7
        have HBK := Lib.hid hbk
        clear hbk
        go_wp2_with fail
        refine (CF.out wr HBK.out).mono ?_
        rintro e wF ⟨d, rfl, g', cd, hdv, hd1, hg1, hbx⟩
        have hbk0 := HBK.out
        have hgl := hbk0.2.2
        have HBKF := Lib.hid (hbk0.keep (hbx.block g5 hgl) hbx.size)
        have hbF := hb5.trans (hbx.mono hb5.size)
        have hsF := hbx.size
        have HDF := Lib.hid hdv
        clear CF hbk0 hdv hbx
        go_wp2_with fail
        refine (read_nil no wF).mono ?_
        rintro e w7 ⟨rfl, hb7⟩
        obtain ⟨⟨q1, q2, q3⟩⟩ : Nonempty (_ ∧ _ ∧ _) := ⟨boxed w7 30 (blk zblk) (blk zblk)⟩
        have b1 := heap_alloc_new w7 (.cells (blk zblk) 30)
        have HB := Lib.hid ((hbF.trans (hb7.mono hbF.size)).trans (q2.mono (Nat.le_trans hbF.size hb7.size)))
        have HF := Lib.hid (hb7.trans (q2.mono hb7.size))
        clear q1 q2 q3 hbF
        go_wp2_with (first
            | (with_reducible refine wpList_allocA rfl 30 rfl _ blkZero ?_)
            | (with_reducible refine wpList_store rfl 30 _ _ rfl _ rfl (blk zblk) rfl (blk zblk) 30 256 blkSize zblk_size zblk_size (blk_one _) b1 ?_))
        clear b1 hb7
        generalize (w7.alloc (.cells (blk zblk) 30)).setRow w7.heap.size (blk zblk) = w8 at *
        refine (fuse_nil no w8).mono ?_
        rintro e wx ⟨rfl, hwx⟩
        subst wx
        go_wp2_with fail
        refine (up_nil w8).mono ?_
        rintro e wx ⟨rfl, hwx⟩
        subst wx
        go_wp2_with fail
        refine (CWn.out w8).mono ?_
        rintro e w9 ⟨rfl, hb9⟩
        have HB9 := Lib.hid (HB.out.trans (hb9.mono HB.out.size))
        have HF9 := Lib.hid (HF.out.trans (hb9.mono HF.out.size))
        clear hb9 HB HF
        go_wp2_with fail
        refine (down_nil w9).mono ?_
        rintro e wx ⟨rfl, hwx⟩
        subst wx
        go_wp2_with fail
        refine (size_nil w9).mono ?_
        rintro e wx ⟨rfl, hwx⟩
        subst wx
        go_wp2_with fail
        refine (writes_nil w9).mono ?_
        rintro e wx ⟨rfl, hwx⟩
        subst wx
        go_wp2_with fail
        refine (reads_nil w9).mono ?_
        rintro e wx ⟨rfl, hwx⟩
        subst wx
        go_wp2_with fail
        refine (image_nil w9).mono ?_
        rintro e wx ⟨rfl, hwx⟩
        subst wx
        have hd9 := HDF.out.keep HF9.out
        have hk9 := HBKF.out.keep (HF9.out.block g5 (by omega)) HF9.out.size
        have hlen : 16 ≤ bs.length ∧ bs.length ≤ 512 := by omega
        have CS := Lib.hid (size_any d g' ⟨bs, 0, false, false, 0, 0, cd⟩ w9 hd9)
        have CD := Lib.hid (down_any d g' ⟨bs, 0, false, false, 0, 0, cd⟩ w9 hd9)
        have CR := Lib.hid (read_any d g' ⟨bs, 0, false, false, 0, 0, cd⟩ no w9 hd9 ⟨by simp only []; omega, by simp, by simp, by simp, by simp, by simp⟩)
        have HK9 := Lib.hid hk9
        clear hd9 hk9
        simp only at CS CD
        go_wp2_with fail
        refine CS.out.mono ?_
        rintro e wx ⟨rfl, hwx⟩
        subst wx
        go_wp2_with fail
        refine CD.out.mono ?_
        rintro e wx ⟨rfl, hwx⟩
        subst wx
        have hme : mayE ⟨bs, 0, false, false, 0, 0, cd⟩ no = if no < 0 ∨ (bs.length : Int) ≤ no then 2 else 0 := rfl
        by_cases hr : no < 0 ∨ (bs.length : Int) ≤ no
        · rw [if_pos hr] at hme
          unfold rdV at CR
          rw [hme, if_pos (by decide), zfull] at CR
          clear hme
          go_wp2_with fail
          refine CR.out.mono ?_
          rintro e wa ⟨rfl, _, asa⟩
          obtain ⟨⟨q1, q2, q3⟩⟩ : Nonempty (_ ∧ _ ∧ _) := ⟨boxed wa 30 (blk zblk) (blk zblk)⟩
          have b1 := heap_alloc_new wa (.cells (blk zblk) 30)
          have hba := Asd.below HB9.out asa (by omega) (by omega) (Nat.le_refl _)
          have HBa := Lib.hid (hba.trans (q2.mono hba.size))
          have b2 := q1
          clear q1 q2 q3 hba asa CR CS CD
          have hfl : zblk.length = 256 := by rw [← blk_size]; exact zblk_size
          have heq : ∀ w, (Op.equalIn 10000 30 (.agg (blk zblk)) (.agg Try.zeroCells30)).run Try.prog w = .ok true w := fun w => by rw [zc, run_eq_blk _ _ hfl hfl, decide_eq_true rfl]
          have hgd := blkGuard
          rcases hr with hr | hr
          all_goals
            go_wp2_with (first
              | (with_reducible refine wpList_allocA rfl 30 rfl _ blkZero ?_)
              | (with_reducible refine wpList_store rfl 30 _ _ rfl _ rfl (blk zblk) rfl (blk zblk) 30 256 blkSize zblk_size zblk_size (blk_one _) b1 ?_)
              | (with_reducible refine wpList_load rfl 30 _ rfl _ rfl 30 (blk zblk) 256 5 blkUnd blkSize zblk_size b2 ?_)
              | (go_at_call 11; refine (works_any _).mono ?_; rintro e w' ⟨rfl, hbel2⟩))
            refine wp_loadA 30 _ rfl _ rfl 30 (blk zblk) 256 5 blkUnd blkSize zblk_size b2 ?_
            go_wp2_with (go_at_call 11; refine (works_any _).mono ?_; rintro e w' ⟨rfl, hbel2⟩)
            go_ret
            exact ⟨rfl, HBa.out.trans (hbel2.mono HBa.out.size)⟩
        · rw [if_neg hr] at hme
          obtain ⟨i, rfl⟩ : ∃ i : Nat, no = i := ⟨no.toNat, by omega⟩
          have hi9 : i < bs.length := by omega
          unfold rdV at CR
          rw [hme, if_neg (by decide), Int.toNat_natCast, List.getD_eq_getElem?_getD] at CR
          simp only [List.getElem?_eq_getElem hi9, Option.getD_some] at CR
          have HX := Lib.hid (List.getElem?_eq_getElem hi9)
          have hxb : bs[i] < 256 := hbb _ (List.getElem_mem hi9)
          clear hme hbb
          generalize bs[i] = x at *
          go_wp2_with fail
          refine CR.out.mono ?_
          rintro e wa ⟨rfl, _, asa⟩
          obtain ⟨⟨q1, q2, q3⟩⟩ : Nonempty (_ ∧ _ ∧ _) := ⟨boxed wa 30 (blk zblk) (blk (full x))⟩
          have b1 := heap_alloc_new wa (.cells (blk zblk) 30)
          have hba := Asd.below HB9.out asa (by omega) (by omega) (Nat.le_refl _)
          have hs9 := HF9.out.size
          have hka := HK9.out.keep (asa.block g5 (by omega) (by omega) (by omega)) asa.size
          have HBa := Lib.hid (hba.trans (q2.mono hba.size))
          have HKa := Lib.hid (hka.keep (q2.block g5 hka.2.2) q2.size)
          have k7 := q1
          have hsX : (blk (full x)).size = 256 := by rw [blk_size, List.length_replicate]
          clear q1 q2 q3 hba asa CR CS CD hka
          go_wp2_with (first
              | (with_reducible refine wpList_allocA rfl 30 rfl _ blkZero ?_)
              | (with_reducible refine wpList_store rfl 30 _ _ rfl _ rfl (blk (full x)) rfl (blk zblk) 30 256 blkSize hsX zblk_size (blk_one _) b1 ?_))
          clear b1
          generalize (wa.alloc (.cells (blk zblk) 30)).setRow wa.heap.size (blk (full x)) = w14 at *
          have r1 : w14.drew.rangeAt g5 (i * 256) (blk (full x)).toList := HKa.out.1 i x HX.out
          have hg14 := HKa.out.2.2
          have k7d := k7.drew
          have hfl : (full x).length = 256 := List.length_replicate
          have hi : (Try.prog.info? 30).map (·.size) = some (blk (full x)).toList.length := by rw [full_len]; exact blkSize
          have heq : ∀ w, (Op.equalIn 10000 30 (.agg (blk (full x))) (.agg (blk (full x)))).run Try.prog w = .ok true w := fun w => by rw [run_eq_blk _ _ hfl hfl, decide_eq_true rfl]
          have hgd := blkGuard
          clear k7
          refine wp_region_held_drew (S := Go.RowKit.Below ((w14.drew).heap.size) (w14.drew)) (by kernel_rfl) ?hb6 (fun hHeld => ?rest6)
          case hb6 =>
            exact Go.RowKit.Below.refl _ _
          case' rest6 => skip
          refine wpAnyH_take (i := 0) (v := ?v7) rfl (by kernel_rfl) (by kernel_rfl) (by kernel_rfl) (fun _ _ _ h => h) (Or.inl ⟨by rfl, ?y7⟩) (by assumption) ?rest7
          case y7 => (intro w hSw; clear hSw; go_simp; try with_reducible rfl)
          case' rest7 => skip
          try simp only [List.getElem_toArray, List.getElem_cons_succ, List.getElem_cons_zero, Act.put, List.setIfInBounds_toArray, List.set_cons_zero, List.set_cons_succ]
          refine wpAnyH_take (i := 1) (v := ?v8) rfl (by kernel_rfl) (by kernel_rfl) (by kernel_rfl) (fun _ _ _ h => h) (Or.inl ⟨by rfl, ?y8⟩) (by assumption) ?rest8
          case y8 => (intro w hSw; clear hSw; go_simp; try with_reducible rfl)
          case' rest8 => skip
          try simp only [List.getElem_toArray, List.getElem_cons_succ, List.getElem_cons_zero, Act.put, List.setIfInBounds_toArray, List.set_cons_zero, List.set_cons_succ]
          refine wpAnyH_take (i := 2) (v := ?v9) rfl (by kernel_rfl) (by kernel_rfl) (by kernel_rfl) (fun _ _ _ h => h) (Or.inl ⟨by rfl, ?y9⟩) (by assumption) ?rest9
          case y9 => (intro w hSw; clear hSw; go_simp; try with_reducible rfl)
          case' rest9 => skip
          try simp only [List.getElem_toArray, List.getElem_cons_succ, List.getElem_cons_zero, Act.put, List.setIfInBounds_toArray, List.set_cons_zero, List.set_cons_succ]
          first
            | refine' wpAnyH_take (i := 3) (v := _) rfl (by kernel_rfl) (by kernel_rfl) (by kernel_rfl) (fun _ _ _ h => h) (yieldsIf_load_mid (by rfl) _ _ rfl _ _ rfl _ _ (fun w hSw => (Mem.bl_row hSw k7d (by first | exact Mem.Row.lt k7d | omega | (simp <;> omega))).range) blkUnd rfl hi) (by assumption) ?rest10
            | refine wpAnyH_take (i := 3) (v := undef) rfl (by kernel_rfl) (by kernel_rfl) (by kernel_rfl) (fun _ _ _ h => h) (Or.inr ⟨by rfl, rfl⟩) (by assumption) ?rest10
          case' rest10 => skip
          try simp only [List.getElem_toArray, List.getElem_cons_succ, List.getElem_cons_zero, Act.put, List.setIfInBounds_toArray, List.set_cons_zero, List.set_cons_succ]
          first
            | refine wpAnyH_take (i := 4) (v := undef) rfl (by kernel_rfl) (by kernel_rfl) (by kernel_rfl) (fun _ _ _ h => h) (Or.inr ⟨by rfl, rfl⟩) (by assumption) ?rest11
            | (refine wpAnyH_take (i := 4) (v := ?v11) rfl (by kernel_rfl) (by kernel_rfl) (by kernel_rfl) (fun _ _ _ h => h) (Or.inl ⟨by rfl, ?y11⟩) (by assumption) ?rest11; case y11 => (intro w hSw; clear hSw; go_simp; try with_reducible rfl))
          case' rest11 => skip
          try simp only [List.getElem_toArray, List.getElem_cons_succ, List.getElem_cons_zero, Act.put, List.setIfInBounds_toArray, List.set_cons_zero, List.set_cons_succ]
          first
            | refine wpAnyH_take (i := 5) (v := undef) rfl (by kernel_rfl) (by kernel_rfl) (by kernel_rfl) (fun _ _ _ h => h) (Or.inr ⟨by rfl, rfl⟩) (by assumption) ?rest12
            | (refine wpAnyH_take (i := 5) (v := ?v12) rfl (by kernel_rfl) (by kernel_rfl) (by kernel_rfl) (fun _ _ _ h => h) (Or.inl ⟨by rfl, ?y12⟩) (by assumption) ?rest12; case y12 => (intro w hSw; clear hSw; go_simp; try with_reducible rfl))
          case' rest12 => skip
          try simp only [List.getElem_toArray, List.getElem_cons_succ, List.getElem_cons_zero, Act.put, List.setIfInBounds_toArray, List.set_cons_zero, List.set_cons_succ]
          first
            | refine wpAnyH_take (i := 6) (v := undef) rfl (by kernel_rfl) (by kernel_rfl) (by kernel_rfl) (fun _ _ _ h => h) (Or.inr ⟨by rfl, rfl⟩) (by assumption) ?rest13
            | (refine wpAnyH_take (i := 6) (v := ?v13) rfl (by kernel_rfl) (by kernel_rfl) (by kernel_rfl) (fun _ _ _ h => h) (Or.inl ⟨by rfl, ?y13⟩) (by assumption) ?rest13; case y13 => (intro w hSw; clear hSw; go_simp; try with_reducible rfl))
          case' rest13 => skip
          try simp only [List.getElem_toArray, List.getElem_cons_succ, List.getElem_cons_zero, Act.put, List.setIfInBounds_toArray, List.set_cons_zero, List.set_cons_succ]
          first
            | refine' wpAnyH_take (i := 7) (v := _) rfl (by kernel_rfl) (by kernel_rfl) (by kernel_rfl) (fun _ _ _ h => h) (yieldsIf_load_mid (by rfl) _ _ rfl _ _ rfl _ _ (fun w hSw => Mem.range_below hSw (by first | omega | (simp <;> omega)) r1) blkUnd rfl hi) (by assumption) ?rest14
            | refine wpAnyH_take (i := 7) (v := undef) rfl (by kernel_rfl) (by kernel_rfl) (by kernel_rfl) (fun _ _ _ h => h) (Or.inr ⟨by rfl, rfl⟩) (by assumption) ?rest14
          case' rest14 => skip
          try simp only [List.getElem_toArray, List.getElem_cons_succ, List.getElem_cons_zero, Act.put, List.setIfInBounds_toArray, List.set_cons_zero, List.set_cons_succ]
          first
            | refine wpAnyH_take (i := 8) (v := undef) rfl (by kernel_rfl) (by kernel_rfl) (by kernel_rfl) (fun _ _ _ h => h) (Or.inr ⟨by rfl, rfl⟩) (by assumption) ?rest15
            | (refine wpAnyH_take (i := 8) (v := ?v15) rfl (by kernel_rfl) (by kernel_rfl) (by kernel_rfl) (fun _ _ _ h => h) (Or.inl ⟨by rfl, ?y15⟩) (by assumption) ?rest15; case y15 => (intro w hSw; clear hSw; go_simp; try with_reducible rfl))
          case' rest15 => skip
          try simp only [List.getElem_toArray, List.getElem_cons_succ, List.getElem_cons_zero, Act.put, List.setIfInBounds_toArray, List.set_cons_zero, List.set_cons_succ]
          refine wpAnyH_take (i := 9) (v := ?v16) rfl (by kernel_rfl) (by kernel_rfl) (by kernel_rfl) (fun _ _ _ h => h) (Or.inl ⟨by rfl, ?y16⟩) (by assumption) ?rest16
          case y16 => (intro w hSw; clear hSw; go_simp; try with_reducible rfl)
          case' rest16 => skip
          try simp only [List.getElem_toArray, List.getElem_cons_succ, List.getElem_cons_zero, Act.put, List.setIfInBounds_toArray, List.set_cons_zero, List.set_cons_succ]
          refine wpAnyH_take (i := 10) (v := ?v17) rfl (by kernel_rfl) (by kernel_rfl) (by kernel_rfl) (fun _ _ _ h => h) (Or.inl ⟨by rfl, ?y17⟩) (by assumption) ?rest17
          case y17 => (intro w hSw; clear hSw; go_simp; try with_reducible rfl)
          case' rest17 => skip
          try simp only [List.getElem_toArray, List.getElem_cons_succ, List.getElem_cons_zero, Act.put, List.setIfInBounds_toArray, List.set_cons_zero, List.set_cons_succ]
          refine wpAnyH_ready (rs := [11]) (by kernel_rfl) (by simp) ?_
          refine AllReadyH.cons rfl (fun K hK => ?_) AllReadyH.nil
          go_simp
          (refine (works_any _).mono ?_; rintro e wb ⟨rfl, hbl⟩)
          try go_wp2_with fail
          have hSnew := Mem.bl_step hHeld hbl (by first | exact Nat.le_refl _ | omega | (simp <;> omega))
          refine hK.out _ _ ?_ (fun hHeld2 => ?_)
          · exact hSnew
          clear hbl
          clear hK K hHeld hSnew
          have hHeld := hHeld2
          clear hHeld2
          try simp only [List.getElem_toArray, List.getElem_cons_succ, List.getElem_cons_zero, Act.put, List.setIfInBounds_toArray, List.set_cons_zero, List.set_cons_succ]
          refine wpAnyH_take (i := 12) (v := ?v18) rfl (by kernel_rfl) (by kernel_rfl) (by kernel_rfl) (fun _ _ _ h => h) (Or.inl ⟨by rfl, ?y18⟩) (by assumption) ?rest18
          case y18 => (intro w hSw; clear hSw; go_simp; try with_reducible rfl)
          case' rest18 => skip
          try simp only [List.getElem_toArray, List.getElem_cons_succ, List.getElem_cons_zero, Act.put, List.setIfInBounds_toArray, List.set_cons_zero, List.set_cons_succ]
          refine wpAnyH_take (i := 13) (v := ?v19) rfl (by kernel_rfl) (by kernel_rfl) (by kernel_rfl) (fun _ _ _ h => h) (Or.inl ⟨by rfl, ?y19⟩) (by assumption) ?rest19
          case y19 => (intro w hSw; clear hSw; go_simp; try with_reducible rfl)
          case' rest19 => skip
          try simp only [List.getElem_toArray, List.getElem_cons_succ, List.getElem_cons_zero, Act.put, List.setIfInBounds_toArray, List.set_cons_zero, List.set_cons_succ]
          refine wpAnyH_done (by kernel_rfl) ?_ _
          go_wp2_with fail
          go_ret
          exact ⟨rfl, HBa.out.trans (((Below.refl _ _).drew.trans hHeld).mono HBa.out.size)⟩
end Go.Proofs.Ytechlhmmgabikaa.Dk
