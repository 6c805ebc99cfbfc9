/- RollTwice. -/
import Derived.Test.YteeodeooicoekaaNa
import Derived.Test.YteeodeooicoekaaLh
namespace Go.Proofs.Yteeodeooicoekaa.Rd
open Go.RowKit Go.Proofs.Yteeodeooicoekaa.Mem Go.Proofs.Yteeodeooicoekaa.Open Go.Proofs.Yteeodeooicoekaa.Kind Go.Proofs.Yteeodeooicoekaa.Blk Go.Proofs.Yteeodeooicoekaa.App Go.Proofs.Yteeodeooicoekaa.Pat Go.Proofs.Yteeodeooicoekaa.Same
set_option linter.unusedVariables false
set_option linter.unusedSimpArgs false
theorem held_mem {xs : List Chg} {b n : Int} (hn : n ∈ heldF xs b) : ∃ x ∈ xs, x.id = n := by
  unfold heldF at hn
  split at hn
  · obtain ⟨x, hx, e⟩ := List.mem_map.1 hn
    exact ⟨x, (List.mem_filter.1 hx).1, e⟩
  · simp at hn
theorem heldF_len (xs : List Chg) (b : Int) : (heldF xs b).length ≤ xs.length := by
  unfold heldF
  split
  · rw [List.length_map]; exact List.length_filter_le _ _
  · simp
theorem held_wf {w : World} {A : Option Addr} {xs : List Chg} (h : Chs w A xs) (b : Int) : ∀ n ∈ heldF xs b, WfI n := by
  intro n hn
  obtain ⟨x, hx, rfl⟩ := held_mem hn
  obtain ⟨i, hi, rfl⟩ := List.mem_iff_getElem.1 hx
  obtain ⟨g, o, rfl, hg⟩ := ch_form h (by omega)
  obtain ⟨A1, c1, A2, c2, hat⟩ := ch_at h i hi
  exact hat.ok.1
set_option maxHeartbeats 8000000 in
set_option maxRecDepth 100000 in
theorem twice_walk (B : List Nat) (A : Option Addr) (c : Nat) (xs : List Chg) (bl : Int) (w : World) (hBl : B.length = 256) (hBb : ∀ x ∈ B, x < 256) (hx : Chs w A xs) (hc : A = none → c = 0) (hwb : (Lit.int .i64 bl).wf = true) :
    Calls Try.prog 5 #[.agg (blk B), .slice A xs.length c, .int .i64 bl] w fun e w' => e = .returned (.bool true) ∧ Below w.heap.size w w' := by
  have hia : (Try.prog.info? 22).map (·.size) = some (blk B).toList.length := by rw [Array.length_toList, blk_size, hBl]; exact arrSize
  have hsB : (blk B).size = 256 := by rw [blk_size]; exact hBl
  have r0 := Row.new w 22 (blk B)
  have bb := (Below.refl w.heap.size w).alloc (Nat.le_refl _) (.cells (blk B) 22)
  have hx0 := hx.below bb
  have CMu := Lib.hid (much_any A c xs 30 _ hx0 (by omega))
  have HBL := Lib.hid hBl
  clear hBl
  go_enter Try.func5, Try.ntmps5
  go_wp2_with fail
  generalize w.alloc (.cells (blk B) 22) = w0 at *
  cases hmu : muchC xs 30 with
  | true =>
    rw [hmu] at CMu
    refine CMu.out.mono ?_
    rintro e w1 ⟨rfl, hb1⟩
    have bb1 := bb.trans (hb1.mono bb.size)
    clear CMu
    go_wp2_with fail
    refine (works10 _).mono ?_
    rintro e wB ⟨rfl, hbB⟩
    go_wp2
    go_ret
    exact ⟨rfl, bb1.trans (hbB.mono bb1.size)⟩
  | false =>
    rw [hmu] at CMu
    obtain ⟨hn, hs⟩ := muchC_no hmu
    clear hmu
    refine CMu.out.mono ?_
    rintro e w1 ⟨rfl, hb1⟩
    have bb1 := bb.trans (hb1.mono bb.size)
    have r1 : Row w1 w.heap.size 22 (blk B) := Row.below r0 hb1
    have hx1 := hx.below bb1
    clear CMu hb1 bb hx0 r0
    have hIl : (imgF B xs bl).length = 256 := (imgF_len _ _ _).trans HBL.out
    have hwf := ready_wf2 hx1 bl
    have hhw := held_wf hx1 bl
    have CT := Lib.hid (fun w' h => to9_any A c xs w' h hs (by omega))
    have CW := Lib.hid (fun A' c' w' h k1 k2 => Write_any A' c' xs bl B w' h HBL.out k1 k2 (by omega) hs)
    have hLn := woS_len xs (readyS xs bl)
    have CW2 := Lib.hid (fun A' c' w' h k1 k2 => Write_any A' c' (woS xs (readyS xs bl)) bl (imgF B xs bl) w' h hIl k1 k2 (by omega) (small_wo hs _))
    rw [twice_img, twice_ready, woS_nil] at CW2
    have CV := Lib.hid (fun A' c' w' h => View_any A' c' xs bl B w' h HBL.out (by omega))
    have CH := Lib.hid (fun A' c' w' h k1 k2 => Held_any A' c' xs bl w' h k1 k2 (by omega) hs)
    have CH2 := Lib.hid (fun A' c' w' h k1 k2 => Held_any A' c' (woS xs (readyS xs bl)) bl w' h k1 k2 (by omega) (small_wo hs _))
    rw [twice_held] at CH2
    have HTV := Lib.hid (fun h => twice_view (xs := xs) (b := bl) h B)
    have HHL := Lib.hid (heldF_len xs bl)
    obtain ⟨I, hI⟩ : ∃ I, imgF B xs bl = I := ⟨_, rfl⟩
    rw [hI] at CW CW2 hIl HTV
    obtain ⟨R, hR⟩ : ∃ R, readyS xs bl = R := ⟨_, rfl⟩
    rw [hR] at CW CW2 CH2 hwf hLn
    obtain ⟨L, hL⟩ : ∃ L, woS xs R = L := ⟨_, rfl⟩
    rw [hL] at CW CW2 CH2 hLn
    obtain ⟨H, hH⟩ : ∃ H, heldF xs bl = H := ⟨_, rfl⟩
    rw [hH] at CH CH2 HTV hhw HHL
    clear hI hR hL hH
    have hsI : (blk I).size = 256 := by rw [blk_size]; exact hIl
    have hiI : (Try.prog.info? 26).map (·.size) = some (blk I).toList.length := blkSizeL I hIl
    have heqI : ∀ w, (Op.equalIn 10000 26 (.agg (blk I)) (.agg (blk I))).run Try.prog w = .ok true w := fun w => by rw [run_eq_blk _ _ hIl hIl, decide_eq_true rfl]
    have hLn := Lib.hid hLn
    clear hIl
    go_wp2_with fail
    refine (CT.out _ hx1).mono ?_
    rintro e w2 ⟨v2, rfl, hown2, hb2⟩
    obtain ⟨A7, c7, rfl, k1, k2, k3, hx2⟩ := hown2.rw_
    have bb2 := bb1.trans (hb2.mono bb1.size)
    have HR2 := Lib.hid (Row.below r1 hb2)
    have CW := Lib.hid (CW.out A7 c7 _ hx2 k1 k2)
    have CH := Lib.hid (fun w' h => CH.out A7 c7 w' h k1 k2)
    have HX2 := Lib.hid hx2
    have HB2 := Lib.hid bb2
    clear hown2 hb2 bb1 r1 hx2 bb2 k1 k2 k3 CT
    go_wp2_with (with_reducible refine wpList_load rfl 22 _ rfl _ rfl 22 (blk B) 256 5 arrUnd arrSize hsB HR2.out.out ?_)
    refine CW.out.mono ?_
    rintro e w3 ⟨v5, v6, rfl, ho5, ho6, hb3⟩
    obtain ⟨A8, c8, rfl, m1, m2, -, hLl⟩ := (kF_weak ho5).rw_
    obtain ⟨A9, c9, rfl⟩ := ho6.slice
    obtain ⟨⟨r8, b8, z8⟩⟩ : Nonempty (_ ∧ _ ∧ _) := ⟨boxed w3 26 (blk zblk) (blk I)⟩
    have R0 : Row (w3.alloc (.cells (blk zblk) 26)) w3.heap.size 26 (blk zblk) := Row.new _ _ _
    obtain ⟨W, hW⟩ : ∃ W, W = (w3.alloc (.cells (blk zblk) 26)).setRow w3.heap.size (blk I) := ⟨_, rfl⟩
    have HR8R := Lib.hid r8.out
    rw [← hW] at r8 b8 z8
    have HW := Lib.hid hW
    clear hW
    have hb38 := hb3.trans (b8.mono hb3.size)
    have HR3 := Lib.hid (HR2.out.below hb38)
    have HR8 := Lib.hid r8
    have HL8 := Lib.hid (hLl.below b8)
    have HX8 := Lib.hid (HX2.out.below hb38)
    have HB8 := Lib.hid (HB2.out.trans (hb38.mono HB2.out.size))
    have CW2 := Lib.hid (CW2.out A8 c8 W HL8.out m1 m2)
    have CH2 := Lib.hid (fun w' h => CH2.out A8 c8 w' h m1 m2)
    clear ho5 ho6 hb3 b8 r8 hLl hb38 HR2 HX2 HB2 CW m1 m2
    go_wp2_with (first
      | (with_reducible refine wpList_allocA rfl 26 rfl _ blkZero ?_)
      | (with_reducible refine wpList_storeRow rfl 26 _ _ rfl w3.heap.size rfl (blk I) rfl (blk zblk) 26 256 blkSize hsI zblk_size (blk_one _) R0 ?_)
      | (with_reducible refine wpList_load rfl 26 _ rfl _ rfl 26 (blk I) 256 5 blkUnd blkSize hsI HR8R.out ?_))
    rw [← HW.out]
    clear R0 HW HR8R
    refine CW2.out.mono ?_
    rintro e w4 ⟨v7, v9, rfl, ho7, ho9, hb4⟩
    obtain ⟨A10, c10, rfl⟩ := ownK_slice ho7
    obtain ⟨A11, c11, rfl⟩ := ho9.slice
    obtain ⟨⟨r9, b9, z9⟩⟩ : Nonempty (_ ∧ _ ∧ _) := ⟨boxed w4 26 (blk zblk) (blk I)⟩
    have R0 : Row (w4.alloc (.cells (blk zblk) 26)) w4.heap.size 26 (blk zblk) := Row.new _ _ _
    have hb49 := hb4.trans (b9.mono hb4.size)
    have HR3 := Lib.hid (HR3.out.below hb49)
    have HR8 := Lib.hid (HR8.out.below hb49)
    have HR9 := Lib.hid r9
    have HL9 := Lib.hid (HL8.out.below hb49)
    have HX9 := Lib.hid (HX8.out.below hb49)
    have HB9 := Lib.hid (HB8.out.trans (hb49.mono HB8.out.size))
    have CH := Lib.hid (CH.out _ HX9.out)
    clear ho7 ho9 hb4 b9 r9 hb49 HL8 HX8 HB8 CW2
    go_wp2_with (first
      | (with_reducible refine wpList_allocA rfl 26 rfl _ blkZero ?_)
      | (with_reducible refine wpList_storeRow rfl 26 _ _ rfl w4.heap.size rfl (blk I) rfl (blk zblk) 26 256 blkSize hsI zblk_size (blk_one _) R0 ?_)
      | (with_reducible refine wpList_load rfl 26 _ rfl _ rfl 26 (blk I) 256 5 blkUnd blkSize hsI HR9.out.out ?_)
      | (with_reducible refine wpList_load rfl 26 _ rfl _ rfl 26 (blk I) 256 5 blkUnd blkSize hsI HR8.out.out ?_))
    refine CH.out.mono ?_
    rintro e w5 ⟨v14, rfl, ho14, hb5⟩
    obtain ⟨A14, c14, rfl, -, -, -, hH14⟩ := own_is ho14 hhw
    have hbW := (HB9.out.trans (hb5.mono HB9.out.size)).drew
    have p3 := (HR3.out.below hb5).drew
    have p8 := (HR8.out.below hb5).drew
    have sl := (HL9.out.below hb5).drew
    have sx := (HX9.out.below hb5).drew
    have sh := hH14.drew
    have hhl : H.length ≤ 30 := by have := HHL.out; omega
    clear ho14 hb5 HB9 HR3 HR8 HR9 HL9 HX9 R0 CH hH14
    go_wp2_with fail
    by_cases hH0 : H = []
    · subst hH0
      rw [← HTV.out rfl] at CV
      clear HTV HHL hhl
      refine wp_region_held_drew (S := Go.RowKit.Below ((w5.drew).heap.size) (w5.drew)) (by kernel_rfl) ?hb9 (fun hHeld => ?rest9)
      case hb9 =>
        exact Go.RowKit.Below.refl _ _
      case' rest9 => skip
      refine Mem.tkY 0 ?v10 (hy := Or.inl ⟨by rfl, ?y10⟩) (hS := by assumption) (h := ?r10)
      case y10 => (intro w hSw; clear hSw; go_simp; try with_reducible rfl)
      case' r10 => skip
      refine Mem.tkY 1 ?v11 (hy := Or.inl ⟨by rfl, ?y11⟩) (hS := by assumption) (h := ?r11)
      case y11 => (intro w hSw; clear hSw; go_simp; try with_reducible rfl)
      case' r11 => skip
      refine Mem.tkY 2 ?v12 (hy := Or.inl ⟨by rfl, ?y12⟩) (hS := by assumption) (h := ?r12)
      case y12 => (intro w hSw; clear hSw; go_simp; try with_reducible rfl)
      case' r12 => skip
      try simp only [List.getElem_toArray, List.getElem_cons_succ, List.getElem_cons_zero, Act.put, List.setIfInBounds_toArray, List.set_cons_zero, List.set_cons_succ]
      refine Mem.tkY 3 ?v13 (hy := Or.inl ⟨by rfl, ?y13⟩) (hS := by assumption) (h := ?r13)
      case y13 => (intro w hSw; clear hSw; go_simp; try with_reducible rfl)
      case' r13 => skip
      first
        | refine' wpAnyH_take (i := 4) (v := _) rfl (by kernel_rfl) (by kernel_rfl) (by kernel_rfl) (fun _ _ _ h => h) (yieldsIf_load_mid (by rfl) _ _ rfl _ _ rfl _ _ (fun w hSw => (Mem.bl_row hSw p8 (by first | exact Mem.Row.lt p8 | omega | (simp <;> omega))).range) blkUnd rfl hiI) (by assumption) ?rest14
        | refine wpAnyH_take (i := 4) (v := undef) rfl (by kernel_rfl) (by kernel_rfl) (by kernel_rfl) (fun _ _ _ h => h) (Or.inr ⟨by rfl, rfl⟩) (by assumption) ?rest14
      case' rest14 => skip
      try simp only [List.getElem_toArray, List.getElem_cons_succ, List.getElem_cons_zero, Act.put, List.setIfInBounds_toArray, List.set_cons_zero, List.set_cons_succ]
      first
        | refine' wpAnyH_take (i := 5) (v := _) rfl (by kernel_rfl) (by kernel_rfl) (by kernel_rfl) (fun _ _ _ h => h) (yieldsIf_load_mid (by rfl) _ _ rfl _ _ rfl _ _ (fun w hSw => (Mem.bl_row hSw p3 (by first | exact Mem.Row.lt p3 | omega | (simp <;> omega))).range) arrUnd rfl hia) (by assumption) ?rest15
        | refine wpAnyH_take (i := 5) (v := undef) rfl (by kernel_rfl) (by kernel_rfl) (by kernel_rfl) (fun _ _ _ h => h) (Or.inr ⟨by rfl, rfl⟩) (by assumption) ?rest15
      case' rest15 => skip
      try simp only [List.getElem_toArray, List.getElem_cons_succ, List.getElem_cons_zero, Act.put, List.setIfInBounds_toArray, List.set_cons_zero, List.set_cons_succ]
      try simp only [List.getElem_toArray, List.getElem_cons_succ, List.getElem_cons_zero, Act.put, List.setIfInBounds_toArray, List.set_cons_zero, List.set_cons_succ]
      first | refine Mem.tkY 6 undef (hy := Or.inr ⟨by rfl, rfl⟩) (hS := by assumption) (h := ?r16) | (refine Mem.tkY 6 ?v16 (hy := Or.inl ⟨by rfl, ?y16⟩) (hS := by assumption) (h := ?r16); case y16 => (intro w hSw; clear hSw; go_simp; try with_reducible rfl))
      case' r16 => skip
      try simp only [List.getElem_toArray, List.getElem_cons_succ, List.getElem_cons_zero, Act.put, List.setIfInBounds_toArray, List.set_cons_zero, List.set_cons_succ]
      first | refine Mem.tkY 7 undef (hy := Or.inr ⟨by rfl, rfl⟩) (hS := by assumption) (h := ?r17) | (refine Mem.tkY 7 ?v17 (hy := Or.inl ⟨by rfl, ?y17⟩) (hS := by assumption) (h := ?r17); case y17 => (intro w hSw; clear hSw; go_simp; try with_reducible rfl))
      case' r17 => skip
      try simp only [List.getElem_toArray, List.getElem_cons_succ, List.getElem_cons_zero, Act.put, List.setIfInBounds_toArray, List.set_cons_zero, List.set_cons_succ]
      refine wpAnyH_ready (rs := [8]) (by kernel_rfl) (by simp) ?_
      refine AllReadyH.cons rfl (fun K hK => ?_) AllReadyH.nil
      go_simp
      (refine (CV.out A7 c7 _ sx).mono ?_; rintro e wb ⟨rfl, hbl⟩)
      try go_wp2_with fail
      have hSnew := Mem.bl_step hHeld hbl (by first | exact Nat.le_refl _ | omega | (simp <;> omega))
      refine hK.out _ _ ?_ (fun hHeld2 => ?_)
      · exact hSnew
      try replace sl := sl.below hbl
      try replace sx := sx.below hbl
      try replace sh := sh.below hbl
      clear hbl
      clear hK K hHeld hSnew
      have hHeld := hHeld2
      clear hHeld2
      try simp only [List.getElem_toArray, List.getElem_cons_succ, List.getElem_cons_zero, Act.put, List.setIfInBounds_toArray, List.set_cons_zero, List.set_cons_succ]
      first | refine Mem.tkY 9 undef (hy := Or.inr ⟨by rfl, rfl⟩) (hS := by assumption) (h := ?r18) | (refine Mem.tkY 9 ?v18 (hy := Or.inl ⟨by rfl, ?y18⟩) (hS := by assumption) (h := ?r18); case y18 => (intro w hSw; clear hSw; go_simp; try with_reducible rfl))
      case' r18 => skip
      refine Mem.tkY 10 ?v19 (hy := Or.inl ⟨by rfl, ?y19⟩) (hS := by assumption) (h := ?r19)
      case y19 => (intro w hSw; clear hSw; go_simp; try with_reducible rfl)
      case' r19 => skip
      refine Mem.tkY 11 ?v20 (hy := Or.inl ⟨by rfl, ?y20⟩) (hS := by assumption) (h := ?r20)
      case y20 => (intro w hSw; clear hSw; go_simp; try with_reducible rfl)
      case' r20 => skip
      try simp only [List.getElem_toArray, List.getElem_cons_succ, List.getElem_cons_zero, Act.put, List.setIfInBounds_toArray, List.set_cons_zero, List.set_cons_succ]
      first | refine Mem.tkY 12 undef (hy := Or.inr ⟨by rfl, rfl⟩) (hS := by assumption) (h := ?r21) | (refine Mem.tkY 12 ?v21 (hy := Or.inl ⟨by rfl, ?y21⟩) (hS := by assumption) (h := ?r21); case y21 => (intro w hSw; clear hSw; go_simp; try with_reducible rfl))
      case' r21 => skip
      try simp only [List.getElem_toArray, List.getElem_cons_succ, List.getElem_cons_zero, Act.put, List.setIfInBounds_toArray, List.set_cons_zero, List.set_cons_succ]
      first | refine Mem.tkY 13 undef (hy := Or.inr ⟨by rfl, rfl⟩) (hS := by assumption) (h := ?r22) | (refine Mem.tkY 13 ?v22 (hy := Or.inl ⟨by rfl, ?y22⟩) (hS := by assumption) (h := ?r22); case y22 => (intro w hSw; clear hSw; go_simp; try with_reducible rfl))
      case' r22 => skip
      try simp only [List.getElem_toArray, List.getElem_cons_succ, List.getElem_cons_zero, Act.put, List.setIfInBounds_toArray, List.set_cons_zero, List.set_cons_succ]
      first | refine Mem.tkY 15 undef (hy := Or.inr ⟨by rfl, rfl⟩) (hS := by assumption) (h := ?r23) | (refine Mem.tkY 15 ?v23 (hy := Or.inl ⟨by rfl, ?y23⟩) (hS := by assumption) (h := ?r23); case y23 => (intro w hSw; clear hSw; go_simp; try with_reducible rfl))
      case' r23 => skip
      try simp only [List.getElem_toArray, List.getElem_cons_succ, List.getElem_cons_zero, Act.put, List.setIfInBounds_toArray, List.set_cons_zero, List.set_cons_succ]
      refine wpAnyH_ready (rs := [14]) (by kernel_rfl) (by simp) ?_
      refine AllReadyH.cons rfl (fun K hK => ?_) AllReadyH.nil
      go_simp
      (refine (CH2.out _ sl).mono ?_; rintro e wb ⟨v68, rfl, ho68, hbl⟩; obtain ⟨A15, c15, rfl, -, -, -, h15⟩ := own_is ho68 hhw; clear ho68)
      try go_wp2_with fail
      have hSnew := Mem.bl_step hHeld hbl (by first | exact Nat.le_refl _ | omega | (simp <;> omega))
      refine hK.out _ _ ?_ (fun hHeld2 => ?_)
      · exact hSnew
      try replace sl := sl.below hbl
      try replace sx := sx.below hbl
      try replace sh := sh.below hbl
      clear hbl
      clear hK K hHeld hSnew
      have hHeld := hHeld2
      clear hHeld2
      try simp only [List.getElem_toArray, List.getElem_cons_succ, List.getElem_cons_zero, Act.put, List.setIfInBounds_toArray, List.set_cons_zero, List.set_cons_succ]
      refine wpAnyH_ready (rs := [16]) (by kernel_rfl) (by simp) ?_
      refine AllReadyH.cons rfl (fun K hK => ?_) AllReadyH.nil
      go_simp
      (refine (ints_yes A15 A14 0 0 c15 c14 [] _ h15.sl_int sh.sl_int).mono ?_; rintro e wb ⟨rfl, hbl⟩; clear h15)
      try go_wp2_with fail
      have hSnew := Mem.bl_step hHeld hbl (by first | exact Nat.le_refl _ | omega | (simp <;> omega))
      refine hK.out _ _ ?_ (fun hHeld2 => ?_)
      · exact hSnew
      try replace sl := sl.below hbl
      try replace sx := sx.below hbl
      try replace sh := sh.below hbl
      clear hbl
      clear hK K hHeld hSnew
      have hHeld := hHeld2
      clear hHeld2
      try simp only [List.getElem_toArray, List.getElem_cons_succ, List.getElem_cons_zero, Act.put, List.setIfInBounds_toArray, List.set_cons_zero, List.set_cons_succ]
      refine Mem.tkY 17 ?v24 (hy := Or.inl ⟨by rfl, ?y24⟩) (hS := by assumption) (h := ?r24)
      case y24 => (intro w hSw; clear hSw; go_simp; try with_reducible rfl)
      case' r24 => skip
      refine Mem.tkY 18 ?v25 (hy := Or.inl ⟨by rfl, ?y25⟩) (hS := by assumption) (h := ?r25)
      case y25 => (intro w hSw; clear hSw; go_simp; try with_reducible rfl)
      case' r25 => skip
      try simp only [List.getElem_toArray, List.getElem_cons_succ, List.getElem_cons_zero, Act.put, List.setIfInBounds_toArray, List.set_cons_zero, List.set_cons_succ]
      refine wpAnyH_ready (rs := [19]) (by kernel_rfl) (by simp) ?_
      refine AllReadyH.cons rfl (fun K hK => ?_) AllReadyH.nil
      go_simp
      (refine (works10 _).mono ?_; rintro e wb ⟨rfl, hbl⟩)
      try go_wp2_with fail
      have hSnew := Mem.bl_step hHeld hbl (by first | exact Nat.le_refl _ | omega | (simp <;> omega))
      refine hK.out _ _ ?_ (fun hHeld2 => ?_)
      · exact hSnew
      try replace sl := sl.below hbl
      try replace sx := sx.below hbl
      try replace sh := sh.below hbl
      clear hbl
      clear hK K hHeld hSnew
      have hHeld := hHeld2
      clear hHeld2
      try simp only [List.getElem_toArray, List.getElem_cons_succ, List.getElem_cons_zero, Act.put, List.setIfInBounds_toArray, List.set_cons_zero, List.set_cons_succ]
      refine Mem.tkY 20 ?v26 (hy := Or.inl ⟨by rfl, ?y26⟩) (hS := by assumption) (h := ?r26)
      case y26 => (intro w hSw; clear hSw; go_simp; try with_reducible rfl)
      case' r26 => skip
      refine Mem.tkY 21 ?v27 (hy := Or.inl ⟨by rfl, ?y27⟩) (hS := by assumption) (h := ?r27)
      case y27 => (intro w hSw; clear hSw; go_simp; try with_reducible rfl)
      case' r27 => skip
      try simp only [List.getElem_toArray, List.getElem_cons_succ, List.getElem_cons_zero, Act.put, List.setIfInBounds_toArray, List.set_cons_zero, List.set_cons_succ]
      refine wpAnyH_done (by kernel_rfl) ?_ _
      go_wp2
      go_ret
      exact ⟨rfl, hbW.trans (hHeld.mono hbW.size)⟩
    · have hpos : (0 : Int) < (H.length : Int) := by have : H.length ≠ 0 := fun h => hH0 (List.eq_nil_of_length_eq_zero h); omega
      have hdec : decide ((0 : Int) < (H.length : Int)) = true := decide_eq_true hpos
      have hposN : 0 < H.length := by omega
      have hdecN : decide (0 < H.length) = true := decide_eq_true hposN
      clear HTV HHL hH0 CV
      refine wp_region_held_drew (S := Go.RowKit.Below ((w5.drew).heap.size) (w5.drew)) (by kernel_rfl) ?hb35 (fun hHeld => ?rest35)
      case hb35 =>
        exact Go.RowKit.Below.refl _ _
      case' rest35 => skip
      refine Mem.tkY 0 ?v36 (hy := Or.inl ⟨by rfl, ?y36⟩) (hS := by assumption) (h := ?r36)
      case y36 => (intro w hSw; clear hSw; go_simp; try with_reducible rfl)
      case' r36 => skip
      refine Mem.tkY 1 ?v37 (hy := Or.inl ⟨by rfl, ?y37⟩) (hS := by assumption) (h := ?r37)
      case y37 => (intro w hSw; clear hSw; go_simp; try with_reducible rfl)
      case' r37 => skip
      refine Mem.tkY 2 ?v38 (hy := Or.inl ⟨by rfl, ?y38⟩) (hS := by assumption) (h := ?r38)
      case y38 => (intro w hSw; clear hSw; go_simp; try with_reducible rfl)
      case' r38 => skip
      try simp only [List.getElem_toArray, List.getElem_cons_succ, List.getElem_cons_zero, Act.put, List.setIfInBounds_toArray, List.set_cons_zero, List.set_cons_succ]
      refine Mem.tkY 3 ?v39 (hy := Or.inl ⟨by rfl, ?y39⟩) (hS := by assumption) (h := ?r39)
      case y39 => (intro w hSw; clear hSw; go_simp; try with_reducible rfl)
      case' r39 => skip
      try simp only [List.getElem_toArray, List.getElem_cons_succ, List.getElem_cons_zero, Act.put, List.setIfInBounds_toArray, List.set_cons_zero, List.set_cons_succ]
      first | refine Mem.tkY 4 undef (hy := Or.inr ⟨by rfl, rfl⟩) (hS := by assumption) (h := ?r40) | (refine Mem.tkY 4 ?v40 (hy := Or.inl ⟨by rfl, ?y40⟩) (hS := by assumption) (h := ?r40); case y40 => (intro w hSw; clear hSw; go_simp; try with_reducible rfl))
      case' r40 => skip
      try simp only [List.getElem_toArray, List.getElem_cons_succ, List.getElem_cons_zero, Act.put, List.setIfInBounds_toArray, List.set_cons_zero, List.set_cons_succ]
      first | refine Mem.tkY 5 undef (hy := Or.inr ⟨by rfl, rfl⟩) (hS := by assumption) (h := ?r41) | (refine Mem.tkY 5 ?v41 (hy := Or.inl ⟨by rfl, ?y41⟩) (hS := by assumption) (h := ?r41); case y41 => (intro w hSw; clear hSw; go_simp; try with_reducible rfl))
      case' r41 => skip
      try simp only [List.getElem_toArray, List.getElem_cons_succ, List.getElem_cons_zero, Act.put, List.setIfInBounds_toArray, List.set_cons_zero, List.set_cons_succ]
      first | refine Mem.tkY 6 undef (hy := Or.inr ⟨by rfl, rfl⟩) (hS := by assumption) (h := ?r42) | (refine Mem.tkY 6 ?v42 (hy := Or.inl ⟨by rfl, ?y42⟩) (hS := by assumption) (h := ?r42); case y42 => (intro w hSw; clear hSw; go_simp; try with_reducible rfl))
      case' r42 => skip
      try simp only [List.getElem_toArray, List.getElem_cons_succ, List.getElem_cons_zero, Act.put, List.setIfInBounds_toArray, List.set_cons_zero, List.set_cons_succ]
      first | refine Mem.tkY 7 undef (hy := Or.inr ⟨by rfl, rfl⟩) (hS := by assumption) (h := ?r43) | (refine Mem.tkY 7 ?v43 (hy := Or.inl ⟨by rfl, ?y43⟩) (hS := by assumption) (h := ?r43); case y43 => (intro w hSw; clear hSw; go_simp; try with_reducible rfl))
      case' r43 => skip
      try simp only [List.getElem_toArray, List.getElem_cons_succ, List.getElem_cons_zero, Act.put, List.setIfInBounds_toArray, List.set_cons_zero, List.set_cons_succ]
      first | refine Mem.tkY 8 undef (hy := Or.inr ⟨by rfl, rfl⟩) (hS := by assumption) (h := ?r44) | (refine Mem.tkY 8 ?v44 (hy := Or.inl ⟨by rfl, ?y44⟩) (hS := by assumption) (h := ?r44); case y44 => (intro w hSw; clear hSw; go_simp; try with_reducible rfl))
      case' r44 => skip
      try simp only [List.getElem_toArray, List.getElem_cons_succ, List.getElem_cons_zero, Act.put, List.setIfInBounds_toArray, List.set_cons_zero, List.set_cons_succ]
      first | refine Mem.tkY 9 undef (hy := Or.inr ⟨by rfl, rfl⟩) (hS := by assumption) (h := ?r45) | (refine Mem.tkY 9 ?v45 (hy := Or.inl ⟨by rfl, ?y45⟩) (hS := by assumption) (h := ?r45); case y45 => (intro w hSw; clear hSw; go_simp; try with_reducible rfl))
      case' r45 => skip
      refine Mem.tkY 10 ?v46 (hy := Or.inl ⟨by rfl, ?y46⟩) (hS := by assumption) (h := ?r46)
      case y46 => (intro w hSw; clear hSw; go_simp; try with_reducible rfl)
      case' r46 => skip
      refine Mem.tkY 11 ?v47 (hy := Or.inl ⟨by rfl, ?y47⟩) (hS := by assumption) (h := ?r47)
      case y47 => (intro w hSw; clear hSw; go_simp; try with_reducible rfl)
      case' r47 => skip
      try simp only [List.getElem_toArray, List.getElem_cons_succ, List.getElem_cons_zero, Act.put, List.setIfInBounds_toArray, List.set_cons_zero, List.set_cons_succ]
      first | refine Mem.tkY 12 undef (hy := Or.inr ⟨by rfl, rfl⟩) (hS := by assumption) (h := ?r48) | (refine Mem.tkY 12 ?v48 (hy := Or.inl ⟨by rfl, ?y48⟩) (hS := by assumption) (h := ?r48); case y48 => (intro w hSw; clear hSw; go_simp; try with_reducible rfl))
      case' r48 => skip
      try simp only [List.getElem_toArray, List.getElem_cons_succ, List.getElem_cons_zero, Act.put, List.setIfInBounds_toArray, List.set_cons_zero, List.set_cons_succ]
      first | refine Mem.tkY 13 undef (hy := Or.inr ⟨by rfl, rfl⟩) (hS := by assumption) (h := ?r49) | (refine Mem.tkY 13 ?v49 (hy := Or.inl ⟨by rfl, ?y49⟩) (hS := by assumption) (h := ?r49); case y49 => (intro w hSw; clear hSw; go_simp; try with_reducible rfl))
      case' r49 => skip
      try simp only [List.getElem_toArray, List.getElem_cons_succ, List.getElem_cons_zero, Act.put, List.setIfInBounds_toArray, List.set_cons_zero, List.set_cons_succ]
      first | refine Mem.tkY 15 undef (hy := Or.inr ⟨by rfl, rfl⟩) (hS := by assumption) (h := ?r50) | (refine Mem.tkY 15 ?v50 (hy := Or.inl ⟨by rfl, ?y50⟩) (hS := by assumption) (h := ?r50); case y50 => (intro w hSw; clear hSw; go_simp; try with_reducible rfl))
      case' r50 => skip
      try simp only [List.getElem_toArray, List.getElem_cons_succ, List.getElem_cons_zero, Act.put, List.setIfInBounds_toArray, List.set_cons_zero, List.set_cons_succ]
      refine wpAnyH_ready (rs := [14]) (by kernel_rfl) (by simp) ?_
      refine AllReadyH.cons rfl (fun K hK => ?_) AllReadyH.nil
      go_simp
      (refine (CH2.out _ sl).mono ?_; rintro e wb ⟨v68, rfl, ho68, hbl⟩; obtain ⟨A15, c15, rfl, -, -, -, h15⟩ := own_is ho68 hhw; clear ho68)
      try go_wp2_with fail
      have hSnew := Mem.bl_step hHeld hbl (by first | exact Nat.le_refl _ | omega | (simp <;> omega))
      refine hK.out _ _ ?_ (fun hHeld2 => ?_)
      · exact hSnew
      try replace sl := sl.below hbl
      try replace sh := sh.below hbl
      clear hbl
      clear hK K hHeld hSnew
      have hHeld := hHeld2
      clear hHeld2
      try simp only [List.getElem_toArray, List.getElem_cons_succ, List.getElem_cons_zero, Act.put, List.setIfInBounds_toArray, List.set_cons_zero, List.set_cons_succ]
      refine wpAnyH_ready (rs := [16]) (by kernel_rfl) (by simp) ?_
      refine AllReadyH.cons rfl (fun K hK => ?_) AllReadyH.nil
      go_simp
      (refine (ints_yes A15 A14 _ _ c15 c14 H _ h15.sl_int sh.sl_int).mono ?_; rintro e wb ⟨rfl, hbl⟩; clear h15)
      try go_wp2_with fail
      have hSnew := Mem.bl_step hHeld hbl (by first | exact Nat.le_refl _ | omega | (simp <;> omega))
      refine hK.out _ _ ?_ (fun hHeld2 => ?_)
      · exact hSnew
      try replace sl := sl.below hbl
      try replace sh := sh.below hbl
      clear hbl
      clear hK K hHeld hSnew
      have hHeld := hHeld2
      clear hHeld2
      try simp only [List.getElem_toArray, List.getElem_cons_succ, List.getElem_cons_zero, Act.put, List.setIfInBounds_toArray, List.set_cons_zero, List.set_cons_succ]
      refine Mem.tkY 17 ?v51 (hy := Or.inl ⟨by rfl, ?y51⟩) (hS := by assumption) (h := ?r51)
      case y51 => (intro w hSw; clear hSw; go_simp; try with_reducible rfl)
      case' r51 => skip
      refine Mem.tkY 18 ?v52 (hy := Or.inl ⟨by rfl, ?y52⟩) (hS := by assumption) (h := ?r52)
      case y52 => (intro w hSw; clear hSw; go_simp; try with_reducible rfl)
      case' r52 => skip
      try simp only [List.getElem_toArray, List.getElem_cons_succ, List.getElem_cons_zero, Act.put, List.setIfInBounds_toArray, List.set_cons_zero, List.set_cons_succ]
      refine wpAnyH_ready (rs := [19]) (by kernel_rfl) (by simp) ?_
      refine AllReadyH.cons rfl (fun K hK => ?_) AllReadyH.nil
      go_simp
      (refine (works10 _).mono ?_; rintro e wb ⟨rfl, hbl⟩)
      try go_wp2_with fail
      have hSnew := Mem.bl_step hHeld hbl (by first | exact Nat.le_refl _ | omega | (simp <;> omega))
      refine hK.out _ _ ?_ (fun hHeld2 => ?_)
      · exact hSnew
      try replace sl := sl.below hbl
      try replace sh := sh.below hbl
      clear hbl
      clear hK K hHeld hSnew
      have hHeld := hHeld2
      clear hHeld2
      try simp only [List.getElem_toArray, List.getElem_cons_succ, List.getElem_cons_zero, Act.put, List.setIfInBounds_toArray, List.set_cons_zero, List.set_cons_succ]
      refine Mem.tkY 20 ?v53 (hy := Or.inl ⟨by rfl, ?y53⟩) (hS := by assumption) (h := ?r53)
      case y53 => (intro w hSw; clear hSw; go_simp; try with_reducible rfl)
      case' r53 => skip
      refine Mem.tkY 21 ?v54 (hy := Or.inl ⟨by rfl, ?y54⟩) (hS := by assumption) (h := ?r54)
      case y54 => (intro w hSw; clear hSw; go_simp; try with_reducible rfl)
      case' r54 => skip
      try simp only [List.getElem_toArray, List.getElem_cons_succ, List.getElem_cons_zero, Act.put, List.setIfInBounds_toArray, List.set_cons_zero, List.set_cons_succ]
      refine wpAnyH_done (by kernel_rfl) ?_ _
      go_wp2
      go_ret
      exact ⟨rfl, hbW.trans (hHeld.mono hbW.size)⟩
end Go.Proofs.Yteeodeooicoekaa.Rd
