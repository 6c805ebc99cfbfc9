/- RollTells. -/
import Derived.Test.YteeodeooicoekaaNc
import Derived.Test.YteeodeooicoekaaLf
import Derived.Test.YteeodeooicoekaaLh
import Derived.Test.YteeodeooicoekaaLk
import Derived.Test.YteeodeooicoekaaPq
namespace Go.Proofs.Yteeodeooicoekaa.Rd
open Go.RowKit Go.Proofs.Yteeodeooicoekaa.Mem Go.Proofs.Yteeodeooicoekaa.Open Go.Proofs.Yteeodeooicoekaa.Kind Go.Proofs.Yteeodeooicoekaa.Blk Go.Proofs.Yteeodeooicoekaa.App Go.Proofs.Yteeodeooicoekaa.Pat Go.Proofs.Yteeodeooicoekaa.Same
set_option linter.unusedVariables false
set_option linter.unusedSimpArgs false
set_option maxHeartbeats 8000000 in
set_option maxRecDepth 100000 in
theorem rolltells_walk (B : List Nat) (A : Option Addr) (c : Nat) (xs : List Chg) (bl : Int) (w : World) (hBl : B.length = 256) (hBb : ∀ x ∈ B, x < 256) (hx : Chs w A xs) (hc : A = none → c = 0) (hwb : (Lit.int .i64 bl).wf = true) :
    Calls Try.prog 6 #[.agg (blk B), .slice A xs.length c, .int .i64 bl] w fun e w' => e = .returned (.bool true) ∧ Below w.heap.size w w' := by
  have hia : (Try.prog.info? 22).map (·.size) = some (blk B).toList.length := by rw [Array.length_toList, blk_size, hBl]; exact arrSize
  have hsB : (blk B).size = 256 := by rw [blk_size]; exact hBl
  have r0 := Row.new w 22 (blk B)
  have bb := (Below.refl w.heap.size w).alloc (Nat.le_refl _) (.cells (blk B) 22)
  have hx0 := hx.below bb
  have CMu := Lib.hid (much_any A c xs 30 _ hx0 (by omega))
  have HBL := Lib.hid hBl
  clear hBl
  go_enter Try.func6, Try.ntmps6
  go_wp2_with fail
  generalize w.alloc (.cells (blk B) 22) = w0 at *
  cases hmu : muchC xs 30 with
  | true =>
    rw [hmu] at CMu
    refine CMu.out.mono ?_
    rintro e w1 ⟨rfl, hb1⟩
    have bb1 := bb.trans (hb1.mono bb.size)
    clear CMu
    go_wp2_with fail
    refine (works10 _).mono ?_
    rintro e wB ⟨rfl, hbB⟩
    go_wp2
    go_ret
    exact ⟨rfl, bb1.trans (hbB.mono bb1.size)⟩
  | false =>
    rw [hmu] at CMu
    obtain ⟨hn, hs⟩ := muchC_no hmu
    clear hmu
    refine CMu.out.mono ?_
    rintro e w1 ⟨rfl, hb1⟩
    have bb1 := bb.trans (hb1.mono bb.size)
    have r1 : Row w1 w.heap.size 22 (blk B) := Row.below r0 hb1
    have hx1 := hx.below bb1
    clear CMu hb1 bb hx0 r0
    have hIl : (imgF B xs bl).length = 256 := (imgF_len _ _ _).trans HBL.out
    have hIb : ∀ x ∈ imgF B xs bl, x < 256 := imgF_bytes HBL.out hBb (chs_pd hx1)
    have hVl : (viewF B xs bl).length = 256 := (viewF_len _ _ _).trans HBL.out
    have hwf := ready_wf2 hx1 bl
    have hhw := held_wf hx1 bl
    have CT := Lib.hid (fun w' h => to9_any A c xs w' h hs (by omega))
    have CV := Lib.hid (fun A' c' w' h => View_any A' c' xs bl B w' h HBL.out (by omega))
    have CI := Lib.hid (fun A' c' w' h k1 k2 => Image_any A' c' xs bl B w' h HBL.out k1 k2 (by omega) hs)
    have CRV := Lib.hid (fun g w' h hB => RView_any A c xs bl (some ⟨g, 0, none⟩) 256 B w' h HBL.out (Nat.le_refl _) (by decide) (fun h => by cases h) hB (by omega))
    have CRI := Lib.hid (fun g w' h hB => RImage_any A c xs bl (some ⟨g, 0, none⟩) 256 B w' h HBL.out (Nat.le_refl _) (by decide) (fun h => by cases h) hB (by omega))
    have CR := Lib.hid (fun w' h => RReady_any A c xs bl w' h (by omega))
    have CH := Lib.hid (fun A' c' w' h k1 k2 => Held_any A' c' xs bl w' h k1 k2 (by omega) hs)
    have CRH := Lib.hid (fun w' h => RHeld_any A c xs bl w' h (by omega))
    have CBK := Lib.hid (fun A' c' w' h k1 k2 => Back_any A' c' xs bl B w' h HBL.out hIb k1 k2 (by omega) hs)
    have hDn : (diffL (viewF B xs bl) (imgF B xs bl)).length ≤ 1000 := by have := diffK_len (viewF B xs bl) (imgF B xs bl) 256; show (diffK _ _ 256).length ≤ 1000; omega
    obtain ⟨I, hI⟩ : ∃ I, imgF B xs bl = I := ⟨_, rfl⟩
    rw [hI] at CI CRI CBK hIl hDn
    obtain ⟨V, hV⟩ : ∃ V, viewF B xs bl = V := ⟨_, rfl⟩
    rw [hV] at CV CRV CBK hVl hDn
    have CD := Lib.hid (fun A1 c1 A2 c2 w' h1 h2 => rdiff_any A1 c1 A2 c2 V I w' hVl hIl h1 h2)
    obtain ⟨D, hD⟩ : ∃ D, diffL V I = D := ⟨_, rfl⟩
    rw [hD] at CBK CD hDn
    obtain ⟨R, hR⟩ : ∃ R, readyS xs bl = R := ⟨_, rfl⟩
    rw [hR] at CI CR hwf
    obtain ⟨H, hH⟩ : ∃ H, heldF xs bl = H := ⟨_, rfl⟩
    rw [hH] at CH CRH hhw
    clear hI hV hD hR hH hIb
    have hsI : (blk I).size = 256 := by rw [blk_size]; exact hIl
    have hsV : (blk V).size = 256 := by rw [blk_size]; exact hVl
    have HIL := Lib.hid hIl
    have HVL := Lib.hid hVl
    clear hIl hVl
    go_wp2_with fail
    refine (CT.out _ hx1).mono ?_
    rintro e w2 ⟨v2, rfl, hown2, hb2⟩
    obtain ⟨A7, c7, rfl, k1, k2, k3, hx2⟩ := hown2.rw_
    have HB2 := Lib.hid (bb1.trans (hb2.mono bb1.size))
    have HR2 := Lib.hid (Row.below r1 hb2)
    have CV := Lib.hid (CV.out A7 c7 _ hx2)
    have CI := Lib.hid (fun w' h => CI.out A7 c7 w' h k1 k2)
    have CH := Lib.hid (fun w' h => CH.out A7 c7 w' h k1 k2)
    have CBK := Lib.hid (fun w' h => CBK.out A7 c7 w' h k1 k2)
    have HX2 := Lib.hid hx2
    have HL2 := Lib.hid (hx1.below hb2)
    clear hown2 hb2 bb1 r1 hx1 hx2 k1 k2 k3 CT
    go_wp2_with (with_reducible refine wpList_load rfl 22 _ rfl _ rfl 22 (blk B) 256 5 arrUnd arrSize hsB HR2.out.out ?_)
    refine CV.out.mono ?_
    rintro e w3 ⟨rfl, hb3⟩
    obtain ⟨⟨r8, b8, z8⟩⟩ : Nonempty (_ ∧ _ ∧ _) := ⟨boxed w3 26 (blk zblk) (blk V)⟩
    have R0 : Row (w3.alloc (.cells (blk zblk) 26)) w3.heap.size 26 (blk zblk) := Row.new _ _ _
    have hb38 := hb3.trans (b8.mono hb3.size)
    have HR2R := Lib.hid (HR2.out.below hb38).out
    obtain ⟨W, hW⟩ : ∃ W, W = (w3.alloc (.cells (blk zblk) 26)).setRow w3.heap.size (blk V) := ⟨_, rfl⟩
    rw [← hW] at r8 b8 z8 hb38
    have HW := Lib.hid hW
    clear hW
    have HR3 := Lib.hid (HR2.out.below hb38)
    have HR8 := Lib.hid r8
    have HX3 := Lib.hid (HX2.out.below hb38)
    have HL3 := Lib.hid (HL2.out.below hb38)
    have HB3 := Lib.hid (HB2.out.trans (hb38.mono HB2.out.size))
    have CI := Lib.hid (CI.out W HX3.out)
    clear hb3 b8 r8 hb38 HR2 HX2 HL2 HB2 CV
    go_wp2_with (first
      | (with_reducible refine wpList_allocA rfl 26 rfl _ blkZero ?_)
      | (with_reducible refine wpList_storeRow rfl 26 _ _ rfl w3.heap.size rfl (blk V) rfl (blk zblk) 26 256 blkSize hsV zblk_size (blk_one _) R0 ?_)
      | (with_reducible refine wpList_load rfl 22 _ rfl _ rfl 22 (blk B) 256 5 arrUnd arrSize hsB HR2R.out ?_))
    rw [← HW.out]
    clear R0 HW HR2R
    refine CI.out.mono ?_
    rintro e w4 ⟨v10, rfl, ho10, hb4⟩
    obtain ⟨A10, c10, rfl, -, -, -, hR10⟩ := own_is ho10 hwf
    obtain ⟨⟨r9, b9, z9⟩⟩ : Nonempty (_ ∧ _ ∧ _) := ⟨boxed w4 26 (blk zblk) (blk I)⟩
    have R0 : Row (w4.alloc (.cells (blk zblk) 26)) w4.heap.size 26 (blk zblk) := Row.new _ _ _
    obtain ⟨W2, hW⟩ : ∃ W, W = (w4.alloc (.cells (blk zblk) 26)).setRow w4.heap.size (blk I) := ⟨_, rfl⟩
    rw [← hW] at r9 b9 z9
    have HW := Lib.hid hW
    clear hW
    have hb49 := hb4.trans (b9.mono hb4.size)
    have p3 := (HR3.out.below hb49).drew
    have p8 := (HR8.out.below hb49).drew
    have p9 := r9.drew
    have sx := (HX3.out.below hb49).drew
    have sl := (HL3.out.below hb49).drew
    have si := (hR10.below b9).drew
    have hbW := (HB3.out.trans (hb49.mono HB3.out.size)).drew
    clear ho10 hb4 b9 r9 hb49 HR3 HR8 HX3 HL3 HB3 CI hR10
    go_wp2_with (first
      | (with_reducible refine wpList_allocA rfl 26 rfl _ blkZero ?_)
      | (with_reducible refine wpList_storeRow rfl 26 _ _ rfl w4.heap.size rfl (blk I) rfl (blk zblk) 26 256 blkSize hsI zblk_size (blk_one _) R0 ?_))
    rw [← HW.out]
    clear R0 HW
    refine wp_region_held_drew (S := Go.RowKit.Below ((W2.drew).heap.size) (W2.drew)) (by kernel_rfl) ?hb5 (fun hHeld => ?rest5)
    case hb5 =>
      exact Go.RowKit.Below.refl _ _
    case' rest5 => skip
    refine Mem.tkY 0 ?v6 (hy := Or.inl ⟨by rfl, ?y6⟩) (hS := by assumption) (h := ?r6)
    case y6 => (intro w hSw; clear hSw; go_simp; try with_reducible rfl)
    case' r6 => skip
    refine Mem.tkY 1 ?v7 (hy := Or.inl ⟨by rfl, ?y7⟩) (hS := by assumption) (h := ?r7)
    case y7 => (intro w hSw; clear hSw; go_simp; try with_reducible rfl)
    case' r7 => skip
    refine Mem.tkY 2 ?v8 (hy := Or.inl ⟨by rfl, ?y8⟩) (hS := by assumption) (h := ?r8)
    case y8 => (intro w hSw; clear hSw; go_simp; try with_reducible rfl)
    case' r8 => skip
    try simp only [List.getElem_toArray, List.getElem_cons_succ, List.getElem_cons_zero, Act.put, List.setIfInBounds_toArray, List.set_cons_zero, List.set_cons_succ]
    refine Mem.tkY 4 ?v9 (hy := Or.inl ⟨by rfl, ?y9⟩) (hS := by assumption) (h := ?r9)
    case y9 => (intro w hSw; clear hSw; go_simp; try with_reducible rfl)
    case' r9 => skip
    refine Mem.tkY 5 ?v10 (hy := Or.inl ⟨by rfl, ?y10⟩) (hS := by assumption) (h := ?r10)
    case y10 => (intro w hSw; clear hSw; go_simp; try with_reducible rfl)
    case' r10 => skip
    refine Mem.tkY 6 ?v11 (hy := Or.inl ⟨by rfl, ?y11⟩) (hS := by assumption) (h := ?r11)
    case y11 => (intro w hSw; clear hSw; go_simp; try with_reducible rfl)
    case' r11 => skip
    try simp only [List.getElem_toArray, List.getElem_cons_succ, List.getElem_cons_zero, Act.put, List.setIfInBounds_toArray, List.set_cons_zero, List.set_cons_succ]
    refine wpAnyH_ready (rs := [3]) (by kernel_rfl) (by simp) ?_
    refine AllReadyH.cons rfl (fun K hK => ?_) AllReadyH.nil
    go_simp
    (refine (CRV.out w.heap.size _ sl (row_by2 p3 HBL.out hBb)).mono ?_; rintro e wb ⟨A11, c11, rfl, -, -, -, h11, hbl⟩; replace h11 := h11.below (Below.refl _ _))
    try go_wp2_with fail
    have hSnew := Mem.bl_step hHeld hbl (by first | exact Nat.le_refl _ | omega | (simp <;> omega))
    refine hK.out _ _ ?_ (fun hHeld2 => ?_)
    · exact hSnew
    try replace p3 := p3.below hbl
    try replace p8 := p8.below hbl
    try replace p9 := p9.below hbl
    try replace sx := sx.below hbl
    try replace sl := sl.below hbl
    try replace si := si.below hbl
    try replace h11 := h11.below hbl
    try replace h12 := h12.below hbl
    clear hbl
    clear hK K hHeld hSnew
    have hHeld := hHeld2
    clear hHeld2
    try simp only [List.getElem_toArray, List.getElem_cons_succ, List.getElem_cons_zero, Act.put, List.setIfInBounds_toArray, List.set_cons_zero, List.set_cons_succ]
    refine wpAnyH_ready (rs := [7]) (by kernel_rfl) (by simp) ?_
    refine AllReadyH.cons rfl (fun K hK => ?_) AllReadyH.nil
    go_simp
    (refine (CRI.out w.heap.size _ sl (row_by2 p3 HBL.out hBb)).mono ?_; rintro e wb ⟨A12, c12, rfl, -, -, -, h12, hbl⟩; replace h12 := h12.below (Below.refl _ _))
    try go_wp2_with fail
    have hSnew := Mem.bl_step hHeld hbl (by first | exact Nat.le_refl _ | omega | (simp <;> omega))
    refine hK.out _ _ ?_ (fun hHeld2 => ?_)
    · exact hSnew
    try replace p3 := p3.below hbl
    try replace p8 := p8.below hbl
    try replace p9 := p9.below hbl
    try replace sx := sx.below hbl
    try replace sl := sl.below hbl
    try replace si := si.below hbl
    try replace h11 := h11.below hbl
    try replace h12 := h12.below hbl
    clear hbl
    clear hK K hHeld hSnew
    have hHeld := hHeld2
    clear hHeld2
    try simp only [List.getElem_toArray, List.getElem_cons_succ, List.getElem_cons_zero, Act.put, List.setIfInBounds_toArray, List.set_cons_zero, List.set_cons_succ]
    refine Mem.tkY 8 ?v12 (hy := Or.inl ⟨by rfl, ?y12⟩) (hS := by assumption) (h := ?r12)
    case y12 => (intro w hSw; clear hSw; go_simp; try with_reducible rfl)
    case' r12 => skip
    refine Mem.tkY 9 ?v13 (hy := Or.inl ⟨by rfl, ?y13⟩) (hS := by assumption) (h := ?r13)
    case y13 => (intro w hSw; clear hSw; go_simp; try with_reducible rfl)
    case' r13 => skip
    try simp only [List.getElem_toArray, List.getElem_cons_succ, List.getElem_cons_zero, Act.put, List.setIfInBounds_toArray, List.set_cons_zero, List.set_cons_succ]
    refine wpAnyH_done (by kernel_rfl) ?_ _
    go_wp2_with fail
    have hbX := hbW.trans (hHeld.mono hbW.size)
    clear hHeld hbW z8 z9
    have HH := Lib.hid p8
    refine (same_blk _ A11 256 256 256 c11 V _ (sl256 HVL.out p8) (HVL.out ▸ h11.sl_byte)).mono ?_
    rintro e w6 ⟨rfl, hb6⟩
    replace p3 := p3.below hb6
    replace p9 := p9.below hb6
    replace sx := sx.below hb6
    replace sl := sl.below hb6
    replace si := si.below hb6
    replace h11 := h11.below hb6
    replace h12 := h12.below hb6
    replace hbX := hbX.trans (hb6.mono hbX.size)
    clear hb6 p8 HH
    go_wp2_with fail
    refine (same_blk _ A12 256 256 256 c12 I _ (sl256 HIL.out p9) (HIL.out ▸ h12.sl_byte)).mono ?_
    rintro e w7 ⟨rfl, hb7⟩
    replace p3 := p3.below hb7
    replace sx := sx.below hb7
    replace sl := sl.below hb7
    replace si := si.below hb7
    replace h11 := h11.below hb7
    replace h12 := h12.below hb7
    replace hbX := hbX.trans (hb7.mono hbX.size)
    clear hb7 p9
    go_wp2_with fail
    refine (CR.out _ sl).mono ?_
    rintro e w8 ⟨v8, rfl, ho8, hb8⟩
    replace p3 := p3.below hb8
    replace sx := sx.below hb8
    replace sl := sl.below hb8
    replace si := si.below hb8
    replace h11 := h11.below hb8
    replace h12 := h12.below hb8
    replace hbX := hbX.trans (hb8.mono hbX.size)
    clear hb8
    obtain ⟨A8, c8, rfl, -, -, -, h8⟩ := own_is ho8 hwf
    clear ho8
    go_wp2_with fail
    refine (ints_yes A10 A8 _ _ c10 c8 R _ si.sl_int h8.sl_int).mono ?_
    rintro e w9 ⟨rfl, hb9⟩
    replace p3 := p3.below hb9
    replace sx := sx.below hb9
    replace sl := sl.below hb9
    replace h11 := h11.below hb9
    replace h12 := h12.below hb9
    replace hbX := hbX.trans (hb9.mono hbX.size)
    clear hb9 si h8
    go_wp2_with fail
    refine (CH.out _ sx).mono ?_
    rintro e wA ⟨vA, rfl, hoA, hbA⟩
    replace p3 := p3.below hbA
    replace sx := sx.below hbA
    replace sl := sl.below hbA
    replace h11 := h11.below hbA
    replace h12 := h12.below hbA
    replace hbX := hbX.trans (hbA.mono hbX.size)
    clear hbA
    obtain ⟨AA, cA, rfl, -, -, -, hA⟩ := own_is hoA hhw
    clear hoA
    go_wp2_with fail
    refine (CRH.out _ sl).mono ?_
    rintro e wC ⟨vC, rfl, hoC, hbC⟩
    replace hA := hA.below hbC
    replace p3 := p3.below hbC
    replace sx := sx.below hbC
    replace h11 := h11.below hbC
    replace h12 := h12.below hbC
    replace hbX := hbX.trans (hbC.mono hbX.size)
    clear hbC sl
    obtain ⟨AC, cC, rfl, -, -, -, hC⟩ := own_is hoC hhw
    clear hoC
    go_wp2_with fail
    refine (ints_yes AA AC _ _ cA cC H _ hA.sl_int hC.sl_int).mono ?_
    rintro e wD ⟨rfl, hbD⟩
    replace p3 := p3.below hbD
    replace sx := sx.below hbD
    replace h11 := h11.below hbD
    replace h12 := h12.below hbD
    replace hbX := hbX.trans (hbD.mono hbX.size)
    clear hbD hA hC
    have HP3 := Lib.hid p3
    clear p3
    go_wp2_with (refine wpList_loadG (by kernel_rfl) 22 _ (by rfl) _ (by rfl) 22 (blk B) 256 5 arrUnd arrSize hsB HP3.out.out ?_)
    refine (CBK.out _ sx).mono ?_
    rintro e wE ⟨vE, rfl, hoE, hbE⟩
    replace h11 := h11.below hbE
    replace h12 := h12.below hbE
    replace hbX := hbX.trans (hbE.mono hbX.size)
    clear hbE sx HP3
    obtain ⟨AE, cE, rfl, -, -, -, hE⟩ := hoE.rw_
    clear hoE
    go_wp2_with fail
    refine (ofall_any AE cE D _ hE hDn).mono ?_
    rintro e wF ⟨vF, rfl, hoF, hbF⟩
    replace h11 := h11.below hbF
    replace h12 := h12.below hbF
    replace hbX := hbX.trans (hbF.mono hbX.size)
    clear hbF hE
    obtain ⟨AF, cF, rfl, -, -, -, hF⟩ := hoF.rw_
    clear hoF
    go_wp2_with fail
    refine (CD.out A11 c11 A12 c12 _ h11 h12).mono ?_
    rintro e wG ⟨vG, rfl, hoG, hbG⟩
    replace hF := hF.below hbG
    replace hbX := hbX.trans (hbG.mono hbX.size)
    clear hbG h11 h12
    obtain ⟨AG, cG, rfl, -, -, -, hG⟩ := hoG.rw_
    clear hoG
    go_wp2_with fail
    refine (Pat.sameall_yes AF AG cF cG D _ hF hG hDn).mono ?_
    rintro e wH ⟨rfl, hbH⟩
    replace hbX := hbX.trans (hbH.mono hbX.size)
    clear hbH hF hG
    go_wp2_with fail
    refine (works10 _).mono ?_
    rintro e wI ⟨rfl, hbI⟩
    replace hbX := hbX.trans (hbI.mono hbX.size)
    clear hbI
    go_wp2
    go_ret
    exact ⟨rfl, hbX⟩
end Go.Proofs.Yteeodeooicoekaa.Rd
