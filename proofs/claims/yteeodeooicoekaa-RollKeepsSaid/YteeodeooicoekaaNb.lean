/- RollKeeps. -/
import Derived.Test.YteeodeooicoekaaNa
namespace Go.Proofs.Yteeodeooicoekaa.Rd
open Go.RowKit Go.Proofs.Yteeodeooicoekaa.Mem Go.Proofs.Yteeodeooicoekaa.Open Go.Proofs.Yteeodeooicoekaa.Kind Go.Proofs.Yteeodeooicoekaa.Blk Go.Proofs.Yteeodeooicoekaa.App Go.Proofs.Yteeodeooicoekaa.Pat Go.Proofs.Yteeodeooicoekaa.Same
set_option linter.unusedVariables false
set_option linter.unusedSimpArgs false
theorem wo_len2 (xs : List Chg) (b : Int) : (woS xs (readyS xs b)).length + (readyS xs b).length = xs.length := by
  cases hm : mayF 0 xs with
  | true => exact wo_len hm b
  | false => rw [readyS_not hm, woS_nil]; rfl
set_option maxHeartbeats 8000000 in
set_option maxRecDepth 100000 in
theorem keeps_walk (B : List Nat) (A : Option Addr) (c : Nat) (xs : List Chg) (ys : List Int) (w : World) (hBl : B.length = 256) (hBb : ∀ x ∈ B, x < 256) (hx : Chs w A xs) (hc : A = none → c = 0) (hyl : ys.length = 2) (hyw : ∀ x ∈ ys, (Lit.int .i64 x).wf = true) :
    Calls Try.prog 4 #[.agg (blk B), .slice A xs.length c, .agg (ys.map (Value.int .i64)).toArray] w fun e w' => e = .returned (.bool true) ∧ Below w.heap.size w w' := by
  obtain ⟨bl, d, rfl⟩ : ∃ bl d, ys = [bl, d] := by
    match ys, hyl with
    | [a, b], _ => exact ⟨a, b, rfl⟩
  clear hyl hyw
  simp only [List.map_cons, List.map_nil]
  have hia : (Try.prog.info? 22).map (·.size) = some (blk B).toList.length := by rw [Array.length_toList, blk_size, hBl]; exact arrSize
  have hsB : (blk B).size = 256 := by rw [blk_size]; exact hBl
  obtain ⟨r0, q0, bb⟩ := two_rows w 22 41 (blk B) #[.int .i64 bl, .int .i64 d]
  have hx0 := hx.below bb
  have CMu := Lib.hid (much_any A c xs 30 _ hx0 (by omega))
  have HBL := Lib.hid hBl
  clear hBl
  go_enter Try.func4, Try.ntmps4
  go_wp2_with fail
  generalize (w.alloc (.cells (blk B) 22)).alloc (.cells #[.int .i64 bl, .int .i64 d] 41) = w0 at *
  cases hmu : muchC xs 30 with
  | true =>
    rw [hmu] at CMu
    refine CMu.out.mono ?_
    rintro e w1 ⟨rfl, hb1⟩
    have bb1 := bb.trans (hb1.mono bb.size)
    clear CMu
    go_wp2_with fail
    refine (works10 _).mono ?_
    rintro e wB ⟨rfl, hbB⟩
    go_wp2
    go_ret
    exact ⟨rfl, bb1.trans (hbB.mono bb1.size)⟩
  | false =>
    rw [hmu] at CMu
    obtain ⟨hn, hs⟩ := muchC_no hmu
    clear hmu
    refine CMu.out.mono ?_
    rintro e w1 ⟨rfl, hb1⟩
    have bb1 := bb.trans (hb1.mono bb.size)
    have r1 : Row w1 w.heap.size 22 (blk B) := Row.below r0 hb1
    have q1 : Row w1 (w.heap.size + 1) 41 #[.int .i64 bl, .int .i64 d] := Row.below q0 hb1
    have hx1 := hx.below bb1
    clear CMu hb1 bb hx0 r0 q0
    have hIl : (imgF B xs bl).length = 256 := (imgF_len _ _ _).trans HBL.out
    have hVl : (viewF B xs bl).length = 256 := (viewF_len _ _ _).trans HBL.out
    have hUl : (viewF B xs d).length = 256 := (viewF_len _ _ _).trans HBL.out
    have hwf := ready_wf2 hx1 bl
    have hsum : Hid ((woS xs (readyS xs bl)).length + (readyS xs bl).length = xs.length) := Lib.hid (wo_len2 xs bl)
    have CT := Lib.hid (fun w' h => to9_any A c xs w' h hs (by omega))
    have CW := Lib.hid (fun A' c' w' h k1 k2 => Write_any A' c' xs bl B w' h HBL.out k1 k2 (by omega) hs)
    have HK1 := Lib.hid (keeps_same xs bl HBL.out)
    have HK2 := Lib.hid (fun h : bl ≠ d => keeps_other xs h B)
    have hLn := woS_len xs (readyS xs bl)
    have CV1 := Lib.hid (fun A' c' w' h => View_any A' c' (woS xs (readyS xs bl)) bl (imgF B xs bl) w' h hIl (by omega))
    have CV2 := Lib.hid (fun A' c' w' h => View_any A' c' xs bl B w' h HBL.out (by omega))
    have CV3 := Lib.hid (fun A' c' w' h => View_any A' c' (woS xs (readyS xs bl)) d B w' h HBL.out (by omega))
    have CV4 := Lib.hid (fun A' c' w' h => View_any A' c' xs d B w' h HBL.out (by omega))
    rw [HK1.out] at CV1
    clear HK1 hLn
    obtain ⟨I, hI⟩ : ∃ I, imgF B xs bl = I := ⟨_, rfl⟩
    rw [hI] at CW CV1 hIl
    obtain ⟨R, hR⟩ : ∃ R, readyS xs bl = R := ⟨_, rfl⟩
    rw [hR] at CW CV1 CV3 HK2 hsum hwf
    obtain ⟨L, hL⟩ : ∃ L, woS xs R = L := ⟨_, rfl⟩
    rw [hL] at CW CV1 CV3 HK2 hsum
    obtain ⟨V, hV⟩ : ∃ V, viewF B xs bl = V := ⟨_, rfl⟩
    rw [hV] at CV1 CV2 hVl
    obtain ⟨U, hU⟩ : ∃ U, viewF B xs d = U := ⟨_, rfl⟩
    rw [hU] at CV4 HK2 hUl
    clear hI hR hL hV hU
    have hsI : (blk I).size = 256 := by rw [blk_size]; exact hIl
    have hiI : (Try.prog.info? 26).map (·.size) = some (blk I).toList.length := blkSizeL I hIl
    have heqV : ∀ w, (Op.equalIn 10000 26 (.agg (blk V)) (.agg (blk V))).run Try.prog w = .ok true w := fun w => by rw [run_eq_blk _ _ hVl hVl, decide_eq_true rfl]
    have heqU : ∀ w, (Op.equalIn 10000 26 (.agg (blk U)) (.agg (blk U))).run Try.prog w = .ok true w := fun w => by rw [run_eq_blk _ _ hUl hUl, decide_eq_true rfl]
    clear hIl hVl hUl
    go_wp2_with fail
    refine (CT.out _ hx1).mono ?_
    rintro e w2 ⟨v2, rfl, hown2, hb2⟩
    obtain ⟨A7, c7, rfl, k1, k2, k3, hx2⟩ := hown2.rw_
    have bb2 := bb1.trans (hb2.mono bb1.size)
    have r2 : Row w2 w.heap.size 22 (blk B) := Row.below r1 hb2
    have q2 : Row w2 (w.heap.size + 1) 41 #[.int .i64 bl, .int .i64 d] := Row.below q1 hb2
    have c0 : w2.cell? ⟨w.heap.size + 1, 0, none⟩ = some (.int .i64 bl) := q2.cell 0 rfl
    have CW := Lib.hid (CW.out A7 c7 _ hx2 k1 k2)
    have HR2 := Lib.hid r2
    have HQ2 := Lib.hid q2
    have HX2 := Lib.hid hx2
    have HB2 := Lib.hid bb2
    clear hown2 hb2 bb1 r1 q1 r2 q2 hx2 bb2 k1 k2 k3 CT
    go_wp2_with (with_reducible refine wpList_load rfl 22 _ rfl _ rfl 22 (blk B) 256 5 arrUnd arrSize hsB HR2.out.out ?_)
    refine CW.out.mono ?_
    rintro e w3 ⟨v5, v6, rfl, ho5, ho6, hb3⟩
    obtain ⟨A8, c8, rfl, -, -, -, hLl⟩ := (kF_weak ho5).rw_
    obtain ⟨A9, c9, rfl, -, -, -, hRl⟩ := own_is ho6 hwf
    obtain ⟨⟨r8, b8, z8⟩⟩ : Nonempty (_ ∧ _ ∧ _) := ⟨boxed w3 26 (blk zblk) (blk I)⟩
    have R0 : Row (w3.alloc (.cells (blk zblk) 26)) w3.heap.size 26 (blk zblk) := Row.new _ _ _
    obtain ⟨W, hW⟩ : ∃ W, W = (w3.alloc (.cells (blk zblk) 26)).setRow w3.heap.size (blk I) := ⟨_, rfl⟩
    rw [← hW] at r8 b8 z8
    have HW := Lib.hid hW
    clear hW
    have hb38 := hb3.trans (b8.mono hb3.size)
    have p3 := (HR2.out.below hb38).drew
    have p5 := (HQ2.out.below hb38).drew
    have p8 := r8.drew
    have hl8 := (hLl.below b8).drew
    have hx8 := (HX2.out.below hb38).drew
    have hb48 := (HB2.out.trans (hb38.mono HB2.out.size)).drew
    clear ho5 ho6 hb3 b8 r8 hLl hRl hb38 HR2 HQ2 HX2 HB2 CW c0
    have hsum := hsum.out
    have hsumI : (L.length : Int) + (R.length : Int) = (xs.length : Int) := by omega
    have hxl : (xs.length : Int) ≤ 30 := by omega
    have hwr : IntKind.i64.wrap (xs.length : Int) = (xs.length : Int) := by rw [IntKind.wrap_i64]; omega
    clear hsum
    go_wp2_with (first
      | (with_reducible refine wpList_allocA rfl 26 rfl _ blkZero ?_)
      | (with_reducible refine wpList_storeRow rfl 26 _ _ rfl w3.heap.size rfl (blk I) rfl (blk zblk) 26 256 blkSize hsI zblk_size (blk_one _) R0 ?_))
    rw [← HW.out]
    clear R0 HW
    refine wp_region_held_drew (S := Go.RowKit.Below ((W.drew).heap.size) (W.drew)) (by kernel_rfl) ?hb5 (fun hHeld => ?rest5)
    case hb5 =>
      exact Go.RowKit.Below.refl _ _
    case' rest5 => skip
    have hCl := fun (wS : World) (hSw : Go.RowKit.Below ((W.drew).heap.size) (W.drew) wS) =>  (Mem.bl_row hSw p5 (by first | exact Mem.Row.lt p5 | omega | (simp <;> omega))).cell 0 rfl
    replace hCl := Go.Lib.hid hCl
    refine Mem.tkY 0 ?v6 (hy := Or.inl ⟨by rfl, ?y6⟩) (hS := by assumption) (h := ?r6)
    case y6 => (intro w hSw; clear hSw; go_simp; try with_reducible rfl)
    case' r6 => skip
    refine Mem.tkY 1 ?v7 (hy := Or.inl ⟨by rfl, ?y7⟩) (hS := by assumption) (h := ?r7)
    case y7 => (intro w hSw; clear hSw; go_simp; try with_reducible rfl)
    case' r7 => skip
    refine Mem.tkY 2 ?v8 (hy := Or.inl ⟨by rfl, ?y8⟩) (hS := by assumption) (h := ?r8)
    case y8 => (intro w hSw; clear hSw; go_simp; try with_reducible rfl)
    case' r8 => skip
    try simp only [List.getElem_toArray, List.getElem_cons_succ, List.getElem_cons_zero, Act.put, List.setIfInBounds_toArray, List.set_cons_zero, List.set_cons_succ]
    refine Mem.tkY 3 ?v9 (hy := Or.inl ⟨by rfl, ?y9⟩) (hS := by assumption) (h := ?r9)
    case y9 => (intro w hSw; clear hSw; go_simp; try with_reducible rfl)
    case' r9 => skip
    refine Mem.tkY 4 ?v10 (hy := Or.inl ⟨by rfl, ?y10⟩) (hS := by assumption) (h := ?r10)
    case y10 => (intro w hSw; clear hSw; go_simp; try with_reducible rfl)
    case' r10 => skip
    refine Mem.tkY 5 ?v11 (hy := Or.inl ⟨by rfl, ?y11⟩) (hS := by assumption) (h := ?r11)
    case y11 => (intro w hSw; clear hSw; go_simp; try with_reducible rfl)
    case' r11 => skip
    try simp only [List.getElem_toArray, List.getElem_cons_succ, List.getElem_cons_zero, Act.put, List.setIfInBounds_toArray, List.set_cons_zero, List.set_cons_succ]
    refine Mem.tkY 6 ?v12 (hy := Or.inl ⟨by rfl, ?y12⟩) (hS := by assumption) (h := ?r12)
    case y12 => (intro w hSw; clear hSw; go_simp; try with_reducible rfl)
    case' r12 => skip
    refine Mem.tkY 7 ?v13 (hy := Or.inl ⟨by rfl, ?y13⟩) (hS := by assumption) (h := ?r13)
    case y13 => (intro w hSw; clear hSw; go_simp; try with_reducible rfl)
    case' r13 => skip
    refine Mem.tkY 8 ?v14 (hy := Or.inl ⟨by rfl, ?y14⟩) (hS := by assumption) (h := ?r14)
    case y14 => (intro w hSw; clear hSw; go_simp; try with_reducible rfl)
    case' r14 => skip
    first
      | refine' wpAnyH_take (i := 9) (v := _) rfl (by kernel_rfl) (by kernel_rfl) (by kernel_rfl) (fun _ _ _ h => h) (yieldsIf_load_mid (by rfl) _ _ rfl _ _ rfl _ _ (fun w hSw => (Mem.bl_row hSw p8 (by first | exact Mem.Row.lt p8 | omega | (simp <;> omega))).range) blkUnd rfl hiI) (by assumption) ?rest15
      | refine wpAnyH_take (i := 9) (v := undef) rfl (by kernel_rfl) (by kernel_rfl) (by kernel_rfl) (fun _ _ _ h => h) (Or.inr ⟨by rfl, rfl⟩) (by assumption) ?rest15
    case' rest15 => skip
    try simp only [List.getElem_toArray, List.getElem_cons_succ, List.getElem_cons_zero, Act.put, List.setIfInBounds_toArray, List.set_cons_zero, List.set_cons_succ]
    try simp only [List.getElem_toArray, List.getElem_cons_succ, List.getElem_cons_zero, Act.put, List.setIfInBounds_toArray, List.set_cons_zero, List.set_cons_succ]
    first | refine Mem.tkY 10 undef (hy := Or.inr ⟨by rfl, rfl⟩) (hS := by assumption) (h := ?r16) | (refine Mem.tkY 10 ?v16 (hy := Or.inl ⟨by rfl, ?y16⟩) (hS := by assumption) (h := ?r16); case y16 => (intro w hSw; clear hSw; go_simp; try with_reducible rfl))
    case' r16 => skip
    try simp only [List.getElem_toArray, List.getElem_cons_succ, List.getElem_cons_zero, Act.put, List.setIfInBounds_toArray, List.set_cons_zero, List.set_cons_succ]
    first | refine Mem.tkY 11 undef (hy := Or.inr ⟨by rfl, rfl⟩) (hS := by assumption) (h := ?r17) | (refine Mem.tkY 11 ?v17 (hy := Or.inl ⟨by rfl, ?y17⟩) (hS := by assumption) (h := ?r17); case y17 => (intro w hSw; clear hSw; go_simp; try with_reducible rfl))
    case' r17 => skip
    try simp only [List.getElem_toArray, List.getElem_cons_succ, List.getElem_cons_zero, Act.put, List.setIfInBounds_toArray, List.set_cons_zero, List.set_cons_succ]
    first | refine Mem.tkY 12 undef (hy := Or.inr ⟨by rfl, rfl⟩) (hS := by assumption) (h := ?r18) | (refine Mem.tkY 12 ?v18 (hy := Or.inl ⟨by rfl, ?y18⟩) (hS := by assumption) (h := ?r18); case y18 => (intro w hSw; have hT0 := hCl.out w hSw; clear hSw; go_simp; try with_reducible rfl))
    case' r18 => skip
    first
      | refine' wpAnyH_take (i := 14) (v := _) rfl (by kernel_rfl) (by kernel_rfl) (by kernel_rfl) (fun _ _ _ h => h) (yieldsIf_load_mid (by rfl) _ _ rfl _ _ rfl _ _ (fun w hSw => (Mem.bl_row hSw p3 (by first | exact Mem.Row.lt p3 | omega | (simp <;> omega))).range) arrUnd rfl hia) (by assumption) ?rest19
      | refine wpAnyH_take (i := 14) (v := undef) rfl (by kernel_rfl) (by kernel_rfl) (by kernel_rfl) (fun _ _ _ h => h) (Or.inr ⟨by rfl, rfl⟩) (by assumption) ?rest19
    case' rest19 => skip
    try simp only [List.getElem_toArray, List.getElem_cons_succ, List.getElem_cons_zero, Act.put, List.setIfInBounds_toArray, List.set_cons_zero, List.set_cons_succ]
    try simp only [List.getElem_toArray, List.getElem_cons_succ, List.getElem_cons_zero, Act.put, List.setIfInBounds_toArray, List.set_cons_zero, List.set_cons_succ]
    first | refine Mem.tkY 15 undef (hy := Or.inr ⟨by rfl, rfl⟩) (hS := by assumption) (h := ?r20) | (refine Mem.tkY 15 ?v20 (hy := Or.inl ⟨by rfl, ?y20⟩) (hS := by assumption) (h := ?r20); case y20 => (intro w hSw; clear hSw; go_simp; try with_reducible rfl))
    case' r20 => skip
    try simp only [List.getElem_toArray, List.getElem_cons_succ, List.getElem_cons_zero, Act.put, List.setIfInBounds_toArray, List.set_cons_zero, List.set_cons_succ]
    first | refine Mem.tkY 16 undef (hy := Or.inr ⟨by rfl, rfl⟩) (hS := by assumption) (h := ?r21) | (refine Mem.tkY 16 ?v21 (hy := Or.inl ⟨by rfl, ?y21⟩) (hS := by assumption) (h := ?r21); case y21 => (intro w hSw; clear hSw; go_simp; try with_reducible rfl))
    case' r21 => skip
    try simp only [List.getElem_toArray, List.getElem_cons_succ, List.getElem_cons_zero, Act.put, List.setIfInBounds_toArray, List.set_cons_zero, List.set_cons_succ]
    first | refine Mem.tkY 17 undef (hy := Or.inr ⟨by rfl, rfl⟩) (hS := by assumption) (h := ?r22) | (refine Mem.tkY 17 ?v22 (hy := Or.inl ⟨by rfl, ?y22⟩) (hS := by assumption) (h := ?r22); case y22 => (intro w hSw; have hT0 := hCl.out w hSw; clear hSw; go_simp; try with_reducible rfl))
    case' r22 => skip
    try simp only [List.getElem_toArray, List.getElem_cons_succ, List.getElem_cons_zero, Act.put, List.setIfInBounds_toArray, List.set_cons_zero, List.set_cons_succ]
    refine wpAnyH_ready (rs := [13]) (by kernel_rfl) (by simp) ?_
    refine AllReadyH.cons rfl (fun K hK => ?_) AllReadyH.nil
    go_simp
    (refine (CV1.out A8 c8 _ hl8).mono ?_; rintro e wb ⟨rfl, hbl⟩)
    try go_wp2_with fail
    have hSnew := Mem.bl_step hHeld hbl (by first | exact Nat.le_refl _ | omega | (simp <;> omega))
    refine hK.out _ _ ?_ (fun hHeld2 => ?_)
    · exact hSnew
    try replace p3 := p3.below hbl
    try replace p5 := p5.below hbl
    try replace p8 := p8.below hbl
    try replace hl8 := hl8.below hbl
    try replace hx8 := hx8.below hbl
    clear hbl
    clear hK K hHeld hSnew
    have hHeld := hHeld2
    clear hHeld2
    try simp only [List.getElem_toArray, List.getElem_cons_succ, List.getElem_cons_zero, Act.put, List.setIfInBounds_toArray, List.set_cons_zero, List.set_cons_succ]
    refine wpAnyH_ready (rs := [18]) (by kernel_rfl) (by simp) ?_
    refine AllReadyH.cons rfl (fun K hK => ?_) AllReadyH.nil
    go_simp
    (refine (CV2.out A7 c7 _ hx8).mono ?_; rintro e wb ⟨rfl, hbl⟩)
    try go_wp2_with fail
    have hSnew := Mem.bl_step hHeld hbl (by first | exact Nat.le_refl _ | omega | (simp <;> omega))
    refine hK.out _ _ ?_ (fun hHeld2 => ?_)
    · exact hSnew
    try replace p3 := p3.below hbl
    try replace p5 := p5.below hbl
    try replace p8 := p8.below hbl
    try replace hl8 := hl8.below hbl
    try replace hx8 := hx8.below hbl
    clear hbl
    clear hK K hHeld hSnew
    have hHeld := hHeld2
    clear hHeld2
    try simp only [List.getElem_toArray, List.getElem_cons_succ, List.getElem_cons_zero, Act.put, List.setIfInBounds_toArray, List.set_cons_zero, List.set_cons_succ]
    first | refine Mem.tkY 19 undef (hy := Or.inr ⟨by rfl, rfl⟩) (hS := by assumption) (h := ?r23) | (refine Mem.tkY 19 ?v23 (hy := Or.inl ⟨by rfl, ?y23⟩) (hS := by assumption) (h := ?r23); case y23 => (intro w hSw; clear hSw; go_simp; try with_reducible rfl))
    case' r23 => skip
    refine Mem.tkY 20 ?v24 (hy := Or.inl ⟨by rfl, ?y24⟩) (hS := by assumption) (h := ?r24)
    case y24 => (intro w hSw; clear hSw; go_simp; try with_reducible rfl)
    case' r24 => skip
    try simp only [List.getElem_toArray, List.getElem_cons_succ, List.getElem_cons_zero, Act.put, List.setIfInBounds_toArray, List.set_cons_zero, List.set_cons_succ]
    refine wpAnyH_done (by kernel_rfl) ?_ _
    clear hCl
    go_wp2_with fail
    have hbW := hb48.trans (hHeld.mono hb48.size)
    have s3 := p3.drew
    have s5 := p5.drew
    have sl := hl8.drew
    have sx := hx8.drew
    have hbX := hbW.drew
    clear hHeld hb48 hbW p3 p5 p8 hl8 hx8 hsumI hxl hwr hiI z8 CV1 CV2 heqV
    by_cases hbd : bl = d
    · subst hbd
      clear CV3 CV4 HK2 heqU
      refine wp_region_held_drew (S := Go.RowKit.Below ((wb.drew).heap.size) (wb.drew)) (by kernel_rfl) ?hb30 (fun hHeld => ?rest30)
      case hb30 =>
        exact Go.RowKit.Below.refl _ _
      case' rest30 => skip
      have hCl := fun (wS : World) (hSw : Go.RowKit.Below ((wb.drew).heap.size) (wb.drew) wS) => And.intro ((Mem.bl_row hSw s5 (by first | exact Mem.Row.lt s5 | omega | (simp <;> omega))).cell 0 rfl) <| (Mem.bl_row hSw s5 (by first | exact Mem.Row.lt s5 | omega | (simp <;> omega))).cell 1 rfl
      replace hCl := Go.Lib.hid hCl
      refine Mem.tkY 0 ?v31 (hy := Or.inl ⟨by rfl, ?y31⟩) (hS := by assumption) (h := ?r31)
      case y31 => (intro w hSw; clear hSw; go_simp; try with_reducible rfl)
      case' r31 => skip
      refine Mem.tkY 1 ?v32 (hy := Or.inl ⟨by rfl, ?y32⟩) (hS := by assumption) (h := ?r32)
      case y32 => (intro w hSw; obtain ⟨hT0, hT1⟩ := hCl.out w hSw; clear hSw; go_simp; try with_reducible rfl)
      case' r32 => skip
      refine Mem.tkY 2 ?v33 (hy := Or.inl ⟨by rfl, ?y33⟩) (hS := by assumption) (h := ?r33)
      case y33 => (intro w hSw; clear hSw; go_simp; try with_reducible rfl)
      case' r33 => skip
      try simp only [List.getElem_toArray, List.getElem_cons_succ, List.getElem_cons_zero, Act.put, List.setIfInBounds_toArray, List.set_cons_zero, List.set_cons_succ]
      refine Mem.tkY 3 ?v34 (hy := Or.inl ⟨by rfl, ?y34⟩) (hS := by assumption) (h := ?r34)
      case y34 => (intro w hSw; obtain ⟨hT0, hT1⟩ := hCl.out w hSw; clear hSw; go_simp; try with_reducible rfl)
      case' r34 => skip
      refine Mem.tkY 4 ?v35 (hy := Or.inl ⟨by rfl, ?y35⟩) (hS := by assumption) (h := ?r35)
      case y35 => (intro w hSw; clear hSw; go_simp; try with_reducible rfl)
      case' r35 => skip
      refine Mem.tkY 5 ?v36 (hy := Or.inl ⟨by rfl, ?y36⟩) (hS := by assumption) (h := ?r36)
      case y36 => (intro w hSw; clear hSw; go_simp; try with_reducible rfl)
      case' r36 => skip
      try simp only [List.getElem_toArray, List.getElem_cons_succ, List.getElem_cons_zero, Act.put, List.setIfInBounds_toArray, List.set_cons_zero, List.set_cons_succ]
      first | refine Mem.tkY 6 undef (hy := Or.inr ⟨by rfl, rfl⟩) (hS := by assumption) (h := ?r37) | (refine Mem.tkY 6 ?v37 (hy := Or.inl ⟨by rfl, ?y37⟩) (hS := by assumption) (h := ?r37); case y37 => (intro w hSw; obtain ⟨hT0, hT1⟩ := hCl.out w hSw; clear hSw; go_simp; try with_reducible rfl))
      case' r37 => skip
      try simp only [List.getElem_toArray, List.getElem_cons_succ, List.getElem_cons_zero, Act.put, List.setIfInBounds_toArray, List.set_cons_zero, List.set_cons_succ]
      first | refine Mem.tkY 7 undef (hy := Or.inr ⟨by rfl, rfl⟩) (hS := by assumption) (h := ?r38) | (refine Mem.tkY 7 ?v38 (hy := Or.inl ⟨by rfl, ?y38⟩) (hS := by assumption) (h := ?r38); case y38 => (intro w hSw; clear hSw; go_simp; try with_reducible rfl))
      case' r38 => skip
      try simp only [List.getElem_toArray, List.getElem_cons_succ, List.getElem_cons_zero, Act.put, List.setIfInBounds_toArray, List.set_cons_zero, List.set_cons_succ]
      first | refine Mem.tkY 8 undef (hy := Or.inr ⟨by rfl, rfl⟩) (hS := by assumption) (h := ?r39) | (refine Mem.tkY 8 ?v39 (hy := Or.inl ⟨by rfl, ?y39⟩) (hS := by assumption) (h := ?r39); case y39 => (intro w hSw; clear hSw; go_simp; try with_reducible rfl))
      case' r39 => skip
      try simp only [List.getElem_toArray, List.getElem_cons_succ, List.getElem_cons_zero, Act.put, List.setIfInBounds_toArray, List.set_cons_zero, List.set_cons_succ]
      first | refine Mem.tkY 9 undef (hy := Or.inr ⟨by rfl, rfl⟩) (hS := by assumption) (h := ?r40) | (refine Mem.tkY 9 ?v40 (hy := Or.inl ⟨by rfl, ?y40⟩) (hS := by assumption) (h := ?r40); case y40 => (intro w hSw; obtain ⟨hT0, hT1⟩ := hCl.out w hSw; clear hSw; go_simp; try with_reducible rfl))
      case' r40 => skip
      try simp only [List.getElem_toArray, List.getElem_cons_succ, List.getElem_cons_zero, Act.put, List.setIfInBounds_toArray, List.set_cons_zero, List.set_cons_succ]
      first | refine Mem.tkY 10 undef (hy := Or.inr ⟨by rfl, rfl⟩) (hS := by assumption) (h := ?r41) | (refine Mem.tkY 10 ?v41 (hy := Or.inl ⟨by rfl, ?y41⟩) (hS := by assumption) (h := ?r41); case y41 => (intro w hSw; clear hSw; go_simp; try with_reducible rfl))
      case' r41 => skip
      try simp only [List.getElem_toArray, List.getElem_cons_succ, List.getElem_cons_zero, Act.put, List.setIfInBounds_toArray, List.set_cons_zero, List.set_cons_succ]
      first | refine Mem.tkY 11 undef (hy := Or.inr ⟨by rfl, rfl⟩) (hS := by assumption) (h := ?r42) | (refine Mem.tkY 11 ?v42 (hy := Or.inl ⟨by rfl, ?y42⟩) (hS := by assumption) (h := ?r42); case y42 => (intro w hSw; obtain ⟨hT0, hT1⟩ := hCl.out w hSw; clear hSw; go_simp; try with_reducible rfl))
      case' r42 => skip
      try simp only [List.getElem_toArray, List.getElem_cons_succ, List.getElem_cons_zero, Act.put, List.setIfInBounds_toArray, List.set_cons_zero, List.set_cons_succ]
      first | refine Mem.tkY 12 undef (hy := Or.inr ⟨by rfl, rfl⟩) (hS := by assumption) (h := ?r43) | (refine Mem.tkY 12 ?v43 (hy := Or.inl ⟨by rfl, ?y43⟩) (hS := by assumption) (h := ?r43); case y43 => (intro w hSw; clear hSw; go_simp; try with_reducible rfl))
      case' r43 => skip
      try simp only [List.getElem_toArray, List.getElem_cons_succ, List.getElem_cons_zero, Act.put, List.setIfInBounds_toArray, List.set_cons_zero, List.set_cons_succ]
      first | refine Mem.tkY 13 undef (hy := Or.inr ⟨by rfl, rfl⟩) (hS := by assumption) (h := ?r44) | (refine Mem.tkY 13 ?v44 (hy := Or.inl ⟨by rfl, ?y44⟩) (hS := by assumption) (h := ?r44); case y44 => (intro w hSw; clear hSw; go_simp; try with_reducible rfl))
      case' r44 => skip
      try simp only [List.getElem_toArray, List.getElem_cons_succ, List.getElem_cons_zero, Act.put, List.setIfInBounds_toArray, List.set_cons_zero, List.set_cons_succ]
      first | refine Mem.tkY 14 undef (hy := Or.inr ⟨by rfl, rfl⟩) (hS := by assumption) (h := ?r45) | (refine Mem.tkY 14 ?v45 (hy := Or.inl ⟨by rfl, ?y45⟩) (hS := by assumption) (h := ?r45); case y45 => (intro w hSw; obtain ⟨hT0, hT1⟩ := hCl.out w hSw; clear hSw; go_simp; try with_reducible rfl))
      case' r45 => skip
      try simp only [List.getElem_toArray, List.getElem_cons_succ, List.getElem_cons_zero, Act.put, List.setIfInBounds_toArray, List.set_cons_zero, List.set_cons_succ]
      first | refine Mem.tkY 15 undef (hy := Or.inr ⟨by rfl, rfl⟩) (hS := by assumption) (h := ?r46) | (refine Mem.tkY 15 ?v46 (hy := Or.inl ⟨by rfl, ?y46⟩) (hS := by assumption) (h := ?r46); case y46 => (intro w hSw; clear hSw; go_simp; try with_reducible rfl))
      case' r46 => skip
      try simp only [List.getElem_toArray, List.getElem_cons_succ, List.getElem_cons_zero, Act.put, List.setIfInBounds_toArray, List.set_cons_zero, List.set_cons_succ]
      first | refine Mem.tkY 16 undef (hy := Or.inr ⟨by rfl, rfl⟩) (hS := by assumption) (h := ?r47) | (refine Mem.tkY 16 ?v47 (hy := Or.inl ⟨by rfl, ?y47⟩) (hS := by assumption) (h := ?r47); case y47 => (intro w hSw; clear hSw; go_simp; try with_reducible rfl))
      case' r47 => skip
      refine Mem.tkY 17 ?v48 (hy := Or.inl ⟨by rfl, ?y48⟩) (hS := by assumption) (h := ?r48)
      case y48 => (intro w hSw; clear hSw; go_simp; try with_reducible rfl)
      case' r48 => skip
      refine Mem.tkY 18 ?v49 (hy := Or.inl ⟨by rfl, ?y49⟩) (hS := by assumption) (h := ?r49)
      case y49 => (intro w hSw; clear hSw; go_simp; try with_reducible rfl)
      case' r49 => skip
      try simp only [List.getElem_toArray, List.getElem_cons_succ, List.getElem_cons_zero, Act.put, List.setIfInBounds_toArray, List.set_cons_zero, List.set_cons_succ]
      refine wpAnyH_ready (rs := [19]) (by kernel_rfl) (by simp) ?_
      refine AllReadyH.cons rfl (fun K hK => ?_) AllReadyH.nil
      go_simp
      (refine (works10 _).mono ?_; rintro e wk ⟨rfl, hbl⟩)
      try go_wp2_with fail
      have hSnew := Mem.bl_step hHeld hbl (by first | exact Nat.le_refl _ | omega | (simp <;> omega))
      refine hK.out _ _ ?_ (fun hHeld2 => ?_)
      · exact hSnew
      clear hbl
      clear hK K hHeld hSnew
      have hHeld := hHeld2
      clear hHeld2
      try simp only [List.getElem_toArray, List.getElem_cons_succ, List.getElem_cons_zero, Act.put, List.setIfInBounds_toArray, List.set_cons_zero, List.set_cons_succ]
      refine Mem.tkY 20 ?v50 (hy := Or.inl ⟨by rfl, ?y50⟩) (hS := by assumption) (h := ?r50)
      case y50 => (intro w hSw; clear hSw; go_simp; try with_reducible rfl)
      case' r50 => skip
      refine Mem.tkY 21 ?v51 (hy := Or.inl ⟨by rfl, ?y51⟩) (hS := by assumption) (h := ?r51)
      case y51 => (intro w hSw; clear hSw; go_simp; try with_reducible rfl)
      case' r51 => skip
      try simp only [List.getElem_toArray, List.getElem_cons_succ, List.getElem_cons_zero, Act.put, List.setIfInBounds_toArray, List.set_cons_zero, List.set_cons_succ]
      refine wpAnyH_done (by kernel_rfl) ?_ _
      clear hCl
      go_wp2
      go_ret
      exact ⟨rfl, hbX.trans (hHeld.mono hbX.size)⟩
    · have hdec : decide (bl = d) = false := decide_eq_false hbd
      have hdec2 : (bl == d) = false := by simpa using hbd
      rw [HK2.out hbd] at CV3
      clear hbd HK2
      refine wp_region_held_drew (S := Go.RowKit.Below ((wb.drew).heap.size) (wb.drew)) (by kernel_rfl) ?hb59 (fun hHeld => ?rest59)
      case hb59 =>
        exact Go.RowKit.Below.refl _ _
      case' rest59 => skip
      have hCl := fun (wS : World) (hSw : Go.RowKit.Below ((wb.drew).heap.size) (wb.drew) wS) => And.intro ((Mem.bl_row hSw s5 (by first | exact Mem.Row.lt s5 | omega | (simp <;> omega))).cell 0 rfl) <| (Mem.bl_row hSw s5 (by first | exact Mem.Row.lt s5 | omega | (simp <;> omega))).cell 1 rfl
      replace hCl := Go.Lib.hid hCl
      refine Mem.tkY 0 ?v60 (hy := Or.inl ⟨by rfl, ?y60⟩) (hS := by assumption) (h := ?r60)
      case y60 => (intro w hSw; clear hSw; go_simp; try with_reducible rfl)
      case' r60 => skip
      refine Mem.tkY 1 ?v61 (hy := Or.inl ⟨by rfl, ?y61⟩) (hS := by assumption) (h := ?r61)
      case y61 => (intro w hSw; obtain ⟨hT0, hT1⟩ := hCl.out w hSw; clear hSw; go_simp; try with_reducible rfl)
      case' r61 => skip
      refine Mem.tkY 2 ?v62 (hy := Or.inl ⟨by rfl, ?y62⟩) (hS := by assumption) (h := ?r62)
      case y62 => (intro w hSw; clear hSw; go_simp; try with_reducible rfl)
      case' r62 => skip
      try simp only [List.getElem_toArray, List.getElem_cons_succ, List.getElem_cons_zero, Act.put, List.setIfInBounds_toArray, List.set_cons_zero, List.set_cons_succ]
      refine Mem.tkY 3 ?v63 (hy := Or.inl ⟨by rfl, ?y63⟩) (hS := by assumption) (h := ?r63)
      case y63 => (intro w hSw; obtain ⟨hT0, hT1⟩ := hCl.out w hSw; clear hSw; go_simp; try with_reducible rfl)
      case' r63 => skip
      refine Mem.tkY 4 ?v64 (hy := Or.inl ⟨by rfl, ?y64⟩) (hS := by assumption) (h := ?r64)
      case y64 => (intro w hSw; clear hSw; go_simp; try with_reducible rfl)
      case' r64 => skip
      refine Mem.tkY 5 ?v65 (hy := Or.inl ⟨by rfl, ?y65⟩) (hS := by assumption) (h := ?r65)
      case y65 => (intro w hSw; clear hSw; go_simp; try with_reducible rfl)
      case' r65 => skip
      first
        | refine' wpAnyH_take (i := 6) (v := _) rfl (by kernel_rfl) (by kernel_rfl) (by kernel_rfl) (fun _ _ _ h => h) (yieldsIf_load_mid (by rfl) _ _ rfl _ _ rfl _ _ (fun w hSw => (Mem.bl_row hSw s3 (by first | exact Mem.Row.lt s3 | omega | (simp <;> omega))).range) arrUnd rfl hia) (by assumption) ?rest66
        | refine wpAnyH_take (i := 6) (v := undef) rfl (by kernel_rfl) (by kernel_rfl) (by kernel_rfl) (fun _ _ _ h => h) (Or.inr ⟨by rfl, rfl⟩) (by assumption) ?rest66
      case' rest66 => skip
      try simp only [List.getElem_toArray, List.getElem_cons_succ, List.getElem_cons_zero, Act.put, List.setIfInBounds_toArray, List.set_cons_zero, List.set_cons_succ]
      try simp only [List.getElem_toArray, List.getElem_cons_succ, List.getElem_cons_zero, Act.put, List.setIfInBounds_toArray, List.set_cons_zero, List.set_cons_succ]
      first | refine Mem.tkY 7 undef (hy := Or.inr ⟨by rfl, rfl⟩) (hS := by assumption) (h := ?r67) | (refine Mem.tkY 7 ?v67 (hy := Or.inl ⟨by rfl, ?y67⟩) (hS := by assumption) (h := ?r67); case y67 => (intro w hSw; clear hSw; go_simp; try with_reducible rfl))
      case' r67 => skip
      try simp only [List.getElem_toArray, List.getElem_cons_succ, List.getElem_cons_zero, Act.put, List.setIfInBounds_toArray, List.set_cons_zero, List.set_cons_succ]
      first | refine Mem.tkY 8 undef (hy := Or.inr ⟨by rfl, rfl⟩) (hS := by assumption) (h := ?r68) | (refine Mem.tkY 8 ?v68 (hy := Or.inl ⟨by rfl, ?y68⟩) (hS := by assumption) (h := ?r68); case y68 => (intro w hSw; clear hSw; go_simp; try with_reducible rfl))
      case' r68 => skip
      try simp only [List.getElem_toArray, List.getElem_cons_succ, List.getElem_cons_zero, Act.put, List.setIfInBounds_toArray, List.set_cons_zero, List.set_cons_succ]
      first | refine Mem.tkY 9 undef (hy := Or.inr ⟨by rfl, rfl⟩) (hS := by assumption) (h := ?r69) | (refine Mem.tkY 9 ?v69 (hy := Or.inl ⟨by rfl, ?y69⟩) (hS := by assumption) (h := ?r69); case y69 => (intro w hSw; obtain ⟨hT0, hT1⟩ := hCl.out w hSw; clear hSw; go_simp; try with_reducible rfl))
      case' r69 => skip
      first
        | refine' wpAnyH_take (i := 11) (v := _) rfl (by kernel_rfl) (by kernel_rfl) (by kernel_rfl) (fun _ _ _ h => h) (yieldsIf_load_mid (by rfl) _ _ rfl _ _ rfl _ _ (fun w hSw => (Mem.bl_row hSw s3 (by first | exact Mem.Row.lt s3 | omega | (simp <;> omega))).range) arrUnd rfl hia) (by assumption) ?rest70
        | refine wpAnyH_take (i := 11) (v := undef) rfl (by kernel_rfl) (by kernel_rfl) (by kernel_rfl) (fun _ _ _ h => h) (Or.inr ⟨by rfl, rfl⟩) (by assumption) ?rest70
      case' rest70 => skip
      try simp only [List.getElem_toArray, List.getElem_cons_succ, List.getElem_cons_zero, Act.put, List.setIfInBounds_toArray, List.set_cons_zero, List.set_cons_succ]
      try simp only [List.getElem_toArray, List.getElem_cons_succ, List.getElem_cons_zero, Act.put, List.setIfInBounds_toArray, List.set_cons_zero, List.set_cons_succ]
      first | refine Mem.tkY 12 undef (hy := Or.inr ⟨by rfl, rfl⟩) (hS := by assumption) (h := ?r71) | (refine Mem.tkY 12 ?v71 (hy := Or.inl ⟨by rfl, ?y71⟩) (hS := by assumption) (h := ?r71); case y71 => (intro w hSw; clear hSw; go_simp; try with_reducible rfl))
      case' r71 => skip
      try simp only [List.getElem_toArray, List.getElem_cons_succ, List.getElem_cons_zero, Act.put, List.setIfInBounds_toArray, List.set_cons_zero, List.set_cons_succ]
      first | refine Mem.tkY 13 undef (hy := Or.inr ⟨by rfl, rfl⟩) (hS := by assumption) (h := ?r72) | (refine Mem.tkY 13 ?v72 (hy := Or.inl ⟨by rfl, ?y72⟩) (hS := by assumption) (h := ?r72); case y72 => (intro w hSw; clear hSw; go_simp; try with_reducible rfl))
      case' r72 => skip
      try simp only [List.getElem_toArray, List.getElem_cons_succ, List.getElem_cons_zero, Act.put, List.setIfInBounds_toArray, List.set_cons_zero, List.set_cons_succ]
      first | refine Mem.tkY 14 undef (hy := Or.inr ⟨by rfl, rfl⟩) (hS := by assumption) (h := ?r73) | (refine Mem.tkY 14 ?v73 (hy := Or.inl ⟨by rfl, ?y73⟩) (hS := by assumption) (h := ?r73); case y73 => (intro w hSw; obtain ⟨hT0, hT1⟩ := hCl.out w hSw; clear hSw; go_simp; try with_reducible rfl))
      case' r73 => skip
      try simp only [List.getElem_toArray, List.getElem_cons_succ, List.getElem_cons_zero, Act.put, List.setIfInBounds_toArray, List.set_cons_zero, List.set_cons_succ]
      refine wpAnyH_ready (rs := [10]) (by kernel_rfl) (by simp) ?_
      refine AllReadyH.cons rfl (fun K hK => ?_) AllReadyH.nil
      go_simp
      (refine (CV3.out A8 c8 _ sl).mono ?_; rintro e wk ⟨rfl, hbl⟩)
      try go_wp2_with fail
      have hSnew := Mem.bl_step hHeld hbl (by first | exact Nat.le_refl _ | omega | (simp <;> omega))
      refine hK.out _ _ ?_ (fun hHeld2 => ?_)
      · exact hSnew
      try replace sl := sl.below hbl
      try replace sx := sx.below hbl
      clear hbl
      clear hK K hHeld hSnew
      have hHeld := hHeld2
      clear hHeld2
      try simp only [List.getElem_toArray, List.getElem_cons_succ, List.getElem_cons_zero, Act.put, List.setIfInBounds_toArray, List.set_cons_zero, List.set_cons_succ]
      refine wpAnyH_ready (rs := [15]) (by kernel_rfl) (by simp) ?_
      refine AllReadyH.cons rfl (fun K hK => ?_) AllReadyH.nil
      go_simp
      (refine (CV4.out A7 c7 _ sx).mono ?_; rintro e wk ⟨rfl, hbl⟩)
      try go_wp2_with fail
      have hSnew := Mem.bl_step hHeld hbl (by first | exact Nat.le_refl _ | omega | (simp <;> omega))
      refine hK.out _ _ ?_ (fun hHeld2 => ?_)
      · exact hSnew
      try replace sl := sl.below hbl
      try replace sx := sx.below hbl
      clear hbl
      clear hK K hHeld hSnew
      have hHeld := hHeld2
      clear hHeld2
      try simp only [List.getElem_toArray, List.getElem_cons_succ, List.getElem_cons_zero, Act.put, List.setIfInBounds_toArray, List.set_cons_zero, List.set_cons_succ]
      first | refine Mem.tkY 16 undef (hy := Or.inr ⟨by rfl, rfl⟩) (hS := by assumption) (h := ?r74) | (refine Mem.tkY 16 ?v74 (hy := Or.inl ⟨by rfl, ?y74⟩) (hS := by assumption) (h := ?r74); case y74 => (intro w hSw; clear hSw; go_simp; try with_reducible rfl))
      case' r74 => skip
      refine Mem.tkY 17 ?v75 (hy := Or.inl ⟨by rfl, ?y75⟩) (hS := by assumption) (h := ?r75)
      case y75 => (intro w hSw; clear hSw; go_simp; try with_reducible rfl)
      case' r75 => skip
      refine Mem.tkY 18 ?v76 (hy := Or.inl ⟨by rfl, ?y76⟩) (hS := by assumption) (h := ?r76)
      case y76 => (intro w hSw; clear hSw; go_simp; try with_reducible rfl)
      case' r76 => skip
      try simp only [List.getElem_toArray, List.getElem_cons_succ, List.getElem_cons_zero, Act.put, List.setIfInBounds_toArray, List.set_cons_zero, List.set_cons_succ]
      refine wpAnyH_ready (rs := [19]) (by kernel_rfl) (by simp) ?_
      refine AllReadyH.cons rfl (fun K hK => ?_) AllReadyH.nil
      go_simp
      (refine (works10 _).mono ?_; rintro e wk ⟨rfl, hbl⟩)
      try go_wp2_with fail
      have hSnew := Mem.bl_step hHeld hbl (by first | exact Nat.le_refl _ | omega | (simp <;> omega))
      refine hK.out _ _ ?_ (fun hHeld2 => ?_)
      · exact hSnew
      try replace sl := sl.below hbl
      try replace sx := sx.below hbl
      clear hbl
      clear hK K hHeld hSnew
      have hHeld := hHeld2
      clear hHeld2
      try simp only [List.getElem_toArray, List.getElem_cons_succ, List.getElem_cons_zero, Act.put, List.setIfInBounds_toArray, List.set_cons_zero, List.set_cons_succ]
      refine Mem.tkY 20 ?v77 (hy := Or.inl ⟨by rfl, ?y77⟩) (hS := by assumption) (h := ?r77)
      case y77 => (intro w hSw; clear hSw; go_simp; try with_reducible rfl)
      case' r77 => skip
      refine Mem.tkY 21 ?v78 (hy := Or.inl ⟨by rfl, ?y78⟩) (hS := by assumption) (h := ?r78)
      case y78 => (intro w hSw; clear hSw; go_simp; try with_reducible rfl)
      case' r78 => skip
      try simp only [List.getElem_toArray, List.getElem_cons_succ, List.getElem_cons_zero, Act.put, List.setIfInBounds_toArray, List.set_cons_zero, List.set_cons_succ]
      refine wpAnyH_done (by kernel_rfl) ?_ _
      clear hCl
      go_wp2
      go_ret
      exact ⟨rfl, hbX.trans (hHeld.mono hbX.size)⟩
end Go.Proofs.Yteeodeooicoekaa.Rd
