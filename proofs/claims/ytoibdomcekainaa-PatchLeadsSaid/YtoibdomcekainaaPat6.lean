/- Patches: the document's Was and Same. -/
import Derived.Test.YtoibdomcekainaaPat5
namespace Go.Proofs.Ytoibdomcekainaa.Pat
open Go.RowKit Go.Proofs.Ytoibdomcekainaa.Mem Go.Proofs.Ytoibdomcekainaa.Open Go.Proofs.Ytoibdomcekainaa.Kind Go.Proofs.Ytoibdomcekainaa.Blk Go.Proofs.Ytoibdomcekainaa.App
set_option linter.unusedVariables false
set_option linter.unusedSimpArgs false
set_option maxHeartbeats 1000000 in
set_option maxRecDepth 100000 in
theorem rwas_any (A2 : Option Addr) (c2 : Nat) (l : List Nat) (a : Int) (A : Option Addr) (n c : Nat) (w : World) (hl : l.length = 256) (hb : By w A2 l) (hn : n ≤ M63) :
    Calls Try.prog 35 #[.slice A2 l.length c2, patV a A n c] w fun e w' => ∃ A' c', e = .returned (patV (wasA a n) A' (wasD l a n).length c') ∧ (wasD l a n).length ≤ c' ∧ c' ≤ M63 ∧ (A' = none → c' = 0) ∧ ByF w' w.heap.size A' (wasD l a n) ∧ Below w.heap.size w w' := by
  obtain ⟨hp, hq, hbel⟩ := two_rows w 34 34 #[.int .i64 a, .slice A n c] #[.int .i64 0, .slice none 0 0]
  have CR := Lib.hid (fun w' => right_any a A n c w' hn)
  cases h : rightN a n with
  | false =>
    have e1 : wasA a n = 0 := by unfold wasA; rw [h]; rfl
    have e2 : wasD l a n = [] := by unfold wasD; rw [h]; rfl
    rw [e1, e2]
    rw [h] at CR
    clear h e1 e2 hl
    go_enter Try.func35, Try.ntmps35
    go_wp2_with fail
    generalize (w.alloc (.cells #[.int .i64 a, .slice A n c] 34)).alloc (.cells #[.int .i64 0, .slice none 0 0] 34) = w1 at *
    refine (CR.out _).mono ?_
    rintro e w2 ⟨rfl, hbel2⟩
    have hq2 := hq.below hbel2
    have hbel3 := hbel.trans (hbel2.mono hbel.size)
    clear hq hp hbel hbel2
    go_wp2_with (with_reducible refine wpList_storeRow rfl 34 _ _ rfl (w.heap.size + 1) rfl #[.int .i64 0, .slice none 0 0] rfl #[.int .i64 0, .slice none 0 0] 34 2 rpatSize rfl rfl (pat_one _ _ _ _) hq2 ?_)
    exact bodyPost_ret (v := patV 0 none 0 0) (results_cell_row rfl _ _ (w.heap.size + 1) 34 #[.int .i64 0, .slice none 0 0] (0, 0) _ rfl (hq2.set _) Try.underlying34 rfl rpatSize) rfl
      ⟨none, 0, rfl, by simp, by simp, fun _ => rfl, Rw.nil _ _ _ _, below_setRow hbel3 (by omega) _⟩
  | true =>
    have hdl := wasD_length l a n hl
    rw [h, if_pos rfl] at hdl
    have e1 : wasA a n = a := by unfold wasA; rw [h]; rfl
    have e2 : wasD l a n = (l.drop a.toNat).take n := by unfold wasD; rw [h]; rfl
    rw [e1]
    obtain ⟨h1, h2, h3, h4⟩ := (right_iff _ _).1 h
    obtain ⟨q, rfl⟩ := Int.eq_ofNat_of_zero_le h3
    rw [Int.toNat_natCast] at e2
    rw [h] at CR
    have CC := Lib.hid (fun w' hb' => cut_any A2 c2 l q n w' hb' (by omega) (by omega))
    rw [← e2] at CC
    clear h e1 e2
    have hl1 : l.length ≤ 256 := by omega
    obtain ⟨D, hD⟩ : ∃ D, wasD l (q : Int) n = D := ⟨_, rfl⟩
    rw [hD] at hdl CC ⊢
    clear hD hl
    subst hdl
    go_enter Try.func35, Try.ntmps35
    go_wp2_with fail
    generalize (w.alloc (.cells #[.int .i64 (q : Int), .slice A D.length c] 34)).alloc (.cells #[.int .i64 0, .slice none 0 0] 34) = w1 at *
    refine (CR.out _).mono ?_
    rintro e w2 ⟨rfl, hbel2⟩
    have hp2 := hp.below hbel2
    have hq2 := hq.below hbel2
    have hbel3 := hbel.trans (hbel2.mono hbel.size)
    clear hp hq hbel hbel2
    have hbw : By w2.drew A2 l := (hb.below hbel3).drew
    have hpd := hp2.drew
    have hqd := hq2.drew
    have hlt2 : w.heap.size + 1 < w2.heap.size := hq2.lt
    go_wp2
    refine wp_region_held_drew (S := Go.RowKit.Below (w.heap.size + 1) (w2.drew)) (by kernel_rfl) ?hb4 (fun hHeld => ?rest4)
    case hb4 =>
      exact Go.RowKit.Below.refl _ _
    case' rest4 => skip
    refine wpAnyH_take (i := 0) (v := ?v5) rfl (by kernel_rfl) (by kernel_rfl) (by kernel_rfl) (fun _ _ _ h => h) (Or.inl ⟨by rfl, ?y5⟩) (by assumption) ?rest5
    case y5 => (intro w hSw; have hT0 := (Mem.bl_row hSw hpd (by first | exact Mem.Row.lt hpd | omega | (simp <;> omega))).cell 0 rfl; have hT1 := (Mem.bl_row hSw hpd (by first | exact Mem.Row.lt hpd | omega | (simp <;> omega))).cell 1 rfl; clear hSw; go_simp; try with_reducible rfl)
    case' rest5 => skip
    try simp only [List.getElem_toArray, List.getElem_cons_succ, List.getElem_cons_zero, Act.put, List.setIfInBounds_toArray, List.set_cons_zero, List.set_cons_succ]
    refine wpAnyH_take (i := 1) (v := ?v6) rfl (by kernel_rfl) (by kernel_rfl) (by kernel_rfl) (fun _ _ _ h => h) (Or.inl ⟨by rfl, ?y6⟩) (by assumption) ?rest6
    case y6 => (intro w hSw; have hT0 := (Mem.bl_row hSw hpd (by first | exact Mem.Row.lt hpd | omega | (simp <;> omega))).cell 0 rfl; have hT1 := (Mem.bl_row hSw hpd (by first | exact Mem.Row.lt hpd | omega | (simp <;> omega))).cell 1 rfl; clear hSw; go_simp; try with_reducible rfl)
    case' rest6 => skip
    try simp only [List.getElem_toArray, List.getElem_cons_succ, List.getElem_cons_zero, Act.put, List.setIfInBounds_toArray, List.set_cons_zero, List.set_cons_succ]
    refine wpAnyH_take (i := 2) (v := ?v7) rfl (by kernel_rfl) (by kernel_rfl) (by kernel_rfl) (fun _ _ _ h => h) (Or.inl ⟨by rfl, ?y7⟩) (by assumption) ?rest7
    case y7 => (intro w hSw; have hT0 := (Mem.bl_row hSw hpd (by first | exact Mem.Row.lt hpd | omega | (simp <;> omega))).cell 0 rfl; have hT1 := (Mem.bl_row hSw hpd (by first | exact Mem.Row.lt hpd | omega | (simp <;> omega))).cell 1 rfl; clear hSw; go_simp; try with_reducible rfl)
    case' rest7 => skip
    try simp only [List.getElem_toArray, List.getElem_cons_succ, List.getElem_cons_zero, Act.put, List.setIfInBounds_toArray, List.set_cons_zero, List.set_cons_succ]
    refine wpAnyH_take (i := 3) (v := ?v8) rfl (by kernel_rfl) (by kernel_rfl) (by kernel_rfl) (fun _ _ _ h => h) (Or.inl ⟨by rfl, ?y8⟩) (by assumption) ?rest8
    case y8 => (intro w hSw; have hT0 := (Mem.bl_row hSw hpd (by first | exact Mem.Row.lt hpd | omega | (simp <;> omega))).cell 0 rfl; have hT1 := (Mem.bl_row hSw hpd (by first | exact Mem.Row.lt hpd | omega | (simp <;> omega))).cell 1 rfl; clear hSw; go_simp; try with_reducible rfl)
    case' rest8 => skip
    try simp only [List.getElem_toArray, List.getElem_cons_succ, List.getElem_cons_zero, Act.put, List.setIfInBounds_toArray, List.set_cons_zero, List.set_cons_succ]
    refine wpAnyH_take (i := 4) (v := ?v9) rfl (by kernel_rfl) (by kernel_rfl) (by kernel_rfl) (fun _ _ _ h => h) (Or.inl ⟨by rfl, ?y9⟩) (by assumption) ?rest9
    case y9 => (intro w hSw; have hT0 := (Mem.bl_row hSw hpd (by first | exact Mem.Row.lt hpd | omega | (simp <;> omega))).cell 0 rfl; have hT1 := (Mem.bl_row hSw hpd (by first | exact Mem.Row.lt hpd | omega | (simp <;> omega))).cell 1 rfl; clear hSw; go_simp; try with_reducible rfl)
    case' rest9 => skip
    try simp only [List.getElem_toArray, List.getElem_cons_succ, List.getElem_cons_zero, Act.put, List.setIfInBounds_toArray, List.set_cons_zero, List.set_cons_succ]
    refine wpAnyH_take (i := 5) (v := ?v10) rfl (by kernel_rfl) (by kernel_rfl) (by kernel_rfl) (fun _ _ _ h => h) (Or.inl ⟨by rfl, ?y10⟩) (by assumption) ?rest10
    case y10 => (intro w hSw; have hT0 := (Mem.bl_row hSw hpd (by first | exact Mem.Row.lt hpd | omega | (simp <;> omega))).cell 0 rfl; have hT1 := (Mem.bl_row hSw hpd (by first | exact Mem.Row.lt hpd | omega | (simp <;> omega))).cell 1 rfl; clear hSw; go_simp; try with_reducible rfl)
    case' rest10 => skip
    try simp only [List.getElem_toArray, List.getElem_cons_succ, List.getElem_cons_zero, Act.put, List.setIfInBounds_toArray, List.set_cons_zero, List.set_cons_succ]
    refine wpAnyH_take (i := 6) (v := ?v11) rfl (by kernel_rfl) (by kernel_rfl) (by kernel_rfl) (fun _ _ _ h => h) (Or.inl ⟨by rfl, ?y11⟩) (by assumption) ?rest11
    case y11 => (intro w hSw; have hT0 := (Mem.bl_row hSw hpd (by first | exact Mem.Row.lt hpd | omega | (simp <;> omega))).cell 0 rfl; have hT1 := (Mem.bl_row hSw hpd (by first | exact Mem.Row.lt hpd | omega | (simp <;> omega))).cell 1 rfl; clear hSw; go_simp; try with_reducible rfl)
    case' rest11 => skip
    try simp only [List.getElem_toArray, List.getElem_cons_succ, List.getElem_cons_zero, Act.put, List.setIfInBounds_toArray, List.set_cons_zero, List.set_cons_succ]
    refine wpAnyH_take (i := 7) (v := ?v12) rfl (by kernel_rfl) (by kernel_rfl) (by kernel_rfl) (fun _ _ _ h => h) (Or.inl ⟨by rfl, ?y12⟩) (by assumption) ?rest12
    case y12 => (intro w hSw; have hT0 := (Mem.bl_row hSw hpd (by first | exact Mem.Row.lt hpd | omega | (simp <;> omega))).cell 0 rfl; have hT1 := (Mem.bl_row hSw hpd (by first | exact Mem.Row.lt hpd | omega | (simp <;> omega))).cell 1 rfl; clear hSw; go_simp; try with_reducible rfl)
    case' rest12 => skip
    try simp only [List.getElem_toArray, List.getElem_cons_succ, List.getElem_cons_zero, Act.put, List.setIfInBounds_toArray, List.set_cons_zero, List.set_cons_succ]
    refine wpAnyH_ready (rs := [8]) (by kernel_rfl) (by simp) ?_
    refine AllReadyH.cons rfl (fun K hK => ?_) AllReadyH.nil
    go_simp
    (refine (CC.out _ (hbw.below (Below.refl _ _))).mono ?_; rintro e w3 ⟨A3, c3, rfl, k1, k2, k3, k4, hbl⟩; have hq3 := hqd.below hbl)
    try go_wp2_with fail
    have hSnew := Mem.bl_step hHeld hbl (by first | exact Nat.le_refl _ | omega | (simp <;> omega))
    refine hK.out _ _ ?_ (fun hHeld2 => ?_)
    · exact hSnew
    clear hbl
    clear hK K hHeld hSnew
    have hHeld := hHeld2
    clear hHeld2
    try simp only [List.getElem_toArray, List.getElem_cons_succ, List.getElem_cons_zero, Act.put, List.setIfInBounds_toArray, List.set_cons_zero, List.set_cons_succ]
    refine wpAnyH_take (i := 9) (v := ?v13) rfl (by kernel_rfl) (by kernel_rfl) (by kernel_rfl) (fun _ _ _ h => h) (Or.inl ⟨by rfl, ?y13⟩) (by assumption) ?rest13
    case y13 => (intro w hSw; have hT0 := (Mem.bl_row hSw hpd (by first | exact Mem.Row.lt hpd | omega | (simp <;> omega))).cell 0 rfl; have hT1 := (Mem.bl_row hSw hpd (by first | exact Mem.Row.lt hpd | omega | (simp <;> omega))).cell 1 rfl; clear hSw; go_simp; try with_reducible rfl)
    case' rest13 => skip
    try simp only [List.getElem_toArray, List.getElem_cons_succ, List.getElem_cons_zero, Act.put, List.setIfInBounds_toArray, List.set_cons_zero, List.set_cons_succ]
    refine wpAnyH_ready (rs := [10]) (by kernel_rfl) (by simp) ?_
    refine AllReadyH.cons rfl (fun K hK => ?_) AllReadyH.nil
    rw [if_pos (by rfl)]
    refine wp_storeRow _ _ _ (by rfl) (w.heap.size + 1) (by rfl) #[.int .i64 (q : Int), .slice A3 D.length c3] (by rfl) #[.int .i64 0, .slice none 0 0] 34 2 rpatSize rfl rfl (pat_one _ _ _ _) hq3 ?_; have hSnew := below_setRow hHeld (Nat.le_refl _) #[.int .i64 (q : Int), .slice A3 D.length c3]
    refine hK.out _ _ ?_ (fun hHeld2 => ?_)
    · exact hSnew
    clear hK K hHeld hSnew
    have hHeld := hHeld2
    clear hHeld2
    try simp only [List.getElem_toArray, List.getElem_cons_succ, List.getElem_cons_zero, Act.put, List.setIfInBounds_toArray, List.set_cons_zero, List.set_cons_succ]
    refine wpAnyH_done (by kernel_rfl) ?_ _
    have hq5 := hq3.set #[.int .i64 (q : Int), .slice A3 D.length c3]
    have hbel5 : Below w.heap.size w (w3.setRow (w.heap.size + 1) #[.int .i64 (q : Int), .slice A3 D.length c3]) := (hbel3.drew).trans (hHeld.mono (by omega))
    have k5 : ByF w3 w2.heap.size A3 D := k4
    go_wp2
    exact bodyPost_ret (v := patV (q : Int) A3 D.length c3) (results_cell_row rfl _ _ (w.heap.size + 1) 34 #[.int .i64 (q : Int), .slice A3 D.length c3] (0, 0) _ rfl hq5 Try.underlying34 rfl rpatSize) rfl
      ⟨A3, c3, rfl, k1, k2, k3, (k5.stay fun b hb => setRow_other _ _ _ _ (by omega)).mono fun b hb => ⟨by omega, by simpa using hb.2⟩, hbel5⟩
set_option maxHeartbeats 1000000 in
set_option maxRecDepth 100000 in
theorem rsame_any (a : Int) (A : Option Addr) (c : Nat) (d : List Nat) (b : Int) (A2 : Option Addr) (c2 : Nat) (f : List Nat) (w : World) (hd : By w A d) (hf : By w A2 f) :
    Calls Try.prog 33 #[patV a A d.length c, patV b A2 f.length c2] w fun e w' => e = .returned (.bool (psameB a d b f)) ∧ Below w.heap.size w w' := by
  obtain ⟨hp, hq, hbel⟩ := two_rows w 34 34 #[.int .i64 a, .slice A d.length c] #[.int .i64 b, .slice A2 f.length c2]
  by_cases hab : a = b
  · subst hab
    have HV : Hid (decide (d = f) = psameB a d a f) := by show _ = _; unfold psameB; simp
    have CS := Lib.hid (fun w' h1 h2 => Same.same_any A A2 d.length f.length c c2 d f w' h1 h2)
    go_enter Try.func33, Try.ntmps33
    go_wp2_with fail
    generalize (w.alloc (.cells #[.int .i64 a, .slice A d.length c] 34)).alloc (.cells #[.int .i64 a, .slice A2 f.length c2] 34) = w1 at *
    refine (CS.out _ (hd.below hbel).sl_byte (hf.below hbel).sl_byte).mono ?_
    rintro e w2 ⟨rfl, q, rfl⟩
    rw [HV.out]
    go_wp2
    go_ret
    exact ⟨rfl, bdrewN hbel q⟩
  · have HF : Hid (psameB a d b f = false) := by
      exact decide_eq_false fun h => hab h.1
    have hc : (a == b) = false := by rw [beq_eq_false_iff_ne]; exact hab
    clear hp hq hd hf hab
    go_enter Try.func33, Try.ntmps33
    go_wp2
    go_ret
    exact ⟨ret_bool HF.out.symm, hbel⟩
end Go.Proofs.Ytoibdomcekainaa.Pat
