/- The statement PatchDiffs. -/
import Derived.Test.YtoibdomcekainaaPatRd
namespace Go.Proofs.Ytoibdomcekainaa.Pat
open Go.RowKit Go.Proofs.Ytoibdomcekainaa.Mem Go.Proofs.Ytoibdomcekainaa.Open Go.Proofs.Ytoibdomcekainaa.Kind Go.Proofs.Ytoibdomcekainaa.Blk Go.Proofs.Ytoibdomcekainaa.App
set_option linter.unusedVariables false
set_option linter.unusedSimpArgs false
set_option maxHeartbeats 4000000 in
set_option maxRecDepth 100000 in
theorem diffs_core (a b : List Nat) (D : List Pt) (w : World) (ha : a.length = 256) (hab : ∀ x ∈ a, x < 256) (hb : b.length = 256) (hbb : ∀ x ∈ b, x < 256) (hD : Hid (diffL a b = D)) (hn : D.length ≤ 1000) :
    Calls Try.prog 3 #[.agg (blk a), .agg (blk b)] w fun e w' => e = .returned (.bool true) ∧ Below w.heap.size w w' := by
  have hia : (Try.prog.info? 22).map (·.size) = some (blk a).toList.length := by rw [Array.length_toList, blk_size, ha]; exact arrSize
  have hib : (Try.prog.info? 22).map (·.size) = some (blk b).toList.length := by rw [Array.length_toList, blk_size, hb]; exact arrSize
  obtain ⟨r0, r1, bb⟩ := two_rows w 22 22 (blk a) (blk b)
  have CD := Lib.hid (fun w' => diff_any a b w' ha hb hbb)
  have HBA := Lib.hid (fun w' (h : Row w' w.heap.size 22 (blk a)) => row_by h ha hab)
  have HBB := Lib.hid (fun w' (h : Row w' (w.heap.size + 1) 22 (blk b)) => row_by h hb hbb)
  have CR := Lib.hid (fun w' h1 h2 => rdiff_any (some ⟨w.heap.size, 0, none⟩) 256 (some ⟨w.heap.size + 1, 0, none⟩) 256 a b w' ha hb h1 h2)
  have CO := Lib.hid (fun A c w' h => ofall_any A c D w' h hn)
  have CS := Lib.hid (fun A A2 c c2 w' h1 h2 => sameall_yes A A2 c c2 D w' h1 h2 hn)
  rw [hD.out] at CD CR
  clear hD ha hab hb hbb
  go_enter Try.func3, Try.ntmps3
  go_wp2_with fail
  generalize (w.alloc (.cells (blk a) 22)).alloc (.cells (blk b) 22) = w1 at *
  have r0d := r0.drew
  have r1d := r1.drew
  refine wp_region_held_drew (S := Go.RowKit.Below ((w1.drew).heap.size) (w1.drew)) (by kernel_rfl) ?hb10 (fun hHeld => ?rest10)
  case hb10 =>
    exact Go.RowKit.Below.refl _ _
  case' rest10 => skip
  first
    | refine' wpAnyH_take (i := 0) (v := _) rfl (by kernel_rfl) (by kernel_rfl) (by kernel_rfl) (fun _ _ _ h => h) (yieldsIf_load_mid (by rfl) _ _ rfl _ _ rfl _ _ (fun w hSw => (Mem.bl_row hSw r0d (by first | exact Mem.Row.lt r0d | omega | (simp <;> omega))).range) arrUnd rfl hia) (by assumption) ?rest11
    | refine wpAnyH_take (i := 0) (v := undef) rfl (by kernel_rfl) (by kernel_rfl) (by kernel_rfl) (fun _ _ _ h => h) (Or.inr ⟨by rfl, rfl⟩) (by assumption) ?rest11
  case' rest11 => skip
  try simp only [List.getElem_toArray, List.getElem_cons_succ, List.getElem_cons_zero, Act.put, List.setIfInBounds_toArray, List.set_cons_zero, List.set_cons_succ]
  first
    | refine' wpAnyH_take (i := 1) (v := _) rfl (by kernel_rfl) (by kernel_rfl) (by kernel_rfl) (fun _ _ _ h => h) (yieldsIf_load_mid (by rfl) _ _ rfl _ _ rfl _ _ (fun w hSw => (Mem.bl_row hSw r1d (by first | exact Mem.Row.lt r1d | omega | (simp <;> omega))).range) arrUnd rfl hib) (by assumption) ?rest12
    | refine wpAnyH_take (i := 1) (v := undef) rfl (by kernel_rfl) (by kernel_rfl) (by kernel_rfl) (fun _ _ _ h => h) (Or.inr ⟨by rfl, rfl⟩) (by assumption) ?rest12
  case' rest12 => skip
  try simp only [List.getElem_toArray, List.getElem_cons_succ, List.getElem_cons_zero, Act.put, List.setIfInBounds_toArray, List.set_cons_zero, List.set_cons_succ]
  refine wpAnyH_take (i := 4) (v := ?v13) rfl (by kernel_rfl) (by kernel_rfl) (by kernel_rfl) (fun _ _ _ h => h) (Or.inl ⟨by rfl, ?y13⟩) (by assumption) ?rest13
  case y13 => (intro w hSw; clear hSw; go_simp; try with_reducible rfl)
  case' rest13 => skip
  try simp only [List.getElem_toArray, List.getElem_cons_succ, List.getElem_cons_zero, Act.put, List.setIfInBounds_toArray, List.set_cons_zero, List.set_cons_succ]
  refine wpAnyH_take (i := 5) (v := ?v14) rfl (by kernel_rfl) (by kernel_rfl) (by kernel_rfl) (fun _ _ _ h => h) (Or.inl ⟨by rfl, ?y14⟩) (by assumption) ?rest14
  case y14 => (intro w hSw; clear hSw; go_simp; try with_reducible rfl)
  case' rest14 => skip
  try simp only [List.getElem_toArray, List.getElem_cons_succ, List.getElem_cons_zero, Act.put, List.setIfInBounds_toArray, List.set_cons_zero, List.set_cons_succ]
  refine wpAnyH_ready (rs := [2]) (by kernel_rfl) (by simp) ?_
  refine AllReadyH.cons rfl (fun K hK => ?_) AllReadyH.nil
  go_simp
  (refine (CD.out _).mono ?_; rintro e wt ⟨v, rfl, hown, hbl⟩; obtain ⟨A5, c5, rfl, k1, k2, k3, ht⟩ := hown.rw_)
  try go_wp2_with fail
  have hSnew := Mem.bl_step hHeld hbl (by first | exact Nat.le_refl _ | omega | (simp <;> omega))
  refine hK.out _ _ ?_ (fun hHeld2 => ?_)
  · exact hSnew
  try replace ht := ht.below hbl
  try replace ht2 := ht2.below hbl
  clear hbl
  clear hK K hHeld hSnew
  have hHeld := hHeld2
  clear hHeld2
  try simp only [List.getElem_toArray, List.getElem_cons_succ, List.getElem_cons_zero, Act.put, List.setIfInBounds_toArray, List.set_cons_zero, List.set_cons_succ]
  refine wpAnyH_ready (rs := [3]) (by kernel_rfl) (by simp) ?_
  refine AllReadyH.cons rfl (fun K hK => ?_) AllReadyH.nil
  go_simp
  (refine (CO.out A5 c5 _ ht).mono ?_; rintro e wt ⟨v, rfl, hown2, hbl⟩; clear ht; obtain ⟨A6, c6, rfl, k4, k5, k6, ht⟩ := hown2.rw_)
  try go_wp2_with fail
  have hSnew := Mem.bl_step hHeld hbl (by first | exact Nat.le_refl _ | omega | (simp <;> omega))
  refine hK.out _ _ ?_ (fun hHeld2 => ?_)
  · exact hSnew
  try replace ht := ht.below hbl
  try replace ht2 := ht2.below hbl
  clear hbl
  clear hK K hHeld hSnew
  have hHeld := hHeld2
  clear hHeld2
  try simp only [List.getElem_toArray, List.getElem_cons_succ, List.getElem_cons_zero, Act.put, List.setIfInBounds_toArray, List.set_cons_zero, List.set_cons_succ]
  refine wpAnyH_ready (rs := [6]) (by kernel_rfl) (by simp) ?_
  refine AllReadyH.cons rfl (fun K hK => ?_) AllReadyH.nil
  go_simp
  (refine (CR.out _ (HBA.out _ (bl_row hHeld r0d (Row.lt r0d))) (HBB.out _ (bl_row hHeld r1d (Row.lt r1d)))).mono ?_; rintro e wt ⟨v, rfl, hown3, hbl⟩; obtain ⟨A7, c7, rfl, k7, k8, k9, ht2⟩ := hown3.rw_)
  try go_wp2_with fail
  have hSnew := Mem.bl_step hHeld hbl (by first | exact Nat.le_refl _ | omega | (simp <;> omega))
  refine hK.out _ _ ?_ (fun hHeld2 => ?_)
  · exact hSnew
  try replace ht := ht.below hbl
  try replace ht2 := ht2.below hbl
  clear hbl
  clear hK K hHeld hSnew
  have hHeld := hHeld2
  clear hHeld2
  try simp only [List.getElem_toArray, List.getElem_cons_succ, List.getElem_cons_zero, Act.put, List.setIfInBounds_toArray, List.set_cons_zero, List.set_cons_succ]
  refine wpAnyH_ready (rs := [7]) (by kernel_rfl) (by simp) ?_
  refine AllReadyH.cons rfl (fun K hK => ?_) AllReadyH.nil
  go_simp
  (refine (CS.out A6 A7 c6 c7 _ ht ht2).mono ?_; rintro e wt ⟨rfl, hbl⟩; clear ht ht2)
  try go_wp2_with fail
  have hSnew := Mem.bl_step hHeld hbl (by first | exact Nat.le_refl _ | omega | (simp <;> omega))
  refine hK.out _ _ ?_ (fun hHeld2 => ?_)
  · exact hSnew
  try replace ht := ht.below hbl
  try replace ht2 := ht2.below hbl
  clear hbl
  clear hK K hHeld hSnew
  have hHeld := hHeld2
  clear hHeld2
  try simp only [List.getElem_toArray, List.getElem_cons_succ, List.getElem_cons_zero, Act.put, List.setIfInBounds_toArray, List.set_cons_zero, List.set_cons_succ]
  refine wpAnyH_take (i := 8) (v := ?v15) rfl (by kernel_rfl) (by kernel_rfl) (by kernel_rfl) (fun _ _ _ h => h) (Or.inl ⟨by rfl, ?y15⟩) (by assumption) ?rest15
  case y15 => (intro w hSw; clear hSw; go_simp; try with_reducible rfl)
  case' rest15 => skip
  try simp only [List.getElem_toArray, List.getElem_cons_succ, List.getElem_cons_zero, Act.put, List.setIfInBounds_toArray, List.set_cons_zero, List.set_cons_succ]
  refine wpAnyH_ready (rs := [9]) (by kernel_rfl) (by simp) ?_
  refine AllReadyH.cons rfl (fun K hK => ?_) AllReadyH.nil
  go_simp
  (refine (works_any _).mono ?_; rintro e wk ⟨rfl, hbl⟩)
  try go_wp2_with fail
  have hSnew := Mem.bl_step hHeld hbl (by first | exact Nat.le_refl _ | omega | (simp <;> omega))
  refine hK.out _ _ ?_ (fun hHeld2 => ?_)
  · exact hSnew
  try replace ht := ht.below hbl
  try replace ht2 := ht2.below hbl
  clear hbl
  clear hK K hHeld hSnew
  have hHeld := hHeld2
  clear hHeld2
  try simp only [List.getElem_toArray, List.getElem_cons_succ, List.getElem_cons_zero, Act.put, List.setIfInBounds_toArray, List.set_cons_zero, List.set_cons_succ]
  refine wpAnyH_take (i := 10) (v := ?v16) rfl (by kernel_rfl) (by kernel_rfl) (by kernel_rfl) (fun _ _ _ h => h) (Or.inl ⟨by rfl, ?y16⟩) (by assumption) ?rest16
  case y16 => (intro w hSw; clear hSw; go_simp; try with_reducible rfl)
  case' rest16 => skip
  try simp only [List.getElem_toArray, List.getElem_cons_succ, List.getElem_cons_zero, Act.put, List.setIfInBounds_toArray, List.set_cons_zero, List.set_cons_succ]
  refine wpAnyH_take (i := 11) (v := ?v17) rfl (by kernel_rfl) (by kernel_rfl) (by kernel_rfl) (fun _ _ _ h => h) (Or.inl ⟨by rfl, ?y17⟩) (by assumption) ?rest17
  case y17 => (intro w hSw; clear hSw; go_simp; try with_reducible rfl)
  case' rest17 => skip
  try simp only [List.getElem_toArray, List.getElem_cons_succ, List.getElem_cons_zero, Act.put, List.setIfInBounds_toArray, List.set_cons_zero, List.set_cons_succ]
  refine wpAnyH_done (by kernel_rfl) ?_ _
  go_wp2
  go_ret
  exact ⟨rfl, bb.trans (((Below.refl _ _).drew.trans hHeld).mono bb.size)⟩
theorem diffs_walk (a b : List Nat) (w : World) (ha : a.length = 256) (hab : ∀ x ∈ a, x < 256) (hb : b.length = 256) (hbb : ∀ x ∈ b, x < 256) :
    Calls Try.prog 3 #[.agg (blk a), .agg (blk b)] w fun e w' => e = .returned (.bool true) ∧ Below w.heap.size w w' :=
  diffs_core a b _ w ha hab hb hbb rfl (by have := diffK_len a b 256; show (diffK a b 256).length ≤ 1000; omega)
end Go.Proofs.Ytoibdomcekainaa.Pat
