/- The document's device: Go, reads and writes. No statement is proved here. -/
import Derived.Test.YtechlhmmgabikaaDk13
namespace Go.Proofs.Ytechlhmmgabikaa.Dk
open Go.RowKit Go.Proofs.Ytechlhmmgabikaa.Mem Go.Proofs.Ytechlhmmgabikaa.Open Go.Proofs.Ytechlhmmgabikaa.Kind Go.Proofs.Ytechlhmmgabikaa.Blk Go.Proofs.Ytechlhmmgabikaa.App
set_option linter.unusedVariables false
set_option linter.unusedSimpArgs false
theorem by_cell {w : World} {A : Option Addr} {bs : List Nat} (h : By w A bs) (i : Nat) (hi : i < bs.length) : ∃ g o, A = some ⟨g, o, none⟩ ∧ g < w.heap.size ∧ w.cell? ⟨g, o + i, none⟩ = some (.int .u8 (bs[i] : Nat)) ∧ bs[i] < 256 := by
  obtain ⟨g, o, cs, hA, _, hg, hK, hc⟩ := h.at_ hi
  obtain ⟨rfl, hb⟩ := hK
  have := hc 0 _ rfl
  rw [show o + i * kByte.sz + 0 = o + i from by show o + i * 1 + 0 = _; omega] at this
  exact ⟨g, o, hA, hg, this, hb⟩
section
variable (fu : Int) (wr rd : Int) (b : Nat) (w : World)
set_option maxHeartbeats 1000000 in
set_option maxRecDepth 100000 in
theorem go_read (A : Option Addr) (c : Nat) (bs : List Nat) (hd : By w A bs) (hr : 0 ≤ rd ∧ rd ≤ 1000000) (i : Nat) (h : i < bs.length) : Calls Try.prog 22 #[.agg (rC A bs.length c fu false wr rd), .agg (stC 0 i b)] w fun e w' => e = .returned (.tuple #[.agg (rC A bs.length c fu false wr (rd + 1)), .int .u8 bs[i], .int .i64 0]) ∧ Below w.heap.size w w' := by
  obtain ⟨g, o, rfl, hg, hc, hb⟩ := by_cell hd i h
  obtain ⟨hr0, hr1⟩ := hr
  generalize bs[i] = x at *
  generalize bs.length = n at *
  have hcc : ((((w.alloc (.cells (rC (some ⟨g, o, none⟩) n c fu false wr (rd + 1)) 46)).alloc (.cells (stC 0 i b) 28)).alloc (.cells (rC none 0 0 0 false 0 0) 46))).cell? ⟨g, o + i, none⟩ = some (.int .u8 x) := (bel3 _ _ _ _).cell hg |>.trans hc
  go_enter Try.func22, Try.ntmps22
  go_wp2
  have P0 : Row (((w.alloc (.cells (rC (some ⟨g, o, none⟩) n c fu false wr (rd + 1)) 46)).alloc (.cells (stC 0 i b) 28)).alloc (.cells (rC none 0 0 0 false 0 0) 46)) w.heap.size 46 (rC (some ⟨g, o, none⟩) n c fu false wr (rd + 1)) := ((Row.new _ _ _).alloc _).alloc _
  have P1 : Row (((w.alloc (.cells (rC (some ⟨g, o, none⟩) n c fu false wr (rd + 1)) 46)).alloc (.cells (stC 0 i b) 28)).alloc (.cells (rC none 0 0 0 false 0 0) 46)) (w.heap.size + 1) 28 (stC 0 i b) := by
    have h := (Row.new (w.alloc (.cells (rC (some ⟨g, o, none⟩) n c fu false wr (rd + 1)) 46)) 28 (stC 0 i b)).alloc (.cells (rC none 0 0 0 false 0 0) 46)
    rwa [show (w.alloc (.cells (rC (some ⟨g, o, none⟩) n c fu false wr (rd + 1)) 46)).heap.size = w.heap.size + 1 from by simp] at h
  have P2 := last_row w (.cells (rC (some ⟨g, o, none⟩) n c fu false wr (rd + 1)) 46) (.cells (stC 0 i b) 28) 46 (rC none 0 0 0 false 0 0)
  have HB := bel3 w (.cells (rC (some ⟨g, o, none⟩) n c fu false wr (rd + 1)) 46) (.cells (stC 0 i b) 28) (.cells (rC none 0 0 0 false 0 0) 46)
  generalize ((w.alloc (.cells (rC (some ⟨g, o, none⟩) n c fu false wr (rd + 1)) 46)).alloc (.cells (stC 0 i b) 28)).alloc (.cells (rC none 0 0 0 false 0 0) 46) = w3 at *
  have p0 := P0.drew
  have p1 := P1.drew
  have p2 := P2.drew
  have cc : w3.drew.cell? ⟨g, o + i, none⟩ = some (.int .u8 x) := hcc
  refine wp_region_noPanic ?_
  refine wp_region_held_drew (S := fun w' => World.grownBy (w3.drew) w' (some ((w.heap.size + 1 + 1)))) (by kernel_rfl) ?hb6 (fun hHeld => ?rest6)
  case hb6 =>
    exact Mem.gb_refl _ _
  case' rest6 => skip
  refine wpAnyH_take (i := 0) (v := ?v7) rfl (by kernel_rfl) (by kernel_rfl) (by kernel_rfl) (fun _ _ _ h => h) (Or.inl ⟨by rfl, ?y7⟩) (by assumption) ?rest7
  case y7 => (intro w hSw; have hT0 := (Mem.gb_row hSw p0 (by intro e; injection e with e; omega)).cell 0 rfl; have hT1 := (Mem.gb_row hSw p0 (by intro e; injection e with e; omega)).cell 1 rfl; have hT2 := (Mem.gb_row hSw p0 (by intro e; injection e with e; omega)).cell 2 rfl; have hT3 := (Mem.gb_row hSw p0 (by intro e; injection e with e; omega)).cell 3 rfl; have hT4 := (Mem.gb_row hSw p0 (by intro e; injection e with e; omega)).cell 4 rfl; have hT5 := (Mem.gb_row hSw p1 (by intro e; injection e with e; omega)).cell 1 rfl; have hT6 := Mem.gb_cell hSw cc (by intro e; injection e with e; dsimp only at e; omega); clear hSw; go_simp; try with_reducible rfl)
  case' rest7 => skip
  try simp only [List.getElem_toArray, List.getElem_cons_succ, List.getElem_cons_zero, Act.put, List.setIfInBounds_toArray, List.set_cons_zero, List.set_cons_succ]
  refine wpAnyH_take (i := 1) (v := ?v8) rfl (by kernel_rfl) (by kernel_rfl) (by kernel_rfl) (fun _ _ _ h => h) (Or.inl ⟨by rfl, ?y8⟩) (by assumption) ?rest8
  case y8 => (intro w hSw; have hT0 := (Mem.gb_row hSw p0 (by intro e; injection e with e; omega)).cell 0 rfl; have hT1 := (Mem.gb_row hSw p0 (by intro e; injection e with e; omega)).cell 1 rfl; have hT2 := (Mem.gb_row hSw p0 (by intro e; injection e with e; omega)).cell 2 rfl; have hT3 := (Mem.gb_row hSw p0 (by intro e; injection e with e; omega)).cell 3 rfl; have hT4 := (Mem.gb_row hSw p0 (by intro e; injection e with e; omega)).cell 4 rfl; have hT5 := (Mem.gb_row hSw p1 (by intro e; injection e with e; omega)).cell 1 rfl; have hT6 := Mem.gb_cell hSw cc (by intro e; injection e with e; dsimp only at e; omega); clear hSw; go_simp; try with_reducible rfl)
  case' rest8 => skip
  try simp only [List.getElem_toArray, List.getElem_cons_succ, List.getElem_cons_zero, Act.put, List.setIfInBounds_toArray, List.set_cons_zero, List.set_cons_succ]
  refine wpAnyH_take (i := 2) (v := ?v9) rfl (by kernel_rfl) (by kernel_rfl) (by kernel_rfl) (fun _ _ _ h => h) (Or.inl ⟨by rfl, ?y9⟩) (by assumption) ?rest9
  case y9 => (intro w hSw; have hT0 := (Mem.gb_row hSw p0 (by intro e; injection e with e; omega)).cell 0 rfl; have hT1 := (Mem.gb_row hSw p0 (by intro e; injection e with e; omega)).cell 1 rfl; have hT2 := (Mem.gb_row hSw p0 (by intro e; injection e with e; omega)).cell 2 rfl; have hT3 := (Mem.gb_row hSw p0 (by intro e; injection e with e; omega)).cell 3 rfl; have hT4 := (Mem.gb_row hSw p0 (by intro e; injection e with e; omega)).cell 4 rfl; have hT5 := (Mem.gb_row hSw p1 (by intro e; injection e with e; omega)).cell 1 rfl; have hT6 := Mem.gb_cell hSw cc (by intro e; injection e with e; dsimp only at e; omega); clear hSw; go_simp; try with_reducible rfl)
  case' rest9 => skip
  try simp only [List.getElem_toArray, List.getElem_cons_succ, List.getElem_cons_zero, Act.put, List.setIfInBounds_toArray, List.set_cons_zero, List.set_cons_succ]
  refine wpAnyH_take (i := 3) (v := ?v10) rfl (by kernel_rfl) (by kernel_rfl) (by kernel_rfl) (fun _ _ _ h => h) (Or.inl ⟨by rfl, ?y10⟩) (by assumption) ?rest10
  case y10 => (intro w hSw; have hT0 := (Mem.gb_row hSw p0 (by intro e; injection e with e; omega)).cell 0 rfl; have hT1 := (Mem.gb_row hSw p0 (by intro e; injection e with e; omega)).cell 1 rfl; have hT2 := (Mem.gb_row hSw p0 (by intro e; injection e with e; omega)).cell 2 rfl; have hT3 := (Mem.gb_row hSw p0 (by intro e; injection e with e; omega)).cell 3 rfl; have hT4 := (Mem.gb_row hSw p0 (by intro e; injection e with e; omega)).cell 4 rfl; have hT5 := (Mem.gb_row hSw p1 (by intro e; injection e with e; omega)).cell 1 rfl; have hT6 := Mem.gb_cell hSw cc (by intro e; injection e with e; dsimp only at e; omega); clear hSw; go_simp; try with_reducible rfl)
  case' rest10 => skip
  try simp only [List.getElem_toArray, List.getElem_cons_succ, List.getElem_cons_zero, Act.put, List.setIfInBounds_toArray, List.set_cons_zero, List.set_cons_succ]
  refine wpAnyH_take (i := 4) (v := ?v11) rfl (by kernel_rfl) (by kernel_rfl) (by kernel_rfl) (fun _ _ _ h => h) (Or.inl ⟨by rfl, ?y11⟩) (by assumption) ?rest11
  case y11 => (intro w hSw; have hT0 := (Mem.gb_row hSw p0 (by intro e; injection e with e; omega)).cell 0 rfl; have hT1 := (Mem.gb_row hSw p0 (by intro e; injection e with e; omega)).cell 1 rfl; have hT2 := (Mem.gb_row hSw p0 (by intro e; injection e with e; omega)).cell 2 rfl; have hT3 := (Mem.gb_row hSw p0 (by intro e; injection e with e; omega)).cell 3 rfl; have hT4 := (Mem.gb_row hSw p0 (by intro e; injection e with e; omega)).cell 4 rfl; have hT5 := (Mem.gb_row hSw p1 (by intro e; injection e with e; omega)).cell 1 rfl; have hT6 := Mem.gb_cell hSw cc (by intro e; injection e with e; dsimp only at e; omega); clear hSw; go_simp; try with_reducible rfl)
  case' rest11 => skip
  try simp only [List.getElem_toArray, List.getElem_cons_succ, List.getElem_cons_zero, Act.put, List.setIfInBounds_toArray, List.set_cons_zero, List.set_cons_succ]
  refine wpAnyH_take (i := 5) (v := ?v12) rfl (by kernel_rfl) (by kernel_rfl) (by kernel_rfl) (fun _ _ _ h => h) (Or.inl ⟨by rfl, ?y12⟩) (by assumption) ?rest12
  case y12 => (intro w hSw; have hT0 := (Mem.gb_row hSw p0 (by intro e; injection e with e; omega)).cell 0 rfl; have hT1 := (Mem.gb_row hSw p0 (by intro e; injection e with e; omega)).cell 1 rfl; have hT2 := (Mem.gb_row hSw p0 (by intro e; injection e with e; omega)).cell 2 rfl; have hT3 := (Mem.gb_row hSw p0 (by intro e; injection e with e; omega)).cell 3 rfl; have hT4 := (Mem.gb_row hSw p0 (by intro e; injection e with e; omega)).cell 4 rfl; have hT5 := (Mem.gb_row hSw p1 (by intro e; injection e with e; omega)).cell 1 rfl; have hT6 := Mem.gb_cell hSw cc (by intro e; injection e with e; dsimp only at e; omega); clear hSw; go_simp; try with_reducible rfl)
  case' rest12 => skip
  try simp only [List.getElem_toArray, List.getElem_cons_succ, List.getElem_cons_zero, Act.put, List.setIfInBounds_toArray, List.set_cons_zero, List.set_cons_succ]
  refine wpAnyH_take (i := 6) (v := ?v13) rfl (by kernel_rfl) (by kernel_rfl) (by kernel_rfl) (fun _ _ _ h => h) (Or.inl ⟨by rfl, ?y13⟩) (by assumption) ?rest13
  case y13 => (intro w hSw; have hT0 := (Mem.gb_row hSw p0 (by intro e; injection e with e; omega)).cell 0 rfl; have hT1 := (Mem.gb_row hSw p0 (by intro e; injection e with e; omega)).cell 1 rfl; have hT2 := (Mem.gb_row hSw p0 (by intro e; injection e with e; omega)).cell 2 rfl; have hT3 := (Mem.gb_row hSw p0 (by intro e; injection e with e; omega)).cell 3 rfl; have hT4 := (Mem.gb_row hSw p0 (by intro e; injection e with e; omega)).cell 4 rfl; have hT5 := (Mem.gb_row hSw p1 (by intro e; injection e with e; omega)).cell 1 rfl; have hT6 := Mem.gb_cell hSw cc (by intro e; injection e with e; dsimp only at e; omega); clear hSw; go_simp; try with_reducible rfl)
  case' rest13 => skip
  try simp only [List.getElem_toArray, List.getElem_cons_succ, List.getElem_cons_zero, Act.put, List.setIfInBounds_toArray, List.set_cons_zero, List.set_cons_succ]
  refine wpAnyH_ready (rs := [7]) (by kernel_rfl) (by simp) ?_
  refine AllReadyH.cons rfl (fun K hK => ?_) AllReadyH.nil
  rw [if_pos (by rfl)]
  refine wp_storeRow _ _ _ (by rfl) (w.heap.size + 1 + 1) (by rfl) (rC (some ⟨g, o, none⟩) n c fu false wr (rd + 1)) (by rfl) (rC none 0 0 0 false 0 0) 46 5 rSize rfl rfl (rC_one _ _ _ _ _ _ _) p2 ?_; have hSnew := Mem.gb_setRow hHeld (rC (some ⟨g, o, none⟩) n c fu false wr (rd + 1)); have p3 := p2.set (rC (some ⟨g, o, none⟩) n c fu false wr (rd + 1))
  refine hK.out _ _ ?_ (fun hHeld2 => ?_)
  · exact hSnew
  clear hK K hHeld hSnew
  have hHeld := hHeld2
  clear hHeld2
  try simp only [List.getElem_toArray, List.getElem_cons_succ, List.getElem_cons_zero, Act.put, List.setIfInBounds_toArray, List.set_cons_zero, List.set_cons_succ]
  refine wpAnyH_take (i := 8) (v := ?v14) rfl (by kernel_rfl) (by kernel_rfl) (by kernel_rfl) (fun _ _ _ h => h) (Or.inl ⟨by rfl, ?y14⟩) (by assumption) ?rest14
  case y14 => (intro w hSw; have hT0 := (Mem.gb_row hSw p0 (by intro e; injection e with e; omega)).cell 0 rfl; have hT1 := (Mem.gb_row hSw p0 (by intro e; injection e with e; omega)).cell 1 rfl; have hT2 := (Mem.gb_row hSw p0 (by intro e; injection e with e; omega)).cell 2 rfl; have hT3 := (Mem.gb_row hSw p0 (by intro e; injection e with e; omega)).cell 3 rfl; have hT4 := (Mem.gb_row hSw p0 (by intro e; injection e with e; omega)).cell 4 rfl; have hT5 := (Mem.gb_row hSw p1 (by intro e; injection e with e; omega)).cell 1 rfl; have hT6 := Mem.gb_cell hSw cc (by intro e; injection e with e; dsimp only at e; omega); clear hSw; go_simp; try with_reducible rfl)
  case' rest14 => skip
  try simp only [List.getElem_toArray, List.getElem_cons_succ, List.getElem_cons_zero, Act.put, List.setIfInBounds_toArray, List.set_cons_zero, List.set_cons_succ]
  refine wpAnyH_take (i := 9) (v := ?v15) rfl (by kernel_rfl) (by kernel_rfl) (by kernel_rfl) (fun _ _ _ h => h) (Or.inl ⟨by rfl, ?y15⟩) (by assumption) ?rest15
  case y15 => (intro w hSw; have hT0 := (Mem.gb_row hSw p0 (by intro e; injection e with e; omega)).cell 0 rfl; have hT1 := (Mem.gb_row hSw p0 (by intro e; injection e with e; omega)).cell 1 rfl; have hT2 := (Mem.gb_row hSw p0 (by intro e; injection e with e; omega)).cell 2 rfl; have hT3 := (Mem.gb_row hSw p0 (by intro e; injection e with e; omega)).cell 3 rfl; have hT4 := (Mem.gb_row hSw p0 (by intro e; injection e with e; omega)).cell 4 rfl; have hT5 := (Mem.gb_row hSw p1 (by intro e; injection e with e; omega)).cell 1 rfl; have hT6 := Mem.gb_cell hSw cc (by intro e; injection e with e; dsimp only at e; omega); clear hSw; go_simp; try with_reducible rfl)
  case' rest15 => skip
  try simp only [List.getElem_toArray, List.getElem_cons_succ, List.getElem_cons_zero, Act.put, List.setIfInBounds_toArray, List.set_cons_zero, List.set_cons_succ]
  refine wpAnyH_done (by kernel_rfl) ?_ _
  refine NoPanic.normal ?_
  go_wp2_with fail
  exact bodyPost_ret (results_cell_tmp2 rfl _ _ (w.heap.size + 1 + 1) 46 _ (0, 0) _ rfl p3 Try.underlying46 rfl rSize) rfl ⟨rfl, below_gb HB.drew hHeld (by have := HB.size; exact this) (fun k hk => by injection hk with hk; omega)⟩
end
end Go.Proofs.Ytechlhmmgabikaa.Dk
