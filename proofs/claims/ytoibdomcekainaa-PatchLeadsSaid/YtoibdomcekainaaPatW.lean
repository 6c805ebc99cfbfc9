/- The page's examples of patches; the document's Was and Same. -/
import Derived.Test.YtoibdomcekainaaPatD
namespace Go.Proofs.Ytoibdomcekainaa.Pat
open Go.RowKit Go.Proofs.Ytoibdomcekainaa.Mem Go.Proofs.Ytoibdomcekainaa.Open Go.Proofs.Ytoibdomcekainaa.Kind Go.Proofs.Ytoibdomcekainaa.Blk Go.Proofs.Ytoibdomcekainaa.App
set_option linter.unusedVariables false
set_option linter.unusedSimpArgs false
/-- The first element of a list of patches, and so on. -/
theorem pat_at {w : World} {S : Nat → Prop} {g o n : Nat} {xs : List Pt} (h : Rw kPat w S (some ⟨g, o, none⟩) n xs) (i : Nat) (hi : i < xs.length) : ∃ A' c, g < w.heap.size ∧ w.cell? ⟨g, o + i * 2, none⟩ = some (.int .i64 xs[i].1) ∧ w.cell? ⟨g, o + i * 2 + 1, none⟩ = some (.slice A' xs[i].2.length c) ∧
    (Lit.int .i64 xs[i].1).wf = true ∧ xs[i].2.length ≤ c ∧ c ≤ M63 ∧ (A' = none → c = 0) ∧ Rw kByte w S A' xs[i].2.length xs[i].2 := by
  obtain ⟨g', o', cs, e, hS, hlt, hK, hc⟩ := h.at_ hi
  injection e with e
  injection e with e1 e2
  subst e1 e2
  obtain ⟨A', c, rfl, k1, k2, k3, k4, k5⟩ := kPat_open hK
  exact ⟨A', c, hlt, hc 0 _ rfl, hc 1 _ rfl, k1, k2, k3, k4, k5⟩
theorem pat_form {w : World} {S : Nat → Prop} {A : Option Addr} {n : Nat} {xs : List Pt} (h : Rw kPat w S A n xs) (hn : 0 < n) : ∃ g o, A = some ⟨g, o, none⟩ := by
  rcases h.2.2 with h0 | ⟨g, o, hA, _⟩
  · omega
  · exact ⟨g, o, hA⟩
def bw : List Nat := ((zblk.set 3 7).set 4 7).set 9 7
theorem bw_length : bw.length = 256 := by unfold bw; rw [List.length_set, List.length_set, List.length_set]; exact zblk_length
theorem bw_byte : ∀ x ∈ bw, x < 256 := by
  have : ∀ (l : List Nat) (i v : Nat), v < 256 → (∀ x ∈ l, x < 256) → ∀ x ∈ l.set i v, x < 256 := fun l i v hv hl x hx => by
    rcases List.mem_or_eq_of_mem_set hx with h | h
    · exact hl x h
    · omega
  exact this _ _ _ (by decide) (this _ _ _ (by decide) (this _ _ _ (by decide) zblk_byte))
theorem bw_diff : diffL zblk bw = [(3, [7, 7]), (9, [7])] := by decide +kernel
theorem bw_lay : (layL zblk 3 [7, 7])[4]? = some 7 := by decide +kernel
theorem bw_meet : meetB 3 2 5 2 = false := by decide +kernel

theorem run_index_blk {L : List Nat} {k : Nat} {x : Nat} (hk : k < 256) (h : L[k]? = some x) (w : World) : (Instr.index 28 (.agg (blk L)) (.int .i64 (k : Int))).run Try.prog w = .ok (.int .u8 (x : Int)) w := by
  have h2 : (blk L)[k]? = some (.int .u8 (x : Int)) := by
    obtain ⟨hi, e⟩ := List.getElem?_eq_some_iff.1 h
    rw [blk_get L k hi, e]
  unfold Instr.index
  simp [asIntOf, run_underlying blkUnd, sizeOf]
  rw [if_pos hk, show k * Try.t5.size = k from Nat.mul_one k]
  have ha : ∀ w, (isAgg 5).run Try.prog w = .ok false w := fun w => by kernel_rfl
  unfold part
  simp [ha, h2]
set_option maxHeartbeats 2000000 in
set_option maxRecDepth 100000 in
theorem works_core (b L : List Nat) (D : List Pt) (w : World) (hbw : bw = b) (hl : b.length = 256) (hb : ∀ x ∈ b, x < 256) (hD : diffL zblk b = D) (hDe : D = [(3, [7, 7]), (9, [7])]) (hL : layL zblk 3 [7, 7] = L) (h4 : L[4]? = some 7) :
    Calls Try.prog 18 #[] w fun e w' => e = .returned (.bool true) ∧ Below w.heap.size w w' := by
  obtain ⟨p3, q3, b3⟩ := two_rows w 28 28 (blk zblk) (blk b)
  have hsb : (blk b).size = 256 := by rw [blk_size]; exact hl
  have z : ∀ i, i < 256 → (blk zblk)[i]? = some (.int .u8 0) := fun i hi => by
    rw [blk_get zblk i (by rw [zblk_length]; exact hi)]
    have : zblk[i]'(by rw [zblk_length]; exact hi) = 0 := by unfold zblk; exact List.getElem_replicate ..
    rw [this]; rfl
  have s1 : (blk zblk).setIfInBounds 3 (.int .u8 7) = blk (zblk.set 3 7) := blk_set zblk 3 7
  have s2 : (blk (zblk.set 3 7)).setIfInBounds 4 (.int .u8 7) = blk ((zblk.set 3 7).set 4 7) := blk_set _ 4 7
  have s3 : (blk ((zblk.set 3 7).set 4 7)).setIfInBounds 9 (.int .u8 7) = blk b := by rw [← hbw]; exact blk_set _ 9 7
  have z4 : (blk (zblk.set 3 7))[4]? = some (.int .u8 0) := by
    rw [← s1, Array.getElem?_setIfInBounds, if_neg (by decide)]; exact z 4 (by decide)
  have z9 : (blk ((zblk.set 3 7).set 4 7))[9]? = some (.int .u8 0) := by
    rw [← s2, Array.getElem?_setIfInBounds, if_neg (by decide), ← s1, Array.getElem?_setIfInBounds, if_neg (by decide)]; exact z 9 (by decide)
  have z3 := z 3 (by decide)
  have hbw' := Lib.hid hbw
  have hD' := Lib.hid hD
  have hDe' := Lib.hid hDe
  have hL' := Lib.hid hL
  have hl' := Lib.hid hl
  clear hbw hD hDe hL hl z
  go_enter Try.func18, Try.ntmps18
  go_wp2_with (first
    | (with_reducible refine wpList_allocA rfl 28 rfl _ blkZero ?_)
    | (with_reducible refine wpList_load rfl 28 _ rfl (w.heap.size + 1) rfl 28 (blk b) 256 5 blkUnd blkSize hsb q3.out ?_)
    | (with_reducible refine wpList_load rfl 28 _ rfl w.heap.size rfl 28 (blk zblk) 256 5 blkUnd blkSize zblk_size p3.out ?_))
  generalize (w.alloc (.cells (blk zblk) 28)).alloc (.cells (blk b) 28) = w2 at *
  clear s1 s2 s3 z3 z4 z9
  refine (diff_any zblk b _ zblk_length hl'.out hb).mono ?_
  rintro e w3 ⟨v, rfl, hown, hbel3⟩
  rw [hD'.out] at hown
  have p4 := p3.below hbel3
  have b4 := b3.trans (hbel3.mono b3.size)
  obtain ⟨A, c, rfl, n1, n2, n3, hrw⟩ := hown.rw_
  have hDe := hDe'.out
  subst hDe
  obtain ⟨gl, o, rfl⟩ := pat_form hrw (by simp)
  obtain ⟨A1, c1, hlt, a0, a1, _, k1, k2, k3, k4⟩ := pat_at hrw 0 (by simp)
  obtain ⟨A2, c2, _, a2, a3, _, _⟩ := pat_at hrw 1 (by simp)
  simp only [List.getElem_cons_zero, List.getElem_cons_succ, Nat.zero_mul, Nat.add_zero, Nat.one_mul, List.length_cons, List.length_nil, Nat.zero_add, Nat.reduceAdd] at a0 a1 a2 a3 k1 k4 hrw n1 ⊢
  clear p3 b3 hown hbel3 q3
  have a0d : w3.drew.cell? ⟨gl, o, none⟩ = some (.int .i64 3) := a0
  have a1d : w3.drew.cell? ⟨gl, o + 1, none⟩ = some (.slice A1 2 c1) := a1
  have a2d : w3.drew.cell? ⟨gl, o + 2, none⟩ = some (.int .i64 9) := a2
  have p4d := p4.drew
  have hiZ := blkSizeL zblk zblk_length
  have CL := Lib.hid (fun w' (h : Sl w' V8 A1 2 [7, 7]) => lay_any zblk 3 A1 2 c1 [7, 7] w' zblk_length h)
  rw [hL'.out] at CL
  have hk := Lib.hid k4.sl_byte
  have hix : ∀ w, (Instr.index 28 (.agg (blk L)) (.int .i64 4)).run Try.prog w = .ok (.int .u8 7) w := fun w => run_index_blk (k := 4) (x := 7) (by decide) h4 w
  have hLi : (blk L)[4]? = some (.int .u8 7) := by
    obtain ⟨h, e⟩ := List.getElem?_eq_some_iff.1 h4
    rw [blk_get L 4 h, e]; rfl
  clear k4 hrw
  go_wp2
  refine wp_region_held_drew (S := Go.RowKit.Below ((w3.drew).heap.size) (w3.drew)) (by kernel_rfl) ?hb9 (fun hHeld => ?rest9)
  case hb9 =>
    exact Go.RowKit.Below.refl _ _
  case' rest9 => skip
  refine wpAnyH_take (i := 0) (v := ?v10) rfl (by kernel_rfl) (by kernel_rfl) (by kernel_rfl) (fun _ _ _ h => h) (Or.inl ⟨by rfl, ?y10⟩) (by assumption) ?rest10
  case y10 => (intro w hSw; have hT0 := Mem.bl_cell hSw a0d (by first | omega | exact World.block_lt_of_cell? _ _ a0d | (simp <;> omega)); have hT1 := Mem.bl_cell hSw a1d (by first | omega | exact World.block_lt_of_cell? _ _ a1d | (simp <;> omega)); have hT2 := Mem.bl_cell hSw a2d (by first | omega | exact World.block_lt_of_cell? _ _ a2d | (simp <;> omega)); clear hSw; go_simp; try with_reducible rfl)
  case' rest10 => skip
  try simp only [List.getElem_toArray, List.getElem_cons_succ, List.getElem_cons_zero, Act.put, List.setIfInBounds_toArray, List.set_cons_zero, List.set_cons_succ]
  refine wpAnyH_take (i := 1) (v := ?v11) rfl (by kernel_rfl) (by kernel_rfl) (by kernel_rfl) (fun _ _ _ h => h) (Or.inl ⟨by rfl, ?y11⟩) (by assumption) ?rest11
  case y11 => (intro w hSw; have hT0 := Mem.bl_cell hSw a0d (by first | omega | exact World.block_lt_of_cell? _ _ a0d | (simp <;> omega)); have hT1 := Mem.bl_cell hSw a1d (by first | omega | exact World.block_lt_of_cell? _ _ a1d | (simp <;> omega)); have hT2 := Mem.bl_cell hSw a2d (by first | omega | exact World.block_lt_of_cell? _ _ a2d | (simp <;> omega)); clear hSw; go_simp; try with_reducible rfl)
  case' rest11 => skip
  try simp only [List.getElem_toArray, List.getElem_cons_succ, List.getElem_cons_zero, Act.put, List.setIfInBounds_toArray, List.set_cons_zero, List.set_cons_succ]
  refine wpAnyH_take (i := 2) (v := ?v12) rfl (by kernel_rfl) (by kernel_rfl) (by kernel_rfl) (fun _ _ _ h => h) (Or.inl ⟨by rfl, ?y12⟩) (by assumption) ?rest12
  case y12 => (intro w hSw; have hT0 := Mem.bl_cell hSw a0d (by first | omega | exact World.block_lt_of_cell? _ _ a0d | (simp <;> omega)); have hT1 := Mem.bl_cell hSw a1d (by first | omega | exact World.block_lt_of_cell? _ _ a1d | (simp <;> omega)); have hT2 := Mem.bl_cell hSw a2d (by first | omega | exact World.block_lt_of_cell? _ _ a2d | (simp <;> omega)); clear hSw; go_simp; try with_reducible rfl)
  case' rest12 => skip
  try simp only [List.getElem_toArray, List.getElem_cons_succ, List.getElem_cons_zero, Act.put, List.setIfInBounds_toArray, List.set_cons_zero, List.set_cons_succ]
  refine wpAnyH_take (i := 3) (v := ?v13) rfl (by kernel_rfl) (by kernel_rfl) (by kernel_rfl) (fun _ _ _ h => h) (Or.inl ⟨by rfl, ?y13⟩) (by assumption) ?rest13
  case y13 => (intro w hSw; have hT0 := Mem.bl_cell hSw a0d (by first | omega | exact World.block_lt_of_cell? _ _ a0d | (simp <;> omega)); have hT1 := Mem.bl_cell hSw a1d (by first | omega | exact World.block_lt_of_cell? _ _ a1d | (simp <;> omega)); have hT2 := Mem.bl_cell hSw a2d (by first | omega | exact World.block_lt_of_cell? _ _ a2d | (simp <;> omega)); clear hSw; go_simp; try with_reducible rfl)
  case' rest13 => skip
  try simp only [List.getElem_toArray, List.getElem_cons_succ, List.getElem_cons_zero, Act.put, List.setIfInBounds_toArray, List.set_cons_zero, List.set_cons_succ]
  first
    | refine wpAnyH_take (i := 4) (v := undef) rfl (by kernel_rfl) (by kernel_rfl) (by kernel_rfl) (fun _ _ _ h => h) (Or.inr ⟨by rfl, rfl⟩) (by assumption) ?rest14
    | (refine wpAnyH_take (i := 4) (v := ?v14) rfl (by kernel_rfl) (by kernel_rfl) (by kernel_rfl) (fun _ _ _ h => h) (Or.inl ⟨by rfl, ?y14⟩) (by assumption) ?rest14; case y14 => (intro w hSw; have hT0 := Mem.bl_cell hSw a0d (by first | omega | exact World.block_lt_of_cell? _ _ a0d | (simp <;> omega)); have hT1 := Mem.bl_cell hSw a1d (by first | omega | exact World.block_lt_of_cell? _ _ a1d | (simp <;> omega)); have hT2 := Mem.bl_cell hSw a2d (by first | omega | exact World.block_lt_of_cell? _ _ a2d | (simp <;> omega)); clear hSw; go_simp; try with_reducible rfl))
  case' rest14 => skip
  try simp only [List.getElem_toArray, List.getElem_cons_succ, List.getElem_cons_zero, Act.put, List.setIfInBounds_toArray, List.set_cons_zero, List.set_cons_succ]
  first
    | refine wpAnyH_take (i := 5) (v := undef) rfl (by kernel_rfl) (by kernel_rfl) (by kernel_rfl) (fun _ _ _ h => h) (Or.inr ⟨by rfl, rfl⟩) (by assumption) ?rest15
    | (refine wpAnyH_take (i := 5) (v := ?v15) rfl (by kernel_rfl) (by kernel_rfl) (by kernel_rfl) (fun _ _ _ h => h) (Or.inl ⟨by rfl, ?y15⟩) (by assumption) ?rest15; case y15 => (intro w hSw; have hT0 := Mem.bl_cell hSw a0d (by first | omega | exact World.block_lt_of_cell? _ _ a0d | (simp <;> omega)); have hT1 := Mem.bl_cell hSw a1d (by first | omega | exact World.block_lt_of_cell? _ _ a1d | (simp <;> omega)); have hT2 := Mem.bl_cell hSw a2d (by first | omega | exact World.block_lt_of_cell? _ _ a2d | (simp <;> omega)); clear hSw; go_simp; try with_reducible rfl))
  case' rest15 => skip
  try simp only [List.getElem_toArray, List.getElem_cons_succ, List.getElem_cons_zero, Act.put, List.setIfInBounds_toArray, List.set_cons_zero, List.set_cons_succ]
  first
    | refine wpAnyH_take (i := 6) (v := undef) rfl (by kernel_rfl) (by kernel_rfl) (by kernel_rfl) (fun _ _ _ h => h) (Or.inr ⟨by rfl, rfl⟩) (by assumption) ?rest16
    | (refine wpAnyH_take (i := 6) (v := ?v16) rfl (by kernel_rfl) (by kernel_rfl) (by kernel_rfl) (fun _ _ _ h => h) (Or.inl ⟨by rfl, ?y16⟩) (by assumption) ?rest16; case y16 => (intro w hSw; have hT0 := Mem.bl_cell hSw a0d (by first | omega | exact World.block_lt_of_cell? _ _ a0d | (simp <;> omega)); have hT1 := Mem.bl_cell hSw a1d (by first | omega | exact World.block_lt_of_cell? _ _ a1d | (simp <;> omega)); have hT2 := Mem.bl_cell hSw a2d (by first | omega | exact World.block_lt_of_cell? _ _ a2d | (simp <;> omega)); clear hSw; go_simp; try with_reducible rfl))
  case' rest16 => skip
  try simp only [List.getElem_toArray, List.getElem_cons_succ, List.getElem_cons_zero, Act.put, List.setIfInBounds_toArray, List.set_cons_zero, List.set_cons_succ]
  first
    | refine wpAnyH_take (i := 7) (v := undef) rfl (by kernel_rfl) (by kernel_rfl) (by kernel_rfl) (fun _ _ _ h => h) (Or.inr ⟨by rfl, rfl⟩) (by assumption) ?rest17
    | (refine wpAnyH_take (i := 7) (v := ?v17) rfl (by kernel_rfl) (by kernel_rfl) (by kernel_rfl) (fun _ _ _ h => h) (Or.inl ⟨by rfl, ?y17⟩) (by assumption) ?rest17; case y17 => (intro w hSw; have hT0 := Mem.bl_cell hSw a0d (by first | omega | exact World.block_lt_of_cell? _ _ a0d | (simp <;> omega)); have hT1 := Mem.bl_cell hSw a1d (by first | omega | exact World.block_lt_of_cell? _ _ a1d | (simp <;> omega)); have hT2 := Mem.bl_cell hSw a2d (by first | omega | exact World.block_lt_of_cell? _ _ a2d | (simp <;> omega)); clear hSw; go_simp; try with_reducible rfl))
  case' rest17 => skip
  try simp only [List.getElem_toArray, List.getElem_cons_succ, List.getElem_cons_zero, Act.put, List.setIfInBounds_toArray, List.set_cons_zero, List.set_cons_succ]
  first
    | refine wpAnyH_take (i := 8) (v := undef) rfl (by kernel_rfl) (by kernel_rfl) (by kernel_rfl) (fun _ _ _ h => h) (Or.inr ⟨by rfl, rfl⟩) (by assumption) ?rest18
    | (refine wpAnyH_take (i := 8) (v := ?v18) rfl (by kernel_rfl) (by kernel_rfl) (by kernel_rfl) (fun _ _ _ h => h) (Or.inl ⟨by rfl, ?y18⟩) (by assumption) ?rest18; case y18 => (intro w hSw; have hT0 := Mem.bl_cell hSw a0d (by first | omega | exact World.block_lt_of_cell? _ _ a0d | (simp <;> omega)); have hT1 := Mem.bl_cell hSw a1d (by first | omega | exact World.block_lt_of_cell? _ _ a1d | (simp <;> omega)); have hT2 := Mem.bl_cell hSw a2d (by first | omega | exact World.block_lt_of_cell? _ _ a2d | (simp <;> omega)); clear hSw; go_simp; try with_reducible rfl))
  case' rest18 => skip
  try simp only [List.getElem_toArray, List.getElem_cons_succ, List.getElem_cons_zero, Act.put, List.setIfInBounds_toArray, List.set_cons_zero, List.set_cons_succ]
  refine wpAnyH_take (i := 9) (v := ?v19) rfl (by kernel_rfl) (by kernel_rfl) (by kernel_rfl) (fun _ _ _ h => h) (Or.inl ⟨by rfl, ?y19⟩) (by assumption) ?rest19
  case y19 => (intro w hSw; have hT0 := Mem.bl_cell hSw a0d (by first | omega | exact World.block_lt_of_cell? _ _ a0d | (simp <;> omega)); have hT1 := Mem.bl_cell hSw a1d (by first | omega | exact World.block_lt_of_cell? _ _ a1d | (simp <;> omega)); have hT2 := Mem.bl_cell hSw a2d (by first | omega | exact World.block_lt_of_cell? _ _ a2d | (simp <;> omega)); clear hSw; go_simp; try with_reducible rfl)
  case' rest19 => skip
  try simp only [List.getElem_toArray, List.getElem_cons_succ, List.getElem_cons_zero, Act.put, List.setIfInBounds_toArray, List.set_cons_zero, List.set_cons_succ]
  refine wpAnyH_take (i := 10) (v := ?v20) rfl (by kernel_rfl) (by kernel_rfl) (by kernel_rfl) (fun _ _ _ h => h) (Or.inl ⟨by rfl, ?y20⟩) (by assumption) ?rest20
  case y20 => (intro w hSw; have hT0 := Mem.bl_cell hSw a0d (by first | omega | exact World.block_lt_of_cell? _ _ a0d | (simp <;> omega)); have hT1 := Mem.bl_cell hSw a1d (by first | omega | exact World.block_lt_of_cell? _ _ a1d | (simp <;> omega)); have hT2 := Mem.bl_cell hSw a2d (by first | omega | exact World.block_lt_of_cell? _ _ a2d | (simp <;> omega)); clear hSw; go_simp; try with_reducible rfl)
  case' rest20 => skip
  try simp only [List.getElem_toArray, List.getElem_cons_succ, List.getElem_cons_zero, Act.put, List.setIfInBounds_toArray, List.set_cons_zero, List.set_cons_succ]
  first
    | refine wpAnyH_take (i := 11) (v := undef) rfl (by kernel_rfl) (by kernel_rfl) (by kernel_rfl) (fun _ _ _ h => h) (Or.inr ⟨by rfl, rfl⟩) (by assumption) ?rest21
    | (refine wpAnyH_take (i := 11) (v := ?v21) rfl (by kernel_rfl) (by kernel_rfl) (by kernel_rfl) (fun _ _ _ h => h) (Or.inl ⟨by rfl, ?y21⟩) (by assumption) ?rest21; case y21 => (intro w hSw; have hT0 := Mem.bl_cell hSw a0d (by first | omega | exact World.block_lt_of_cell? _ _ a0d | (simp <;> omega)); have hT1 := Mem.bl_cell hSw a1d (by first | omega | exact World.block_lt_of_cell? _ _ a1d | (simp <;> omega)); have hT2 := Mem.bl_cell hSw a2d (by first | omega | exact World.block_lt_of_cell? _ _ a2d | (simp <;> omega)); clear hSw; go_simp; try with_reducible rfl))
  case' rest21 => skip
  try simp only [List.getElem_toArray, List.getElem_cons_succ, List.getElem_cons_zero, Act.put, List.setIfInBounds_toArray, List.set_cons_zero, List.set_cons_succ]
  first
    | refine wpAnyH_take (i := 12) (v := undef) rfl (by kernel_rfl) (by kernel_rfl) (by kernel_rfl) (fun _ _ _ h => h) (Or.inr ⟨by rfl, rfl⟩) (by assumption) ?rest22
    | (refine wpAnyH_take (i := 12) (v := ?v22) rfl (by kernel_rfl) (by kernel_rfl) (by kernel_rfl) (fun _ _ _ h => h) (Or.inl ⟨by rfl, ?y22⟩) (by assumption) ?rest22; case y22 => (intro w hSw; have hT0 := Mem.bl_cell hSw a0d (by first | omega | exact World.block_lt_of_cell? _ _ a0d | (simp <;> omega)); have hT1 := Mem.bl_cell hSw a1d (by first | omega | exact World.block_lt_of_cell? _ _ a1d | (simp <;> omega)); have hT2 := Mem.bl_cell hSw a2d (by first | omega | exact World.block_lt_of_cell? _ _ a2d | (simp <;> omega)); clear hSw; go_simp; try with_reducible rfl))
  case' rest22 => skip
  try simp only [List.getElem_toArray, List.getElem_cons_succ, List.getElem_cons_zero, Act.put, List.setIfInBounds_toArray, List.set_cons_zero, List.set_cons_succ]
  first
    | refine wpAnyH_take (i := 13) (v := undef) rfl (by kernel_rfl) (by kernel_rfl) (by kernel_rfl) (fun _ _ _ h => h) (Or.inr ⟨by rfl, rfl⟩) (by assumption) ?rest23
    | (refine wpAnyH_take (i := 13) (v := ?v23) rfl (by kernel_rfl) (by kernel_rfl) (by kernel_rfl) (fun _ _ _ h => h) (Or.inl ⟨by rfl, ?y23⟩) (by assumption) ?rest23; case y23 => (intro w hSw; have hT0 := Mem.bl_cell hSw a0d (by first | omega | exact World.block_lt_of_cell? _ _ a0d | (simp <;> omega)); have hT1 := Mem.bl_cell hSw a1d (by first | omega | exact World.block_lt_of_cell? _ _ a1d | (simp <;> omega)); have hT2 := Mem.bl_cell hSw a2d (by first | omega | exact World.block_lt_of_cell? _ _ a2d | (simp <;> omega)); clear hSw; go_simp; try with_reducible rfl))
  case' rest23 => skip
  try simp only [List.getElem_toArray, List.getElem_cons_succ, List.getElem_cons_zero, Act.put, List.setIfInBounds_toArray, List.set_cons_zero, List.set_cons_succ]
  first
    | refine wpAnyH_take (i := 14) (v := undef) rfl (by kernel_rfl) (by kernel_rfl) (by kernel_rfl) (fun _ _ _ h => h) (Or.inr ⟨by rfl, rfl⟩) (by assumption) ?rest24
    | (refine wpAnyH_take (i := 14) (v := ?v24) rfl (by kernel_rfl) (by kernel_rfl) (by kernel_rfl) (fun _ _ _ h => h) (Or.inl ⟨by rfl, ?y24⟩) (by assumption) ?rest24; case y24 => (intro w hSw; have hT0 := Mem.bl_cell hSw a0d (by first | omega | exact World.block_lt_of_cell? _ _ a0d | (simp <;> omega)); have hT1 := Mem.bl_cell hSw a1d (by first | omega | exact World.block_lt_of_cell? _ _ a1d | (simp <;> omega)); have hT2 := Mem.bl_cell hSw a2d (by first | omega | exact World.block_lt_of_cell? _ _ a2d | (simp <;> omega)); clear hSw; go_simp; try with_reducible rfl))
  case' rest24 => skip
  try simp only [List.getElem_toArray, List.getElem_cons_succ, List.getElem_cons_zero, Act.put, List.setIfInBounds_toArray, List.set_cons_zero, List.set_cons_succ]
  first
    | refine wpAnyH_take (i := 15) (v := undef) rfl (by kernel_rfl) (by kernel_rfl) (by kernel_rfl) (fun _ _ _ h => h) (Or.inr ⟨by rfl, rfl⟩) (by assumption) ?rest25
    | (refine wpAnyH_take (i := 15) (v := ?v25) rfl (by kernel_rfl) (by kernel_rfl) (by kernel_rfl) (fun _ _ _ h => h) (Or.inl ⟨by rfl, ?y25⟩) (by assumption) ?rest25; case y25 => (intro w hSw; have hT0 := Mem.bl_cell hSw a0d (by first | omega | exact World.block_lt_of_cell? _ _ a0d | (simp <;> omega)); have hT1 := Mem.bl_cell hSw a1d (by first | omega | exact World.block_lt_of_cell? _ _ a1d | (simp <;> omega)); have hT2 := Mem.bl_cell hSw a2d (by first | omega | exact World.block_lt_of_cell? _ _ a2d | (simp <;> omega)); clear hSw; go_simp; try with_reducible rfl))
  case' rest25 => skip
  try simp only [List.getElem_toArray, List.getElem_cons_succ, List.getElem_cons_zero, Act.put, List.setIfInBounds_toArray, List.set_cons_zero, List.set_cons_succ]
  first
    | refine wpAnyH_take (i := 16) (v := undef) rfl (by kernel_rfl) (by kernel_rfl) (by kernel_rfl) (fun _ _ _ h => h) (Or.inr ⟨by rfl, rfl⟩) (by assumption) ?rest26
    | (refine wpAnyH_take (i := 16) (v := ?v26) rfl (by kernel_rfl) (by kernel_rfl) (by kernel_rfl) (fun _ _ _ h => h) (Or.inl ⟨by rfl, ?y26⟩) (by assumption) ?rest26; case y26 => (intro w hSw; have hT0 := Mem.bl_cell hSw a0d (by first | omega | exact World.block_lt_of_cell? _ _ a0d | (simp <;> omega)); have hT1 := Mem.bl_cell hSw a1d (by first | omega | exact World.block_lt_of_cell? _ _ a1d | (simp <;> omega)); have hT2 := Mem.bl_cell hSw a2d (by first | omega | exact World.block_lt_of_cell? _ _ a2d | (simp <;> omega)); clear hSw; go_simp; try with_reducible rfl))
  case' rest26 => skip
  try simp only [List.getElem_toArray, List.getElem_cons_succ, List.getElem_cons_zero, Act.put, List.setIfInBounds_toArray, List.set_cons_zero, List.set_cons_succ]
  refine wpAnyH_take (i := 17) (v := ?v27) rfl (by kernel_rfl) (by kernel_rfl) (by kernel_rfl) (fun _ _ _ h => h) (Or.inl ⟨by rfl, ?y27⟩) (by assumption) ?rest27
  case y27 => (intro w hSw; have hT0 := Mem.bl_cell hSw a0d (by first | omega | exact World.block_lt_of_cell? _ _ a0d | (simp <;> omega)); have hT1 := Mem.bl_cell hSw a1d (by first | omega | exact World.block_lt_of_cell? _ _ a1d | (simp <;> omega)); have hT2 := Mem.bl_cell hSw a2d (by first | omega | exact World.block_lt_of_cell? _ _ a2d | (simp <;> omega)); clear hSw; go_simp; try with_reducible rfl)
  case' rest27 => skip
  try simp only [List.getElem_toArray, List.getElem_cons_succ, List.getElem_cons_zero, Act.put, List.setIfInBounds_toArray, List.set_cons_zero, List.set_cons_succ]
  refine wpAnyH_take (i := 18) (v := ?v28) rfl (by kernel_rfl) (by kernel_rfl) (by kernel_rfl) (fun _ _ _ h => h) (Or.inl ⟨by rfl, ?y28⟩) (by assumption) ?rest28
  case y28 => (intro w hSw; have hT0 := Mem.bl_cell hSw a0d (by first | omega | exact World.block_lt_of_cell? _ _ a0d | (simp <;> omega)); have hT1 := Mem.bl_cell hSw a1d (by first | omega | exact World.block_lt_of_cell? _ _ a1d | (simp <;> omega)); have hT2 := Mem.bl_cell hSw a2d (by first | omega | exact World.block_lt_of_cell? _ _ a2d | (simp <;> omega)); clear hSw; go_simp; try with_reducible rfl)
  case' rest28 => skip
  try simp only [List.getElem_toArray, List.getElem_cons_succ, List.getElem_cons_zero, Act.put, List.setIfInBounds_toArray, List.set_cons_zero, List.set_cons_succ]
  first
    | refine wpAnyH_take (i := 19) (v := undef) rfl (by kernel_rfl) (by kernel_rfl) (by kernel_rfl) (fun _ _ _ h => h) (Or.inr ⟨by rfl, rfl⟩) (by assumption) ?rest29
    | (refine wpAnyH_take (i := 19) (v := ?v29) rfl (by kernel_rfl) (by kernel_rfl) (by kernel_rfl) (fun _ _ _ h => h) (Or.inl ⟨by rfl, ?y29⟩) (by assumption) ?rest29; case y29 => (intro w hSw; have hT0 := Mem.bl_cell hSw a0d (by first | omega | exact World.block_lt_of_cell? _ _ a0d | (simp <;> omega)); have hT1 := Mem.bl_cell hSw a1d (by first | omega | exact World.block_lt_of_cell? _ _ a1d | (simp <;> omega)); have hT2 := Mem.bl_cell hSw a2d (by first | omega | exact World.block_lt_of_cell? _ _ a2d | (simp <;> omega)); clear hSw; go_simp; try with_reducible rfl))
  case' rest29 => skip
  try simp only [List.getElem_toArray, List.getElem_cons_succ, List.getElem_cons_zero, Act.put, List.setIfInBounds_toArray, List.set_cons_zero, List.set_cons_succ]
  first
    | refine wpAnyH_take (i := 20) (v := undef) rfl (by kernel_rfl) (by kernel_rfl) (by kernel_rfl) (fun _ _ _ h => h) (Or.inr ⟨by rfl, rfl⟩) (by assumption) ?rest30
    | (refine wpAnyH_take (i := 20) (v := ?v30) rfl (by kernel_rfl) (by kernel_rfl) (by kernel_rfl) (fun _ _ _ h => h) (Or.inl ⟨by rfl, ?y30⟩) (by assumption) ?rest30; case y30 => (intro w hSw; have hT0 := Mem.bl_cell hSw a0d (by first | omega | exact World.block_lt_of_cell? _ _ a0d | (simp <;> omega)); have hT1 := Mem.bl_cell hSw a1d (by first | omega | exact World.block_lt_of_cell? _ _ a1d | (simp <;> omega)); have hT2 := Mem.bl_cell hSw a2d (by first | omega | exact World.block_lt_of_cell? _ _ a2d | (simp <;> omega)); clear hSw; go_simp; try with_reducible rfl))
  case' rest30 => skip
  try simp only [List.getElem_toArray, List.getElem_cons_succ, List.getElem_cons_zero, Act.put, List.setIfInBounds_toArray, List.set_cons_zero, List.set_cons_succ]
  first
    | refine wpAnyH_take (i := 21) (v := undef) rfl (by kernel_rfl) (by kernel_rfl) (by kernel_rfl) (fun _ _ _ h => h) (Or.inr ⟨by rfl, rfl⟩) (by assumption) ?rest31
    | (refine wpAnyH_take (i := 21) (v := ?v31) rfl (by kernel_rfl) (by kernel_rfl) (by kernel_rfl) (fun _ _ _ h => h) (Or.inl ⟨by rfl, ?y31⟩) (by assumption) ?rest31; case y31 => (intro w hSw; have hT0 := Mem.bl_cell hSw a0d (by first | omega | exact World.block_lt_of_cell? _ _ a0d | (simp <;> omega)); have hT1 := Mem.bl_cell hSw a1d (by first | omega | exact World.block_lt_of_cell? _ _ a1d | (simp <;> omega)); have hT2 := Mem.bl_cell hSw a2d (by first | omega | exact World.block_lt_of_cell? _ _ a2d | (simp <;> omega)); clear hSw; go_simp; try with_reducible rfl))
  case' rest31 => skip
  try simp only [List.getElem_toArray, List.getElem_cons_succ, List.getElem_cons_zero, Act.put, List.setIfInBounds_toArray, List.set_cons_zero, List.set_cons_succ]
  first
    | refine wpAnyH_take (i := 22) (v := undef) rfl (by kernel_rfl) (by kernel_rfl) (by kernel_rfl) (fun _ _ _ h => h) (Or.inr ⟨by rfl, rfl⟩) (by assumption) ?rest32
    | (refine wpAnyH_take (i := 22) (v := ?v32) rfl (by kernel_rfl) (by kernel_rfl) (by kernel_rfl) (fun _ _ _ h => h) (Or.inl ⟨by rfl, ?y32⟩) (by assumption) ?rest32; case y32 => (intro w hSw; have hT0 := Mem.bl_cell hSw a0d (by first | omega | exact World.block_lt_of_cell? _ _ a0d | (simp <;> omega)); have hT1 := Mem.bl_cell hSw a1d (by first | omega | exact World.block_lt_of_cell? _ _ a1d | (simp <;> omega)); have hT2 := Mem.bl_cell hSw a2d (by first | omega | exact World.block_lt_of_cell? _ _ a2d | (simp <;> omega)); clear hSw; go_simp; try with_reducible rfl))
  case' rest32 => skip
  try simp only [List.getElem_toArray, List.getElem_cons_succ, List.getElem_cons_zero, Act.put, List.setIfInBounds_toArray, List.set_cons_zero, List.set_cons_succ]
  first
    | refine wpAnyH_take (i := 23) (v := undef) rfl (by kernel_rfl) (by kernel_rfl) (by kernel_rfl) (fun _ _ _ h => h) (Or.inr ⟨by rfl, rfl⟩) (by assumption) ?rest33
    | (refine wpAnyH_take (i := 23) (v := ?v33) rfl (by kernel_rfl) (by kernel_rfl) (by kernel_rfl) (fun _ _ _ h => h) (Or.inl ⟨by rfl, ?y33⟩) (by assumption) ?rest33; case y33 => (intro w hSw; have hT0 := Mem.bl_cell hSw a0d (by first | omega | exact World.block_lt_of_cell? _ _ a0d | (simp <;> omega)); have hT1 := Mem.bl_cell hSw a1d (by first | omega | exact World.block_lt_of_cell? _ _ a1d | (simp <;> omega)); have hT2 := Mem.bl_cell hSw a2d (by first | omega | exact World.block_lt_of_cell? _ _ a2d | (simp <;> omega)); clear hSw; go_simp; try with_reducible rfl))
  case' rest33 => skip
  try simp only [List.getElem_toArray, List.getElem_cons_succ, List.getElem_cons_zero, Act.put, List.setIfInBounds_toArray, List.set_cons_zero, List.set_cons_succ]
  refine wpAnyH_take (i := 24) (v := ?v34) rfl (by kernel_rfl) (by kernel_rfl) (by kernel_rfl) (fun _ _ _ h => h) (Or.inl ⟨by rfl, ?y34⟩) (by assumption) ?rest34
  case y34 => (intro w hSw; have hT0 := Mem.bl_cell hSw a0d (by first | omega | exact World.block_lt_of_cell? _ _ a0d | (simp <;> omega)); have hT1 := Mem.bl_cell hSw a1d (by first | omega | exact World.block_lt_of_cell? _ _ a1d | (simp <;> omega)); have hT2 := Mem.bl_cell hSw a2d (by first | omega | exact World.block_lt_of_cell? _ _ a2d | (simp <;> omega)); clear hSw; go_simp; try with_reducible rfl)
  case' rest34 => skip
  try simp only [List.getElem_toArray, List.getElem_cons_succ, List.getElem_cons_zero, Act.put, List.setIfInBounds_toArray, List.set_cons_zero, List.set_cons_succ]
  refine wpAnyH_take (i := 25) (v := ?v35) rfl (by kernel_rfl) (by kernel_rfl) (by kernel_rfl) (fun _ _ _ h => h) (Or.inl ⟨by rfl, ?y35⟩) (by assumption) ?rest35
  case y35 => (intro w hSw; have hT0 := Mem.bl_cell hSw a0d (by first | omega | exact World.block_lt_of_cell? _ _ a0d | (simp <;> omega)); have hT1 := Mem.bl_cell hSw a1d (by first | omega | exact World.block_lt_of_cell? _ _ a1d | (simp <;> omega)); have hT2 := Mem.bl_cell hSw a2d (by first | omega | exact World.block_lt_of_cell? _ _ a2d | (simp <;> omega)); clear hSw; go_simp; try with_reducible rfl)
  case' rest35 => skip
  try simp only [List.getElem_toArray, List.getElem_cons_succ, List.getElem_cons_zero, Act.put, List.setIfInBounds_toArray, List.set_cons_zero, List.set_cons_succ]
  first
    | refine' wpAnyH_take (i := 26) (v := _) rfl (by kernel_rfl) (by kernel_rfl) (by kernel_rfl) (fun _ _ _ h => h) (yieldsIf_load_mid (by rfl) _ _ rfl _ _ rfl _ _ (fun w hSw => (Mem.bl_row hSw p4d (by first | exact Mem.Row.lt p4d | omega | (simp <;> omega))).range) blkUnd rfl hiZ) (by assumption) ?rest36
    | refine wpAnyH_take (i := 26) (v := undef) rfl (by kernel_rfl) (by kernel_rfl) (by kernel_rfl) (fun _ _ _ h => h) (Or.inr ⟨by rfl, rfl⟩) (by assumption) ?rest36
  case' rest36 => skip
  try simp only [List.getElem_toArray, List.getElem_cons_succ, List.getElem_cons_zero, Act.put, List.setIfInBounds_toArray, List.set_cons_zero, List.set_cons_succ]
  first
    | refine wpAnyH_take (i := 27) (v := undef) rfl (by kernel_rfl) (by kernel_rfl) (by kernel_rfl) (fun _ _ _ h => h) (Or.inr ⟨by rfl, rfl⟩) (by assumption) ?rest37
    | (refine wpAnyH_take (i := 27) (v := ?v37) rfl (by kernel_rfl) (by kernel_rfl) (by kernel_rfl) (fun _ _ _ h => h) (Or.inl ⟨by rfl, ?y37⟩) (by assumption) ?rest37; case y37 => (intro w hSw; have hT0 := Mem.bl_cell hSw a0d (by first | omega | exact World.block_lt_of_cell? _ _ a0d | (simp <;> omega)); have hT1 := Mem.bl_cell hSw a1d (by first | omega | exact World.block_lt_of_cell? _ _ a1d | (simp <;> omega)); have hT2 := Mem.bl_cell hSw a2d (by first | omega | exact World.block_lt_of_cell? _ _ a2d | (simp <;> omega)); clear hSw; go_simp; try with_reducible rfl))
  case' rest37 => skip
  try simp only [List.getElem_toArray, List.getElem_cons_succ, List.getElem_cons_zero, Act.put, List.setIfInBounds_toArray, List.set_cons_zero, List.set_cons_succ]
  first
    | refine wpAnyH_take (i := 28) (v := undef) rfl (by kernel_rfl) (by kernel_rfl) (by kernel_rfl) (fun _ _ _ h => h) (Or.inr ⟨by rfl, rfl⟩) (by assumption) ?rest38
    | (refine wpAnyH_take (i := 28) (v := ?v38) rfl (by kernel_rfl) (by kernel_rfl) (by kernel_rfl) (fun _ _ _ h => h) (Or.inl ⟨by rfl, ?y38⟩) (by assumption) ?rest38; case y38 => (intro w hSw; have hT0 := Mem.bl_cell hSw a0d (by first | omega | exact World.block_lt_of_cell? _ _ a0d | (simp <;> omega)); have hT1 := Mem.bl_cell hSw a1d (by first | omega | exact World.block_lt_of_cell? _ _ a1d | (simp <;> omega)); have hT2 := Mem.bl_cell hSw a2d (by first | omega | exact World.block_lt_of_cell? _ _ a2d | (simp <;> omega)); clear hSw; go_simp; try with_reducible rfl))
  case' rest38 => skip
  try simp only [List.getElem_toArray, List.getElem_cons_succ, List.getElem_cons_zero, Act.put, List.setIfInBounds_toArray, List.set_cons_zero, List.set_cons_succ]
  first
    | refine wpAnyH_take (i := 29) (v := undef) rfl (by kernel_rfl) (by kernel_rfl) (by kernel_rfl) (fun _ _ _ h => h) (Or.inr ⟨by rfl, rfl⟩) (by assumption) ?rest39
    | (refine wpAnyH_take (i := 29) (v := ?v39) rfl (by kernel_rfl) (by kernel_rfl) (by kernel_rfl) (fun _ _ _ h => h) (Or.inl ⟨by rfl, ?y39⟩) (by assumption) ?rest39; case y39 => (intro w hSw; have hT0 := Mem.bl_cell hSw a0d (by first | omega | exact World.block_lt_of_cell? _ _ a0d | (simp <;> omega)); have hT1 := Mem.bl_cell hSw a1d (by first | omega | exact World.block_lt_of_cell? _ _ a1d | (simp <;> omega)); have hT2 := Mem.bl_cell hSw a2d (by first | omega | exact World.block_lt_of_cell? _ _ a2d | (simp <;> omega)); clear hSw; go_simp; try with_reducible rfl))
  case' rest39 => skip
  try simp only [List.getElem_toArray, List.getElem_cons_succ, List.getElem_cons_zero, Act.put, List.setIfInBounds_toArray, List.set_cons_zero, List.set_cons_succ]
  refine wpAnyH_ready (rs := [30]) (by kernel_rfl) (by simp) ?_
  refine AllReadyH.cons rfl (fun K hK => ?_) AllReadyH.nil
  go_simp
  (refine (CL.out _ (hk.out.below (Below.trans (Below.refl _ _).drew hHeld))).mono ?_; rintro e w5 ⟨rfl, hbl⟩)
  try go_wp2_with fail
  have hSnew := Mem.bl_step hHeld hbl (by first | exact Nat.le_refl _ | omega | (simp <;> omega))
  refine hK.out _ _ ?_ (fun hHeld2 => ?_)
  · exact hSnew
  clear hbl
  clear hK K hHeld hSnew
  have hHeld := hHeld2
  clear hHeld2
  try simp only [List.getElem_toArray, List.getElem_cons_succ, List.getElem_cons_zero, Act.put, List.setIfInBounds_toArray, List.set_cons_zero, List.set_cons_succ]
  first
    | refine wpAnyH_take (i := 31) (v := undef) rfl (by kernel_rfl) (by kernel_rfl) (by kernel_rfl) (fun _ _ _ h => h) (Or.inr ⟨by rfl, rfl⟩) (by assumption) ?rest40
    | (refine wpAnyH_take (i := 31) (v := ?v40) rfl (by kernel_rfl) (by kernel_rfl) (by kernel_rfl) (fun _ _ _ h => h) (Or.inl ⟨by rfl, ?y40⟩) (by assumption) ?rest40; case y40 => (intro w hSw; have hT0 := Mem.bl_cell hSw a0d (by first | omega | exact World.block_lt_of_cell? _ _ a0d | (simp <;> omega)); have hT1 := Mem.bl_cell hSw a1d (by first | omega | exact World.block_lt_of_cell? _ _ a1d | (simp <;> omega)); have hT2 := Mem.bl_cell hSw a2d (by first | omega | exact World.block_lt_of_cell? _ _ a2d | (simp <;> omega)); clear hSw; go_simp; try with_reducible rfl))
  case' rest40 => skip
  try simp only [List.getElem_toArray, List.getElem_cons_succ, List.getElem_cons_zero, Act.put, List.setIfInBounds_toArray, List.set_cons_zero, List.set_cons_succ]
  first
    | refine wpAnyH_take (i := 32) (v := undef) rfl (by kernel_rfl) (by kernel_rfl) (by kernel_rfl) (fun _ _ _ h => h) (Or.inr ⟨by rfl, rfl⟩) (by assumption) ?rest41
    | (refine wpAnyH_take (i := 32) (v := ?v41) rfl (by kernel_rfl) (by kernel_rfl) (by kernel_rfl) (fun _ _ _ h => h) (Or.inl ⟨by rfl, ?y41⟩) (by assumption) ?rest41; case y41 => (intro w hSw; have hT0 := Mem.bl_cell hSw a0d (by first | omega | exact World.block_lt_of_cell? _ _ a0d | (simp <;> omega)); have hT1 := Mem.bl_cell hSw a1d (by first | omega | exact World.block_lt_of_cell? _ _ a1d | (simp <;> omega)); have hT2 := Mem.bl_cell hSw a2d (by first | omega | exact World.block_lt_of_cell? _ _ a2d | (simp <;> omega)); clear hSw; go_simp; try with_reducible rfl))
  case' rest41 => skip
  try simp only [List.getElem_toArray, List.getElem_cons_succ, List.getElem_cons_zero, Act.put, List.setIfInBounds_toArray, List.set_cons_zero, List.set_cons_succ]
  refine wpAnyH_take (i := 33) (v := ?v42) rfl (by kernel_rfl) (by kernel_rfl) (by kernel_rfl) (fun _ _ _ h => h) (Or.inl ⟨by rfl, ?y42⟩) (by assumption) ?rest42
  case y42 => (intro w hSw; have hT0 := Mem.bl_cell hSw a0d (by first | omega | exact World.block_lt_of_cell? _ _ a0d | (simp <;> omega)); have hT1 := Mem.bl_cell hSw a1d (by first | omega | exact World.block_lt_of_cell? _ _ a1d | (simp <;> omega)); have hT2 := Mem.bl_cell hSw a2d (by first | omega | exact World.block_lt_of_cell? _ _ a2d | (simp <;> omega)); clear hSw; go_simp; try with_reducible rfl)
  case' rest42 => skip
  try simp only [List.getElem_toArray, List.getElem_cons_succ, List.getElem_cons_zero, Act.put, List.setIfInBounds_toArray, List.set_cons_zero, List.set_cons_succ]
  refine wpAnyH_take (i := 34) (v := ?v43) rfl (by kernel_rfl) (by kernel_rfl) (by kernel_rfl) (fun _ _ _ h => h) (Or.inl ⟨by rfl, ?y43⟩) (by assumption) ?rest43
  case y43 => (intro w hSw; have hT0 := Mem.bl_cell hSw a0d (by first | omega | exact World.block_lt_of_cell? _ _ a0d | (simp <;> omega)); have hT1 := Mem.bl_cell hSw a1d (by first | omega | exact World.block_lt_of_cell? _ _ a1d | (simp <;> omega)); have hT2 := Mem.bl_cell hSw a2d (by first | omega | exact World.block_lt_of_cell? _ _ a2d | (simp <;> omega)); clear hSw; go_simp; try with_reducible rfl)
  case' rest43 => skip
  try simp only [List.getElem_toArray, List.getElem_cons_succ, List.getElem_cons_zero, Act.put, List.setIfInBounds_toArray, List.set_cons_zero, List.set_cons_succ]
  refine wpAnyH_ready (rs := [35, 37]) (by kernel_rfl) (by simp) ?_
  refine AllReadyH.cons rfl (fun K hK => ?_) ?_
  · skip
    go_simp
    skip
    try go_wp2_with fail
    refine hK.out _ _ ?_ (fun hHeld2 => ?_)
    · exact Mem.bl_step hHeld ((Go.RowKit.Below.refl _ _).alloc (Nat.le_refl _) _) (by first | exact Nat.le_refl _ | omega | (simp <;> omega))
    clear hK K hHeld
    have hHeld := hHeld2
    clear hHeld2
    try simp only [List.getElem_toArray, List.getElem_cons_succ, List.getElem_cons_zero, Act.put, List.setIfInBounds_toArray, List.set_cons_zero, List.set_cons_succ]
    first
      | refine wpAnyH_take (i := 36) (v := undef) rfl (by kernel_rfl) (by kernel_rfl) (by kernel_rfl) (fun _ _ _ h => h) (Or.inr ⟨by rfl, rfl⟩) (by assumption) ?rest44
      | (refine wpAnyH_take (i := 36) (v := ?v44) rfl (by kernel_rfl) (by kernel_rfl) (by kernel_rfl) (fun _ _ _ h => h) (Or.inl ⟨by rfl, ?y44⟩) (by assumption) ?rest44; case y44 => (intro w hSw; have hT0 := Mem.bl_cell hSw a0d (by first | omega | exact World.block_lt_of_cell? _ _ a0d | (simp <;> omega)); have hT1 := Mem.bl_cell hSw a1d (by first | omega | exact World.block_lt_of_cell? _ _ a1d | (simp <;> omega)); have hT2 := Mem.bl_cell hSw a2d (by first | omega | exact World.block_lt_of_cell? _ _ a2d | (simp <;> omega)); clear hSw; go_simp; try with_reducible rfl))
    case' rest44 => skip
    try simp only [List.getElem_toArray, List.getElem_cons_succ, List.getElem_cons_zero, Act.put, List.setIfInBounds_toArray, List.set_cons_zero, List.set_cons_succ]
    refine wpAnyH_ready (rs := [37]) (by kernel_rfl) (by simp) ?_
    refine AllReadyH.cons rfl (fun K hK => ?_) AllReadyH.nil
    go_simp
    skip
    try go_wp2_with fail
    refine hK.out _ _ ?_ (fun hHeld2 => ?_)
    · exact Mem.bl_step hHeld ((Go.RowKit.Below.refl _ _).alloc (Nat.le_refl _) _) (by first | exact Nat.le_refl _ | omega | (simp <;> omega))
    clear hK K hHeld
    have hHeld := hHeld2
    clear hHeld2
    try simp only [List.getElem_toArray, List.getElem_cons_succ, List.getElem_cons_zero, Act.put, List.setIfInBounds_toArray, List.set_cons_zero, List.set_cons_succ]
    first
      | refine wpAnyH_take (i := 38) (v := undef) rfl (by kernel_rfl) (by kernel_rfl) (by kernel_rfl) (fun _ _ _ h => h) (Or.inr ⟨by rfl, rfl⟩) (by assumption) ?rest45
      | (refine wpAnyH_take (i := 38) (v := ?v45) rfl (by kernel_rfl) (by kernel_rfl) (by kernel_rfl) (fun _ _ _ h => h) (Or.inl ⟨by rfl, ?y45⟩) (by assumption) ?rest45; case y45 => (intro w hSw; have hT0 := Mem.bl_cell hSw a0d (by first | omega | exact World.block_lt_of_cell? _ _ a0d | (simp <;> omega)); have hT1 := Mem.bl_cell hSw a1d (by first | omega | exact World.block_lt_of_cell? _ _ a1d | (simp <;> omega)); have hT2 := Mem.bl_cell hSw a2d (by first | omega | exact World.block_lt_of_cell? _ _ a2d | (simp <;> omega)); clear hSw; go_simp; try with_reducible rfl))
    case' rest45 => skip
    try simp only [List.getElem_toArray, List.getElem_cons_succ, List.getElem_cons_zero, Act.put, List.setIfInBounds_toArray, List.set_cons_zero, List.set_cons_succ]
    refine wpAnyH_ready (rs := [39]) (by kernel_rfl) (by simp) ?_
    refine AllReadyH.cons rfl (fun K hK => ?_) AllReadyH.nil
    go_simp
    (refine (meet_any _ _ _ _ _ _ _ _ _ (by decide) (by decide)).mono ?_; rw [bw_meet]; rintro e w6 ⟨rfl, hbl⟩)
    try go_wp2_with fail
    have hSnew := Mem.bl_step hHeld hbl (by first | exact Nat.le_refl _ | omega | (simp <;> omega))
    refine hK.out _ _ ?_ (fun hHeld2 => ?_)
    · exact hSnew
    clear hbl
    clear hK K hHeld hSnew
    have hHeld := hHeld2
    clear hHeld2
    try simp only [List.getElem_toArray, List.getElem_cons_succ, List.getElem_cons_zero, Act.put, List.setIfInBounds_toArray, List.set_cons_zero, List.set_cons_succ]
    first
      | refine wpAnyH_take (i := 40) (v := undef) rfl (by kernel_rfl) (by kernel_rfl) (by kernel_rfl) (fun _ _ _ h => h) (Or.inr ⟨by rfl, rfl⟩) (by assumption) ?rest46
      | (refine wpAnyH_take (i := 40) (v := ?v46) rfl (by kernel_rfl) (by kernel_rfl) (by kernel_rfl) (fun _ _ _ h => h) (Or.inl ⟨by rfl, ?y46⟩) (by assumption) ?rest46; case y46 => (intro w hSw; have hT0 := Mem.bl_cell hSw a0d (by first | omega | exact World.block_lt_of_cell? _ _ a0d | (simp <;> omega)); have hT1 := Mem.bl_cell hSw a1d (by first | omega | exact World.block_lt_of_cell? _ _ a1d | (simp <;> omega)); have hT2 := Mem.bl_cell hSw a2d (by first | omega | exact World.block_lt_of_cell? _ _ a2d | (simp <;> omega)); clear hSw; go_simp; try with_reducible rfl))
    case' rest46 => skip
    try simp only [List.getElem_toArray, List.getElem_cons_succ, List.getElem_cons_zero, Act.put, List.setIfInBounds_toArray, List.set_cons_zero, List.set_cons_succ]
    refine wpAnyH_take (i := 41) (v := ?v47) rfl (by kernel_rfl) (by kernel_rfl) (by kernel_rfl) (fun _ _ _ h => h) (Or.inl ⟨by rfl, ?y47⟩) (by assumption) ?rest47
    case y47 => (intro w hSw; have hT0 := Mem.bl_cell hSw a0d (by first | omega | exact World.block_lt_of_cell? _ _ a0d | (simp <;> omega)); have hT1 := Mem.bl_cell hSw a1d (by first | omega | exact World.block_lt_of_cell? _ _ a1d | (simp <;> omega)); have hT2 := Mem.bl_cell hSw a2d (by first | omega | exact World.block_lt_of_cell? _ _ a2d | (simp <;> omega)); clear hSw; go_simp; try with_reducible rfl)
    case' rest47 => skip
    try simp only [List.getElem_toArray, List.getElem_cons_succ, List.getElem_cons_zero, Act.put, List.setIfInBounds_toArray, List.set_cons_zero, List.set_cons_succ]
    refine wpAnyH_take (i := 42) (v := ?v48) rfl (by kernel_rfl) (by kernel_rfl) (by kernel_rfl) (fun _ _ _ h => h) (Or.inl ⟨by rfl, ?y48⟩) (by assumption) ?rest48
    case y48 => (intro w hSw; have hT0 := Mem.bl_cell hSw a0d (by first | omega | exact World.block_lt_of_cell? _ _ a0d | (simp <;> omega)); have hT1 := Mem.bl_cell hSw a1d (by first | omega | exact World.block_lt_of_cell? _ _ a1d | (simp <;> omega)); have hT2 := Mem.bl_cell hSw a2d (by first | omega | exact World.block_lt_of_cell? _ _ a2d | (simp <;> omega)); clear hSw; go_simp; try with_reducible rfl)
    case' rest48 => skip
    try simp only [List.getElem_toArray, List.getElem_cons_succ, List.getElem_cons_zero, Act.put, List.setIfInBounds_toArray, List.set_cons_zero, List.set_cons_succ]
    refine wpAnyH_done (by kernel_rfl) ?_ _
    go_wp2
    go_ret
    exact ⟨rfl, b4.trans ((Below.trans (Below.refl _ _).drew hHeld).mono b4.size)⟩
  refine AllReadyH.cons rfl (fun K hK => ?_) ?_
  · skip
    go_simp
    skip
    try go_wp2_with fail
    refine hK.out _ _ ?_ (fun hHeld2 => ?_)
    · exact Mem.bl_step hHeld ((Go.RowKit.Below.refl _ _).alloc (Nat.le_refl _) _) (by first | exact Nat.le_refl _ | omega | (simp <;> omega))
    clear hK K hHeld
    have hHeld := hHeld2
    clear hHeld2
    try simp only [List.getElem_toArray, List.getElem_cons_succ, List.getElem_cons_zero, Act.put, List.setIfInBounds_toArray, List.set_cons_zero, List.set_cons_succ]
    first
      | refine wpAnyH_take (i := 38) (v := undef) rfl (by kernel_rfl) (by kernel_rfl) (by kernel_rfl) (fun _ _ _ h => h) (Or.inr ⟨by rfl, rfl⟩) (by assumption) ?rest49
      | (refine wpAnyH_take (i := 38) (v := ?v49) rfl (by kernel_rfl) (by kernel_rfl) (by kernel_rfl) (fun _ _ _ h => h) (Or.inl ⟨by rfl, ?y49⟩) (by assumption) ?rest49; case y49 => (intro w hSw; have hT0 := Mem.bl_cell hSw a0d (by first | omega | exact World.block_lt_of_cell? _ _ a0d | (simp <;> omega)); have hT1 := Mem.bl_cell hSw a1d (by first | omega | exact World.block_lt_of_cell? _ _ a1d | (simp <;> omega)); have hT2 := Mem.bl_cell hSw a2d (by first | omega | exact World.block_lt_of_cell? _ _ a2d | (simp <;> omega)); clear hSw; go_simp; try with_reducible rfl))
    case' rest49 => skip
    try simp only [List.getElem_toArray, List.getElem_cons_succ, List.getElem_cons_zero, Act.put, List.setIfInBounds_toArray, List.set_cons_zero, List.set_cons_succ]
    refine wpAnyH_ready (rs := [35]) (by kernel_rfl) (by simp) ?_
    refine AllReadyH.cons rfl (fun K hK => ?_) AllReadyH.nil
    go_simp
    skip
    try go_wp2_with fail
    refine hK.out _ _ ?_ (fun hHeld2 => ?_)
    · exact Mem.bl_step hHeld ((Go.RowKit.Below.refl _ _).alloc (Nat.le_refl _) _) (by first | exact Nat.le_refl _ | omega | (simp <;> omega))
    clear hK K hHeld
    have hHeld := hHeld2
    clear hHeld2
    try simp only [List.getElem_toArray, List.getElem_cons_succ, List.getElem_cons_zero, Act.put, List.setIfInBounds_toArray, List.set_cons_zero, List.set_cons_succ]
    first
      | refine wpAnyH_take (i := 36) (v := undef) rfl (by kernel_rfl) (by kernel_rfl) (by kernel_rfl) (fun _ _ _ h => h) (Or.inr ⟨by rfl, rfl⟩) (by assumption) ?rest50
      | (refine wpAnyH_take (i := 36) (v := ?v50) rfl (by kernel_rfl) (by kernel_rfl) (by kernel_rfl) (fun _ _ _ h => h) (Or.inl ⟨by rfl, ?y50⟩) (by assumption) ?rest50; case y50 => (intro w hSw; have hT0 := Mem.bl_cell hSw a0d (by first | omega | exact World.block_lt_of_cell? _ _ a0d | (simp <;> omega)); have hT1 := Mem.bl_cell hSw a1d (by first | omega | exact World.block_lt_of_cell? _ _ a1d | (simp <;> omega)); have hT2 := Mem.bl_cell hSw a2d (by first | omega | exact World.block_lt_of_cell? _ _ a2d | (simp <;> omega)); clear hSw; go_simp; try with_reducible rfl))
    case' rest50 => skip
    try simp only [List.getElem_toArray, List.getElem_cons_succ, List.getElem_cons_zero, Act.put, List.setIfInBounds_toArray, List.set_cons_zero, List.set_cons_succ]
    refine wpAnyH_ready (rs := [39]) (by kernel_rfl) (by simp) ?_
    refine AllReadyH.cons rfl (fun K hK => ?_) AllReadyH.nil
    go_simp
    (refine (meet_any _ _ _ _ _ _ _ _ _ (by decide) (by decide)).mono ?_; rw [bw_meet]; rintro e w6 ⟨rfl, hbl⟩)
    try go_wp2_with fail
    have hSnew := Mem.bl_step hHeld hbl (by first | exact Nat.le_refl _ | omega | (simp <;> omega))
    refine hK.out _ _ ?_ (fun hHeld2 => ?_)
    · exact hSnew
    clear hbl
    clear hK K hHeld hSnew
    have hHeld := hHeld2
    clear hHeld2
    try simp only [List.getElem_toArray, List.getElem_cons_succ, List.getElem_cons_zero, Act.put, List.setIfInBounds_toArray, List.set_cons_zero, List.set_cons_succ]
    first
      | refine wpAnyH_take (i := 40) (v := undef) rfl (by kernel_rfl) (by kernel_rfl) (by kernel_rfl) (fun _ _ _ h => h) (Or.inr ⟨by rfl, rfl⟩) (by assumption) ?rest51
      | (refine wpAnyH_take (i := 40) (v := ?v51) rfl (by kernel_rfl) (by kernel_rfl) (by kernel_rfl) (fun _ _ _ h => h) (Or.inl ⟨by rfl, ?y51⟩) (by assumption) ?rest51; case y51 => (intro w hSw; have hT0 := Mem.bl_cell hSw a0d (by first | omega | exact World.block_lt_of_cell? _ _ a0d | (simp <;> omega)); have hT1 := Mem.bl_cell hSw a1d (by first | omega | exact World.block_lt_of_cell? _ _ a1d | (simp <;> omega)); have hT2 := Mem.bl_cell hSw a2d (by first | omega | exact World.block_lt_of_cell? _ _ a2d | (simp <;> omega)); clear hSw; go_simp; try with_reducible rfl))
    case' rest51 => skip
    try simp only [List.getElem_toArray, List.getElem_cons_succ, List.getElem_cons_zero, Act.put, List.setIfInBounds_toArray, List.set_cons_zero, List.set_cons_succ]
    refine wpAnyH_take (i := 41) (v := ?v52) rfl (by kernel_rfl) (by kernel_rfl) (by kernel_rfl) (fun _ _ _ h => h) (Or.inl ⟨by rfl, ?y52⟩) (by assumption) ?rest52
    case y52 => (intro w hSw; have hT0 := Mem.bl_cell hSw a0d (by first | omega | exact World.block_lt_of_cell? _ _ a0d | (simp <;> omega)); have hT1 := Mem.bl_cell hSw a1d (by first | omega | exact World.block_lt_of_cell? _ _ a1d | (simp <;> omega)); have hT2 := Mem.bl_cell hSw a2d (by first | omega | exact World.block_lt_of_cell? _ _ a2d | (simp <;> omega)); clear hSw; go_simp; try with_reducible rfl)
    case' rest52 => skip
    try simp only [List.getElem_toArray, List.getElem_cons_succ, List.getElem_cons_zero, Act.put, List.setIfInBounds_toArray, List.set_cons_zero, List.set_cons_succ]
    refine wpAnyH_take (i := 42) (v := ?v53) rfl (by kernel_rfl) (by kernel_rfl) (by kernel_rfl) (fun _ _ _ h => h) (Or.inl ⟨by rfl, ?y53⟩) (by assumption) ?rest53
    case y53 => (intro w hSw; have hT0 := Mem.bl_cell hSw a0d (by first | omega | exact World.block_lt_of_cell? _ _ a0d | (simp <;> omega)); have hT1 := Mem.bl_cell hSw a1d (by first | omega | exact World.block_lt_of_cell? _ _ a1d | (simp <;> omega)); have hT2 := Mem.bl_cell hSw a2d (by first | omega | exact World.block_lt_of_cell? _ _ a2d | (simp <;> omega)); clear hSw; go_simp; try with_reducible rfl)
    case' rest53 => skip
    try simp only [List.getElem_toArray, List.getElem_cons_succ, List.getElem_cons_zero, Act.put, List.setIfInBounds_toArray, List.set_cons_zero, List.set_cons_succ]
    refine wpAnyH_done (by kernel_rfl) ?_ _
    go_wp2
    go_ret
    exact ⟨rfl, b4.trans ((Below.trans (Below.refl _ _).drew hHeld).mono b4.size)⟩
  exact AllReadyH.nil
theorem works_any (w : World) :
    Calls Try.prog 18 #[] w fun e w' => e = .returned (.bool true) ∧ Below w.heap.size w w' :=
  works_core bw _ _ w rfl bw_length bw_byte rfl bw_diff rfl bw_lay
end Go.Proofs.Ytoibdomcekainaa.Pat
