/- Lists of patches: OfAll, SameAll. -/
import Derived.Test.YtoibdomcekainaaPatZ
namespace Go.Proofs.Ytoibdomcekainaa.Pat
open Go.RowKit Go.Proofs.Ytoibdomcekainaa.Mem Go.Proofs.Ytoibdomcekainaa.Open Go.Proofs.Ytoibdomcekainaa.Kind Go.Proofs.Ytoibdomcekainaa.Blk Go.Proofs.Ytoibdomcekainaa.App
set_option linter.unusedVariables false
set_option linter.unusedSimpArgs false
theorem rpatInfo : (Try.prog.info? 34).map (fun i => (i.zero, i.size, i.bytes)) = some (some (.agg #[.int .i64 0, .slice none 0 0]), 2, 32) := by kernel_rfl
set_option maxHeartbeats 1000000 in
set_option maxRecDepth 100000 in
theorem ofall_any (A : Option Addr) (c : Nat) (xs : List Pt) (w : World) (hx : Ps w A xs) (hn : xs.length ≤ 1000) :
    Calls Try.prog 15 #[.slice A xs.length c] w fun e w' => ∃ v, e = .returned v ∧ OwnK kPat w' w.heap.size 34 v xs ∧ Below w.heap.size w w' := by
  go_enter Try.func15, Try.ntmps15
  go_wp2
  go_loopw [3, 4] (fun v i wr => ∃ (u : Value) (k : Nat), u = v ∧ k ≤ xs.length ∧ i = .int .i64 k ∧ Below w.heap.size w wr ∧ OwnK kPat wr w.heap.size 34 u (xs.take k)) (fun _ i _ => xs.length - (intOf i).toNat)
  case atStart => exact ⟨_, 0, rfl, by omega, rfl, by first | exact Below.refl _ _ | exact bdrewN (Below.refl _ _) _, by first | exact OwnK.nil _ _ _ _ | exact (OwnK.nil _ _ _ _).drewN _⟩
  case round =>
    obtain ⟨u, k, rfl, hk, rfl, hbel, hown⟩ := hrel
    by_cases hlt : k < xs.length
    · obtain ⟨g, o, rfl⟩ := pat_form hx (by omega)
      obtain ⟨A', c', q0, q1, q2, q3, q4, q5, q6, q7⟩ := pat_at hx k hlt
      have d0 := (hbel.cell (p := ⟨g, o + k * 2, none⟩) q0).trans q1
      have d1 := (hbel.cell (p := ⟨g, o + k * 2 + 1, none⟩) q0).trans q2
      have HT : Hid (xs.take (k + 1) = xs.take k ++ [xs[k]]) := by show _ = _; rw [List.take_add_one, List.getElem?_eq_getElem hlt]; rfl
      have hlk : (xs.take k).length = k := by rw [List.length_take]; omega
      have hwx : w.heap.size ≤ wr.heap.size := hbel.size
      generalize xs[k] = p at *
      obtain ⟨a, d⟩ := p
      go_wp2_with fail
      refine (of_any a A' d.length c' _).mono ?_
      rintro e wB ⟨rfl, hbl⟩
      have hownB := hown.below hbl
      have hbelB := hbel.trans (hbl.mono hwx)
      have hwx2 : w.heap.size ≤ wB.heap.size := hbelB.size
      have hlt2 := hownB.lt
      have q7b : Rw kByte wB (All w) A' d.length d := q7.stay fun b hb => hbelB.block b hb
      have hK2 := kPat_mk (w := wB.alloc (.cells #[.int .i64 a, .slice A' d.length c'] 34)) q3 q4 q5 q6 (q7b.stay fun x hx => Below.heap_alloc _ _ _ (Nat.lt_of_lt_of_le hx hwx2))
      have hrow := Row.new wB 34 #[.int .i64 a, .slice A' d.length c']
      clear hown hbel hbl d0 d1
      go_wp2_with (at_builtin; refine wpList_appK rfl _ _ 24 rfl (.agg #[.int .i64 0, .slice none 0 0]) 32 Try.underlying24 rpatInfo rfl (by decide) rfl _ _ rfl (hownB.alloc _) 34 [.int .i64 a, .slice A' d.length c'] hrow (a, d) _ hK2 (fun x hx => ⟨fun e => by have := hlt2 x e.symm; have hx : x < w.heap.size := hx; omega, by have hx : x < w.heap.size := hx; simp; omega⟩) (by omega) (by omega) (by simp; omega) ?_; intro v4 w4 hown4 hg4 hat4)
      have hb4 := (hbelB.alloc hwx2 (.cells #[.int .i64 a, .slice A' d.length c'] 34)).grown hg4 (by simp; omega) (fun q hq => by have := hlt2 q hq; omega)
      rw [← HT.out] at hown4
      go_roundw
      case rel => exact ⟨v4, k + 1, rfl, by omega, by go_num, hb4, hown4⟩
      case measure => simp [intOf]; omega
    · have hke : k = xs.length := by omega
      subst hke
      rw [List.take_length] at hown
      go_wp2
      go_ret
      exact ⟨_, rfl, by first | exact hown | exact hown.drewN _, by first | exact hbel | exact bdrewN hbel _⟩
set_option maxHeartbeats 1000000 in
set_option maxRecDepth 100000 in
/-- Two lists of the same patches. -/
theorem sameall_yes (A A2 : Option Addr) (c c2 : Nat) (xs : List Pt) (w : World) (hx : Ps w A xs) (hy : Ps w A2 xs) (hn : xs.length ≤ 1000) :
    Calls Try.prog 14 #[.slice A xs.length c, .slice A2 xs.length c2] w fun e w' => e = .returned (.bool true) ∧ Below w.heap.size w w' := by
  go_enter Try.func14, Try.ntmps14
  go_wp2
  go_loopw [5] (fun i wr => ∃ k : Nat, k ≤ xs.length ∧ i = .int .i64 k ∧ Below w.heap.size w wr) (fun i _ => xs.length - (intOf i).toNat)
  case atStart => exact ⟨0, by omega, rfl, by first | exact Below.refl _ _ | exact bdrewN (Below.refl _ _) _⟩
  case round =>
    obtain ⟨k, hk, rfl, hbel⟩ := hrel
    by_cases hlt : k < xs.length
    · obtain ⟨g, o, rfl⟩ := pat_form hx (by omega)
      obtain ⟨g2, o2, rfl⟩ := pat_form hy (by omega)
      obtain ⟨A3, c3, p0, p1, p2, p3, p4, p5, p6, p7⟩ := pat_at hx k hlt
      obtain ⟨A4, c4, q0, q1, q2, q3, q4, q5, q6, q7⟩ := pat_at hy k hlt
      have d0 : wr.drew.cell? ⟨g, o + k * 2, none⟩ = _ := (hbel.cell (p := ⟨g, o + k * 2, none⟩) p0).trans p1
      have d1 : wr.drew.cell? ⟨g, o + k * 2 + 1, none⟩ = _ := (hbel.cell (p := ⟨g, o + k * 2 + 1, none⟩) p0).trans p2
      have f0 : wr.drew.cell? ⟨g2, o2 + k * 2, none⟩ = _ := (hbel.cell (p := ⟨g2, o2 + k * 2, none⟩) q0).trans q1
      have f1 : wr.drew.cell? ⟨g2, o2 + k * 2 + 1, none⟩ = _ := (hbel.cell (p := ⟨g2, o2 + k * 2 + 1, none⟩) q0).trans q2
      have hd1 := p7.below hbel
      have hd2 := q7.below hbel
      have hd1d := hd1.drew
      have hd2d := hd2.drew
      have l1 : g < wr.drew.heap.size := Nat.lt_of_lt_of_le p0 hbel.size
      have l2 : g2 < wr.drew.heap.size := Nat.lt_of_lt_of_le q0 hbel.size
      have hsz := hbel.size
      generalize xs[k] = p at *
      obtain ⟨a, d⟩ := p
      have CS := Lib.hid (fun w' h1 h2 => rsame_any a A3 c3 d a A4 c4 d w' h1 h2)
      rw [psame_refl] at CS
      go_wp2_with fail
      refine wp_region_held_drew (S := Go.RowKit.Below ((wr.drew).heap.size) (wr.drew)) (by kernel_rfl) ?hb7 (fun hHeld => ?rest7)
      case hb7 =>
        exact Go.RowKit.Below.refl _ _
      case' rest7 => skip
      refine wpAnyH_take (i := 0) (v := ?v8) rfl (by kernel_rfl) (by kernel_rfl) (by kernel_rfl) (fun _ _ _ h => h) (Or.inl ⟨by rfl, ?y8⟩) (by assumption) ?rest8
      case y8 => (intro w hSw; have hT0 := Mem.bl_cell hSw d0 (by first | omega | exact World.block_lt_of_cell? _ _ d0 | (simp <;> omega)); have hT1 := Mem.bl_cell hSw d1 (by first | omega | exact World.block_lt_of_cell? _ _ d1 | (simp <;> omega)); have hT2 := Mem.bl_cell hSw f0 (by first | omega | exact World.block_lt_of_cell? _ _ f0 | (simp <;> omega)); have hT3 := Mem.bl_cell hSw f1 (by first | omega | exact World.block_lt_of_cell? _ _ f1 | (simp <;> omega)); clear hSw; go_simp; try with_reducible rfl)
      case' rest8 => skip
      try simp only [List.getElem_toArray, List.getElem_cons_succ, List.getElem_cons_zero, Act.put, List.setIfInBounds_toArray, List.set_cons_zero, List.set_cons_succ]
      refine wpAnyH_take (i := 1) (v := ?v9) rfl (by kernel_rfl) (by kernel_rfl) (by kernel_rfl) (fun _ _ _ h => h) (Or.inl ⟨by rfl, ?y9⟩) (by assumption) ?rest9
      case y9 => (intro w hSw; have hT0 := Mem.bl_cell hSw d0 (by first | omega | exact World.block_lt_of_cell? _ _ d0 | (simp <;> omega)); have hT1 := Mem.bl_cell hSw d1 (by first | omega | exact World.block_lt_of_cell? _ _ d1 | (simp <;> omega)); have hT2 := Mem.bl_cell hSw f0 (by first | omega | exact World.block_lt_of_cell? _ _ f0 | (simp <;> omega)); have hT3 := Mem.bl_cell hSw f1 (by first | omega | exact World.block_lt_of_cell? _ _ f1 | (simp <;> omega)); clear hSw; go_simp; try with_reducible rfl)
      case' rest9 => skip
      try simp only [List.getElem_toArray, List.getElem_cons_succ, List.getElem_cons_zero, Act.put, List.setIfInBounds_toArray, List.set_cons_zero, List.set_cons_succ]
      refine wpAnyH_take (i := 2) (v := ?v10) rfl (by kernel_rfl) (by kernel_rfl) (by kernel_rfl) (fun _ _ _ h => h) (Or.inl ⟨by rfl, ?y10⟩) (by assumption) ?rest10
      case y10 => (intro w hSw; have hT0 := Mem.bl_cell hSw d0 (by first | omega | exact World.block_lt_of_cell? _ _ d0 | (simp <;> omega)); have hT1 := Mem.bl_cell hSw d1 (by first | omega | exact World.block_lt_of_cell? _ _ d1 | (simp <;> omega)); have hT2 := Mem.bl_cell hSw f0 (by first | omega | exact World.block_lt_of_cell? _ _ f0 | (simp <;> omega)); have hT3 := Mem.bl_cell hSw f1 (by first | omega | exact World.block_lt_of_cell? _ _ f1 | (simp <;> omega)); clear hSw; go_simp; try with_reducible rfl)
      case' rest10 => skip
      try simp only [List.getElem_toArray, List.getElem_cons_succ, List.getElem_cons_zero, Act.put, List.setIfInBounds_toArray, List.set_cons_zero, List.set_cons_succ]
      refine wpAnyH_take (i := 3) (v := ?v11) rfl (by kernel_rfl) (by kernel_rfl) (by kernel_rfl) (fun _ _ _ h => h) (Or.inl ⟨by rfl, ?y11⟩) (by assumption) ?rest11
      case y11 => (intro w hSw; have hT0 := Mem.bl_cell hSw d0 (by first | omega | exact World.block_lt_of_cell? _ _ d0 | (simp <;> omega)); have hT1 := Mem.bl_cell hSw d1 (by first | omega | exact World.block_lt_of_cell? _ _ d1 | (simp <;> omega)); have hT2 := Mem.bl_cell hSw f0 (by first | omega | exact World.block_lt_of_cell? _ _ f0 | (simp <;> omega)); have hT3 := Mem.bl_cell hSw f1 (by first | omega | exact World.block_lt_of_cell? _ _ f1 | (simp <;> omega)); clear hSw; go_simp; try with_reducible rfl)
      case' rest11 => skip
      try simp only [List.getElem_toArray, List.getElem_cons_succ, List.getElem_cons_zero, Act.put, List.setIfInBounds_toArray, List.set_cons_zero, List.set_cons_succ]
      refine wpAnyH_take (i := 4) (v := ?v12) rfl (by kernel_rfl) (by kernel_rfl) (by kernel_rfl) (fun _ _ _ h => h) (Or.inl ⟨by rfl, ?y12⟩) (by assumption) ?rest12
      case y12 => (intro w hSw; have hT0 := Mem.bl_cell hSw d0 (by first | omega | exact World.block_lt_of_cell? _ _ d0 | (simp <;> omega)); have hT1 := Mem.bl_cell hSw d1 (by first | omega | exact World.block_lt_of_cell? _ _ d1 | (simp <;> omega)); have hT2 := Mem.bl_cell hSw f0 (by first | omega | exact World.block_lt_of_cell? _ _ f0 | (simp <;> omega)); have hT3 := Mem.bl_cell hSw f1 (by first | omega | exact World.block_lt_of_cell? _ _ f1 | (simp <;> omega)); clear hSw; go_simp; try with_reducible rfl)
      case' rest12 => skip
      try simp only [List.getElem_toArray, List.getElem_cons_succ, List.getElem_cons_zero, Act.put, List.setIfInBounds_toArray, List.set_cons_zero, List.set_cons_succ]
      refine wpAnyH_take (i := 5) (v := ?v13) rfl (by kernel_rfl) (by kernel_rfl) (by kernel_rfl) (fun _ _ _ h => h) (Or.inl ⟨by rfl, ?y13⟩) (by assumption) ?rest13
      case y13 => (intro w hSw; have hT0 := Mem.bl_cell hSw d0 (by first | omega | exact World.block_lt_of_cell? _ _ d0 | (simp <;> omega)); have hT1 := Mem.bl_cell hSw d1 (by first | omega | exact World.block_lt_of_cell? _ _ d1 | (simp <;> omega)); have hT2 := Mem.bl_cell hSw f0 (by first | omega | exact World.block_lt_of_cell? _ _ f0 | (simp <;> omega)); have hT3 := Mem.bl_cell hSw f1 (by first | omega | exact World.block_lt_of_cell? _ _ f1 | (simp <;> omega)); clear hSw; go_simp; try with_reducible rfl)
      case' rest13 => skip
      try simp only [List.getElem_toArray, List.getElem_cons_succ, List.getElem_cons_zero, Act.put, List.setIfInBounds_toArray, List.set_cons_zero, List.set_cons_succ]
      refine wpAnyH_take (i := 6) (v := ?v14) rfl (by kernel_rfl) (by kernel_rfl) (by kernel_rfl) (fun _ _ _ h => h) (Or.inl ⟨by rfl, ?y14⟩) (by assumption) ?rest14
      case y14 => (intro w hSw; have hT0 := Mem.bl_cell hSw d0 (by first | omega | exact World.block_lt_of_cell? _ _ d0 | (simp <;> omega)); have hT1 := Mem.bl_cell hSw d1 (by first | omega | exact World.block_lt_of_cell? _ _ d1 | (simp <;> omega)); have hT2 := Mem.bl_cell hSw f0 (by first | omega | exact World.block_lt_of_cell? _ _ f0 | (simp <;> omega)); have hT3 := Mem.bl_cell hSw f1 (by first | omega | exact World.block_lt_of_cell? _ _ f1 | (simp <;> omega)); clear hSw; go_simp; try with_reducible rfl)
      case' rest14 => skip
      try simp only [List.getElem_toArray, List.getElem_cons_succ, List.getElem_cons_zero, Act.put, List.setIfInBounds_toArray, List.set_cons_zero, List.set_cons_succ]
      refine wpAnyH_take (i := 7) (v := ?v15) rfl (by kernel_rfl) (by kernel_rfl) (by kernel_rfl) (fun _ _ _ h => h) (Or.inl ⟨by rfl, ?y15⟩) (by assumption) ?rest15
      case y15 => (intro w hSw; have hT0 := Mem.bl_cell hSw d0 (by first | omega | exact World.block_lt_of_cell? _ _ d0 | (simp <;> omega)); have hT1 := Mem.bl_cell hSw d1 (by first | omega | exact World.block_lt_of_cell? _ _ d1 | (simp <;> omega)); have hT2 := Mem.bl_cell hSw f0 (by first | omega | exact World.block_lt_of_cell? _ _ f0 | (simp <;> omega)); have hT3 := Mem.bl_cell hSw f1 (by first | omega | exact World.block_lt_of_cell? _ _ f1 | (simp <;> omega)); clear hSw; go_simp; try with_reducible rfl)
      case' rest15 => skip
      try simp only [List.getElem_toArray, List.getElem_cons_succ, List.getElem_cons_zero, Act.put, List.setIfInBounds_toArray, List.set_cons_zero, List.set_cons_succ]
      refine wpAnyH_ready (rs := [8]) (by kernel_rfl) (by simp) ?_
      refine AllReadyH.cons rfl (fun K hK => ?_) AllReadyH.nil
      go_simp
      (refine (CS.out _ (hd1d.below hHeld) (hd2d.below hHeld)).mono ?_; rintro e w4 ⟨rfl, hbl⟩)
      try go_wp2_with fail
      have hSnew := Mem.bl_step hHeld hbl (by first | exact Nat.le_refl _ | omega | (simp <;> omega))
      refine hK.out _ _ ?_ (fun hHeld2 => ?_)
      · exact hSnew
      clear hbl
      clear hK K hHeld hSnew
      have hHeld := hHeld2
      clear hHeld2
      try simp only [List.getElem_toArray, List.getElem_cons_succ, List.getElem_cons_zero, Act.put, List.setIfInBounds_toArray, List.set_cons_zero, List.set_cons_succ]
      refine wpAnyH_take (i := 9) (v := ?v16) rfl (by kernel_rfl) (by kernel_rfl) (by kernel_rfl) (fun _ _ _ h => h) (Or.inl ⟨by rfl, ?y16⟩) (by assumption) ?rest16
      case y16 => (intro w hSw; have hT0 := Mem.bl_cell hSw d0 (by first | omega | exact World.block_lt_of_cell? _ _ d0 | (simp <;> omega)); have hT1 := Mem.bl_cell hSw d1 (by first | omega | exact World.block_lt_of_cell? _ _ d1 | (simp <;> omega)); have hT2 := Mem.bl_cell hSw f0 (by first | omega | exact World.block_lt_of_cell? _ _ f0 | (simp <;> omega)); have hT3 := Mem.bl_cell hSw f1 (by first | omega | exact World.block_lt_of_cell? _ _ f1 | (simp <;> omega)); clear hSw; go_simp; try with_reducible rfl)
      case' rest16 => skip
      try simp only [List.getElem_toArray, List.getElem_cons_succ, List.getElem_cons_zero, Act.put, List.setIfInBounds_toArray, List.set_cons_zero, List.set_cons_succ]
      refine wpAnyH_done (by kernel_rfl) ?_ _
      go_wp2
      go_roundw
      case rel => exact ⟨k + 1, by omega, by go_num, hbel.trans (((Below.refl _ _).drew.trans hHeld).mono hsz)⟩
      case measure => simp [intOf]; omega
    · have hke : k = xs.length := by omega
      subst hke
      go_wp2
      go_ret
      exact ⟨rfl, by first | exact hbel | exact bdrewN hbel _⟩
end Go.Proofs.Ytoibdomcekainaa.Pat
