/- The contract of pick.Spread, and the statement PickRanks. -/
import Derived.Test.YthgncnpemnlodaaPu
namespace Go.Proofs.Ythgncnpemnlodaa.Fl
open Go.RowKit Go.Proofs.Ythgncnpemnlodaa.Open Go.Proofs.Ythgncnpemnlodaa.Mem Go.Proofs.Ythgncnpemnlodaa.Same
set_option linter.unusedVariables false
set_option linter.unusedSimpArgs false
set_option maxHeartbeats 1000000 in
set_option maxRecDepth 100000 in
theorem spread_any (N : Int) (A : Option Addr) (n c : Nat) (l : List Nat) (w : World) (hN : (Lit.int .i64 N).wf = true) (hx : Sl w F A n l) (hs : ∀ x ∈ l, x < 18446744073709551616) (hn9 : n ≤ 1000) :
    Calls Try.prog 34 #[.int .i64 N, .slice A n c] w fun e w' => ∃ v, e = .returned v ∧ Own w' w.heap.size 3 (Value.int .i64) v (l.map (at_ N)) ∧ Below w.heap.size w w' := by
  have hn := hx.1
  have hmf : ∀ (fn : Fn) (first cap : Array Value) (w : World), (Instr.makeFunc fn first cap).run Try.prog w = .ok (.func fn first cap) w := fun _ _ _ _ => rfl
  have r0 : Row ((w.alloc (.cells #[.int .i64 N] 3)).alloc (.cells #[.slice A n c] 22)) w.heap.size 3 #[.int .i64 N] := (Row.new _ _ _).alloc _
  have r2 : Row ((w.alloc (.cells #[.int .i64 N] 3)).alloc (.cells #[.slice A n c] 22)) (w.heap.size + 1) 22 #[.slice A n c] := by
    have := Row.new (w.alloc (.cells #[.int .i64 N] 3)) 22 #[.slice A n c]
    simpa using this
  have hb : Below w.heap.size w ((w.alloc (.cells #[.int .i64 N] 3)).alloc (.cells #[.slice A n c] 22)) := ((Below.refl _ _).alloc (Nat.le_refl _) _).alloc (by simp) _
  have hsz : ((w.alloc (.cells #[.int .i64 N] 3)).alloc (.cells #[.slice A n c] 22)).heap.size = w.heap.size + 2 := by simp
  go_enter Try.func34, Try.ntmps34
  go_wp2_with (at_make; refine wpList_make rfl 45 _ _ rfl _ 3 (Value.int .i64) 0 8 Try.underlying45 intInfo rfl n (by first | rfl | simp) (by first | rfl | simp) (by omega) (by omega) (Nat.le_refl _) ?_; intro w3 hown hb3 hsz3)
  rw [hsz] at hown hb3 hsz3
  have b1 : Below w.heap.size w w3 := hb.trans (hb3.mono (by omega))
  have q0 : Row (w3.alloc (.cells #[.slice (some ⟨w.heap.size + 2, 0, none⟩) n n] 45)) w.heap.size 3 #[.int .i64 N] := (r0.below (hsz ▸ hb3)).alloc _
  have q2 : Row (w3.alloc (.cells #[.slice (some ⟨w.heap.size + 2, 0, none⟩) n n] 45)) (w.heap.size + 1) 22 #[.slice A n c] := (r2.below (hsz ▸ hb3)).alloc _
  have q1 := Row.new w3 45 #[.slice (some ⟨w.heap.size + 2, 0, none⟩) n n]
  have hown2 := hown.alloc (.cells #[.slice (some ⟨w.heap.size + 2, 0, none⟩) n n] 45)
  rw [← spr_zero N l n] at hown2
  have b2 : Below w.heap.size w (w3.alloc (.cells #[.slice (some ⟨w.heap.size + 2, 0, none⟩) n n] 45)) := b1.alloc (by omega) _
  refine (each_any N A n c l w.heap.size (w.heap.size + 1) w3.heap.size (w.heap.size + 2) w _ hN hx hs hn9 b2 (by omega) (by omega) (by omega) (by omega) q0 q2 q1 hown2).mono ?_
  rintro e w6 ⟨rfl, hor, hgr⟩
  rw [spr_all N l n hn] at hor
  have q3 := (gb_row hgr q1 (fun e => by injection e; omega)).cell 0 rfl
  have b3 : Below w.heap.size w w6 := below_gb b2 hgr (by simp; omega) (fun k e => by injection e; omega)
  obtain ⟨go, hgo⟩ : ∃ go, w3.heap.size = go := ⟨_, rfl⟩
  rw [hgo] at q3 ⊢
  clear hown hown2 q0 q1 q2 b1 b2 hgr r0 r2 hb hsz hb3 hsz3 hgo
  go_wp2
  go_ret
  exact ⟨_, rfl, hor.mono (by omega), b3⟩
theorem at6_bel (n : Int) (x : Nat) (hx : x < 18446744073709551616) (hn : (Lit.int .i64 n).wf = true) (w : World) :
    Calls Try.prog 29 #[.int .i64 n, F x] w fun e w' => e = .returned (.int .i64 (at_ n x)) ∧ Below w.heap.size w w' := by
  refine (at6_any n x hx hn w).mono ?_
  rintro e w' ⟨rfl, q, rfl⟩
  exact ⟨rfl, below_drewN (Below.refl _ _) q⟩
set_option maxHeartbeats 1000000 in
set_option maxRecDepth 100000 in
theorem ranks_walk (N : Int) (A : Option Addr) (n c : Nat) (l : List Nat) (w : World) (hN : (Lit.int .i64 N).wf = true) (hx : Sl w F A n l) (hs : ∀ x ∈ l, x < 18446744073709551616) :
    Calls Try.prog 13 #[.int .i64 N, .slice A n c] w fun e w' => e = .returned (.bool true) ∧ Below w.heap.size w w' := by
  have hn := hx.1
  have hn63 := hx.2.1
  by_cases h60 : 60 < n
  · go_enter Try.func13, Try.ntmps13
    go_wp2_with fail
    refine (works6_any _).mono ?_
    rintro e w1 ⟨rfl, hb⟩
    go_wp2
    go_ret
    exact ⟨rfl, hb⟩
  go_enter Try.func13, Try.ntmps13
  go_wp2_with fail
  refine (spread_any N A n c l w hN hx hs (by omega)).mono ?_
  rintro e w1 ⟨v, rfl, hown, hb1⟩
  obtain ⟨A1, c1, rfl⟩ := hown.slice
  have hml : (l.map (at_ N)).length = n := by rw [List.length_map]; exact hn
  rw [hml] at hown ⊢
  have hx1 := hx.below hb1
  clear hml
  go_wp2
  go_loopw [6] (fun a wr => ∃ i : Nat, i ≤ n ∧ a = .int .i64 i ∧ Below w1.heap.size w1 wr) (fun a _ => n - (intOf a).toNat)
  case atStart => exact ⟨0, by omega, rfl, Below.refl _ _⟩
  case round =>
    obtain ⟨i, hi, rfl, hbr⟩ := hrel
    by_cases hlt : i < n
    · have hix : i < l.length := by omega
      have hsz := hbr.size
      obtain ⟨g1, c2, e1⟩ := hown.slice_pos (by rw [List.length_map]; omega)
      injection e1 with e1 e2 e3
      subst e1 e3
      clear e2
      have d1 : wr.drew.cell? ⟨g1, i, none⟩ = some (.int .i64 (at_ N l[i])) := by
        have := (hown.below hbr).cell i (by rw [List.length_map]; exact hix)
        rw [List.getElem_map] at this
        exact this
      obtain ⟨ad, rfl, hadb, d2⟩ := (hx1.below hbr).drew.at_ hix
      have C := Lib.hid (at6_bel N l[i] (hs _ (List.getElem_mem _)) hN)
      generalize at_ N l[i] = r at *
      generalize l[i] = x at *
      go_wp2_with fail
      refine wp_region_held_drew (S := Go.RowKit.Below ((wr.drew).heap.size) (wr.drew)) (by kernel_rfl) ?hb7 (fun hHeld => ?rest7)
      case hb7 =>
        exact Go.RowKit.Below.refl _ _
      case' rest7 => skip
      refine wpAnyH_take (i := 0) (v := ?v8) rfl (by kernel_rfl) (by kernel_rfl) (by kernel_rfl) (fun _ _ _ h => h) (Or.inl ⟨by rfl, ?y8⟩) (by assumption) ?rest8
      case y8 => (intro w hSw; have hT0 := Mem.bl_cell hSw d1 (by first | omega | exact World.block_lt_of_cell? _ _ d1 | (simp <;> omega)); have hT1 := Mem.bl_cell hSw d2 (by first | omega | exact World.block_lt_of_cell? _ _ d2 | (simp <;> omega)); clear hSw; go_simp; try with_reducible rfl)
      case' rest8 => skip
      try simp only [List.getElem_toArray, List.getElem_cons_succ, List.getElem_cons_zero, Act.put, List.setIfInBounds_toArray, List.set_cons_zero, List.set_cons_succ]
      refine wpAnyH_take (i := 1) (v := ?v9) rfl (by kernel_rfl) (by kernel_rfl) (by kernel_rfl) (fun _ _ _ h => h) (Or.inl ⟨by rfl, ?y9⟩) (by assumption) ?rest9
      case y9 => (intro w hSw; have hT0 := Mem.bl_cell hSw d1 (by first | omega | exact World.block_lt_of_cell? _ _ d1 | (simp <;> omega)); have hT1 := Mem.bl_cell hSw d2 (by first | omega | exact World.block_lt_of_cell? _ _ d2 | (simp <;> omega)); clear hSw; go_simp; try with_reducible rfl)
      case' rest9 => skip
      try simp only [List.getElem_toArray, List.getElem_cons_succ, List.getElem_cons_zero, Act.put, List.setIfInBounds_toArray, List.set_cons_zero, List.set_cons_succ]
      refine wpAnyH_take (i := 2) (v := ?v10) rfl (by kernel_rfl) (by kernel_rfl) (by kernel_rfl) (fun _ _ _ h => h) (Or.inl ⟨by rfl, ?y10⟩) (by assumption) ?rest10
      case y10 => (intro w hSw; have hT0 := Mem.bl_cell hSw d1 (by first | omega | exact World.block_lt_of_cell? _ _ d1 | (simp <;> omega)); have hT1 := Mem.bl_cell hSw d2 (by first | omega | exact World.block_lt_of_cell? _ _ d2 | (simp <;> omega)); clear hSw; go_simp; try with_reducible rfl)
      case' rest10 => skip
      try simp only [List.getElem_toArray, List.getElem_cons_succ, List.getElem_cons_zero, Act.put, List.setIfInBounds_toArray, List.set_cons_zero, List.set_cons_succ]
      refine wpAnyH_take (i := 3) (v := ?v11) rfl (by kernel_rfl) (by kernel_rfl) (by kernel_rfl) (fun _ _ _ h => h) (Or.inl ⟨by rfl, ?y11⟩) (by assumption) ?rest11
      case y11 => (intro w hSw; have hT0 := Mem.bl_cell hSw d1 (by first | omega | exact World.block_lt_of_cell? _ _ d1 | (simp <;> omega)); have hT1 := Mem.bl_cell hSw d2 (by first | omega | exact World.block_lt_of_cell? _ _ d2 | (simp <;> omega)); clear hSw; go_simp; try with_reducible rfl)
      case' rest11 => skip
      try simp only [List.getElem_toArray, List.getElem_cons_succ, List.getElem_cons_zero, Act.put, List.setIfInBounds_toArray, List.set_cons_zero, List.set_cons_succ]
      refine wpAnyH_take (i := 4) (v := ?v12) rfl (by kernel_rfl) (by kernel_rfl) (by kernel_rfl) (fun _ _ _ h => h) (Or.inl ⟨by rfl, ?y12⟩) (by assumption) ?rest12
      case y12 => (intro w hSw; have hT0 := Mem.bl_cell hSw d1 (by first | omega | exact World.block_lt_of_cell? _ _ d1 | (simp <;> omega)); have hT1 := Mem.bl_cell hSw d2 (by first | omega | exact World.block_lt_of_cell? _ _ d2 | (simp <;> omega)); clear hSw; go_simp; try with_reducible rfl)
      case' rest12 => skip
      try simp only [List.getElem_toArray, List.getElem_cons_succ, List.getElem_cons_zero, Act.put, List.setIfInBounds_toArray, List.set_cons_zero, List.set_cons_succ]
      refine wpAnyH_take (i := 5) (v := ?v13) rfl (by kernel_rfl) (by kernel_rfl) (by kernel_rfl) (fun _ _ _ h => h) (Or.inl ⟨by rfl, ?y13⟩) (by assumption) ?rest13
      case y13 => (intro w hSw; have hT0 := Mem.bl_cell hSw d1 (by first | omega | exact World.block_lt_of_cell? _ _ d1 | (simp <;> omega)); have hT1 := Mem.bl_cell hSw d2 (by first | omega | exact World.block_lt_of_cell? _ _ d2 | (simp <;> omega)); clear hSw; go_simp; try with_reducible rfl)
      case' rest13 => skip
      try simp only [List.getElem_toArray, List.getElem_cons_succ, List.getElem_cons_zero, Act.put, List.setIfInBounds_toArray, List.set_cons_zero, List.set_cons_succ]
      refine wpAnyH_take (i := 6) (v := ?v14) rfl (by kernel_rfl) (by kernel_rfl) (by kernel_rfl) (fun _ _ _ h => h) (Or.inl ⟨by rfl, ?y14⟩) (by assumption) ?rest14
      case y14 => (intro w hSw; have hT0 := Mem.bl_cell hSw d1 (by first | omega | exact World.block_lt_of_cell? _ _ d1 | (simp <;> omega)); have hT1 := Mem.bl_cell hSw d2 (by first | omega | exact World.block_lt_of_cell? _ _ d2 | (simp <;> omega)); clear hSw; go_simp; try with_reducible rfl)
      case' rest14 => skip
      try simp only [List.getElem_toArray, List.getElem_cons_succ, List.getElem_cons_zero, Act.put, List.setIfInBounds_toArray, List.set_cons_zero, List.set_cons_succ]
      refine wpAnyH_take (i := 7) (v := ?v15) rfl (by kernel_rfl) (by kernel_rfl) (by kernel_rfl) (fun _ _ _ h => h) (Or.inl ⟨by rfl, ?y15⟩) (by assumption) ?rest15
      case y15 => (intro w hSw; have hT0 := Mem.bl_cell hSw d1 (by first | omega | exact World.block_lt_of_cell? _ _ d1 | (simp <;> omega)); have hT1 := Mem.bl_cell hSw d2 (by first | omega | exact World.block_lt_of_cell? _ _ d2 | (simp <;> omega)); clear hSw; go_simp; try with_reducible rfl)
      case' rest15 => skip
      try simp only [List.getElem_toArray, List.getElem_cons_succ, List.getElem_cons_zero, Act.put, List.setIfInBounds_toArray, List.set_cons_zero, List.set_cons_succ]
      refine wpAnyH_take (i := 8) (v := ?v16) rfl (by kernel_rfl) (by kernel_rfl) (by kernel_rfl) (fun _ _ _ h => h) (Or.inl ⟨by rfl, ?y16⟩) (by assumption) ?rest16
      case y16 => (intro w hSw; have hT0 := Mem.bl_cell hSw d1 (by first | omega | exact World.block_lt_of_cell? _ _ d1 | (simp <;> omega)); have hT1 := Mem.bl_cell hSw d2 (by first | omega | exact World.block_lt_of_cell? _ _ d2 | (simp <;> omega)); clear hSw; go_simp; try with_reducible rfl)
      case' rest16 => skip
      try simp only [List.getElem_toArray, List.getElem_cons_succ, List.getElem_cons_zero, Act.put, List.setIfInBounds_toArray, List.set_cons_zero, List.set_cons_succ]
      refine wpAnyH_ready (rs := [9]) (by kernel_rfl) (by simp) ?_
      refine AllReadyH.cons rfl (fun K hK => ?_) AllReadyH.nil
      go_simp
      (refine (C.out _).mono ?_; rintro e w4 ⟨rfl, hbl⟩)
      try go_wp2_with fail
      have hSnew := Mem.bl_step hHeld hbl (by first | exact Nat.le_refl _ | omega | (simp <;> omega))
      refine hK.out _ _ ?_ (fun hHeld2 => ?_)
      · exact hSnew
      clear hbl
      clear hK K hHeld hSnew
      have hHeld := hHeld2
      clear hHeld2
      try simp only [List.getElem_toArray, List.getElem_cons_succ, List.getElem_cons_zero, Act.put, List.setIfInBounds_toArray, List.set_cons_zero, List.set_cons_succ]
      refine wpAnyH_take (i := 10) (v := ?v17) rfl (by kernel_rfl) (by kernel_rfl) (by kernel_rfl) (fun _ _ _ h => h) (Or.inl ⟨by rfl, ?y17⟩) (by assumption) ?rest17
      case y17 => (intro w hSw; have hT0 := Mem.bl_cell hSw d1 (by first | omega | exact World.block_lt_of_cell? _ _ d1 | (simp <;> omega)); have hT1 := Mem.bl_cell hSw d2 (by first | omega | exact World.block_lt_of_cell? _ _ d2 | (simp <;> omega)); clear hSw; go_simp; try with_reducible rfl)
      case' rest17 => skip
      try simp only [List.getElem_toArray, List.getElem_cons_succ, List.getElem_cons_zero, Act.put, List.setIfInBounds_toArray, List.set_cons_zero, List.set_cons_succ]
      refine wpAnyH_done (by kernel_rfl) ?_ _
      go_wp2
      go_roundw
      case rel => exact ⟨i + 1, by omega, by go_num, hbr.trans (((Below.refl _ _).drew.trans hHeld).mono hsz)⟩
      case measure => simp [intOf]; omega
    · obtain rfl : i = n := by omega
      have hxr := hx1.below hbr
      have hbw : Below w.heap.size w wr := hb1.trans (hbr.mono hb1.size)
      clear hown hbr hx1 hb1
      go_wp2_with fail
      refine (rank_any A i c l wr hxr hs (by omega)).mono ?_
      rintro e w2 ⟨v2, rfl, ho2, hb2⟩
      go_wp2_with fail
      refine (rank6_any A i c l w2 (hxr.below hb2) hs (by omega)).mono ?_
      rintro e w3 ⟨v3, rfl, ho3, hb3⟩
      have ho4 := ho2.below hb3
      have hrl := rk_len l i
      obtain ⟨A4, c4, rfl⟩ := ho4.slice
      obtain ⟨A5, c5, rfl⟩ := ho3.slice
      rw [hrl] at ho3 ho4 ⊢
      have C := Lib.hid (ints_any A4 A5 i i c4 c5 (rk l i) (rk l i) w3 ho4.sl.2 ho3.sl.2)
      rw [decide_eq_true rfl] at C
      have hb3' : Below w.heap.size w w3 := (hbw.trans (hb2.mono hbw.size)).trans (hb3.mono (Nat.le_trans hbw.size hb2.size))
      clear ho2 ho3 ho4 hrl
      go_wp2_with fail
      refine C.out.mono ?_
      rintro e w5 ⟨rfl, q5, rfl⟩
      go_wp2_with fail
      refine (works6_any _).mono ?_
      rintro e w6 ⟨rfl, hb6⟩
      go_wp2
      go_ret
      exact ⟨rfl, (below_drewN hb3' _).trans (hb6.mono (below_drewN hb3' q5).size)⟩
end Go.Proofs.Ythgncnpemnlodaa.Fl
