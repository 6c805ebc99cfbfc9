/- The statement PatchSwaps. -/
import Derived.Test.YtoibdomcekainaaPatB
namespace Go.Proofs.Ytoibdomcekainaa.Pat
open Go.RowKit Go.Proofs.Ytoibdomcekainaa.Mem Go.Proofs.Ytoibdomcekainaa.Open Go.Proofs.Ytoibdomcekainaa.Kind Go.Proofs.Ytoibdomcekainaa.Blk Go.Proofs.Ytoibdomcekainaa.App
set_option linter.unusedVariables false
set_option linter.unusedSimpArgs false
theorem swap_law (l : List Nat) (a : Int) (d : List Nat) (b : Int) (f : List Nat) (hl : l.length = 256) (hm : meetB a d.length b f.length = false) : layL (layL l a d) b f = layL (layL l b f) a d := by
  refine ext256 (by rw [layL_length, layL_length]; exact hl) (by rw [layL_length, layL_length]; exact hl) fun j hj => ?_
  rw [layL_get _ _ _ (by rw [layL_length]; exact hl), layL_get _ _ _ hl, layL_get _ _ _ (by rw [layL_length]; exact hl), layL_get _ _ _ hl]
  by_cases h1 : rightN a d.length = true ∧ a ≤ j ∧ (j : Int) < a + d.length
  · by_cases h2 : rightN b f.length = true ∧ b ≤ j ∧ (j : Int) < b + f.length
    · exfalso
      unfold meetB at hm
      rw [h1.1, h2.1] at hm
      simp at hm
      omega
    · rw [if_neg h2, if_pos h1, if_pos h1]
  · rw [if_neg h1, if_neg h1]
theorem last_law (l : List Nat) (b : Int) (f : List Nat) (hl : l.length = 256) (h : rightN b f.length = true) : psameB (wasA b f.length) (wasD (layL l b f) b f.length) b f = true := by
  have e1 : wasA b f.length = b := by unfold wasA; rw [h]; rfl
  have e2 : wasD (layL l b f) b f.length = ((layL l b f).drop b.toNat).take f.length := by unfold wasD; rw [h]; rfl
  have hr := (right_iff _ _).1 h
  refine decide_eq_true ⟨e1, ?_⟩
  rw [e2]
  apply List.ext_getElem?
  intro j
  rw [List.getElem?_take]
  by_cases hj : j < f.length
  · rw [if_pos hj, List.getElem?_drop, layL_get _ _ _ hl, if_pos ⟨h, by omega, by omega⟩, show b.toNat + j - b.toNat = j from by omega, getD_at _ _ hj, List.getElem?_eq_getElem hj]
  · rw [if_neg hj, List.getElem?_eq_none (by omega)]

set_option maxHeartbeats 4000000 in
set_option maxRecDepth 100000 in
theorem swaps_core (l X1 X Y1 Y D : List Nat) (a b wb : Int) (A : Option Addr) (c : Nat) (d : List Nat) (A2 : Option Addr) (c2 : Nat) (f : List Nat) (w : World) (hl : l.length = 256) (hb : ∀ x ∈ l, x < 256) (hd : By w A d) (hc : A = none → c = 0) (hf : By w A2 f) (hc2 : A2 = none → c2 = 0)
    (hX1 : Hid (layL l a d = X1)) (hX : Hid (layL X1 b f = X)) (hY1 : Hid (layL l b f = Y1)) (hY : Hid (layL Y1 a d = Y)) (hD : Hid (wasD X b f.length = D)) (hwb : Hid (wasA b f.length = wb)) (hXl1 : X1.length = 256) (hYl1 : Y1.length = 256) (hXl : X.length = 256) (hYl : Y.length = 256) (hXb : ∀ x ∈ X, x < 256) :
    Calls Try.prog 8 #[.agg (blk l), patV a A d.length c, patV b A2 f.length c2] w fun e w' => e = .returned (.bool true) ∧ Below w.heap.size w w' := by
  have hs : (blk l).size = 256 := by rw [blk_size]; exact hl
  have hsX : (blk X).size = 256 := by rw [blk_size]; exact hXl
  have hsY : (blk Y).size = 256 := by rw [blk_size]; exact hYl
  obtain ⟨r0, r1, r2, bb⟩ := two w l 22 34 34 #[.int .i64 a, .slice A d.length c] #[.int .i64 b, .slice A2 f.length c2]
  have hdm := hd.2.1
  have hfm := hf.2.1
  unfold M63 at hdm hfm
  by_cases h6 : 600 < d.length
  · go_enter Try.func8, Try.ntmps8
    go_wp2_with (go_at_call 18; refine (works_any _).mono ?_; rintro e w' ⟨rfl, hbel2⟩)
    go_ret
    exact ⟨rfl, bb.trans (hbel2.mono bb.size)⟩
  by_cases h7 : 600 < f.length
  · go_enter Try.func8, Try.ntmps8
    go_wp2_with (go_at_call 18; refine (works_any _).mono ?_; rintro e w' ⟨rfl, hbel2⟩)
    go_ret
    exact ⟨rfl, bb.trans (hbel2.mono bb.size)⟩
  have hn6 : d.length ≤ 100000 := by omega
  have hn7 : f.length ≤ 100000 := by omega
  go_enter Try.func8, Try.ntmps8
  go_wp2_with fail
  generalize ((w.alloc (.cells (blk l) 22)).alloc (.cells #[.int .i64 a, .slice A d.length c] 34)).alloc (.cells #[.int .i64 b, .slice A2 f.length c2] 34) = w1 at *
  have hia : (Try.prog.info? 22).map (·.size) = some (blk l).toList.length := by rw [Array.length_toList, hs]; exact arrSize
  have hd1 : By w1.drew A d := (hd.below bb).drew
  have hf1 : By w1.drew A2 f := (hf.below bb).drew
  have r0d : Row w1.drew w.heap.size 22 (blk l) := r0
  have r1d := r1.drew
  have r2d := r2.drew
  go_cut [7] (fun s7 w' => ∃ g7, s7 = .pointer (some ⟨g7, 0, none⟩) ∧ w1.heap.size ≤ g7 ∧ Row w' g7 28 (blk X) ∧ Below w1.heap.size w1 w')
  case first =>
    refine wp_region_held_drew (S := Go.RowKit.Below ((w1.drew).heap.size) (w1.drew)) (by kernel_rfl) ?hb11 (fun hHeld => ?rest11)
    case hb11 =>
      exact Go.RowKit.Below.refl _ _
    case' rest11 => skip
    first
      | refine' wpAnyH_take (i := 0) (v := _) rfl (by kernel_rfl) (by kernel_rfl) (by kernel_rfl) (fun _ _ _ h => h) (yieldsIf_load_mid (by rfl) _ _ rfl _ _ rfl _ _ (fun w hSw => (Mem.bl_row hSw r0d (by first | exact Mem.Row.lt r0d | omega | (simp <;> omega))).range) arrUnd rfl hia) (by assumption) ?rest12
      | refine wpAnyH_take (i := 0) (v := undef) rfl (by kernel_rfl) (by kernel_rfl) (by kernel_rfl) (fun _ _ _ h => h) (Or.inr ⟨by rfl, rfl⟩) (by assumption) ?rest12
    case' rest12 => skip
    try simp only [List.getElem_toArray, List.getElem_cons_succ, List.getElem_cons_zero, Act.put, List.setIfInBounds_toArray, List.set_cons_zero, List.set_cons_succ]
    refine wpAnyH_take (i := 1) (v := ?v13) rfl (by kernel_rfl) (by kernel_rfl) (by kernel_rfl) (fun _ _ _ h => h) (Or.inl ⟨by rfl, ?y13⟩) (by assumption) ?rest13
    case y13 => (intro w hSw; have hT0 := (Mem.bl_row hSw r1d (by first | exact Mem.Row.lt r1d | omega | (simp <;> omega))).cell 0 rfl; have hT1 := (Mem.bl_row hSw r1d (by first | exact Mem.Row.lt r1d | omega | (simp <;> omega))).cell 1 rfl; have hT2 := (Mem.bl_row hSw r2d (by first | exact Mem.Row.lt r2d | omega | (simp <;> omega))).cell 0 rfl; have hT3 := (Mem.bl_row hSw r2d (by first | exact Mem.Row.lt r2d | omega | (simp <;> omega))).cell 1 rfl; clear hSw; go_simp; try with_reducible rfl)
    case' rest13 => skip
    try simp only [List.getElem_toArray, List.getElem_cons_succ, List.getElem_cons_zero, Act.put, List.setIfInBounds_toArray, List.set_cons_zero, List.set_cons_succ]
    refine wpAnyH_take (i := 4) (v := ?v14) rfl (by kernel_rfl) (by kernel_rfl) (by kernel_rfl) (fun _ _ _ h => h) (Or.inl ⟨by rfl, ?y14⟩) (by assumption) ?rest14
    case y14 => (intro w hSw; have hT0 := (Mem.bl_row hSw r1d (by first | exact Mem.Row.lt r1d | omega | (simp <;> omega))).cell 0 rfl; have hT1 := (Mem.bl_row hSw r1d (by first | exact Mem.Row.lt r1d | omega | (simp <;> omega))).cell 1 rfl; have hT2 := (Mem.bl_row hSw r2d (by first | exact Mem.Row.lt r2d | omega | (simp <;> omega))).cell 0 rfl; have hT3 := (Mem.bl_row hSw r2d (by first | exact Mem.Row.lt r2d | omega | (simp <;> omega))).cell 1 rfl; clear hSw; go_simp; try with_reducible rfl)
    case' rest14 => skip
    try simp only [List.getElem_toArray, List.getElem_cons_succ, List.getElem_cons_zero, Act.put, List.setIfInBounds_toArray, List.set_cons_zero, List.set_cons_succ]
    refine wpAnyH_ready (rs := [2, 7]) (by kernel_rfl) (by simp) ?_
    refine AllReadyH.cons rfl (fun K hK => ?_) ?_
    · skip
      go_simp
      (refine (to_any a A c d _ (hd1.below hHeld) hc hn6).mono ?_; rintro e wt ⟨A5, c5, rfl, k1, k2, k3, k4, hbl⟩; have ht := k4.by_)
      try go_wp2_with fail
      have hSnew := Mem.bl_step hHeld hbl (by first | exact Nat.le_refl _ | omega | (simp <;> omega))
      refine hK.out _ _ ?_ (fun hHeld2 => ?_)
      · exact hSnew
      try replace ht := ht.below hbl
      try replace hr6 := hr6.below hbl
      clear hbl
      clear hK K hHeld hSnew
      have hHeld := hHeld2
      clear hHeld2
      try simp only [List.getElem_toArray, List.getElem_cons_succ, List.getElem_cons_zero, Act.put, List.setIfInBounds_toArray, List.set_cons_zero, List.set_cons_succ]
      refine wpAnyH_ready (rs := [3, 7]) (by kernel_rfl) (by simp) ?_
      refine AllReadyH.cons rfl (fun K hK => ?_) ?_
      · skip
        go_simp
        (refine (lay_any l a A5 d.length c5 d _ hl ht.sl_byte).mono ?_; rw [hX1.out]; rintro e wl ⟨rfl, hbl⟩; clear ht)
        try go_wp2_with fail
        have hSnew := Mem.bl_step hHeld hbl (by first | exact Nat.le_refl _ | omega | (simp <;> omega))
        refine hK.out _ _ ?_ (fun hHeld2 => ?_)
        · exact hSnew
        try replace ht := ht.below hbl
        try replace hr6 := hr6.below hbl
        clear hbl
        clear hK K hHeld hSnew
        have hHeld := hHeld2
        clear hHeld2
        try simp only [List.getElem_toArray, List.getElem_cons_succ, List.getElem_cons_zero, Act.put, List.setIfInBounds_toArray, List.set_cons_zero, List.set_cons_succ]
        refine wpAnyH_ready (rs := [5, 7]) (by kernel_rfl) (by simp) ?_
        refine AllReadyH.cons rfl (fun K hK => ?_) ?_
        · skip
          go_simp
          (refine (to_any b A2 c2 f _ (hf1.below hHeld) hc2 hn7).mono ?_; rintro e wt2 ⟨A6, c6, rfl, k1, k2, k3, k4, hbl⟩; have ht := k4.by_)
          try go_wp2_with fail
          have hSnew := Mem.bl_step hHeld hbl (by first | exact Nat.le_refl _ | omega | (simp <;> omega))
          refine hK.out _ _ ?_ (fun hHeld2 => ?_)
          · exact hSnew
          try replace ht := ht.below hbl
          try replace hr6 := hr6.below hbl
          clear hbl
          clear hK K hHeld hSnew
          have hHeld := hHeld2
          clear hHeld2
          try simp only [List.getElem_toArray, List.getElem_cons_succ, List.getElem_cons_zero, Act.put, List.setIfInBounds_toArray, List.set_cons_zero, List.set_cons_succ]
          refine wpAnyH_ready (rs := [6, 7]) (by kernel_rfl) (by simp) ?_
          refine AllReadyH.cons rfl (fun K hK => ?_) ?_
          · skip
            go_simp
            (refine (lay_any X1 b A6 f.length c6 f _ hXl1 ht.sl_byte).mono ?_; rw [hX.out]; rintro e wl2 ⟨rfl, hbl⟩; clear ht)
            try go_wp2_with fail
            have hSnew := Mem.bl_step hHeld hbl (by first | exact Nat.le_refl _ | omega | (simp <;> omega))
            refine hK.out _ _ ?_ (fun hHeld2 => ?_)
            · exact hSnew
            try replace ht := ht.below hbl
            try replace hr6 := hr6.below hbl
            clear hbl
            clear hK K hHeld hSnew
            have hHeld := hHeld2
            clear hHeld2
            try simp only [List.getElem_toArray, List.getElem_cons_succ, List.getElem_cons_zero, Act.put, List.setIfInBounds_toArray, List.set_cons_zero, List.set_cons_succ]
            refine wpAnyH_ready (rs := [7]) (by kernel_rfl) (by simp) ?_
            refine AllReadyH.cons rfl (fun K hK => ?_) AllReadyH.nil
            rw [if_pos (by rfl)]
            refine wp_allocN 28 (by rfl) _ blkZero ?_; intro g6 wa hr6 hbl hg6'; have hg6 : w1.heap.size ≤ g6 := Nat.le_trans hHeld.size hg6'
            have hSnew := Mem.bl_step hHeld hbl (by first | exact Nat.le_refl _ | omega | (simp <;> omega))
            refine hK.out _ _ ?_ (fun hHeld2 => ?_)
            · exact hSnew
            try replace ht := ht.below hbl
            try replace hr6 := hr6.below hbl
            clear hbl
            clear hK K hHeld hSnew
            have hHeld := hHeld2
            clear hHeld2
            try simp only [List.getElem_toArray, List.getElem_cons_succ, List.getElem_cons_zero, Act.put, List.setIfInBounds_toArray, List.set_cons_zero, List.set_cons_succ]
            refine wpAnyH_ready (rs := [8]) (by kernel_rfl) (by simp) ?_
            refine AllReadyH.cons rfl (fun K hK => ?_) AllReadyH.nil
            rw [if_pos (by rfl)]
            refine wp_storeRow _ _ _ (by rfl) g6 (by rfl) (blk X) (by rfl) (blk zblk) 28 256 blkSize hsX zblk_size (blk_one _) hr6 ?_; have hSnew := below_setRow hHeld hg6 (blk X); have hr7 := hr6.set (blk X)
            refine hK.out _ _ ?_ (fun hHeld2 => ?_)
            · exact hSnew
            clear hK K hHeld hSnew
            have hHeld := hHeld2
            clear hHeld2
            try simp only [List.getElem_toArray, List.getElem_cons_succ, List.getElem_cons_zero, Act.put, List.setIfInBounds_toArray, List.set_cons_zero, List.set_cons_succ]
            refine wpAnyH_done (by kernel_rfl) ?_ _
            go_wp2_with fail
            go_meet
            case rel => exact ⟨g6, rfl, hg6, hr7, (Below.refl _ _).drew.trans hHeld⟩
          refine AllReadyH.cons rfl (fun K hK => ?_) ?_
          · skip
            rw [if_pos (by rfl)]
            refine wp_allocN 28 (by rfl) _ blkZero ?_; intro g6 wa hr6 hbl hg6'; have hg6 : w1.heap.size ≤ g6 := Nat.le_trans hHeld.size hg6'
            have hSnew := Mem.bl_step hHeld hbl (by first | exact Nat.le_refl _ | omega | (simp <;> omega))
            refine hK.out _ _ ?_ (fun hHeld2 => ?_)
            · exact hSnew
            try replace ht := ht.below hbl
            try replace hr6 := hr6.below hbl
            clear hbl
            clear hK K hHeld hSnew
            have hHeld := hHeld2
            clear hHeld2
            try simp only [List.getElem_toArray, List.getElem_cons_succ, List.getElem_cons_zero, Act.put, List.setIfInBounds_toArray, List.set_cons_zero, List.set_cons_succ]
            refine wpAnyH_ready (rs := [6]) (by kernel_rfl) (by simp) ?_
            refine AllReadyH.cons rfl (fun K hK => ?_) AllReadyH.nil
            go_simp
            (refine (lay_any X1 b A6 f.length c6 f _ hXl1 ht.sl_byte).mono ?_; rw [hX.out]; rintro e wl2 ⟨rfl, hbl⟩; clear ht)
            try go_wp2_with fail
            have hSnew := Mem.bl_step hHeld hbl (by first | exact Nat.le_refl _ | omega | (simp <;> omega))
            refine hK.out _ _ ?_ (fun hHeld2 => ?_)
            · exact hSnew
            try replace ht := ht.below hbl
            try replace hr6 := hr6.below hbl
            clear hbl
            clear hK K hHeld hSnew
            have hHeld := hHeld2
            clear hHeld2
            try simp only [List.getElem_toArray, List.getElem_cons_succ, List.getElem_cons_zero, Act.put, List.setIfInBounds_toArray, List.set_cons_zero, List.set_cons_succ]
            refine wpAnyH_ready (rs := [8]) (by kernel_rfl) (by simp) ?_
            refine AllReadyH.cons rfl (fun K hK => ?_) AllReadyH.nil
            rw [if_pos (by rfl)]
            refine wp_storeRow _ _ _ (by rfl) g6 (by rfl) (blk X) (by rfl) (blk zblk) 28 256 blkSize hsX zblk_size (blk_one _) hr6 ?_; have hSnew := below_setRow hHeld hg6 (blk X); have hr7 := hr6.set (blk X)
            refine hK.out _ _ ?_ (fun hHeld2 => ?_)
            · exact hSnew
            clear hK K hHeld hSnew
            have hHeld := hHeld2
            clear hHeld2
            try simp only [List.getElem_toArray, List.getElem_cons_succ, List.getElem_cons_zero, Act.put, List.setIfInBounds_toArray, List.set_cons_zero, List.set_cons_succ]
            refine wpAnyH_done (by kernel_rfl) ?_ _
            go_wp2_with fail
            go_meet
            case rel => exact ⟨g6, rfl, hg6, hr7, (Below.refl _ _).drew.trans hHeld⟩
          exact AllReadyH.nil
        refine AllReadyH.cons rfl (fun K hK => ?_) ?_
        · skip
          rw [if_pos (by rfl)]
          refine wp_allocN 28 (by rfl) _ blkZero ?_; intro g6 wa hr6 hbl hg6'; have hg6 : w1.heap.size ≤ g6 := Nat.le_trans hHeld.size hg6'
          have hSnew := Mem.bl_step hHeld hbl (by first | exact Nat.le_refl _ | omega | (simp <;> omega))
          refine hK.out _ _ ?_ (fun hHeld2 => ?_)
          · exact hSnew
          try replace ht := ht.below hbl
          try replace hr6 := hr6.below hbl
          clear hbl
          clear hK K hHeld hSnew
          have hHeld := hHeld2
          clear hHeld2
          try simp only [List.getElem_toArray, List.getElem_cons_succ, List.getElem_cons_zero, Act.put, List.setIfInBounds_toArray, List.set_cons_zero, List.set_cons_succ]
          refine wpAnyH_ready (rs := [5]) (by kernel_rfl) (by simp) ?_
          refine AllReadyH.cons rfl (fun K hK => ?_) AllReadyH.nil
          go_simp
          (refine (to_any b A2 c2 f _ (hf1.below hHeld) hc2 hn7).mono ?_; rintro e wt2 ⟨A6, c6, rfl, k1, k2, k3, k4, hbl⟩; have ht := k4.by_)
          try go_wp2_with fail
          have hSnew := Mem.bl_step hHeld hbl (by first | exact Nat.le_refl _ | omega | (simp <;> omega))
          refine hK.out _ _ ?_ (fun hHeld2 => ?_)
          · exact hSnew
          try replace ht := ht.below hbl
          try replace hr6 := hr6.below hbl
          clear hbl
          clear hK K hHeld hSnew
          have hHeld := hHeld2
          clear hHeld2
          try simp only [List.getElem_toArray, List.getElem_cons_succ, List.getElem_cons_zero, Act.put, List.setIfInBounds_toArray, List.set_cons_zero, List.set_cons_succ]
          refine wpAnyH_ready (rs := [6]) (by kernel_rfl) (by simp) ?_
          refine AllReadyH.cons rfl (fun K hK => ?_) AllReadyH.nil
          go_simp
          (refine (lay_any X1 b A6 f.length c6 f _ hXl1 ht.sl_byte).mono ?_; rw [hX.out]; rintro e wl2 ⟨rfl, hbl⟩; clear ht)
          try go_wp2_with fail
          have hSnew := Mem.bl_step hHeld hbl (by first | exact Nat.le_refl _ | omega | (simp <;> omega))
          refine hK.out _ _ ?_ (fun hHeld2 => ?_)
          · exact hSnew
          try replace ht := ht.below hbl
          try replace hr6 := hr6.below hbl
          clear hbl
          clear hK K hHeld hSnew
          have hHeld := hHeld2
          clear hHeld2
          try simp only [List.getElem_toArray, List.getElem_cons_succ, List.getElem_cons_zero, Act.put, List.setIfInBounds_toArray, List.set_cons_zero, List.set_cons_succ]
          refine wpAnyH_ready (rs := [8]) (by kernel_rfl) (by simp) ?_
          refine AllReadyH.cons rfl (fun K hK => ?_) AllReadyH.nil
          rw [if_pos (by rfl)]
          refine wp_storeRow _ _ _ (by rfl) g6 (by rfl) (blk X) (by rfl) (blk zblk) 28 256 blkSize hsX zblk_size (blk_one _) hr6 ?_; have hSnew := below_setRow hHeld hg6 (blk X); have hr7 := hr6.set (blk X)
          refine hK.out _ _ ?_ (fun hHeld2 => ?_)
          · exact hSnew
          clear hK K hHeld hSnew
          have hHeld := hHeld2
          clear hHeld2
          try simp only [List.getElem_toArray, List.getElem_cons_succ, List.getElem_cons_zero, Act.put, List.setIfInBounds_toArray, List.set_cons_zero, List.set_cons_succ]
          refine wpAnyH_done (by kernel_rfl) ?_ _
          go_wp2_with fail
          go_meet
          case rel => exact ⟨g6, rfl, hg6, hr7, (Below.refl _ _).drew.trans hHeld⟩
        exact AllReadyH.nil
      refine AllReadyH.cons rfl (fun K hK => ?_) ?_
      · skip
        rw [if_pos (by rfl)]
        refine wp_allocN 28 (by rfl) _ blkZero ?_; intro g6 wa hr6 hbl hg6'; have hg6 : w1.heap.size ≤ g6 := Nat.le_trans hHeld.size hg6'
        have hSnew := Mem.bl_step hHeld hbl (by first | exact Nat.le_refl _ | omega | (simp <;> omega))
        refine hK.out _ _ ?_ (fun hHeld2 => ?_)
        · exact hSnew
        try replace ht := ht.below hbl
        try replace hr6 := hr6.below hbl
        clear hbl
        clear hK K hHeld hSnew
        have hHeld := hHeld2
        clear hHeld2
        try simp only [List.getElem_toArray, List.getElem_cons_succ, List.getElem_cons_zero, Act.put, List.setIfInBounds_toArray, List.set_cons_zero, List.set_cons_succ]
        refine wpAnyH_ready (rs := [3]) (by kernel_rfl) (by simp) ?_
        refine AllReadyH.cons rfl (fun K hK => ?_) AllReadyH.nil
        go_simp
        (refine (lay_any l a A5 d.length c5 d _ hl ht.sl_byte).mono ?_; rw [hX1.out]; rintro e wl ⟨rfl, hbl⟩; clear ht)
        try go_wp2_with fail
        have hSnew := Mem.bl_step hHeld hbl (by first | exact Nat.le_refl _ | omega | (simp <;> omega))
        refine hK.out _ _ ?_ (fun hHeld2 => ?_)
        · exact hSnew
        try replace ht := ht.below hbl
        try replace hr6 := hr6.below hbl
        clear hbl
        clear hK K hHeld hSnew
        have hHeld := hHeld2
        clear hHeld2
        try simp only [List.getElem_toArray, List.getElem_cons_succ, List.getElem_cons_zero, Act.put, List.setIfInBounds_toArray, List.set_cons_zero, List.set_cons_succ]
        refine wpAnyH_ready (rs := [5]) (by kernel_rfl) (by simp) ?_
        refine AllReadyH.cons rfl (fun K hK => ?_) AllReadyH.nil
        go_simp
        (refine (to_any b A2 c2 f _ (hf1.below hHeld) hc2 hn7).mono ?_; rintro e wt2 ⟨A6, c6, rfl, k1, k2, k3, k4, hbl⟩; have ht := k4.by_)
        try go_wp2_with fail
        have hSnew := Mem.bl_step hHeld hbl (by first | exact Nat.le_refl _ | omega | (simp <;> omega))
        refine hK.out _ _ ?_ (fun hHeld2 => ?_)
        · exact hSnew
        try replace ht := ht.below hbl
        try replace hr6 := hr6.below hbl
        clear hbl
        clear hK K hHeld hSnew
        have hHeld := hHeld2
        clear hHeld2
        try simp only [List.getElem_toArray, List.getElem_cons_succ, List.getElem_cons_zero, Act.put, List.setIfInBounds_toArray, List.set_cons_zero, List.set_cons_succ]
        refine wpAnyH_ready (rs := [6]) (by kernel_rfl) (by simp) ?_
        refine AllReadyH.cons rfl (fun K hK => ?_) AllReadyH.nil
        go_simp
        (refine (lay_any X1 b A6 f.length c6 f _ hXl1 ht.sl_byte).mono ?_; rw [hX.out]; rintro e wl2 ⟨rfl, hbl⟩; clear ht)
        try go_wp2_with fail
        have hSnew := Mem.bl_step hHeld hbl (by first | exact Nat.le_refl _ | omega | (simp <;> omega))
        refine hK.out _ _ ?_ (fun hHeld2 => ?_)
        · exact hSnew
        try replace ht := ht.below hbl
        try replace hr6 := hr6.below hbl
        clear hbl
        clear hK K hHeld hSnew
        have hHeld := hHeld2
        clear hHeld2
        try simp only [List.getElem_toArray, List.getElem_cons_succ, List.getElem_cons_zero, Act.put, List.setIfInBounds_toArray, List.set_cons_zero, List.set_cons_succ]
        refine wpAnyH_ready (rs := [8]) (by kernel_rfl) (by simp) ?_
        refine AllReadyH.cons rfl (fun K hK => ?_) AllReadyH.nil
        rw [if_pos (by rfl)]
        refine wp_storeRow _ _ _ (by rfl) g6 (by rfl) (blk X) (by rfl) (blk zblk) 28 256 blkSize hsX zblk_size (blk_one _) hr6 ?_; have hSnew := below_setRow hHeld hg6 (blk X); have hr7 := hr6.set (blk X)
        refine hK.out _ _ ?_ (fun hHeld2 => ?_)
        · exact hSnew
        clear hK K hHeld hSnew
        have hHeld := hHeld2
        clear hHeld2
        try simp only [List.getElem_toArray, List.getElem_cons_succ, List.getElem_cons_zero, Act.put, List.setIfInBounds_toArray, List.set_cons_zero, List.set_cons_succ]
        refine wpAnyH_done (by kernel_rfl) ?_ _
        go_wp2_with fail
        go_meet
        case rel => exact ⟨g6, rfl, hg6, hr7, (Below.refl _ _).drew.trans hHeld⟩
      exact AllReadyH.nil
    refine AllReadyH.cons rfl (fun K hK => ?_) ?_
    · skip
      rw [if_pos (by rfl)]
      refine wp_allocN 28 (by rfl) _ blkZero ?_; intro g6 wa hr6 hbl hg6'; have hg6 : w1.heap.size ≤ g6 := Nat.le_trans hHeld.size hg6'
      have hSnew := Mem.bl_step hHeld hbl (by first | exact Nat.le_refl _ | omega | (simp <;> omega))
      refine hK.out _ _ ?_ (fun hHeld2 => ?_)
      · exact hSnew
      try replace ht := ht.below hbl
      try replace hr6 := hr6.below hbl
      clear hbl
      clear hK K hHeld hSnew
      have hHeld := hHeld2
      clear hHeld2
      try simp only [List.getElem_toArray, List.getElem_cons_succ, List.getElem_cons_zero, Act.put, List.setIfInBounds_toArray, List.set_cons_zero, List.set_cons_succ]
      refine wpAnyH_ready (rs := [2]) (by kernel_rfl) (by simp) ?_
      refine AllReadyH.cons rfl (fun K hK => ?_) AllReadyH.nil
      go_simp
      (refine (to_any a A c d _ (hd1.below hHeld) hc hn6).mono ?_; rintro e wt ⟨A5, c5, rfl, k1, k2, k3, k4, hbl⟩; have ht := k4.by_)
      try go_wp2_with fail
      have hSnew := Mem.bl_step hHeld hbl (by first | exact Nat.le_refl _ | omega | (simp <;> omega))
      refine hK.out _ _ ?_ (fun hHeld2 => ?_)
      · exact hSnew
      try replace ht := ht.below hbl
      try replace hr6 := hr6.below hbl
      clear hbl
      clear hK K hHeld hSnew
      have hHeld := hHeld2
      clear hHeld2
      try simp only [List.getElem_toArray, List.getElem_cons_succ, List.getElem_cons_zero, Act.put, List.setIfInBounds_toArray, List.set_cons_zero, List.set_cons_succ]
      refine wpAnyH_ready (rs := [3]) (by kernel_rfl) (by simp) ?_
      refine AllReadyH.cons rfl (fun K hK => ?_) AllReadyH.nil
      go_simp
      (refine (lay_any l a A5 d.length c5 d _ hl ht.sl_byte).mono ?_; rw [hX1.out]; rintro e wl ⟨rfl, hbl⟩; clear ht)
      try go_wp2_with fail
      have hSnew := Mem.bl_step hHeld hbl (by first | exact Nat.le_refl _ | omega | (simp <;> omega))
      refine hK.out _ _ ?_ (fun hHeld2 => ?_)
      · exact hSnew
      try replace ht := ht.below hbl
      try replace hr6 := hr6.below hbl
      clear hbl
      clear hK K hHeld hSnew
      have hHeld := hHeld2
      clear hHeld2
      try simp only [List.getElem_toArray, List.getElem_cons_succ, List.getElem_cons_zero, Act.put, List.setIfInBounds_toArray, List.set_cons_zero, List.set_cons_succ]
      refine wpAnyH_ready (rs := [5]) (by kernel_rfl) (by simp) ?_
      refine AllReadyH.cons rfl (fun K hK => ?_) AllReadyH.nil
      go_simp
      (refine (to_any b A2 c2 f _ (hf1.below hHeld) hc2 hn7).mono ?_; rintro e wt2 ⟨A6, c6, rfl, k1, k2, k3, k4, hbl⟩; have ht := k4.by_)
      try go_wp2_with fail
      have hSnew := Mem.bl_step hHeld hbl (by first | exact Nat.le_refl _ | omega | (simp <;> omega))
      refine hK.out _ _ ?_ (fun hHeld2 => ?_)
      · exact hSnew
      try replace ht := ht.below hbl
      try replace hr6 := hr6.below hbl
      clear hbl
      clear hK K hHeld hSnew
      have hHeld := hHeld2
      clear hHeld2
      try simp only [List.getElem_toArray, List.getElem_cons_succ, List.getElem_cons_zero, Act.put, List.setIfInBounds_toArray, List.set_cons_zero, List.set_cons_succ]
      refine wpAnyH_ready (rs := [6]) (by kernel_rfl) (by simp) ?_
      refine AllReadyH.cons rfl (fun K hK => ?_) AllReadyH.nil
      go_simp
      (refine (lay_any X1 b A6 f.length c6 f _ hXl1 ht.sl_byte).mono ?_; rw [hX.out]; rintro e wl2 ⟨rfl, hbl⟩; clear ht)
      try go_wp2_with fail
      have hSnew := Mem.bl_step hHeld hbl (by first | exact Nat.le_refl _ | omega | (simp <;> omega))
      refine hK.out _ _ ?_ (fun hHeld2 => ?_)
      · exact hSnew
      try replace ht := ht.below hbl
      try replace hr6 := hr6.below hbl
      clear hbl
      clear hK K hHeld hSnew
      have hHeld := hHeld2
      clear hHeld2
      try simp only [List.getElem_toArray, List.getElem_cons_succ, List.getElem_cons_zero, Act.put, List.setIfInBounds_toArray, List.set_cons_zero, List.set_cons_succ]
      refine wpAnyH_ready (rs := [8]) (by kernel_rfl) (by simp) ?_
      refine AllReadyH.cons rfl (fun K hK => ?_) AllReadyH.nil
      rw [if_pos (by rfl)]
      refine wp_storeRow _ _ _ (by rfl) g6 (by rfl) (blk X) (by rfl) (blk zblk) 28 256 blkSize hsX zblk_size (blk_one _) hr6 ?_; have hSnew := below_setRow hHeld hg6 (blk X); have hr7 := hr6.set (blk X)
      refine hK.out _ _ ?_ (fun hHeld2 => ?_)
      · exact hSnew
      clear hK K hHeld hSnew
      have hHeld := hHeld2
      clear hHeld2
      try simp only [List.getElem_toArray, List.getElem_cons_succ, List.getElem_cons_zero, Act.put, List.setIfInBounds_toArray, List.set_cons_zero, List.set_cons_succ]
      refine wpAnyH_done (by kernel_rfl) ?_ _
      go_wp2_with fail
      go_meet
      case rel => exact ⟨g6, rfl, hg6, hr7, (Below.refl _ _).drew.trans hHeld⟩
    exact AllReadyH.nil
  case rest =>
    obtain ⟨g7, rfl, hg7, hr7, hb7⟩ := hcut
    have hb2 := bb.trans (hb7.mono bb.size)
    have s0 : Row wc w.heap.size 22 (blk l) := Row.below r0 hb7
    have s1 := r1.below hb7
    have s2 := r2.below hb7
    have hd2 := (hd.below bb).below hb7
    have hf2 := (hf.below bb).below hb7
    clear r0 r1 r2 bb hd1 hf1 r0d r1d r2d hb7
    generalize wc = w2 at *
    have hd3 := hd2.drew
    have hf3 := hf2.drew
    have s0d := s0.drew
    have s1d := s1.drew
    have s2d := s2.drew
    go_wp2_with fail
    go_cut [8] (fun s8 w' => ∃ g8, s8 = .pointer (some ⟨g8, 0, none⟩) ∧ w2.heap.size ≤ g8 ∧ Row w' g8 28 (blk Y) ∧ Below w2.heap.size w2 w')
    case first =>
      refine wp_region_held_drew (S := Go.RowKit.Below ((w2.drew).heap.size) (w2.drew)) (by kernel_rfl) ?hb25 (fun hHeld => ?rest25)
      case hb25 =>
        exact Go.RowKit.Below.refl _ _
      case' rest25 => skip
      first
        | refine' wpAnyH_take (i := 0) (v := _) rfl (by kernel_rfl) (by kernel_rfl) (by kernel_rfl) (fun _ _ _ h => h) (yieldsIf_load_mid (by rfl) _ _ rfl _ _ rfl _ _ (fun w hSw => (Mem.bl_row hSw s0d (by first | exact Mem.Row.lt s0d | omega | (simp <;> omega))).range) arrUnd rfl hia) (by assumption) ?rest26
        | refine wpAnyH_take (i := 0) (v := undef) rfl (by kernel_rfl) (by kernel_rfl) (by kernel_rfl) (fun _ _ _ h => h) (Or.inr ⟨by rfl, rfl⟩) (by assumption) ?rest26
      case' rest26 => skip
      try simp only [List.getElem_toArray, List.getElem_cons_succ, List.getElem_cons_zero, Act.put, List.setIfInBounds_toArray, List.set_cons_zero, List.set_cons_succ]
      refine wpAnyH_take (i := 1) (v := ?v27) rfl (by kernel_rfl) (by kernel_rfl) (by kernel_rfl) (fun _ _ _ h => h) (Or.inl ⟨by rfl, ?y27⟩) (by assumption) ?rest27
      case y27 => (intro w hSw; have hT0 := (Mem.bl_row hSw s1d (by first | exact Mem.Row.lt s1d | omega | (simp <;> omega))).cell 0 rfl; have hT1 := (Mem.bl_row hSw s1d (by first | exact Mem.Row.lt s1d | omega | (simp <;> omega))).cell 1 rfl; have hT2 := (Mem.bl_row hSw s2d (by first | exact Mem.Row.lt s2d | omega | (simp <;> omega))).cell 0 rfl; have hT3 := (Mem.bl_row hSw s2d (by first | exact Mem.Row.lt s2d | omega | (simp <;> omega))).cell 1 rfl; clear hSw; go_simp; try with_reducible rfl)
      case' rest27 => skip
      try simp only [List.getElem_toArray, List.getElem_cons_succ, List.getElem_cons_zero, Act.put, List.setIfInBounds_toArray, List.set_cons_zero, List.set_cons_succ]
      refine wpAnyH_take (i := 4) (v := ?v28) rfl (by kernel_rfl) (by kernel_rfl) (by kernel_rfl) (fun _ _ _ h => h) (Or.inl ⟨by rfl, ?y28⟩) (by assumption) ?rest28
      case y28 => (intro w hSw; have hT0 := (Mem.bl_row hSw s1d (by first | exact Mem.Row.lt s1d | omega | (simp <;> omega))).cell 0 rfl; have hT1 := (Mem.bl_row hSw s1d (by first | exact Mem.Row.lt s1d | omega | (simp <;> omega))).cell 1 rfl; have hT2 := (Mem.bl_row hSw s2d (by first | exact Mem.Row.lt s2d | omega | (simp <;> omega))).cell 0 rfl; have hT3 := (Mem.bl_row hSw s2d (by first | exact Mem.Row.lt s2d | omega | (simp <;> omega))).cell 1 rfl; clear hSw; go_simp; try with_reducible rfl)
      case' rest28 => skip
      try simp only [List.getElem_toArray, List.getElem_cons_succ, List.getElem_cons_zero, Act.put, List.setIfInBounds_toArray, List.set_cons_zero, List.set_cons_succ]
      refine wpAnyH_ready (rs := [2, 7]) (by kernel_rfl) (by simp) ?_
      refine AllReadyH.cons rfl (fun K hK => ?_) ?_
      · skip
        go_simp
        (refine (to_any b A2 c2 f _ (hf3.below hHeld) hc2 hn7).mono ?_; rintro e wt ⟨A5, c5, rfl, k1, k2, k3, k4, hbl⟩; have ht := k4.by_)
        try go_wp2_with fail
        have hSnew := Mem.bl_step hHeld hbl (by first | exact Nat.le_refl _ | omega | (simp <;> omega))
        refine hK.out _ _ ?_ (fun hHeld2 => ?_)
        · exact hSnew
        try replace ht := ht.below hbl
        try replace hr6 := hr6.below hbl
        clear hbl
        clear hK K hHeld hSnew
        have hHeld := hHeld2
        clear hHeld2
        try simp only [List.getElem_toArray, List.getElem_cons_succ, List.getElem_cons_zero, Act.put, List.setIfInBounds_toArray, List.set_cons_zero, List.set_cons_succ]
        refine wpAnyH_ready (rs := [3, 7]) (by kernel_rfl) (by simp) ?_
        refine AllReadyH.cons rfl (fun K hK => ?_) ?_
        · skip
          go_simp
          (refine (lay_any l b A5 f.length c5 f _ hl ht.sl_byte).mono ?_; rw [hY1.out]; rintro e wl ⟨rfl, hbl⟩; clear ht)
          try go_wp2_with fail
          have hSnew := Mem.bl_step hHeld hbl (by first | exact Nat.le_refl _ | omega | (simp <;> omega))
          refine hK.out _ _ ?_ (fun hHeld2 => ?_)
          · exact hSnew
          try replace ht := ht.below hbl
          try replace hr6 := hr6.below hbl
          clear hbl
          clear hK K hHeld hSnew
          have hHeld := hHeld2
          clear hHeld2
          try simp only [List.getElem_toArray, List.getElem_cons_succ, List.getElem_cons_zero, Act.put, List.setIfInBounds_toArray, List.set_cons_zero, List.set_cons_succ]
          refine wpAnyH_ready (rs := [5, 7]) (by kernel_rfl) (by simp) ?_
          refine AllReadyH.cons rfl (fun K hK => ?_) ?_
          · skip
            go_simp
            (refine (to_any a A c d _ (hd3.below hHeld) hc hn6).mono ?_; rintro e wt2 ⟨A6, c6, rfl, k1, k2, k3, k4, hbl⟩; have ht := k4.by_)
            try go_wp2_with fail
            have hSnew := Mem.bl_step hHeld hbl (by first | exact Nat.le_refl _ | omega | (simp <;> omega))
            refine hK.out _ _ ?_ (fun hHeld2 => ?_)
            · exact hSnew
            try replace ht := ht.below hbl
            try replace hr6 := hr6.below hbl
            clear hbl
            clear hK K hHeld hSnew
            have hHeld := hHeld2
            clear hHeld2
            try simp only [List.getElem_toArray, List.getElem_cons_succ, List.getElem_cons_zero, Act.put, List.setIfInBounds_toArray, List.set_cons_zero, List.set_cons_succ]
            refine wpAnyH_ready (rs := [6, 7]) (by kernel_rfl) (by simp) ?_
            refine AllReadyH.cons rfl (fun K hK => ?_) ?_
            · skip
              go_simp
              (refine (lay_any Y1 a A6 d.length c6 d _ hYl1 ht.sl_byte).mono ?_; rw [hY.out]; rintro e wl2 ⟨rfl, hbl⟩; clear ht)
              try go_wp2_with fail
              have hSnew := Mem.bl_step hHeld hbl (by first | exact Nat.le_refl _ | omega | (simp <;> omega))
              refine hK.out _ _ ?_ (fun hHeld2 => ?_)
              · exact hSnew
              try replace ht := ht.below hbl
              try replace hr6 := hr6.below hbl
              clear hbl
              clear hK K hHeld hSnew
              have hHeld := hHeld2
              clear hHeld2
              try simp only [List.getElem_toArray, List.getElem_cons_succ, List.getElem_cons_zero, Act.put, List.setIfInBounds_toArray, List.set_cons_zero, List.set_cons_succ]
              refine wpAnyH_ready (rs := [7]) (by kernel_rfl) (by simp) ?_
              refine AllReadyH.cons rfl (fun K hK => ?_) AllReadyH.nil
              rw [if_pos (by rfl)]
              refine wp_allocN 28 (by rfl) _ blkZero ?_; intro g6 wa hr6 hbl hg6'; have hg6 : w2.heap.size ≤ g6 := Nat.le_trans hHeld.size hg6'
              have hSnew := Mem.bl_step hHeld hbl (by first | exact Nat.le_refl _ | omega | (simp <;> omega))
              refine hK.out _ _ ?_ (fun hHeld2 => ?_)
              · exact hSnew
              try replace ht := ht.below hbl
              try replace hr6 := hr6.below hbl
              clear hbl
              clear hK K hHeld hSnew
              have hHeld := hHeld2
              clear hHeld2
              try simp only [List.getElem_toArray, List.getElem_cons_succ, List.getElem_cons_zero, Act.put, List.setIfInBounds_toArray, List.set_cons_zero, List.set_cons_succ]
              refine wpAnyH_ready (rs := [8]) (by kernel_rfl) (by simp) ?_
              refine AllReadyH.cons rfl (fun K hK => ?_) AllReadyH.nil
              rw [if_pos (by rfl)]
              refine wp_storeRow _ _ _ (by rfl) g6 (by rfl) (blk Y) (by rfl) (blk zblk) 28 256 blkSize hsY zblk_size (blk_one _) hr6 ?_; have hSnew := below_setRow hHeld hg6 (blk Y); have hr8 := hr6.set (blk Y)
              refine hK.out _ _ ?_ (fun hHeld2 => ?_)
              · exact hSnew
              clear hK K hHeld hSnew
              have hHeld := hHeld2
              clear hHeld2
              try simp only [List.getElem_toArray, List.getElem_cons_succ, List.getElem_cons_zero, Act.put, List.setIfInBounds_toArray, List.set_cons_zero, List.set_cons_succ]
              refine wpAnyH_done (by kernel_rfl) ?_ _
              go_wp2_with fail
              go_meet
              case rel => exact ⟨g6, rfl, hg6, hr8, (Below.refl _ _).drew.trans hHeld⟩
            refine AllReadyH.cons rfl (fun K hK => ?_) ?_
            · skip
              rw [if_pos (by rfl)]
              refine wp_allocN 28 (by rfl) _ blkZero ?_; intro g6 wa hr6 hbl hg6'; have hg6 : w2.heap.size ≤ g6 := Nat.le_trans hHeld.size hg6'
              have hSnew := Mem.bl_step hHeld hbl (by first | exact Nat.le_refl _ | omega | (simp <;> omega))
              refine hK.out _ _ ?_ (fun hHeld2 => ?_)
              · exact hSnew
              try replace ht := ht.below hbl
              try replace hr6 := hr6.below hbl
              clear hbl
              clear hK K hHeld hSnew
              have hHeld := hHeld2
              clear hHeld2
              try simp only [List.getElem_toArray, List.getElem_cons_succ, List.getElem_cons_zero, Act.put, List.setIfInBounds_toArray, List.set_cons_zero, List.set_cons_succ]
              refine wpAnyH_ready (rs := [6]) (by kernel_rfl) (by simp) ?_
              refine AllReadyH.cons rfl (fun K hK => ?_) AllReadyH.nil
              go_simp
              (refine (lay_any Y1 a A6 d.length c6 d _ hYl1 ht.sl_byte).mono ?_; rw [hY.out]; rintro e wl2 ⟨rfl, hbl⟩; clear ht)
              try go_wp2_with fail
              have hSnew := Mem.bl_step hHeld hbl (by first | exact Nat.le_refl _ | omega | (simp <;> omega))
              refine hK.out _ _ ?_ (fun hHeld2 => ?_)
              · exact hSnew
              try replace ht := ht.below hbl
              try replace hr6 := hr6.below hbl
              clear hbl
              clear hK K hHeld hSnew
              have hHeld := hHeld2
              clear hHeld2
              try simp only [List.getElem_toArray, List.getElem_cons_succ, List.getElem_cons_zero, Act.put, List.setIfInBounds_toArray, List.set_cons_zero, List.set_cons_succ]
              refine wpAnyH_ready (rs := [8]) (by kernel_rfl) (by simp) ?_
              refine AllReadyH.cons rfl (fun K hK => ?_) AllReadyH.nil
              rw [if_pos (by rfl)]
              refine wp_storeRow _ _ _ (by rfl) g6 (by rfl) (blk Y) (by rfl) (blk zblk) 28 256 blkSize hsY zblk_size (blk_one _) hr6 ?_; have hSnew := below_setRow hHeld hg6 (blk Y); have hr8 := hr6.set (blk Y)
              refine hK.out _ _ ?_ (fun hHeld2 => ?_)
              · exact hSnew
              clear hK K hHeld hSnew
              have hHeld := hHeld2
              clear hHeld2
              try simp only [List.getElem_toArray, List.getElem_cons_succ, List.getElem_cons_zero, Act.put, List.setIfInBounds_toArray, List.set_cons_zero, List.set_cons_succ]
              refine wpAnyH_done (by kernel_rfl) ?_ _
              go_wp2_with fail
              go_meet
              case rel => exact ⟨g6, rfl, hg6, hr8, (Below.refl _ _).drew.trans hHeld⟩
            exact AllReadyH.nil
          refine AllReadyH.cons rfl (fun K hK => ?_) ?_
          · skip
            rw [if_pos (by rfl)]
            refine wp_allocN 28 (by rfl) _ blkZero ?_; intro g6 wa hr6 hbl hg6'; have hg6 : w2.heap.size ≤ g6 := Nat.le_trans hHeld.size hg6'
            have hSnew := Mem.bl_step hHeld hbl (by first | exact Nat.le_refl _ | omega | (simp <;> omega))
            refine hK.out _ _ ?_ (fun hHeld2 => ?_)
            · exact hSnew
            try replace ht := ht.below hbl
            try replace hr6 := hr6.below hbl
            clear hbl
            clear hK K hHeld hSnew
            have hHeld := hHeld2
            clear hHeld2
            try simp only [List.getElem_toArray, List.getElem_cons_succ, List.getElem_cons_zero, Act.put, List.setIfInBounds_toArray, List.set_cons_zero, List.set_cons_succ]
            refine wpAnyH_ready (rs := [5]) (by kernel_rfl) (by simp) ?_
            refine AllReadyH.cons rfl (fun K hK => ?_) AllReadyH.nil
            go_simp
            (refine (to_any a A c d _ (hd3.below hHeld) hc hn6).mono ?_; rintro e wt2 ⟨A6, c6, rfl, k1, k2, k3, k4, hbl⟩; have ht := k4.by_)
            try go_wp2_with fail
            have hSnew := Mem.bl_step hHeld hbl (by first | exact Nat.le_refl _ | omega | (simp <;> omega))
            refine hK.out _ _ ?_ (fun hHeld2 => ?_)
            · exact hSnew
            try replace ht := ht.below hbl
            try replace hr6 := hr6.below hbl
            clear hbl
            clear hK K hHeld hSnew
            have hHeld := hHeld2
            clear hHeld2
            try simp only [List.getElem_toArray, List.getElem_cons_succ, List.getElem_cons_zero, Act.put, List.setIfInBounds_toArray, List.set_cons_zero, List.set_cons_succ]
            refine wpAnyH_ready (rs := [6]) (by kernel_rfl) (by simp) ?_
            refine AllReadyH.cons rfl (fun K hK => ?_) AllReadyH.nil
            go_simp
            (refine (lay_any Y1 a A6 d.length c6 d _ hYl1 ht.sl_byte).mono ?_; rw [hY.out]; rintro e wl2 ⟨rfl, hbl⟩; clear ht)
            try go_wp2_with fail
            have hSnew := Mem.bl_step hHeld hbl (by first | exact Nat.le_refl _ | omega | (simp <;> omega))
            refine hK.out _ _ ?_ (fun hHeld2 => ?_)
            · exact hSnew
            try replace ht := ht.below hbl
            try replace hr6 := hr6.below hbl
            clear hbl
            clear hK K hHeld hSnew
            have hHeld := hHeld2
            clear hHeld2
            try simp only [List.getElem_toArray, List.getElem_cons_succ, List.getElem_cons_zero, Act.put, List.setIfInBounds_toArray, List.set_cons_zero, List.set_cons_succ]
            refine wpAnyH_ready (rs := [8]) (by kernel_rfl) (by simp) ?_
            refine AllReadyH.cons rfl (fun K hK => ?_) AllReadyH.nil
            rw [if_pos (by rfl)]
            refine wp_storeRow _ _ _ (by rfl) g6 (by rfl) (blk Y) (by rfl) (blk zblk) 28 256 blkSize hsY zblk_size (blk_one _) hr6 ?_; have hSnew := below_setRow hHeld hg6 (blk Y); have hr8 := hr6.set (blk Y)
            refine hK.out _ _ ?_ (fun hHeld2 => ?_)
            · exact hSnew
            clear hK K hHeld hSnew
            have hHeld := hHeld2
            clear hHeld2
            try simp only [List.getElem_toArray, List.getElem_cons_succ, List.getElem_cons_zero, Act.put, List.setIfInBounds_toArray, List.set_cons_zero, List.set_cons_succ]
            refine wpAnyH_done (by kernel_rfl) ?_ _
            go_wp2_with fail
            go_meet
            case rel => exact ⟨g6, rfl, hg6, hr8, (Below.refl _ _).drew.trans hHeld⟩
          exact AllReadyH.nil
        refine AllReadyH.cons rfl (fun K hK => ?_) ?_
        · skip
          rw [if_pos (by rfl)]
          refine wp_allocN 28 (by rfl) _ blkZero ?_; intro g6 wa hr6 hbl hg6'; have hg6 : w2.heap.size ≤ g6 := Nat.le_trans hHeld.size hg6'
          have hSnew := Mem.bl_step hHeld hbl (by first | exact Nat.le_refl _ | omega | (simp <;> omega))
          refine hK.out _ _ ?_ (fun hHeld2 => ?_)
          · exact hSnew
          try replace ht := ht.below hbl
          try replace hr6 := hr6.below hbl
          clear hbl
          clear hK K hHeld hSnew
          have hHeld := hHeld2
          clear hHeld2
          try simp only [List.getElem_toArray, List.getElem_cons_succ, List.getElem_cons_zero, Act.put, List.setIfInBounds_toArray, List.set_cons_zero, List.set_cons_succ]
          refine wpAnyH_ready (rs := [3]) (by kernel_rfl) (by simp) ?_
          refine AllReadyH.cons rfl (fun K hK => ?_) AllReadyH.nil
          go_simp
          (refine (lay_any l b A5 f.length c5 f _ hl ht.sl_byte).mono ?_; rw [hY1.out]; rintro e wl ⟨rfl, hbl⟩; clear ht)
          try go_wp2_with fail
          have hSnew := Mem.bl_step hHeld hbl (by first | exact Nat.le_refl _ | omega | (simp <;> omega))
          refine hK.out _ _ ?_ (fun hHeld2 => ?_)
          · exact hSnew
          try replace ht := ht.below hbl
          try replace hr6 := hr6.below hbl
          clear hbl
          clear hK K hHeld hSnew
          have hHeld := hHeld2
          clear hHeld2
          try simp only [List.getElem_toArray, List.getElem_cons_succ, List.getElem_cons_zero, Act.put, List.setIfInBounds_toArray, List.set_cons_zero, List.set_cons_succ]
          refine wpAnyH_ready (rs := [5]) (by kernel_rfl) (by simp) ?_
          refine AllReadyH.cons rfl (fun K hK => ?_) AllReadyH.nil
          go_simp
          (refine (to_any a A c d _ (hd3.below hHeld) hc hn6).mono ?_; rintro e wt2 ⟨A6, c6, rfl, k1, k2, k3, k4, hbl⟩; have ht := k4.by_)
          try go_wp2_with fail
          have hSnew := Mem.bl_step hHeld hbl (by first | exact Nat.le_refl _ | omega | (simp <;> omega))
          refine hK.out _ _ ?_ (fun hHeld2 => ?_)
          · exact hSnew
          try replace ht := ht.below hbl
          try replace hr6 := hr6.below hbl
          clear hbl
          clear hK K hHeld hSnew
          have hHeld := hHeld2
          clear hHeld2
          try simp only [List.getElem_toArray, List.getElem_cons_succ, List.getElem_cons_zero, Act.put, List.setIfInBounds_toArray, List.set_cons_zero, List.set_cons_succ]
          refine wpAnyH_ready (rs := [6]) (by kernel_rfl) (by simp) ?_
          refine AllReadyH.cons rfl (fun K hK => ?_) AllReadyH.nil
          go_simp
          (refine (lay_any Y1 a A6 d.length c6 d _ hYl1 ht.sl_byte).mono ?_; rw [hY.out]; rintro e wl2 ⟨rfl, hbl⟩; clear ht)
          try go_wp2_with fail
          have hSnew := Mem.bl_step hHeld hbl (by first | exact Nat.le_refl _ | omega | (simp <;> omega))
          refine hK.out _ _ ?_ (fun hHeld2 => ?_)
          · exact hSnew
          try replace ht := ht.below hbl
          try replace hr6 := hr6.below hbl
          clear hbl
          clear hK K hHeld hSnew
          have hHeld := hHeld2
          clear hHeld2
          try simp only [List.getElem_toArray, List.getElem_cons_succ, List.getElem_cons_zero, Act.put, List.setIfInBounds_toArray, List.set_cons_zero, List.set_cons_succ]
          refine wpAnyH_ready (rs := [8]) (by kernel_rfl) (by simp) ?_
          refine AllReadyH.cons rfl (fun K hK => ?_) AllReadyH.nil
          rw [if_pos (by rfl)]
          refine wp_storeRow _ _ _ (by rfl) g6 (by rfl) (blk Y) (by rfl) (blk zblk) 28 256 blkSize hsY zblk_size (blk_one _) hr6 ?_; have hSnew := below_setRow hHeld hg6 (blk Y); have hr8 := hr6.set (blk Y)
          refine hK.out _ _ ?_ (fun hHeld2 => ?_)
          · exact hSnew
          clear hK K hHeld hSnew
          have hHeld := hHeld2
          clear hHeld2
          try simp only [List.getElem_toArray, List.getElem_cons_succ, List.getElem_cons_zero, Act.put, List.setIfInBounds_toArray, List.set_cons_zero, List.set_cons_succ]
          refine wpAnyH_done (by kernel_rfl) ?_ _
          go_wp2_with fail
          go_meet
          case rel => exact ⟨g6, rfl, hg6, hr8, (Below.refl _ _).drew.trans hHeld⟩
        exact AllReadyH.nil
      refine AllReadyH.cons rfl (fun K hK => ?_) ?_
      · skip
        rw [if_pos (by rfl)]
        refine wp_allocN 28 (by rfl) _ blkZero ?_; intro g6 wa hr6 hbl hg6'; have hg6 : w2.heap.size ≤ g6 := Nat.le_trans hHeld.size hg6'
        have hSnew := Mem.bl_step hHeld hbl (by first | exact Nat.le_refl _ | omega | (simp <;> omega))
        refine hK.out _ _ ?_ (fun hHeld2 => ?_)
        · exact hSnew
        try replace ht := ht.below hbl
        try replace hr6 := hr6.below hbl
        clear hbl
        clear hK K hHeld hSnew
        have hHeld := hHeld2
        clear hHeld2
        try simp only [List.getElem_toArray, List.getElem_cons_succ, List.getElem_cons_zero, Act.put, List.setIfInBounds_toArray, List.set_cons_zero, List.set_cons_succ]
        refine wpAnyH_ready (rs := [2]) (by kernel_rfl) (by simp) ?_
        refine AllReadyH.cons rfl (fun K hK => ?_) AllReadyH.nil
        go_simp
        (refine (to_any b A2 c2 f _ (hf3.below hHeld) hc2 hn7).mono ?_; rintro e wt ⟨A5, c5, rfl, k1, k2, k3, k4, hbl⟩; have ht := k4.by_)
        try go_wp2_with fail
        have hSnew := Mem.bl_step hHeld hbl (by first | exact Nat.le_refl _ | omega | (simp <;> omega))
        refine hK.out _ _ ?_ (fun hHeld2 => ?_)
        · exact hSnew
        try replace ht := ht.below hbl
        try replace hr6 := hr6.below hbl
        clear hbl
        clear hK K hHeld hSnew
        have hHeld := hHeld2
        clear hHeld2
        try simp only [List.getElem_toArray, List.getElem_cons_succ, List.getElem_cons_zero, Act.put, List.setIfInBounds_toArray, List.set_cons_zero, List.set_cons_succ]
        refine wpAnyH_ready (rs := [3]) (by kernel_rfl) (by simp) ?_
        refine AllReadyH.cons rfl (fun K hK => ?_) AllReadyH.nil
        go_simp
        (refine (lay_any l b A5 f.length c5 f _ hl ht.sl_byte).mono ?_; rw [hY1.out]; rintro e wl ⟨rfl, hbl⟩; clear ht)
        try go_wp2_with fail
        have hSnew := Mem.bl_step hHeld hbl (by first | exact Nat.le_refl _ | omega | (simp <;> omega))
        refine hK.out _ _ ?_ (fun hHeld2 => ?_)
        · exact hSnew
        try replace ht := ht.below hbl
        try replace hr6 := hr6.below hbl
        clear hbl
        clear hK K hHeld hSnew
        have hHeld := hHeld2
        clear hHeld2
        try simp only [List.getElem_toArray, List.getElem_cons_succ, List.getElem_cons_zero, Act.put, List.setIfInBounds_toArray, List.set_cons_zero, List.set_cons_succ]
        refine wpAnyH_ready (rs := [5]) (by kernel_rfl) (by simp) ?_
        refine AllReadyH.cons rfl (fun K hK => ?_) AllReadyH.nil
        go_simp
        (refine (to_any a A c d _ (hd3.below hHeld) hc hn6).mono ?_; rintro e wt2 ⟨A6, c6, rfl, k1, k2, k3, k4, hbl⟩; have ht := k4.by_)
        try go_wp2_with fail
        have hSnew := Mem.bl_step hHeld hbl (by first | exact Nat.le_refl _ | omega | (simp <;> omega))
        refine hK.out _ _ ?_ (fun hHeld2 => ?_)
        · exact hSnew
        try replace ht := ht.below hbl
        try replace hr6 := hr6.below hbl
        clear hbl
        clear hK K hHeld hSnew
        have hHeld := hHeld2
        clear hHeld2
        try simp only [List.getElem_toArray, List.getElem_cons_succ, List.getElem_cons_zero, Act.put, List.setIfInBounds_toArray, List.set_cons_zero, List.set_cons_succ]
        refine wpAnyH_ready (rs := [6]) (by kernel_rfl) (by simp) ?_
        refine AllReadyH.cons rfl (fun K hK => ?_) AllReadyH.nil
        go_simp
        (refine (lay_any Y1 a A6 d.length c6 d _ hYl1 ht.sl_byte).mono ?_; rw [hY.out]; rintro e wl2 ⟨rfl, hbl⟩; clear ht)
        try go_wp2_with fail
        have hSnew := Mem.bl_step hHeld hbl (by first | exact Nat.le_refl _ | omega | (simp <;> omega))
        refine hK.out _ _ ?_ (fun hHeld2 => ?_)
        · exact hSnew
        try replace ht := ht.below hbl
        try replace hr6 := hr6.below hbl
        clear hbl
        clear hK K hHeld hSnew
        have hHeld := hHeld2
        clear hHeld2
        try simp only [List.getElem_toArray, List.getElem_cons_succ, List.getElem_cons_zero, Act.put, List.setIfInBounds_toArray, List.set_cons_zero, List.set_cons_succ]
        refine wpAnyH_ready (rs := [8]) (by kernel_rfl) (by simp) ?_
        refine AllReadyH.cons rfl (fun K hK => ?_) AllReadyH.nil
        rw [if_pos (by rfl)]
        refine wp_storeRow _ _ _ (by rfl) g6 (by rfl) (blk Y) (by rfl) (blk zblk) 28 256 blkSize hsY zblk_size (blk_one _) hr6 ?_; have hSnew := below_setRow hHeld hg6 (blk Y); have hr8 := hr6.set (blk Y)
        refine hK.out _ _ ?_ (fun hHeld2 => ?_)
        · exact hSnew
        clear hK K hHeld hSnew
        have hHeld := hHeld2
        clear hHeld2
        try simp only [List.getElem_toArray, List.getElem_cons_succ, List.getElem_cons_zero, Act.put, List.setIfInBounds_toArray, List.set_cons_zero, List.set_cons_succ]
        refine wpAnyH_done (by kernel_rfl) ?_ _
        go_wp2_with fail
        go_meet
        case rel => exact ⟨g6, rfl, hg6, hr8, (Below.refl _ _).drew.trans hHeld⟩
      exact AllReadyH.nil
    case rest =>
      obtain ⟨g8, rfl, hg8, hr8, hb8⟩ := hcut
      have hb3 := hb2.trans (hb8.mono hb2.size)
      have t1 := s1.below hb8
      have t2 := s2.below hb8
      have x7 := hr7.below hb8
      have hd4 := (hd2.below hb8).drew
      have hf4 := (hf2.below hb8).drew
      clear s0 s1 s2 hb2 hd2 hf2 hd3 hf3 s0d s1d s2d hr7 hb8
      generalize wc = w3 at *
      have t1d := t1.drew
      have t2d := t2.drew
      have x7d := x7.drew
      have x8d := hr8.drew
      have hiX := blkSizeL X hXl
      have hiY := blkSizeL Y hYl
      have heqX : ∀ w, (Op.equalIn 10000 28 (.agg (blk X)) (.agg (blk X))).run Try.prog w = .ok true w := fun w => by rw [run_eq_blk X X hXl hXl, decide_eq_true rfl]
      have hgd := blkGuard
      have CM := Lib.hid (fun A5 c5 A6 c6 w' => meet_any a A5 d.length c5 b A6 f.length c6 w' hd.2.1 hf.2.1)
      have CC := Lib.hid (fun A5 c5 w' => check_any b A5 f.length c5 w' hf.2.1)
      have CW := Lib.hid (fun A5 c5 w' => was_any X b A5 f.length c5 w' hXl hXb hf.2.1)
      rw [hD.out, hwb.out] at CW
      have HL := Lib.hid (fun h => last_law X1 b f hXl1 h)
      rw [hX.out, hD.out, hwb.out] at HL
      have HS := Lib.hid (fun h => swap_law l a d b f hl h)
      rw [hX1.out, hX.out, hY1.out, hY.out] at HS
      clear hX1 hX hY1 hY hD hwb hl hXl1 hYl1
      cases h2 : rightN b f.length with
      | false =>
        rw [h2] at CC
        simp only [Bool.false_eq_true, if_false] at CC
        clear h2
        cases hm : meetB a d.length b f.length with
        | true =>
          rw [hm] at CM
          clear hm
          go_wp2_with fail
          refine wp_region_held_drew (S := Go.RowKit.Below ((w3.drew).heap.size) (w3.drew)) (by kernel_rfl) ?hb33 (fun hHeld => ?rest33)
          case hb33 =>
            exact Go.RowKit.Below.refl _ _
          case' rest33 => skip
          refine wpAnyH_take (i := 0) (v := ?v34) rfl (by kernel_rfl) (by kernel_rfl) (by kernel_rfl) (fun _ _ _ h => h) (Or.inl ⟨by rfl, ?y34⟩) (by assumption) ?rest34
          case y34 => (intro w hSw; have hT0 := (Mem.bl_row hSw t1d (by first | exact Mem.Row.lt t1d | omega | (simp <;> omega))).cell 0 rfl; have hT1 := (Mem.bl_row hSw t1d (by first | exact Mem.Row.lt t1d | omega | (simp <;> omega))).cell 1 rfl; have hT2 := (Mem.bl_row hSw t2d (by first | exact Mem.Row.lt t2d | omega | (simp <;> omega))).cell 0 rfl; have hT3 := (Mem.bl_row hSw t2d (by first | exact Mem.Row.lt t2d | omega | (simp <;> omega))).cell 1 rfl; clear hSw; go_simp; try with_reducible rfl)
          case' rest34 => skip
          try simp only [List.getElem_toArray, List.getElem_cons_succ, List.getElem_cons_zero, Act.put, List.setIfInBounds_toArray, List.set_cons_zero, List.set_cons_succ]
          refine wpAnyH_take (i := 2) (v := ?v35) rfl (by kernel_rfl) (by kernel_rfl) (by kernel_rfl) (fun _ _ _ h => h) (Or.inl ⟨by rfl, ?y35⟩) (by assumption) ?rest35
          case y35 => (intro w hSw; have hT0 := (Mem.bl_row hSw t1d (by first | exact Mem.Row.lt t1d | omega | (simp <;> omega))).cell 0 rfl; have hT1 := (Mem.bl_row hSw t1d (by first | exact Mem.Row.lt t1d | omega | (simp <;> omega))).cell 1 rfl; have hT2 := (Mem.bl_row hSw t2d (by first | exact Mem.Row.lt t2d | omega | (simp <;> omega))).cell 0 rfl; have hT3 := (Mem.bl_row hSw t2d (by first | exact Mem.Row.lt t2d | omega | (simp <;> omega))).cell 1 rfl; clear hSw; go_simp; try with_reducible rfl)
          case' rest35 => skip
          try simp only [List.getElem_toArray, List.getElem_cons_succ, List.getElem_cons_zero, Act.put, List.setIfInBounds_toArray, List.set_cons_zero, List.set_cons_succ]
          refine wpAnyH_ready (rs := [1]) (by kernel_rfl) (by simp) ?_
          refine AllReadyH.cons rfl (fun K hK => ?_) AllReadyH.nil
          go_simp
          (refine (to_any a A c d _ (hd4.below hHeld) hc hn6).mono ?_; rintro e wt ⟨A5, c5, rfl, k1, k2, k3, k4, hbl⟩)
          try go_wp2_with fail
          have hSnew := Mem.bl_step hHeld hbl (by first | exact Nat.le_refl _ | omega | (simp <;> omega))
          refine hK.out _ _ ?_ (fun hHeld2 => ?_)
          · exact hSnew
          clear hbl
          clear hK K hHeld hSnew
          have hHeld := hHeld2
          clear hHeld2
          try simp only [List.getElem_toArray, List.getElem_cons_succ, List.getElem_cons_zero, Act.put, List.setIfInBounds_toArray, List.set_cons_zero, List.set_cons_succ]
          refine wpAnyH_ready (rs := [3]) (by kernel_rfl) (by simp) ?_
          refine AllReadyH.cons rfl (fun K hK => ?_) AllReadyH.nil
          go_simp
          (refine (to_any b A2 c2 f _ (hf4.below hHeld) hc2 hn7).mono ?_; rintro e wt2 ⟨A6, c6, rfl, k1, k2, k3, k4, hbl⟩)
          try go_wp2_with fail
          have hSnew := Mem.bl_step hHeld hbl (by first | exact Nat.le_refl _ | omega | (simp <;> omega))
          refine hK.out _ _ ?_ (fun hHeld2 => ?_)
          · exact hSnew
          clear hbl
          clear hK K hHeld hSnew
          have hHeld := hHeld2
          clear hHeld2
          try simp only [List.getElem_toArray, List.getElem_cons_succ, List.getElem_cons_zero, Act.put, List.setIfInBounds_toArray, List.set_cons_zero, List.set_cons_succ]
          refine wpAnyH_ready (rs := [4]) (by kernel_rfl) (by simp) ?_
          refine AllReadyH.cons rfl (fun K hK => ?_) AllReadyH.nil
          go_simp
          (refine (CM.out A5 c5 A6 c6 _).mono ?_; rintro e wm ⟨rfl, hbl⟩)
          try go_wp2_with fail
          have hSnew := Mem.bl_step hHeld hbl (by first | exact Nat.le_refl _ | omega | (simp <;> omega))
          refine hK.out _ _ ?_ (fun hHeld2 => ?_)
          · exact hSnew
          clear hbl
          clear hK K hHeld hSnew
          have hHeld := hHeld2
          clear hHeld2
          try simp only [List.getElem_toArray, List.getElem_cons_succ, List.getElem_cons_zero, Act.put, List.setIfInBounds_toArray, List.set_cons_zero, List.set_cons_succ]
          refine wpAnyH_take (i := 5) (v := ?v36) rfl (by kernel_rfl) (by kernel_rfl) (by kernel_rfl) (fun _ _ _ h => h) (Or.inl ⟨by rfl, ?y36⟩) (by assumption) ?rest36
          case y36 => (intro w hSw; have hT0 := (Mem.bl_row hSw t1d (by first | exact Mem.Row.lt t1d | omega | (simp <;> omega))).cell 0 rfl; have hT1 := (Mem.bl_row hSw t1d (by first | exact Mem.Row.lt t1d | omega | (simp <;> omega))).cell 1 rfl; have hT2 := (Mem.bl_row hSw t2d (by first | exact Mem.Row.lt t2d | omega | (simp <;> omega))).cell 0 rfl; have hT3 := (Mem.bl_row hSw t2d (by first | exact Mem.Row.lt t2d | omega | (simp <;> omega))).cell 1 rfl; clear hSw; go_simp; try with_reducible rfl)
          case' rest36 => skip
          try simp only [List.getElem_toArray, List.getElem_cons_succ, List.getElem_cons_zero, Act.put, List.setIfInBounds_toArray, List.set_cons_zero, List.set_cons_succ]
          refine wpAnyH_take (i := 6) (v := ?v37) rfl (by kernel_rfl) (by kernel_rfl) (by kernel_rfl) (fun _ _ _ h => h) (Or.inl ⟨by rfl, ?y37⟩) (by assumption) ?rest37
          case y37 => (intro w hSw; have hT0 := (Mem.bl_row hSw t1d (by first | exact Mem.Row.lt t1d | omega | (simp <;> omega))).cell 0 rfl; have hT1 := (Mem.bl_row hSw t1d (by first | exact Mem.Row.lt t1d | omega | (simp <;> omega))).cell 1 rfl; have hT2 := (Mem.bl_row hSw t2d (by first | exact Mem.Row.lt t2d | omega | (simp <;> omega))).cell 0 rfl; have hT3 := (Mem.bl_row hSw t2d (by first | exact Mem.Row.lt t2d | omega | (simp <;> omega))).cell 1 rfl; clear hSw; go_simp; try with_reducible rfl)
          case' rest37 => skip
          try simp only [List.getElem_toArray, List.getElem_cons_succ, List.getElem_cons_zero, Act.put, List.setIfInBounds_toArray, List.set_cons_zero, List.set_cons_succ]
          first
            | refine' wpAnyH_take (i := 7) (v := _) rfl (by kernel_rfl) (by kernel_rfl) (by kernel_rfl) (fun _ _ _ h => h) (yieldsIf_load_mid (by rfl) _ _ rfl _ _ rfl _ _ (fun w hSw => (Mem.bl_row hSw x7d (by first | exact Mem.Row.lt x7d | omega | (simp <;> omega))).range) blkUnd rfl hiX) (by assumption) ?rest38
            | refine wpAnyH_take (i := 7) (v := undef) rfl (by kernel_rfl) (by kernel_rfl) (by kernel_rfl) (fun _ _ _ h => h) (Or.inr ⟨by rfl, rfl⟩) (by assumption) ?rest38
          case' rest38 => skip
          try simp only [List.getElem_toArray, List.getElem_cons_succ, List.getElem_cons_zero, Act.put, List.setIfInBounds_toArray, List.set_cons_zero, List.set_cons_succ]
          first
            | refine' wpAnyH_take (i := 8) (v := _) rfl (by kernel_rfl) (by kernel_rfl) (by kernel_rfl) (fun _ _ _ h => h) (yieldsIf_load_mid (by rfl) _ _ rfl _ _ rfl _ _ (fun w hSw => (Mem.bl_row hSw x8d (by first | exact Mem.Row.lt x8d | omega | (simp <;> omega))).range) blkUnd rfl hiX) (by assumption) ?rest39
            | refine wpAnyH_take (i := 8) (v := undef) rfl (by kernel_rfl) (by kernel_rfl) (by kernel_rfl) (fun _ _ _ h => h) (Or.inr ⟨by rfl, rfl⟩) (by assumption) ?rest39
          case' rest39 => skip
          try simp only [List.getElem_toArray, List.getElem_cons_succ, List.getElem_cons_zero, Act.put, List.setIfInBounds_toArray, List.set_cons_zero, List.set_cons_succ]
          first
            | refine wpAnyH_take (i := 9) (v := undef) rfl (by kernel_rfl) (by kernel_rfl) (by kernel_rfl) (fun _ _ _ h => h) (Or.inr ⟨by rfl, rfl⟩) (by assumption) ?rest40
            | (refine wpAnyH_take (i := 9) (v := ?v40) rfl (by kernel_rfl) (by kernel_rfl) (by kernel_rfl) (fun _ _ _ h => h) (Or.inl ⟨by rfl, ?y40⟩) (by assumption) ?rest40; case y40 => (intro w hSw; have hT0 := (Mem.bl_row hSw t1d (by first | exact Mem.Row.lt t1d | omega | (simp <;> omega))).cell 0 rfl; have hT1 := (Mem.bl_row hSw t1d (by first | exact Mem.Row.lt t1d | omega | (simp <;> omega))).cell 1 rfl; have hT2 := (Mem.bl_row hSw t2d (by first | exact Mem.Row.lt t2d | omega | (simp <;> omega))).cell 0 rfl; have hT3 := (Mem.bl_row hSw t2d (by first | exact Mem.Row.lt t2d | omega | (simp <;> omega))).cell 1 rfl; clear hSw; go_simp; try with_reducible rfl))
          case' rest40 => skip
          try simp only [List.getElem_toArray, List.getElem_cons_succ, List.getElem_cons_zero, Act.put, List.setIfInBounds_toArray, List.set_cons_zero, List.set_cons_succ]
          refine wpAnyH_take (i := 10) (v := ?v41) rfl (by kernel_rfl) (by kernel_rfl) (by kernel_rfl) (fun _ _ _ h => h) (Or.inl ⟨by rfl, ?y41⟩) (by assumption) ?rest41
          case y41 => (intro w hSw; have hT0 := (Mem.bl_row hSw t1d (by first | exact Mem.Row.lt t1d | omega | (simp <;> omega))).cell 0 rfl; have hT1 := (Mem.bl_row hSw t1d (by first | exact Mem.Row.lt t1d | omega | (simp <;> omega))).cell 1 rfl; have hT2 := (Mem.bl_row hSw t2d (by first | exact Mem.Row.lt t2d | omega | (simp <;> omega))).cell 0 rfl; have hT3 := (Mem.bl_row hSw t2d (by first | exact Mem.Row.lt t2d | omega | (simp <;> omega))).cell 1 rfl; clear hSw; go_simp; try with_reducible rfl)
          case' rest41 => skip
          try simp only [List.getElem_toArray, List.getElem_cons_succ, List.getElem_cons_zero, Act.put, List.setIfInBounds_toArray, List.set_cons_zero, List.set_cons_succ]
          refine wpAnyH_done (by kernel_rfl) ?_ _
          have hb5 := (Below.refl w3.heap.size w3).drew.trans hHeld
          have hb6 := hb3.trans (hb5.mono hb3.size)
          have u2 := (t2.below hb5).drew
          have x9 := (x7.below hb5).drew
          have hf5 : By wm.drew A2 f := (hf4.below hHeld).drew
          clear hHeld hb3 hb5
          go_wp2_with fail
          refine wp_region_held_drew (S := Go.RowKit.Below ((wm.drew).heap.size) (wm.drew)) (by kernel_rfl) ?hb45 (fun hHeld => ?rest45)
          case hb45 =>
            exact Go.RowKit.Below.refl _ _
          case' rest45 => skip
          refine wpAnyH_take (i := 0) (v := ?v46) rfl (by kernel_rfl) (by kernel_rfl) (by kernel_rfl) (fun _ _ _ h => h) (Or.inl ⟨by rfl, ?y46⟩) (by assumption) ?rest46
          case y46 => (intro w hSw; have hT0 := (Mem.bl_row hSw u2 (by first | exact Mem.Row.lt u2 | omega | (simp <;> omega))).cell 0 rfl; have hT1 := (Mem.bl_row hSw u2 (by first | exact Mem.Row.lt u2 | omega | (simp <;> omega))).cell 1 rfl; clear hSw; go_simp; try with_reducible rfl)
          case' rest46 => skip
          try simp only [List.getElem_toArray, List.getElem_cons_succ, List.getElem_cons_zero, Act.put, List.setIfInBounds_toArray, List.set_cons_zero, List.set_cons_succ]
          refine wpAnyH_ready (rs := [1]) (by kernel_rfl) (by simp) ?_
          refine AllReadyH.cons rfl (fun K hK => ?_) AllReadyH.nil
          go_simp
          (refine (to_any b A2 c2 f _ (hf5.below hHeld) hc2 hn7).mono ?_; rintro e wt3 ⟨A7, c7, rfl, k1, k2, k3, k4, hbl⟩)
          try go_wp2_with fail
          have hSnew := Mem.bl_step hHeld hbl (by first | exact Nat.le_refl _ | omega | (simp <;> omega))
          refine hK.out _ _ ?_ (fun hHeld2 => ?_)
          · exact hSnew
          clear hbl
          clear hK K hHeld hSnew
          have hHeld := hHeld2
          clear hHeld2
          try simp only [List.getElem_toArray, List.getElem_cons_succ, List.getElem_cons_zero, Act.put, List.setIfInBounds_toArray, List.set_cons_zero, List.set_cons_succ]
          refine wpAnyH_ready (rs := [2]) (by kernel_rfl) (by simp) ?_
          refine AllReadyH.cons rfl (fun K hK => ?_) AllReadyH.nil
          go_simp
          (refine (CC.out A7 c7 _).mono ?_; rintro e wc1 ⟨rfl, hbl⟩)
          try go_wp2_with fail
          have hSnew := Mem.bl_step hHeld hbl (by first | exact Nat.le_refl _ | omega | (simp <;> omega))
          refine hK.out _ _ ?_ (fun hHeld2 => ?_)
          · exact hSnew
          clear hbl
          clear hK K hHeld hSnew
          have hHeld := hHeld2
          clear hHeld2
          try simp only [List.getElem_toArray, List.getElem_cons_succ, List.getElem_cons_zero, Act.put, List.setIfInBounds_toArray, List.set_cons_zero, List.set_cons_succ]
          refine wpAnyH_take (i := 3) (v := ?v47) rfl (by kernel_rfl) (by kernel_rfl) (by kernel_rfl) (fun _ _ _ h => h) (Or.inl ⟨by rfl, ?y47⟩) (by assumption) ?rest47
          case y47 => (intro w hSw; have hT0 := (Mem.bl_row hSw u2 (by first | exact Mem.Row.lt u2 | omega | (simp <;> omega))).cell 0 rfl; have hT1 := (Mem.bl_row hSw u2 (by first | exact Mem.Row.lt u2 | omega | (simp <;> omega))).cell 1 rfl; clear hSw; go_simp; try with_reducible rfl)
          case' rest47 => skip
          try simp only [List.getElem_toArray, List.getElem_cons_succ, List.getElem_cons_zero, Act.put, List.setIfInBounds_toArray, List.set_cons_zero, List.set_cons_succ]
          refine wpAnyH_take (i := 4) (v := ?v48) rfl (by kernel_rfl) (by kernel_rfl) (by kernel_rfl) (fun _ _ _ h => h) (Or.inl ⟨by rfl, ?y48⟩) (by assumption) ?rest48
          case y48 => (intro w hSw; have hT0 := (Mem.bl_row hSw u2 (by first | exact Mem.Row.lt u2 | omega | (simp <;> omega))).cell 0 rfl; have hT1 := (Mem.bl_row hSw u2 (by first | exact Mem.Row.lt u2 | omega | (simp <;> omega))).cell 1 rfl; clear hSw; go_simp; try with_reducible rfl)
          case' rest48 => skip
          try simp only [List.getElem_toArray, List.getElem_cons_succ, List.getElem_cons_zero, Act.put, List.setIfInBounds_toArray, List.set_cons_zero, List.set_cons_succ]
          first
            | refine' wpAnyH_take (i := 5) (v := _) rfl (by kernel_rfl) (by kernel_rfl) (by kernel_rfl) (fun _ _ _ h => h) (yieldsIf_load_mid (by rfl) _ _ rfl _ _ rfl _ _ (fun w hSw => (Mem.bl_row hSw x9 (by first | exact Mem.Row.lt x9 | omega | (simp <;> omega))).range) blkUnd rfl hiX) (by assumption) ?rest49
            | refine wpAnyH_take (i := 5) (v := undef) rfl (by kernel_rfl) (by kernel_rfl) (by kernel_rfl) (fun _ _ _ h => h) (Or.inr ⟨by rfl, rfl⟩) (by assumption) ?rest49
          case' rest49 => skip
          try simp only [List.getElem_toArray, List.getElem_cons_succ, List.getElem_cons_zero, Act.put, List.setIfInBounds_toArray, List.set_cons_zero, List.set_cons_succ]
          first
            | refine wpAnyH_take (i := 6) (v := undef) rfl (by kernel_rfl) (by kernel_rfl) (by kernel_rfl) (fun _ _ _ h => h) (Or.inr ⟨by rfl, rfl⟩) (by assumption) ?rest50
            | (refine wpAnyH_take (i := 6) (v := ?v50) rfl (by kernel_rfl) (by kernel_rfl) (by kernel_rfl) (fun _ _ _ h => h) (Or.inl ⟨by rfl, ?y50⟩) (by assumption) ?rest50; case y50 => (intro w hSw; have hT0 := (Mem.bl_row hSw u2 (by first | exact Mem.Row.lt u2 | omega | (simp <;> omega))).cell 0 rfl; have hT1 := (Mem.bl_row hSw u2 (by first | exact Mem.Row.lt u2 | omega | (simp <;> omega))).cell 1 rfl; clear hSw; go_simp; try with_reducible rfl))
          case' rest50 => skip
          try simp only [List.getElem_toArray, List.getElem_cons_succ, List.getElem_cons_zero, Act.put, List.setIfInBounds_toArray, List.set_cons_zero, List.set_cons_succ]
          first
            | refine wpAnyH_take (i := 7) (v := undef) rfl (by kernel_rfl) (by kernel_rfl) (by kernel_rfl) (fun _ _ _ h => h) (Or.inr ⟨by rfl, rfl⟩) (by assumption) ?rest51
            | (refine wpAnyH_take (i := 7) (v := ?v51) rfl (by kernel_rfl) (by kernel_rfl) (by kernel_rfl) (fun _ _ _ h => h) (Or.inl ⟨by rfl, ?y51⟩) (by assumption) ?rest51; case y51 => (intro w hSw; have hT0 := (Mem.bl_row hSw u2 (by first | exact Mem.Row.lt u2 | omega | (simp <;> omega))).cell 0 rfl; have hT1 := (Mem.bl_row hSw u2 (by first | exact Mem.Row.lt u2 | omega | (simp <;> omega))).cell 1 rfl; clear hSw; go_simp; try with_reducible rfl))
          case' rest51 => skip
          try simp only [List.getElem_toArray, List.getElem_cons_succ, List.getElem_cons_zero, Act.put, List.setIfInBounds_toArray, List.set_cons_zero, List.set_cons_succ]
          first
            | refine wpAnyH_take (i := 8) (v := undef) rfl (by kernel_rfl) (by kernel_rfl) (by kernel_rfl) (fun _ _ _ h => h) (Or.inr ⟨by rfl, rfl⟩) (by assumption) ?rest52
            | (refine wpAnyH_take (i := 8) (v := ?v52) rfl (by kernel_rfl) (by kernel_rfl) (by kernel_rfl) (fun _ _ _ h => h) (Or.inl ⟨by rfl, ?y52⟩) (by assumption) ?rest52; case y52 => (intro w hSw; have hT0 := (Mem.bl_row hSw u2 (by first | exact Mem.Row.lt u2 | omega | (simp <;> omega))).cell 0 rfl; have hT1 := (Mem.bl_row hSw u2 (by first | exact Mem.Row.lt u2 | omega | (simp <;> omega))).cell 1 rfl; clear hSw; go_simp; try with_reducible rfl))
          case' rest52 => skip
          try simp only [List.getElem_toArray, List.getElem_cons_succ, List.getElem_cons_zero, Act.put, List.setIfInBounds_toArray, List.set_cons_zero, List.set_cons_succ]
          first
            | refine wpAnyH_take (i := 9) (v := undef) rfl (by kernel_rfl) (by kernel_rfl) (by kernel_rfl) (fun _ _ _ h => h) (Or.inr ⟨by rfl, rfl⟩) (by assumption) ?rest53
            | (refine wpAnyH_take (i := 9) (v := ?v53) rfl (by kernel_rfl) (by kernel_rfl) (by kernel_rfl) (fun _ _ _ h => h) (Or.inl ⟨by rfl, ?y53⟩) (by assumption) ?rest53; case y53 => (intro w hSw; have hT0 := (Mem.bl_row hSw u2 (by first | exact Mem.Row.lt u2 | omega | (simp <;> omega))).cell 0 rfl; have hT1 := (Mem.bl_row hSw u2 (by first | exact Mem.Row.lt u2 | omega | (simp <;> omega))).cell 1 rfl; clear hSw; go_simp; try with_reducible rfl))
          case' rest53 => skip
          try simp only [List.getElem_toArray, List.getElem_cons_succ, List.getElem_cons_zero, Act.put, List.setIfInBounds_toArray, List.set_cons_zero, List.set_cons_succ]
          first
            | refine wpAnyH_take (i := 10) (v := undef) rfl (by kernel_rfl) (by kernel_rfl) (by kernel_rfl) (fun _ _ _ h => h) (Or.inr ⟨by rfl, rfl⟩) (by assumption) ?rest54
            | (refine wpAnyH_take (i := 10) (v := ?v54) rfl (by kernel_rfl) (by kernel_rfl) (by kernel_rfl) (fun _ _ _ h => h) (Or.inl ⟨by rfl, ?y54⟩) (by assumption) ?rest54; case y54 => (intro w hSw; have hT0 := (Mem.bl_row hSw u2 (by first | exact Mem.Row.lt u2 | omega | (simp <;> omega))).cell 0 rfl; have hT1 := (Mem.bl_row hSw u2 (by first | exact Mem.Row.lt u2 | omega | (simp <;> omega))).cell 1 rfl; clear hSw; go_simp; try with_reducible rfl))
          case' rest54 => skip
          try simp only [List.getElem_toArray, List.getElem_cons_succ, List.getElem_cons_zero, Act.put, List.setIfInBounds_toArray, List.set_cons_zero, List.set_cons_succ]
          first
            | refine wpAnyH_take (i := 11) (v := undef) rfl (by kernel_rfl) (by kernel_rfl) (by kernel_rfl) (fun _ _ _ h => h) (Or.inr ⟨by rfl, rfl⟩) (by assumption) ?rest55
            | (refine wpAnyH_take (i := 11) (v := ?v55) rfl (by kernel_rfl) (by kernel_rfl) (by kernel_rfl) (fun _ _ _ h => h) (Or.inl ⟨by rfl, ?y55⟩) (by assumption) ?rest55; case y55 => (intro w hSw; have hT0 := (Mem.bl_row hSw u2 (by first | exact Mem.Row.lt u2 | omega | (simp <;> omega))).cell 0 rfl; have hT1 := (Mem.bl_row hSw u2 (by first | exact Mem.Row.lt u2 | omega | (simp <;> omega))).cell 1 rfl; clear hSw; go_simp; try with_reducible rfl))
          case' rest55 => skip
          try simp only [List.getElem_toArray, List.getElem_cons_succ, List.getElem_cons_zero, Act.put, List.setIfInBounds_toArray, List.set_cons_zero, List.set_cons_succ]
          first
            | refine wpAnyH_take (i := 12) (v := undef) rfl (by kernel_rfl) (by kernel_rfl) (by kernel_rfl) (fun _ _ _ h => h) (Or.inr ⟨by rfl, rfl⟩) (by assumption) ?rest56
            | (refine wpAnyH_take (i := 12) (v := ?v56) rfl (by kernel_rfl) (by kernel_rfl) (by kernel_rfl) (fun _ _ _ h => h) (Or.inl ⟨by rfl, ?y56⟩) (by assumption) ?rest56; case y56 => (intro w hSw; have hT0 := (Mem.bl_row hSw u2 (by first | exact Mem.Row.lt u2 | omega | (simp <;> omega))).cell 0 rfl; have hT1 := (Mem.bl_row hSw u2 (by first | exact Mem.Row.lt u2 | omega | (simp <;> omega))).cell 1 rfl; clear hSw; go_simp; try with_reducible rfl))
          case' rest56 => skip
          try simp only [List.getElem_toArray, List.getElem_cons_succ, List.getElem_cons_zero, Act.put, List.setIfInBounds_toArray, List.set_cons_zero, List.set_cons_succ]
          refine wpAnyH_take (i := 13) (v := ?v57) rfl (by kernel_rfl) (by kernel_rfl) (by kernel_rfl) (fun _ _ _ h => h) (Or.inl ⟨by rfl, ?y57⟩) (by assumption) ?rest57
          case y57 => (intro w hSw; have hT0 := (Mem.bl_row hSw u2 (by first | exact Mem.Row.lt u2 | omega | (simp <;> omega))).cell 0 rfl; have hT1 := (Mem.bl_row hSw u2 (by first | exact Mem.Row.lt u2 | omega | (simp <;> omega))).cell 1 rfl; clear hSw; go_simp; try with_reducible rfl)
          case' rest57 => skip
          try simp only [List.getElem_toArray, List.getElem_cons_succ, List.getElem_cons_zero, Act.put, List.setIfInBounds_toArray, List.set_cons_zero, List.set_cons_succ]
          refine wpAnyH_done (by kernel_rfl) ?_ _
          go_wp2_with (go_at_call 18; refine (works_any _).mono ?_; rintro e w' ⟨rfl, hbelW⟩)
          go_ret
          exact ⟨rfl, hb6.trans ((((Below.refl _ _).drew.trans hHeld).trans (hbelW.mono (Nat.le_trans (by exact Nat.le_refl _) hHeld.size))).mono hb6.size)⟩
        | false =>
          have e := HS.out hm
          subst e
          rw [hm] at CM
          clear hm
          go_wp2_with fail
          refine wp_region_held_drew (S := Go.RowKit.Below ((w3.drew).heap.size) (w3.drew)) (by kernel_rfl) ?hb62 (fun hHeld => ?rest62)
          case hb62 =>
            exact Go.RowKit.Below.refl _ _
          case' rest62 => skip
          refine wpAnyH_take (i := 0) (v := ?v63) rfl (by kernel_rfl) (by kernel_rfl) (by kernel_rfl) (fun _ _ _ h => h) (Or.inl ⟨by rfl, ?y63⟩) (by assumption) ?rest63
          case y63 => (intro w hSw; have hT0 := (Mem.bl_row hSw t1d (by first | exact Mem.Row.lt t1d | omega | (simp <;> omega))).cell 0 rfl; have hT1 := (Mem.bl_row hSw t1d (by first | exact Mem.Row.lt t1d | omega | (simp <;> omega))).cell 1 rfl; have hT2 := (Mem.bl_row hSw t2d (by first | exact Mem.Row.lt t2d | omega | (simp <;> omega))).cell 0 rfl; have hT3 := (Mem.bl_row hSw t2d (by first | exact Mem.Row.lt t2d | omega | (simp <;> omega))).cell 1 rfl; clear hSw; go_simp; try with_reducible rfl)
          case' rest63 => skip
          try simp only [List.getElem_toArray, List.getElem_cons_succ, List.getElem_cons_zero, Act.put, List.setIfInBounds_toArray, List.set_cons_zero, List.set_cons_succ]
          refine wpAnyH_take (i := 2) (v := ?v64) rfl (by kernel_rfl) (by kernel_rfl) (by kernel_rfl) (fun _ _ _ h => h) (Or.inl ⟨by rfl, ?y64⟩) (by assumption) ?rest64
          case y64 => (intro w hSw; have hT0 := (Mem.bl_row hSw t1d (by first | exact Mem.Row.lt t1d | omega | (simp <;> omega))).cell 0 rfl; have hT1 := (Mem.bl_row hSw t1d (by first | exact Mem.Row.lt t1d | omega | (simp <;> omega))).cell 1 rfl; have hT2 := (Mem.bl_row hSw t2d (by first | exact Mem.Row.lt t2d | omega | (simp <;> omega))).cell 0 rfl; have hT3 := (Mem.bl_row hSw t2d (by first | exact Mem.Row.lt t2d | omega | (simp <;> omega))).cell 1 rfl; clear hSw; go_simp; try with_reducible rfl)
          case' rest64 => skip
          try simp only [List.getElem_toArray, List.getElem_cons_succ, List.getElem_cons_zero, Act.put, List.setIfInBounds_toArray, List.set_cons_zero, List.set_cons_succ]
          refine wpAnyH_ready (rs := [1]) (by kernel_rfl) (by simp) ?_
          refine AllReadyH.cons rfl (fun K hK => ?_) AllReadyH.nil
          go_simp
          (refine (to_any a A c d _ (hd4.below hHeld) hc hn6).mono ?_; rintro e wt ⟨A5, c5, rfl, k1, k2, k3, k4, hbl⟩)
          try go_wp2_with fail
          have hSnew := Mem.bl_step hHeld hbl (by first | exact Nat.le_refl _ | omega | (simp <;> omega))
          refine hK.out _ _ ?_ (fun hHeld2 => ?_)
          · exact hSnew
          clear hbl
          clear hK K hHeld hSnew
          have hHeld := hHeld2
          clear hHeld2
          try simp only [List.getElem_toArray, List.getElem_cons_succ, List.getElem_cons_zero, Act.put, List.setIfInBounds_toArray, List.set_cons_zero, List.set_cons_succ]
          refine wpAnyH_ready (rs := [3]) (by kernel_rfl) (by simp) ?_
          refine AllReadyH.cons rfl (fun K hK => ?_) AllReadyH.nil
          go_simp
          (refine (to_any b A2 c2 f _ (hf4.below hHeld) hc2 hn7).mono ?_; rintro e wt2 ⟨A6, c6, rfl, k1, k2, k3, k4, hbl⟩)
          try go_wp2_with fail
          have hSnew := Mem.bl_step hHeld hbl (by first | exact Nat.le_refl _ | omega | (simp <;> omega))
          refine hK.out _ _ ?_ (fun hHeld2 => ?_)
          · exact hSnew
          clear hbl
          clear hK K hHeld hSnew
          have hHeld := hHeld2
          clear hHeld2
          try simp only [List.getElem_toArray, List.getElem_cons_succ, List.getElem_cons_zero, Act.put, List.setIfInBounds_toArray, List.set_cons_zero, List.set_cons_succ]
          refine wpAnyH_ready (rs := [4]) (by kernel_rfl) (by simp) ?_
          refine AllReadyH.cons rfl (fun K hK => ?_) AllReadyH.nil
          go_simp
          (refine (CM.out A5 c5 A6 c6 _).mono ?_; rintro e wm ⟨rfl, hbl⟩)
          try go_wp2_with fail
          have hSnew := Mem.bl_step hHeld hbl (by first | exact Nat.le_refl _ | omega | (simp <;> omega))
          refine hK.out _ _ ?_ (fun hHeld2 => ?_)
          · exact hSnew
          clear hbl
          clear hK K hHeld hSnew
          have hHeld := hHeld2
          clear hHeld2
          try simp only [List.getElem_toArray, List.getElem_cons_succ, List.getElem_cons_zero, Act.put, List.setIfInBounds_toArray, List.set_cons_zero, List.set_cons_succ]
          refine wpAnyH_take (i := 5) (v := ?v65) rfl (by kernel_rfl) (by kernel_rfl) (by kernel_rfl) (fun _ _ _ h => h) (Or.inl ⟨by rfl, ?y65⟩) (by assumption) ?rest65
          case y65 => (intro w hSw; have hT0 := (Mem.bl_row hSw t1d (by first | exact Mem.Row.lt t1d | omega | (simp <;> omega))).cell 0 rfl; have hT1 := (Mem.bl_row hSw t1d (by first | exact Mem.Row.lt t1d | omega | (simp <;> omega))).cell 1 rfl; have hT2 := (Mem.bl_row hSw t2d (by first | exact Mem.Row.lt t2d | omega | (simp <;> omega))).cell 0 rfl; have hT3 := (Mem.bl_row hSw t2d (by first | exact Mem.Row.lt t2d | omega | (simp <;> omega))).cell 1 rfl; clear hSw; go_simp; try with_reducible rfl)
          case' rest65 => skip
          try simp only [List.getElem_toArray, List.getElem_cons_succ, List.getElem_cons_zero, Act.put, List.setIfInBounds_toArray, List.set_cons_zero, List.set_cons_succ]
          refine wpAnyH_take (i := 6) (v := ?v66) rfl (by kernel_rfl) (by kernel_rfl) (by kernel_rfl) (fun _ _ _ h => h) (Or.inl ⟨by rfl, ?y66⟩) (by assumption) ?rest66
          case y66 => (intro w hSw; have hT0 := (Mem.bl_row hSw t1d (by first | exact Mem.Row.lt t1d | omega | (simp <;> omega))).cell 0 rfl; have hT1 := (Mem.bl_row hSw t1d (by first | exact Mem.Row.lt t1d | omega | (simp <;> omega))).cell 1 rfl; have hT2 := (Mem.bl_row hSw t2d (by first | exact Mem.Row.lt t2d | omega | (simp <;> omega))).cell 0 rfl; have hT3 := (Mem.bl_row hSw t2d (by first | exact Mem.Row.lt t2d | omega | (simp <;> omega))).cell 1 rfl; clear hSw; go_simp; try with_reducible rfl)
          case' rest66 => skip
          try simp only [List.getElem_toArray, List.getElem_cons_succ, List.getElem_cons_zero, Act.put, List.setIfInBounds_toArray, List.set_cons_zero, List.set_cons_succ]
          first
            | refine' wpAnyH_take (i := 7) (v := _) rfl (by kernel_rfl) (by kernel_rfl) (by kernel_rfl) (fun _ _ _ h => h) (yieldsIf_load_mid (by rfl) _ _ rfl _ _ rfl _ _ (fun w hSw => (Mem.bl_row hSw x7d (by first | exact Mem.Row.lt x7d | omega | (simp <;> omega))).range) blkUnd rfl hiX) (by assumption) ?rest67
            | refine wpAnyH_take (i := 7) (v := undef) rfl (by kernel_rfl) (by kernel_rfl) (by kernel_rfl) (fun _ _ _ h => h) (Or.inr ⟨by rfl, rfl⟩) (by assumption) ?rest67
          case' rest67 => skip
          try simp only [List.getElem_toArray, List.getElem_cons_succ, List.getElem_cons_zero, Act.put, List.setIfInBounds_toArray, List.set_cons_zero, List.set_cons_succ]
          first
            | refine' wpAnyH_take (i := 8) (v := _) rfl (by kernel_rfl) (by kernel_rfl) (by kernel_rfl) (fun _ _ _ h => h) (yieldsIf_load_mid (by rfl) _ _ rfl _ _ rfl _ _ (fun w hSw => (Mem.bl_row hSw x8d (by first | exact Mem.Row.lt x8d | omega | (simp <;> omega))).range) blkUnd rfl hiX) (by assumption) ?rest68
            | refine wpAnyH_take (i := 8) (v := undef) rfl (by kernel_rfl) (by kernel_rfl) (by kernel_rfl) (fun _ _ _ h => h) (Or.inr ⟨by rfl, rfl⟩) (by assumption) ?rest68
          case' rest68 => skip
          try simp only [List.getElem_toArray, List.getElem_cons_succ, List.getElem_cons_zero, Act.put, List.setIfInBounds_toArray, List.set_cons_zero, List.set_cons_succ]
          first
            | refine wpAnyH_take (i := 9) (v := undef) rfl (by kernel_rfl) (by kernel_rfl) (by kernel_rfl) (fun _ _ _ h => h) (Or.inr ⟨by rfl, rfl⟩) (by assumption) ?rest69
            | (refine wpAnyH_take (i := 9) (v := ?v69) rfl (by kernel_rfl) (by kernel_rfl) (by kernel_rfl) (fun _ _ _ h => h) (Or.inl ⟨by rfl, ?y69⟩) (by assumption) ?rest69; case y69 => (intro w hSw; have hT0 := (Mem.bl_row hSw t1d (by first | exact Mem.Row.lt t1d | omega | (simp <;> omega))).cell 0 rfl; have hT1 := (Mem.bl_row hSw t1d (by first | exact Mem.Row.lt t1d | omega | (simp <;> omega))).cell 1 rfl; have hT2 := (Mem.bl_row hSw t2d (by first | exact Mem.Row.lt t2d | omega | (simp <;> omega))).cell 0 rfl; have hT3 := (Mem.bl_row hSw t2d (by first | exact Mem.Row.lt t2d | omega | (simp <;> omega))).cell 1 rfl; clear hSw; go_simp; try with_reducible rfl))
          case' rest69 => skip
          try simp only [List.getElem_toArray, List.getElem_cons_succ, List.getElem_cons_zero, Act.put, List.setIfInBounds_toArray, List.set_cons_zero, List.set_cons_succ]
          refine wpAnyH_take (i := 10) (v := ?v70) rfl (by kernel_rfl) (by kernel_rfl) (by kernel_rfl) (fun _ _ _ h => h) (Or.inl ⟨by rfl, ?y70⟩) (by assumption) ?rest70
          case y70 => (intro w hSw; have hT0 := (Mem.bl_row hSw t1d (by first | exact Mem.Row.lt t1d | omega | (simp <;> omega))).cell 0 rfl; have hT1 := (Mem.bl_row hSw t1d (by first | exact Mem.Row.lt t1d | omega | (simp <;> omega))).cell 1 rfl; have hT2 := (Mem.bl_row hSw t2d (by first | exact Mem.Row.lt t2d | omega | (simp <;> omega))).cell 0 rfl; have hT3 := (Mem.bl_row hSw t2d (by first | exact Mem.Row.lt t2d | omega | (simp <;> omega))).cell 1 rfl; clear hSw; go_simp; try with_reducible rfl)
          case' rest70 => skip
          try simp only [List.getElem_toArray, List.getElem_cons_succ, List.getElem_cons_zero, Act.put, List.setIfInBounds_toArray, List.set_cons_zero, List.set_cons_succ]
          refine wpAnyH_done (by kernel_rfl) ?_ _
          have hb5 := (Below.refl w3.heap.size w3).drew.trans hHeld
          have hb6 := hb3.trans (hb5.mono hb3.size)
          have u2 := (t2.below hb5).drew
          have x9 := (x7.below hb5).drew
          have hf5 : By wm.drew A2 f := (hf4.below hHeld).drew
          clear hHeld hb3 hb5
          go_wp2_with fail
          refine wp_region_held_drew (S := Go.RowKit.Below ((wm.drew).heap.size) (wm.drew)) (by kernel_rfl) ?hb74 (fun hHeld => ?rest74)
          case hb74 =>
            exact Go.RowKit.Below.refl _ _
          case' rest74 => skip
          refine wpAnyH_take (i := 0) (v := ?v75) rfl (by kernel_rfl) (by kernel_rfl) (by kernel_rfl) (fun _ _ _ h => h) (Or.inl ⟨by rfl, ?y75⟩) (by assumption) ?rest75
          case y75 => (intro w hSw; have hT0 := (Mem.bl_row hSw u2 (by first | exact Mem.Row.lt u2 | omega | (simp <;> omega))).cell 0 rfl; have hT1 := (Mem.bl_row hSw u2 (by first | exact Mem.Row.lt u2 | omega | (simp <;> omega))).cell 1 rfl; clear hSw; go_simp; try with_reducible rfl)
          case' rest75 => skip
          try simp only [List.getElem_toArray, List.getElem_cons_succ, List.getElem_cons_zero, Act.put, List.setIfInBounds_toArray, List.set_cons_zero, List.set_cons_succ]
          refine wpAnyH_ready (rs := [1]) (by kernel_rfl) (by simp) ?_
          refine AllReadyH.cons rfl (fun K hK => ?_) AllReadyH.nil
          go_simp
          (refine (to_any b A2 c2 f _ (hf5.below hHeld) hc2 hn7).mono ?_; rintro e wt3 ⟨A7, c7, rfl, k1, k2, k3, k4, hbl⟩)
          try go_wp2_with fail
          have hSnew := Mem.bl_step hHeld hbl (by first | exact Nat.le_refl _ | omega | (simp <;> omega))
          refine hK.out _ _ ?_ (fun hHeld2 => ?_)
          · exact hSnew
          clear hbl
          clear hK K hHeld hSnew
          have hHeld := hHeld2
          clear hHeld2
          try simp only [List.getElem_toArray, List.getElem_cons_succ, List.getElem_cons_zero, Act.put, List.setIfInBounds_toArray, List.set_cons_zero, List.set_cons_succ]
          refine wpAnyH_ready (rs := [2]) (by kernel_rfl) (by simp) ?_
          refine AllReadyH.cons rfl (fun K hK => ?_) AllReadyH.nil
          go_simp
          (refine (CC.out A7 c7 _).mono ?_; rintro e wc1 ⟨rfl, hbl⟩)
          try go_wp2_with fail
          have hSnew := Mem.bl_step hHeld hbl (by first | exact Nat.le_refl _ | omega | (simp <;> omega))
          refine hK.out _ _ ?_ (fun hHeld2 => ?_)
          · exact hSnew
          clear hbl
          clear hK K hHeld hSnew
          have hHeld := hHeld2
          clear hHeld2
          try simp only [List.getElem_toArray, List.getElem_cons_succ, List.getElem_cons_zero, Act.put, List.setIfInBounds_toArray, List.set_cons_zero, List.set_cons_succ]
          refine wpAnyH_take (i := 3) (v := ?v76) rfl (by kernel_rfl) (by kernel_rfl) (by kernel_rfl) (fun _ _ _ h => h) (Or.inl ⟨by rfl, ?y76⟩) (by assumption) ?rest76
          case y76 => (intro w hSw; have hT0 := (Mem.bl_row hSw u2 (by first | exact Mem.Row.lt u2 | omega | (simp <;> omega))).cell 0 rfl; have hT1 := (Mem.bl_row hSw u2 (by first | exact Mem.Row.lt u2 | omega | (simp <;> omega))).cell 1 rfl; clear hSw; go_simp; try with_reducible rfl)
          case' rest76 => skip
          try simp only [List.getElem_toArray, List.getElem_cons_succ, List.getElem_cons_zero, Act.put, List.setIfInBounds_toArray, List.set_cons_zero, List.set_cons_succ]
          refine wpAnyH_take (i := 4) (v := ?v77) rfl (by kernel_rfl) (by kernel_rfl) (by kernel_rfl) (fun _ _ _ h => h) (Or.inl ⟨by rfl, ?y77⟩) (by assumption) ?rest77
          case y77 => (intro w hSw; have hT0 := (Mem.bl_row hSw u2 (by first | exact Mem.Row.lt u2 | omega | (simp <;> omega))).cell 0 rfl; have hT1 := (Mem.bl_row hSw u2 (by first | exact Mem.Row.lt u2 | omega | (simp <;> omega))).cell 1 rfl; clear hSw; go_simp; try with_reducible rfl)
          case' rest77 => skip
          try simp only [List.getElem_toArray, List.getElem_cons_succ, List.getElem_cons_zero, Act.put, List.setIfInBounds_toArray, List.set_cons_zero, List.set_cons_succ]
          first
            | refine' wpAnyH_take (i := 5) (v := _) rfl (by kernel_rfl) (by kernel_rfl) (by kernel_rfl) (fun _ _ _ h => h) (yieldsIf_load_mid (by rfl) _ _ rfl _ _ rfl _ _ (fun w hSw => (Mem.bl_row hSw x9 (by first | exact Mem.Row.lt x9 | omega | (simp <;> omega))).range) blkUnd rfl hiX) (by assumption) ?rest78
            | refine wpAnyH_take (i := 5) (v := undef) rfl (by kernel_rfl) (by kernel_rfl) (by kernel_rfl) (fun _ _ _ h => h) (Or.inr ⟨by rfl, rfl⟩) (by assumption) ?rest78
          case' rest78 => skip
          try simp only [List.getElem_toArray, List.getElem_cons_succ, List.getElem_cons_zero, Act.put, List.setIfInBounds_toArray, List.set_cons_zero, List.set_cons_succ]
          first
            | refine wpAnyH_take (i := 6) (v := undef) rfl (by kernel_rfl) (by kernel_rfl) (by kernel_rfl) (fun _ _ _ h => h) (Or.inr ⟨by rfl, rfl⟩) (by assumption) ?rest79
            | (refine wpAnyH_take (i := 6) (v := ?v79) rfl (by kernel_rfl) (by kernel_rfl) (by kernel_rfl) (fun _ _ _ h => h) (Or.inl ⟨by rfl, ?y79⟩) (by assumption) ?rest79; case y79 => (intro w hSw; have hT0 := (Mem.bl_row hSw u2 (by first | exact Mem.Row.lt u2 | omega | (simp <;> omega))).cell 0 rfl; have hT1 := (Mem.bl_row hSw u2 (by first | exact Mem.Row.lt u2 | omega | (simp <;> omega))).cell 1 rfl; clear hSw; go_simp; try with_reducible rfl))
          case' rest79 => skip
          try simp only [List.getElem_toArray, List.getElem_cons_succ, List.getElem_cons_zero, Act.put, List.setIfInBounds_toArray, List.set_cons_zero, List.set_cons_succ]
          first
            | refine wpAnyH_take (i := 7) (v := undef) rfl (by kernel_rfl) (by kernel_rfl) (by kernel_rfl) (fun _ _ _ h => h) (Or.inr ⟨by rfl, rfl⟩) (by assumption) ?rest80
            | (refine wpAnyH_take (i := 7) (v := ?v80) rfl (by kernel_rfl) (by kernel_rfl) (by kernel_rfl) (fun _ _ _ h => h) (Or.inl ⟨by rfl, ?y80⟩) (by assumption) ?rest80; case y80 => (intro w hSw; have hT0 := (Mem.bl_row hSw u2 (by first | exact Mem.Row.lt u2 | omega | (simp <;> omega))).cell 0 rfl; have hT1 := (Mem.bl_row hSw u2 (by first | exact Mem.Row.lt u2 | omega | (simp <;> omega))).cell 1 rfl; clear hSw; go_simp; try with_reducible rfl))
          case' rest80 => skip
          try simp only [List.getElem_toArray, List.getElem_cons_succ, List.getElem_cons_zero, Act.put, List.setIfInBounds_toArray, List.set_cons_zero, List.set_cons_succ]
          first
            | refine wpAnyH_take (i := 8) (v := undef) rfl (by kernel_rfl) (by kernel_rfl) (by kernel_rfl) (fun _ _ _ h => h) (Or.inr ⟨by rfl, rfl⟩) (by assumption) ?rest81
            | (refine wpAnyH_take (i := 8) (v := ?v81) rfl (by kernel_rfl) (by kernel_rfl) (by kernel_rfl) (fun _ _ _ h => h) (Or.inl ⟨by rfl, ?y81⟩) (by assumption) ?rest81; case y81 => (intro w hSw; have hT0 := (Mem.bl_row hSw u2 (by first | exact Mem.Row.lt u2 | omega | (simp <;> omega))).cell 0 rfl; have hT1 := (Mem.bl_row hSw u2 (by first | exact Mem.Row.lt u2 | omega | (simp <;> omega))).cell 1 rfl; clear hSw; go_simp; try with_reducible rfl))
          case' rest81 => skip
          try simp only [List.getElem_toArray, List.getElem_cons_succ, List.getElem_cons_zero, Act.put, List.setIfInBounds_toArray, List.set_cons_zero, List.set_cons_succ]
          first
            | refine wpAnyH_take (i := 9) (v := undef) rfl (by kernel_rfl) (by kernel_rfl) (by kernel_rfl) (fun _ _ _ h => h) (Or.inr ⟨by rfl, rfl⟩) (by assumption) ?rest82
            | (refine wpAnyH_take (i := 9) (v := ?v82) rfl (by kernel_rfl) (by kernel_rfl) (by kernel_rfl) (fun _ _ _ h => h) (Or.inl ⟨by rfl, ?y82⟩) (by assumption) ?rest82; case y82 => (intro w hSw; have hT0 := (Mem.bl_row hSw u2 (by first | exact Mem.Row.lt u2 | omega | (simp <;> omega))).cell 0 rfl; have hT1 := (Mem.bl_row hSw u2 (by first | exact Mem.Row.lt u2 | omega | (simp <;> omega))).cell 1 rfl; clear hSw; go_simp; try with_reducible rfl))
          case' rest82 => skip
          try simp only [List.getElem_toArray, List.getElem_cons_succ, List.getElem_cons_zero, Act.put, List.setIfInBounds_toArray, List.set_cons_zero, List.set_cons_succ]
          first
            | refine wpAnyH_take (i := 10) (v := undef) rfl (by kernel_rfl) (by kernel_rfl) (by kernel_rfl) (fun _ _ _ h => h) (Or.inr ⟨by rfl, rfl⟩) (by assumption) ?rest83
            | (refine wpAnyH_take (i := 10) (v := ?v83) rfl (by kernel_rfl) (by kernel_rfl) (by kernel_rfl) (fun _ _ _ h => h) (Or.inl ⟨by rfl, ?y83⟩) (by assumption) ?rest83; case y83 => (intro w hSw; have hT0 := (Mem.bl_row hSw u2 (by first | exact Mem.Row.lt u2 | omega | (simp <;> omega))).cell 0 rfl; have hT1 := (Mem.bl_row hSw u2 (by first | exact Mem.Row.lt u2 | omega | (simp <;> omega))).cell 1 rfl; clear hSw; go_simp; try with_reducible rfl))
          case' rest83 => skip
          try simp only [List.getElem_toArray, List.getElem_cons_succ, List.getElem_cons_zero, Act.put, List.setIfInBounds_toArray, List.set_cons_zero, List.set_cons_succ]
          first
            | refine wpAnyH_take (i := 11) (v := undef) rfl (by kernel_rfl) (by kernel_rfl) (by kernel_rfl) (fun _ _ _ h => h) (Or.inr ⟨by rfl, rfl⟩) (by assumption) ?rest84
            | (refine wpAnyH_take (i := 11) (v := ?v84) rfl (by kernel_rfl) (by kernel_rfl) (by kernel_rfl) (fun _ _ _ h => h) (Or.inl ⟨by rfl, ?y84⟩) (by assumption) ?rest84; case y84 => (intro w hSw; have hT0 := (Mem.bl_row hSw u2 (by first | exact Mem.Row.lt u2 | omega | (simp <;> omega))).cell 0 rfl; have hT1 := (Mem.bl_row hSw u2 (by first | exact Mem.Row.lt u2 | omega | (simp <;> omega))).cell 1 rfl; clear hSw; go_simp; try with_reducible rfl))
          case' rest84 => skip
          try simp only [List.getElem_toArray, List.getElem_cons_succ, List.getElem_cons_zero, Act.put, List.setIfInBounds_toArray, List.set_cons_zero, List.set_cons_succ]
          first
            | refine wpAnyH_take (i := 12) (v := undef) rfl (by kernel_rfl) (by kernel_rfl) (by kernel_rfl) (fun _ _ _ h => h) (Or.inr ⟨by rfl, rfl⟩) (by assumption) ?rest85
            | (refine wpAnyH_take (i := 12) (v := ?v85) rfl (by kernel_rfl) (by kernel_rfl) (by kernel_rfl) (fun _ _ _ h => h) (Or.inl ⟨by rfl, ?y85⟩) (by assumption) ?rest85; case y85 => (intro w hSw; have hT0 := (Mem.bl_row hSw u2 (by first | exact Mem.Row.lt u2 | omega | (simp <;> omega))).cell 0 rfl; have hT1 := (Mem.bl_row hSw u2 (by first | exact Mem.Row.lt u2 | omega | (simp <;> omega))).cell 1 rfl; clear hSw; go_simp; try with_reducible rfl))
          case' rest85 => skip
          try simp only [List.getElem_toArray, List.getElem_cons_succ, List.getElem_cons_zero, Act.put, List.setIfInBounds_toArray, List.set_cons_zero, List.set_cons_succ]
          refine wpAnyH_take (i := 13) (v := ?v86) rfl (by kernel_rfl) (by kernel_rfl) (by kernel_rfl) (fun _ _ _ h => h) (Or.inl ⟨by rfl, ?y86⟩) (by assumption) ?rest86
          case y86 => (intro w hSw; have hT0 := (Mem.bl_row hSw u2 (by first | exact Mem.Row.lt u2 | omega | (simp <;> omega))).cell 0 rfl; have hT1 := (Mem.bl_row hSw u2 (by first | exact Mem.Row.lt u2 | omega | (simp <;> omega))).cell 1 rfl; clear hSw; go_simp; try with_reducible rfl)
          case' rest86 => skip
          try simp only [List.getElem_toArray, List.getElem_cons_succ, List.getElem_cons_zero, Act.put, List.setIfInBounds_toArray, List.set_cons_zero, List.set_cons_succ]
          refine wpAnyH_done (by kernel_rfl) ?_ _
          go_wp2_with (go_at_call 18; refine (works_any _).mono ?_; rintro e w' ⟨rfl, hbelW⟩)
          go_ret
          exact ⟨rfl, hb6.trans ((((Below.refl _ _).drew.trans hHeld).trans (hbelW.mono (Nat.le_trans (by exact Nat.le_refl _) hHeld.size))).mono hb6.size)⟩
      | true =>
        rw [h2] at CC
        simp only [if_true] at CC
        have HV := Lib.hid (HL.out h2)
        clear h2
        cases hm : meetB a d.length b f.length with
        | true =>
          rw [hm] at CM
          clear hm
          go_wp2_with fail
          refine wp_region_held_drew (S := Go.RowKit.Below ((w3.drew).heap.size) (w3.drew)) (by kernel_rfl) ?hb91 (fun hHeld => ?rest91)
          case hb91 =>
            exact Go.RowKit.Below.refl _ _
          case' rest91 => skip
          refine wpAnyH_take (i := 0) (v := ?v92) rfl (by kernel_rfl) (by kernel_rfl) (by kernel_rfl) (fun _ _ _ h => h) (Or.inl ⟨by rfl, ?y92⟩) (by assumption) ?rest92
          case y92 => (intro w hSw; have hT0 := (Mem.bl_row hSw t1d (by first | exact Mem.Row.lt t1d | omega | (simp <;> omega))).cell 0 rfl; have hT1 := (Mem.bl_row hSw t1d (by first | exact Mem.Row.lt t1d | omega | (simp <;> omega))).cell 1 rfl; have hT2 := (Mem.bl_row hSw t2d (by first | exact Mem.Row.lt t2d | omega | (simp <;> omega))).cell 0 rfl; have hT3 := (Mem.bl_row hSw t2d (by first | exact Mem.Row.lt t2d | omega | (simp <;> omega))).cell 1 rfl; clear hSw; go_simp; try with_reducible rfl)
          case' rest92 => skip
          try simp only [List.getElem_toArray, List.getElem_cons_succ, List.getElem_cons_zero, Act.put, List.setIfInBounds_toArray, List.set_cons_zero, List.set_cons_succ]
          refine wpAnyH_take (i := 2) (v := ?v93) rfl (by kernel_rfl) (by kernel_rfl) (by kernel_rfl) (fun _ _ _ h => h) (Or.inl ⟨by rfl, ?y93⟩) (by assumption) ?rest93
          case y93 => (intro w hSw; have hT0 := (Mem.bl_row hSw t1d (by first | exact Mem.Row.lt t1d | omega | (simp <;> omega))).cell 0 rfl; have hT1 := (Mem.bl_row hSw t1d (by first | exact Mem.Row.lt t1d | omega | (simp <;> omega))).cell 1 rfl; have hT2 := (Mem.bl_row hSw t2d (by first | exact Mem.Row.lt t2d | omega | (simp <;> omega))).cell 0 rfl; have hT3 := (Mem.bl_row hSw t2d (by first | exact Mem.Row.lt t2d | omega | (simp <;> omega))).cell 1 rfl; clear hSw; go_simp; try with_reducible rfl)
          case' rest93 => skip
          try simp only [List.getElem_toArray, List.getElem_cons_succ, List.getElem_cons_zero, Act.put, List.setIfInBounds_toArray, List.set_cons_zero, List.set_cons_succ]
          refine wpAnyH_ready (rs := [1]) (by kernel_rfl) (by simp) ?_
          refine AllReadyH.cons rfl (fun K hK => ?_) AllReadyH.nil
          go_simp
          (refine (to_any a A c d _ (hd4.below hHeld) hc hn6).mono ?_; rintro e wt ⟨A5, c5, rfl, k1, k2, k3, k4, hbl⟩)
          try go_wp2_with fail
          have hSnew := Mem.bl_step hHeld hbl (by first | exact Nat.le_refl _ | omega | (simp <;> omega))
          refine hK.out _ _ ?_ (fun hHeld2 => ?_)
          · exact hSnew
          clear hbl
          clear hK K hHeld hSnew
          have hHeld := hHeld2
          clear hHeld2
          try simp only [List.getElem_toArray, List.getElem_cons_succ, List.getElem_cons_zero, Act.put, List.setIfInBounds_toArray, List.set_cons_zero, List.set_cons_succ]
          refine wpAnyH_ready (rs := [3]) (by kernel_rfl) (by simp) ?_
          refine AllReadyH.cons rfl (fun K hK => ?_) AllReadyH.nil
          go_simp
          (refine (to_any b A2 c2 f _ (hf4.below hHeld) hc2 hn7).mono ?_; rintro e wt2 ⟨A6, c6, rfl, k1, k2, k3, k4, hbl⟩)
          try go_wp2_with fail
          have hSnew := Mem.bl_step hHeld hbl (by first | exact Nat.le_refl _ | omega | (simp <;> omega))
          refine hK.out _ _ ?_ (fun hHeld2 => ?_)
          · exact hSnew
          clear hbl
          clear hK K hHeld hSnew
          have hHeld := hHeld2
          clear hHeld2
          try simp only [List.getElem_toArray, List.getElem_cons_succ, List.getElem_cons_zero, Act.put, List.setIfInBounds_toArray, List.set_cons_zero, List.set_cons_succ]
          refine wpAnyH_ready (rs := [4]) (by kernel_rfl) (by simp) ?_
          refine AllReadyH.cons rfl (fun K hK => ?_) AllReadyH.nil
          go_simp
          (refine (CM.out A5 c5 A6 c6 _).mono ?_; rintro e wm ⟨rfl, hbl⟩)
          try go_wp2_with fail
          have hSnew := Mem.bl_step hHeld hbl (by first | exact Nat.le_refl _ | omega | (simp <;> omega))
          refine hK.out _ _ ?_ (fun hHeld2 => ?_)
          · exact hSnew
          clear hbl
          clear hK K hHeld hSnew
          have hHeld := hHeld2
          clear hHeld2
          try simp only [List.getElem_toArray, List.getElem_cons_succ, List.getElem_cons_zero, Act.put, List.setIfInBounds_toArray, List.set_cons_zero, List.set_cons_succ]
          refine wpAnyH_take (i := 5) (v := ?v94) rfl (by kernel_rfl) (by kernel_rfl) (by kernel_rfl) (fun _ _ _ h => h) (Or.inl ⟨by rfl, ?y94⟩) (by assumption) ?rest94
          case y94 => (intro w hSw; have hT0 := (Mem.bl_row hSw t1d (by first | exact Mem.Row.lt t1d | omega | (simp <;> omega))).cell 0 rfl; have hT1 := (Mem.bl_row hSw t1d (by first | exact Mem.Row.lt t1d | omega | (simp <;> omega))).cell 1 rfl; have hT2 := (Mem.bl_row hSw t2d (by first | exact Mem.Row.lt t2d | omega | (simp <;> omega))).cell 0 rfl; have hT3 := (Mem.bl_row hSw t2d (by first | exact Mem.Row.lt t2d | omega | (simp <;> omega))).cell 1 rfl; clear hSw; go_simp; try with_reducible rfl)
          case' rest94 => skip
          try simp only [List.getElem_toArray, List.getElem_cons_succ, List.getElem_cons_zero, Act.put, List.setIfInBounds_toArray, List.set_cons_zero, List.set_cons_succ]
          refine wpAnyH_take (i := 6) (v := ?v95) rfl (by kernel_rfl) (by kernel_rfl) (by kernel_rfl) (fun _ _ _ h => h) (Or.inl ⟨by rfl, ?y95⟩) (by assumption) ?rest95
          case y95 => (intro w hSw; have hT0 := (Mem.bl_row hSw t1d (by first | exact Mem.Row.lt t1d | omega | (simp <;> omega))).cell 0 rfl; have hT1 := (Mem.bl_row hSw t1d (by first | exact Mem.Row.lt t1d | omega | (simp <;> omega))).cell 1 rfl; have hT2 := (Mem.bl_row hSw t2d (by first | exact Mem.Row.lt t2d | omega | (simp <;> omega))).cell 0 rfl; have hT3 := (Mem.bl_row hSw t2d (by first | exact Mem.Row.lt t2d | omega | (simp <;> omega))).cell 1 rfl; clear hSw; go_simp; try with_reducible rfl)
          case' rest95 => skip
          try simp only [List.getElem_toArray, List.getElem_cons_succ, List.getElem_cons_zero, Act.put, List.setIfInBounds_toArray, List.set_cons_zero, List.set_cons_succ]
          first
            | refine' wpAnyH_take (i := 7) (v := _) rfl (by kernel_rfl) (by kernel_rfl) (by kernel_rfl) (fun _ _ _ h => h) (yieldsIf_load_mid (by rfl) _ _ rfl _ _ rfl _ _ (fun w hSw => (Mem.bl_row hSw x7d (by first | exact Mem.Row.lt x7d | omega | (simp <;> omega))).range) blkUnd rfl hiX) (by assumption) ?rest96
            | refine wpAnyH_take (i := 7) (v := undef) rfl (by kernel_rfl) (by kernel_rfl) (by kernel_rfl) (fun _ _ _ h => h) (Or.inr ⟨by rfl, rfl⟩) (by assumption) ?rest96
          case' rest96 => skip
          try simp only [List.getElem_toArray, List.getElem_cons_succ, List.getElem_cons_zero, Act.put, List.setIfInBounds_toArray, List.set_cons_zero, List.set_cons_succ]
          first
            | refine' wpAnyH_take (i := 8) (v := _) rfl (by kernel_rfl) (by kernel_rfl) (by kernel_rfl) (fun _ _ _ h => h) (yieldsIf_load_mid (by rfl) _ _ rfl _ _ rfl _ _ (fun w hSw => (Mem.bl_row hSw x8d (by first | exact Mem.Row.lt x8d | omega | (simp <;> omega))).range) blkUnd rfl hiX) (by assumption) ?rest97
            | refine wpAnyH_take (i := 8) (v := undef) rfl (by kernel_rfl) (by kernel_rfl) (by kernel_rfl) (fun _ _ _ h => h) (Or.inr ⟨by rfl, rfl⟩) (by assumption) ?rest97
          case' rest97 => skip
          try simp only [List.getElem_toArray, List.getElem_cons_succ, List.getElem_cons_zero, Act.put, List.setIfInBounds_toArray, List.set_cons_zero, List.set_cons_succ]
          first
            | refine wpAnyH_take (i := 9) (v := undef) rfl (by kernel_rfl) (by kernel_rfl) (by kernel_rfl) (fun _ _ _ h => h) (Or.inr ⟨by rfl, rfl⟩) (by assumption) ?rest98
            | (refine wpAnyH_take (i := 9) (v := ?v98) rfl (by kernel_rfl) (by kernel_rfl) (by kernel_rfl) (fun _ _ _ h => h) (Or.inl ⟨by rfl, ?y98⟩) (by assumption) ?rest98; case y98 => (intro w hSw; have hT0 := (Mem.bl_row hSw t1d (by first | exact Mem.Row.lt t1d | omega | (simp <;> omega))).cell 0 rfl; have hT1 := (Mem.bl_row hSw t1d (by first | exact Mem.Row.lt t1d | omega | (simp <;> omega))).cell 1 rfl; have hT2 := (Mem.bl_row hSw t2d (by first | exact Mem.Row.lt t2d | omega | (simp <;> omega))).cell 0 rfl; have hT3 := (Mem.bl_row hSw t2d (by first | exact Mem.Row.lt t2d | omega | (simp <;> omega))).cell 1 rfl; clear hSw; go_simp; try with_reducible rfl))
          case' rest98 => skip
          try simp only [List.getElem_toArray, List.getElem_cons_succ, List.getElem_cons_zero, Act.put, List.setIfInBounds_toArray, List.set_cons_zero, List.set_cons_succ]
          refine wpAnyH_take (i := 10) (v := ?v99) rfl (by kernel_rfl) (by kernel_rfl) (by kernel_rfl) (fun _ _ _ h => h) (Or.inl ⟨by rfl, ?y99⟩) (by assumption) ?rest99
          case y99 => (intro w hSw; have hT0 := (Mem.bl_row hSw t1d (by first | exact Mem.Row.lt t1d | omega | (simp <;> omega))).cell 0 rfl; have hT1 := (Mem.bl_row hSw t1d (by first | exact Mem.Row.lt t1d | omega | (simp <;> omega))).cell 1 rfl; have hT2 := (Mem.bl_row hSw t2d (by first | exact Mem.Row.lt t2d | omega | (simp <;> omega))).cell 0 rfl; have hT3 := (Mem.bl_row hSw t2d (by first | exact Mem.Row.lt t2d | omega | (simp <;> omega))).cell 1 rfl; clear hSw; go_simp; try with_reducible rfl)
          case' rest99 => skip
          try simp only [List.getElem_toArray, List.getElem_cons_succ, List.getElem_cons_zero, Act.put, List.setIfInBounds_toArray, List.set_cons_zero, List.set_cons_succ]
          refine wpAnyH_done (by kernel_rfl) ?_ _
          have hb5 := (Below.refl w3.heap.size w3).drew.trans hHeld
          have hb6 := hb3.trans (hb5.mono hb3.size)
          have u2 := (t2.below hb5).drew
          have x9 := (x7.below hb5).drew
          have hf5 : By wm.drew A2 f := (hf4.below hHeld).drew
          clear hHeld hb3 hb5
          go_wp2_with fail
          refine wp_region_held_drew (S := Go.RowKit.Below ((wm.drew).heap.size) (wm.drew)) (by kernel_rfl) ?hb107 (fun hHeld => ?rest107)
          case hb107 =>
            exact Go.RowKit.Below.refl _ _
          case' rest107 => skip
          refine wpAnyH_take (i := 0) (v := ?v108) rfl (by kernel_rfl) (by kernel_rfl) (by kernel_rfl) (fun _ _ _ h => h) (Or.inl ⟨by rfl, ?y108⟩) (by assumption) ?rest108
          case y108 => (intro w hSw; have hT0 := (Mem.bl_row hSw u2 (by first | exact Mem.Row.lt u2 | omega | (simp <;> omega))).cell 0 rfl; have hT1 := (Mem.bl_row hSw u2 (by first | exact Mem.Row.lt u2 | omega | (simp <;> omega))).cell 1 rfl; clear hSw; go_simp; try with_reducible rfl)
          case' rest108 => skip
          try simp only [List.getElem_toArray, List.getElem_cons_succ, List.getElem_cons_zero, Act.put, List.setIfInBounds_toArray, List.set_cons_zero, List.set_cons_succ]
          refine wpAnyH_ready (rs := [1]) (by kernel_rfl) (by simp) ?_
          refine AllReadyH.cons rfl (fun K hK => ?_) AllReadyH.nil
          go_simp
          (refine (to_any b A2 c2 f _ (hf5.below hHeld) hc2 hn7).mono ?_; rintro e wt3 ⟨A7, c7, rfl, k1, k2, k3, k4, hbl⟩)
          try go_wp2_with fail
          have hSnew := Mem.bl_step hHeld hbl (by first | exact Nat.le_refl _ | omega | (simp <;> omega))
          refine hK.out _ _ ?_ (fun hHeld2 => ?_)
          · exact hSnew
          clear hbl
          clear hK K hHeld hSnew
          have hHeld := hHeld2
          clear hHeld2
          try simp only [List.getElem_toArray, List.getElem_cons_succ, List.getElem_cons_zero, Act.put, List.setIfInBounds_toArray, List.set_cons_zero, List.set_cons_succ]
          refine wpAnyH_ready (rs := [2]) (by kernel_rfl) (by simp) ?_
          refine AllReadyH.cons rfl (fun K hK => ?_) AllReadyH.nil
          go_simp
          (refine (CC.out A7 c7 _).mono ?_; rintro e wc1 ⟨rfl, hbl⟩)
          try go_wp2_with fail
          have hSnew := Mem.bl_step hHeld hbl (by first | exact Nat.le_refl _ | omega | (simp <;> omega))
          refine hK.out _ _ ?_ (fun hHeld2 => ?_)
          · exact hSnew
          clear hbl
          clear hK K hHeld hSnew
          have hHeld := hHeld2
          clear hHeld2
          try simp only [List.getElem_toArray, List.getElem_cons_succ, List.getElem_cons_zero, Act.put, List.setIfInBounds_toArray, List.set_cons_zero, List.set_cons_succ]
          refine wpAnyH_take (i := 3) (v := ?v109) rfl (by kernel_rfl) (by kernel_rfl) (by kernel_rfl) (fun _ _ _ h => h) (Or.inl ⟨by rfl, ?y109⟩) (by assumption) ?rest109
          case y109 => (intro w hSw; have hT0 := (Mem.bl_row hSw u2 (by first | exact Mem.Row.lt u2 | omega | (simp <;> omega))).cell 0 rfl; have hT1 := (Mem.bl_row hSw u2 (by first | exact Mem.Row.lt u2 | omega | (simp <;> omega))).cell 1 rfl; clear hSw; go_simp; try with_reducible rfl)
          case' rest109 => skip
          try simp only [List.getElem_toArray, List.getElem_cons_succ, List.getElem_cons_zero, Act.put, List.setIfInBounds_toArray, List.set_cons_zero, List.set_cons_succ]
          refine wpAnyH_take (i := 4) (v := ?v110) rfl (by kernel_rfl) (by kernel_rfl) (by kernel_rfl) (fun _ _ _ h => h) (Or.inl ⟨by rfl, ?y110⟩) (by assumption) ?rest110
          case y110 => (intro w hSw; have hT0 := (Mem.bl_row hSw u2 (by first | exact Mem.Row.lt u2 | omega | (simp <;> omega))).cell 0 rfl; have hT1 := (Mem.bl_row hSw u2 (by first | exact Mem.Row.lt u2 | omega | (simp <;> omega))).cell 1 rfl; clear hSw; go_simp; try with_reducible rfl)
          case' rest110 => skip
          try simp only [List.getElem_toArray, List.getElem_cons_succ, List.getElem_cons_zero, Act.put, List.setIfInBounds_toArray, List.set_cons_zero, List.set_cons_succ]
          first
            | refine' wpAnyH_take (i := 5) (v := _) rfl (by kernel_rfl) (by kernel_rfl) (by kernel_rfl) (fun _ _ _ h => h) (yieldsIf_load_mid (by rfl) _ _ rfl _ _ rfl _ _ (fun w hSw => (Mem.bl_row hSw x9 (by first | exact Mem.Row.lt x9 | omega | (simp <;> omega))).range) blkUnd rfl hiX) (by assumption) ?rest111
            | refine wpAnyH_take (i := 5) (v := undef) rfl (by kernel_rfl) (by kernel_rfl) (by kernel_rfl) (fun _ _ _ h => h) (Or.inr ⟨by rfl, rfl⟩) (by assumption) ?rest111
          case' rest111 => skip
          try simp only [List.getElem_toArray, List.getElem_cons_succ, List.getElem_cons_zero, Act.put, List.setIfInBounds_toArray, List.set_cons_zero, List.set_cons_succ]
          first
            | refine wpAnyH_take (i := 6) (v := undef) rfl (by kernel_rfl) (by kernel_rfl) (by kernel_rfl) (fun _ _ _ h => h) (Or.inr ⟨by rfl, rfl⟩) (by assumption) ?rest112
            | (refine wpAnyH_take (i := 6) (v := ?v112) rfl (by kernel_rfl) (by kernel_rfl) (by kernel_rfl) (fun _ _ _ h => h) (Or.inl ⟨by rfl, ?y112⟩) (by assumption) ?rest112; case y112 => (intro w hSw; have hT0 := (Mem.bl_row hSw u2 (by first | exact Mem.Row.lt u2 | omega | (simp <;> omega))).cell 0 rfl; have hT1 := (Mem.bl_row hSw u2 (by first | exact Mem.Row.lt u2 | omega | (simp <;> omega))).cell 1 rfl; clear hSw; go_simp; try with_reducible rfl))
          case' rest112 => skip
          try simp only [List.getElem_toArray, List.getElem_cons_succ, List.getElem_cons_zero, Act.put, List.setIfInBounds_toArray, List.set_cons_zero, List.set_cons_succ]
          first
            | refine wpAnyH_take (i := 9) (v := undef) rfl (by kernel_rfl) (by kernel_rfl) (by kernel_rfl) (fun _ _ _ h => h) (Or.inr ⟨by rfl, rfl⟩) (by assumption) ?rest113
            | (refine wpAnyH_take (i := 9) (v := ?v113) rfl (by kernel_rfl) (by kernel_rfl) (by kernel_rfl) (fun _ _ _ h => h) (Or.inl ⟨by rfl, ?y113⟩) (by assumption) ?rest113; case y113 => (intro w hSw; have hT0 := (Mem.bl_row hSw u2 (by first | exact Mem.Row.lt u2 | omega | (simp <;> omega))).cell 0 rfl; have hT1 := (Mem.bl_row hSw u2 (by first | exact Mem.Row.lt u2 | omega | (simp <;> omega))).cell 1 rfl; clear hSw; go_simp; try with_reducible rfl))
          case' rest113 => skip
          try simp only [List.getElem_toArray, List.getElem_cons_succ, List.getElem_cons_zero, Act.put, List.setIfInBounds_toArray, List.set_cons_zero, List.set_cons_succ]
          refine wpAnyH_ready (rs := [7]) (by kernel_rfl) (by simp) ?_
          refine AllReadyH.cons rfl (fun K hK => ?_) AllReadyH.nil
          go_simp
          (refine (to_any b A2 c2 f _ (hf5.below hHeld) hc2 hn7).mono ?_; rintro e wt4 ⟨A8, c8, rfl, j1, j2, j3, j4, hbl⟩)
          try go_wp2_with fail
          have hSnew := Mem.bl_step hHeld hbl (by first | exact Nat.le_refl _ | omega | (simp <;> omega))
          refine hK.out _ _ ?_ (fun hHeld2 => ?_)
          · exact hSnew
          clear hbl
          clear hK K hHeld hSnew
          have hHeld := hHeld2
          clear hHeld2
          try simp only [List.getElem_toArray, List.getElem_cons_succ, List.getElem_cons_zero, Act.put, List.setIfInBounds_toArray, List.set_cons_zero, List.set_cons_succ]
          refine wpAnyH_ready (rs := [8]) (by kernel_rfl) (by simp) ?_
          refine AllReadyH.cons rfl (fun K hK => ?_) AllReadyH.nil
          go_simp
          (refine (CW.out A8 c8 _).mono ?_; rintro e ws ⟨A9, c9, rfl, i1, i2, i3, i4, hbl⟩; have hw9 := i4.by_)
          try go_wp2_with fail
          have hSnew := Mem.bl_step hHeld hbl (by first | exact Nat.le_refl _ | omega | (simp <;> omega))
          refine hK.out _ _ ?_ (fun hHeld2 => ?_)
          · exact hSnew
          clear hbl
          clear hK K hHeld hSnew
          have hHeld := hHeld2
          clear hHeld2
          try simp only [List.getElem_toArray, List.getElem_cons_succ, List.getElem_cons_zero, Act.put, List.setIfInBounds_toArray, List.set_cons_zero, List.set_cons_succ]
          refine wpAnyH_ready (rs := [10]) (by kernel_rfl) (by simp) ?_
          refine AllReadyH.cons rfl (fun K hK => ?_) AllReadyH.nil
          go_simp
          (refine (to_any b A2 c2 f _ (hf5.below hHeld) hc2 hn7).mono ?_; rintro e wt5 ⟨A10, c10, rfl, m1, m2, m3, m4, hbl⟩; replace hw9 := hw9.below hbl; have hw10 := m4.by_)
          try go_wp2_with fail
          have hSnew := Mem.bl_step hHeld hbl (by first | exact Nat.le_refl _ | omega | (simp <;> omega))
          refine hK.out _ _ ?_ (fun hHeld2 => ?_)
          · exact hSnew
          clear hbl
          clear hK K hHeld hSnew
          have hHeld := hHeld2
          clear hHeld2
          try simp only [List.getElem_toArray, List.getElem_cons_succ, List.getElem_cons_zero, Act.put, List.setIfInBounds_toArray, List.set_cons_zero, List.set_cons_succ]
          refine wpAnyH_ready (rs := [11]) (by kernel_rfl) (by simp) ?_
          refine AllReadyH.cons rfl (fun K hK => ?_) AllReadyH.nil
          go_simp
          (refine (psame_any wb A9 c9 D b A10 c10 f _ (hw9) hw10).mono ?_; rw [HV.out]; rintro e wz ⟨rfl, hbl⟩)
          try go_wp2_with fail
          have hSnew := Mem.bl_step hHeld hbl (by first | exact Nat.le_refl _ | omega | (simp <;> omega))
          refine hK.out _ _ ?_ (fun hHeld2 => ?_)
          · exact hSnew
          clear hbl
          clear hK K hHeld hSnew
          have hHeld := hHeld2
          clear hHeld2
          try simp only [List.getElem_toArray, List.getElem_cons_succ, List.getElem_cons_zero, Act.put, List.setIfInBounds_toArray, List.set_cons_zero, List.set_cons_succ]
          first
            | refine wpAnyH_take (i := 12) (v := undef) rfl (by kernel_rfl) (by kernel_rfl) (by kernel_rfl) (fun _ _ _ h => h) (Or.inr ⟨by rfl, rfl⟩) (by assumption) ?rest114
            | (refine wpAnyH_take (i := 12) (v := ?v114) rfl (by kernel_rfl) (by kernel_rfl) (by kernel_rfl) (fun _ _ _ h => h) (Or.inl ⟨by rfl, ?y114⟩) (by assumption) ?rest114; case y114 => (intro w hSw; have hT0 := (Mem.bl_row hSw u2 (by first | exact Mem.Row.lt u2 | omega | (simp <;> omega))).cell 0 rfl; have hT1 := (Mem.bl_row hSw u2 (by first | exact Mem.Row.lt u2 | omega | (simp <;> omega))).cell 1 rfl; clear hSw; go_simp; try with_reducible rfl))
          case' rest114 => skip
          try simp only [List.getElem_toArray, List.getElem_cons_succ, List.getElem_cons_zero, Act.put, List.setIfInBounds_toArray, List.set_cons_zero, List.set_cons_succ]
          refine wpAnyH_take (i := 13) (v := ?v115) rfl (by kernel_rfl) (by kernel_rfl) (by kernel_rfl) (fun _ _ _ h => h) (Or.inl ⟨by rfl, ?y115⟩) (by assumption) ?rest115
          case y115 => (intro w hSw; have hT0 := (Mem.bl_row hSw u2 (by first | exact Mem.Row.lt u2 | omega | (simp <;> omega))).cell 0 rfl; have hT1 := (Mem.bl_row hSw u2 (by first | exact Mem.Row.lt u2 | omega | (simp <;> omega))).cell 1 rfl; clear hSw; go_simp; try with_reducible rfl)
          case' rest115 => skip
          try simp only [List.getElem_toArray, List.getElem_cons_succ, List.getElem_cons_zero, Act.put, List.setIfInBounds_toArray, List.set_cons_zero, List.set_cons_succ]
          refine wpAnyH_done (by kernel_rfl) ?_ _
          go_wp2_with (go_at_call 18; refine (works_any _).mono ?_; rintro e w' ⟨rfl, hbelW⟩)
          go_ret
          exact ⟨rfl, hb6.trans ((((Below.refl _ _).drew.trans hHeld).trans (hbelW.mono (Nat.le_trans (by exact Nat.le_refl _) hHeld.size))).mono hb6.size)⟩
        | false =>
          have e := HS.out hm
          subst e
          rw [hm] at CM
          clear hm
          go_wp2_with fail
          refine wp_region_held_drew (S := Go.RowKit.Below ((w3.drew).heap.size) (w3.drew)) (by kernel_rfl) ?hb120 (fun hHeld => ?rest120)
          case hb120 =>
            exact Go.RowKit.Below.refl _ _
          case' rest120 => skip
          refine wpAnyH_take (i := 0) (v := ?v121) rfl (by kernel_rfl) (by kernel_rfl) (by kernel_rfl) (fun _ _ _ h => h) (Or.inl ⟨by rfl, ?y121⟩) (by assumption) ?rest121
          case y121 => (intro w hSw; have hT0 := (Mem.bl_row hSw t1d (by first | exact Mem.Row.lt t1d | omega | (simp <;> omega))).cell 0 rfl; have hT1 := (Mem.bl_row hSw t1d (by first | exact Mem.Row.lt t1d | omega | (simp <;> omega))).cell 1 rfl; have hT2 := (Mem.bl_row hSw t2d (by first | exact Mem.Row.lt t2d | omega | (simp <;> omega))).cell 0 rfl; have hT3 := (Mem.bl_row hSw t2d (by first | exact Mem.Row.lt t2d | omega | (simp <;> omega))).cell 1 rfl; clear hSw; go_simp; try with_reducible rfl)
          case' rest121 => skip
          try simp only [List.getElem_toArray, List.getElem_cons_succ, List.getElem_cons_zero, Act.put, List.setIfInBounds_toArray, List.set_cons_zero, List.set_cons_succ]
          refine wpAnyH_take (i := 2) (v := ?v122) rfl (by kernel_rfl) (by kernel_rfl) (by kernel_rfl) (fun _ _ _ h => h) (Or.inl ⟨by rfl, ?y122⟩) (by assumption) ?rest122
          case y122 => (intro w hSw; have hT0 := (Mem.bl_row hSw t1d (by first | exact Mem.Row.lt t1d | omega | (simp <;> omega))).cell 0 rfl; have hT1 := (Mem.bl_row hSw t1d (by first | exact Mem.Row.lt t1d | omega | (simp <;> omega))).cell 1 rfl; have hT2 := (Mem.bl_row hSw t2d (by first | exact Mem.Row.lt t2d | omega | (simp <;> omega))).cell 0 rfl; have hT3 := (Mem.bl_row hSw t2d (by first | exact Mem.Row.lt t2d | omega | (simp <;> omega))).cell 1 rfl; clear hSw; go_simp; try with_reducible rfl)
          case' rest122 => skip
          try simp only [List.getElem_toArray, List.getElem_cons_succ, List.getElem_cons_zero, Act.put, List.setIfInBounds_toArray, List.set_cons_zero, List.set_cons_succ]
          refine wpAnyH_ready (rs := [1]) (by kernel_rfl) (by simp) ?_
          refine AllReadyH.cons rfl (fun K hK => ?_) AllReadyH.nil
          go_simp
          (refine (to_any a A c d _ (hd4.below hHeld) hc hn6).mono ?_; rintro e wt ⟨A5, c5, rfl, k1, k2, k3, k4, hbl⟩)
          try go_wp2_with fail
          have hSnew := Mem.bl_step hHeld hbl (by first | exact Nat.le_refl _ | omega | (simp <;> omega))
          refine hK.out _ _ ?_ (fun hHeld2 => ?_)
          · exact hSnew
          clear hbl
          clear hK K hHeld hSnew
          have hHeld := hHeld2
          clear hHeld2
          try simp only [List.getElem_toArray, List.getElem_cons_succ, List.getElem_cons_zero, Act.put, List.setIfInBounds_toArray, List.set_cons_zero, List.set_cons_succ]
          refine wpAnyH_ready (rs := [3]) (by kernel_rfl) (by simp) ?_
          refine AllReadyH.cons rfl (fun K hK => ?_) AllReadyH.nil
          go_simp
          (refine (to_any b A2 c2 f _ (hf4.below hHeld) hc2 hn7).mono ?_; rintro e wt2 ⟨A6, c6, rfl, k1, k2, k3, k4, hbl⟩)
          try go_wp2_with fail
          have hSnew := Mem.bl_step hHeld hbl (by first | exact Nat.le_refl _ | omega | (simp <;> omega))
          refine hK.out _ _ ?_ (fun hHeld2 => ?_)
          · exact hSnew
          clear hbl
          clear hK K hHeld hSnew
          have hHeld := hHeld2
          clear hHeld2
          try simp only [List.getElem_toArray, List.getElem_cons_succ, List.getElem_cons_zero, Act.put, List.setIfInBounds_toArray, List.set_cons_zero, List.set_cons_succ]
          refine wpAnyH_ready (rs := [4]) (by kernel_rfl) (by simp) ?_
          refine AllReadyH.cons rfl (fun K hK => ?_) AllReadyH.nil
          go_simp
          (refine (CM.out A5 c5 A6 c6 _).mono ?_; rintro e wm ⟨rfl, hbl⟩)
          try go_wp2_with fail
          have hSnew := Mem.bl_step hHeld hbl (by first | exact Nat.le_refl _ | omega | (simp <;> omega))
          refine hK.out _ _ ?_ (fun hHeld2 => ?_)
          · exact hSnew
          clear hbl
          clear hK K hHeld hSnew
          have hHeld := hHeld2
          clear hHeld2
          try simp only [List.getElem_toArray, List.getElem_cons_succ, List.getElem_cons_zero, Act.put, List.setIfInBounds_toArray, List.set_cons_zero, List.set_cons_succ]
          refine wpAnyH_take (i := 5) (v := ?v123) rfl (by kernel_rfl) (by kernel_rfl) (by kernel_rfl) (fun _ _ _ h => h) (Or.inl ⟨by rfl, ?y123⟩) (by assumption) ?rest123
          case y123 => (intro w hSw; have hT0 := (Mem.bl_row hSw t1d (by first | exact Mem.Row.lt t1d | omega | (simp <;> omega))).cell 0 rfl; have hT1 := (Mem.bl_row hSw t1d (by first | exact Mem.Row.lt t1d | omega | (simp <;> omega))).cell 1 rfl; have hT2 := (Mem.bl_row hSw t2d (by first | exact Mem.Row.lt t2d | omega | (simp <;> omega))).cell 0 rfl; have hT3 := (Mem.bl_row hSw t2d (by first | exact Mem.Row.lt t2d | omega | (simp <;> omega))).cell 1 rfl; clear hSw; go_simp; try with_reducible rfl)
          case' rest123 => skip
          try simp only [List.getElem_toArray, List.getElem_cons_succ, List.getElem_cons_zero, Act.put, List.setIfInBounds_toArray, List.set_cons_zero, List.set_cons_succ]
          refine wpAnyH_take (i := 6) (v := ?v124) rfl (by kernel_rfl) (by kernel_rfl) (by kernel_rfl) (fun _ _ _ h => h) (Or.inl ⟨by rfl, ?y124⟩) (by assumption) ?rest124
          case y124 => (intro w hSw; have hT0 := (Mem.bl_row hSw t1d (by first | exact Mem.Row.lt t1d | omega | (simp <;> omega))).cell 0 rfl; have hT1 := (Mem.bl_row hSw t1d (by first | exact Mem.Row.lt t1d | omega | (simp <;> omega))).cell 1 rfl; have hT2 := (Mem.bl_row hSw t2d (by first | exact Mem.Row.lt t2d | omega | (simp <;> omega))).cell 0 rfl; have hT3 := (Mem.bl_row hSw t2d (by first | exact Mem.Row.lt t2d | omega | (simp <;> omega))).cell 1 rfl; clear hSw; go_simp; try with_reducible rfl)
          case' rest124 => skip
          try simp only [List.getElem_toArray, List.getElem_cons_succ, List.getElem_cons_zero, Act.put, List.setIfInBounds_toArray, List.set_cons_zero, List.set_cons_succ]
          first
            | refine' wpAnyH_take (i := 7) (v := _) rfl (by kernel_rfl) (by kernel_rfl) (by kernel_rfl) (fun _ _ _ h => h) (yieldsIf_load_mid (by rfl) _ _ rfl _ _ rfl _ _ (fun w hSw => (Mem.bl_row hSw x7d (by first | exact Mem.Row.lt x7d | omega | (simp <;> omega))).range) blkUnd rfl hiX) (by assumption) ?rest125
            | refine wpAnyH_take (i := 7) (v := undef) rfl (by kernel_rfl) (by kernel_rfl) (by kernel_rfl) (fun _ _ _ h => h) (Or.inr ⟨by rfl, rfl⟩) (by assumption) ?rest125
          case' rest125 => skip
          try simp only [List.getElem_toArray, List.getElem_cons_succ, List.getElem_cons_zero, Act.put, List.setIfInBounds_toArray, List.set_cons_zero, List.set_cons_succ]
          first
            | refine' wpAnyH_take (i := 8) (v := _) rfl (by kernel_rfl) (by kernel_rfl) (by kernel_rfl) (fun _ _ _ h => h) (yieldsIf_load_mid (by rfl) _ _ rfl _ _ rfl _ _ (fun w hSw => (Mem.bl_row hSw x8d (by first | exact Mem.Row.lt x8d | omega | (simp <;> omega))).range) blkUnd rfl hiX) (by assumption) ?rest126
            | refine wpAnyH_take (i := 8) (v := undef) rfl (by kernel_rfl) (by kernel_rfl) (by kernel_rfl) (fun _ _ _ h => h) (Or.inr ⟨by rfl, rfl⟩) (by assumption) ?rest126
          case' rest126 => skip
          try simp only [List.getElem_toArray, List.getElem_cons_succ, List.getElem_cons_zero, Act.put, List.setIfInBounds_toArray, List.set_cons_zero, List.set_cons_succ]
          first
            | refine wpAnyH_take (i := 9) (v := undef) rfl (by kernel_rfl) (by kernel_rfl) (by kernel_rfl) (fun _ _ _ h => h) (Or.inr ⟨by rfl, rfl⟩) (by assumption) ?rest127
            | (refine wpAnyH_take (i := 9) (v := ?v127) rfl (by kernel_rfl) (by kernel_rfl) (by kernel_rfl) (fun _ _ _ h => h) (Or.inl ⟨by rfl, ?y127⟩) (by assumption) ?rest127; case y127 => (intro w hSw; have hT0 := (Mem.bl_row hSw t1d (by first | exact Mem.Row.lt t1d | omega | (simp <;> omega))).cell 0 rfl; have hT1 := (Mem.bl_row hSw t1d (by first | exact Mem.Row.lt t1d | omega | (simp <;> omega))).cell 1 rfl; have hT2 := (Mem.bl_row hSw t2d (by first | exact Mem.Row.lt t2d | omega | (simp <;> omega))).cell 0 rfl; have hT3 := (Mem.bl_row hSw t2d (by first | exact Mem.Row.lt t2d | omega | (simp <;> omega))).cell 1 rfl; clear hSw; go_simp; try with_reducible rfl))
          case' rest127 => skip
          try simp only [List.getElem_toArray, List.getElem_cons_succ, List.getElem_cons_zero, Act.put, List.setIfInBounds_toArray, List.set_cons_zero, List.set_cons_succ]
          refine wpAnyH_take (i := 10) (v := ?v128) rfl (by kernel_rfl) (by kernel_rfl) (by kernel_rfl) (fun _ _ _ h => h) (Or.inl ⟨by rfl, ?y128⟩) (by assumption) ?rest128
          case y128 => (intro w hSw; have hT0 := (Mem.bl_row hSw t1d (by first | exact Mem.Row.lt t1d | omega | (simp <;> omega))).cell 0 rfl; have hT1 := (Mem.bl_row hSw t1d (by first | exact Mem.Row.lt t1d | omega | (simp <;> omega))).cell 1 rfl; have hT2 := (Mem.bl_row hSw t2d (by first | exact Mem.Row.lt t2d | omega | (simp <;> omega))).cell 0 rfl; have hT3 := (Mem.bl_row hSw t2d (by first | exact Mem.Row.lt t2d | omega | (simp <;> omega))).cell 1 rfl; clear hSw; go_simp; try with_reducible rfl)
          case' rest128 => skip
          try simp only [List.getElem_toArray, List.getElem_cons_succ, List.getElem_cons_zero, Act.put, List.setIfInBounds_toArray, List.set_cons_zero, List.set_cons_succ]
          refine wpAnyH_done (by kernel_rfl) ?_ _
          have hb5 := (Below.refl w3.heap.size w3).drew.trans hHeld
          have hb6 := hb3.trans (hb5.mono hb3.size)
          have u2 := (t2.below hb5).drew
          have x9 := (x7.below hb5).drew
          have hf5 : By wm.drew A2 f := (hf4.below hHeld).drew
          clear hHeld hb3 hb5
          go_wp2_with fail
          refine wp_region_held_drew (S := Go.RowKit.Below ((wm.drew).heap.size) (wm.drew)) (by kernel_rfl) ?hb136 (fun hHeld => ?rest136)
          case hb136 =>
            exact Go.RowKit.Below.refl _ _
          case' rest136 => skip
          refine wpAnyH_take (i := 0) (v := ?v137) rfl (by kernel_rfl) (by kernel_rfl) (by kernel_rfl) (fun _ _ _ h => h) (Or.inl ⟨by rfl, ?y137⟩) (by assumption) ?rest137
          case y137 => (intro w hSw; have hT0 := (Mem.bl_row hSw u2 (by first | exact Mem.Row.lt u2 | omega | (simp <;> omega))).cell 0 rfl; have hT1 := (Mem.bl_row hSw u2 (by first | exact Mem.Row.lt u2 | omega | (simp <;> omega))).cell 1 rfl; clear hSw; go_simp; try with_reducible rfl)
          case' rest137 => skip
          try simp only [List.getElem_toArray, List.getElem_cons_succ, List.getElem_cons_zero, Act.put, List.setIfInBounds_toArray, List.set_cons_zero, List.set_cons_succ]
          refine wpAnyH_ready (rs := [1]) (by kernel_rfl) (by simp) ?_
          refine AllReadyH.cons rfl (fun K hK => ?_) AllReadyH.nil
          go_simp
          (refine (to_any b A2 c2 f _ (hf5.below hHeld) hc2 hn7).mono ?_; rintro e wt3 ⟨A7, c7, rfl, k1, k2, k3, k4, hbl⟩)
          try go_wp2_with fail
          have hSnew := Mem.bl_step hHeld hbl (by first | exact Nat.le_refl _ | omega | (simp <;> omega))
          refine hK.out _ _ ?_ (fun hHeld2 => ?_)
          · exact hSnew
          clear hbl
          clear hK K hHeld hSnew
          have hHeld := hHeld2
          clear hHeld2
          try simp only [List.getElem_toArray, List.getElem_cons_succ, List.getElem_cons_zero, Act.put, List.setIfInBounds_toArray, List.set_cons_zero, List.set_cons_succ]
          refine wpAnyH_ready (rs := [2]) (by kernel_rfl) (by simp) ?_
          refine AllReadyH.cons rfl (fun K hK => ?_) AllReadyH.nil
          go_simp
          (refine (CC.out A7 c7 _).mono ?_; rintro e wc1 ⟨rfl, hbl⟩)
          try go_wp2_with fail
          have hSnew := Mem.bl_step hHeld hbl (by first | exact Nat.le_refl _ | omega | (simp <;> omega))
          refine hK.out _ _ ?_ (fun hHeld2 => ?_)
          · exact hSnew
          clear hbl
          clear hK K hHeld hSnew
          have hHeld := hHeld2
          clear hHeld2
          try simp only [List.getElem_toArray, List.getElem_cons_succ, List.getElem_cons_zero, Act.put, List.setIfInBounds_toArray, List.set_cons_zero, List.set_cons_succ]
          refine wpAnyH_take (i := 3) (v := ?v138) rfl (by kernel_rfl) (by kernel_rfl) (by kernel_rfl) (fun _ _ _ h => h) (Or.inl ⟨by rfl, ?y138⟩) (by assumption) ?rest138
          case y138 => (intro w hSw; have hT0 := (Mem.bl_row hSw u2 (by first | exact Mem.Row.lt u2 | omega | (simp <;> omega))).cell 0 rfl; have hT1 := (Mem.bl_row hSw u2 (by first | exact Mem.Row.lt u2 | omega | (simp <;> omega))).cell 1 rfl; clear hSw; go_simp; try with_reducible rfl)
          case' rest138 => skip
          try simp only [List.getElem_toArray, List.getElem_cons_succ, List.getElem_cons_zero, Act.put, List.setIfInBounds_toArray, List.set_cons_zero, List.set_cons_succ]
          refine wpAnyH_take (i := 4) (v := ?v139) rfl (by kernel_rfl) (by kernel_rfl) (by kernel_rfl) (fun _ _ _ h => h) (Or.inl ⟨by rfl, ?y139⟩) (by assumption) ?rest139
          case y139 => (intro w hSw; have hT0 := (Mem.bl_row hSw u2 (by first | exact Mem.Row.lt u2 | omega | (simp <;> omega))).cell 0 rfl; have hT1 := (Mem.bl_row hSw u2 (by first | exact Mem.Row.lt u2 | omega | (simp <;> omega))).cell 1 rfl; clear hSw; go_simp; try with_reducible rfl)
          case' rest139 => skip
          try simp only [List.getElem_toArray, List.getElem_cons_succ, List.getElem_cons_zero, Act.put, List.setIfInBounds_toArray, List.set_cons_zero, List.set_cons_succ]
          first
            | refine' wpAnyH_take (i := 5) (v := _) rfl (by kernel_rfl) (by kernel_rfl) (by kernel_rfl) (fun _ _ _ h => h) (yieldsIf_load_mid (by rfl) _ _ rfl _ _ rfl _ _ (fun w hSw => (Mem.bl_row hSw x9 (by first | exact Mem.Row.lt x9 | omega | (simp <;> omega))).range) blkUnd rfl hiX) (by assumption) ?rest140
            | refine wpAnyH_take (i := 5) (v := undef) rfl (by kernel_rfl) (by kernel_rfl) (by kernel_rfl) (fun _ _ _ h => h) (Or.inr ⟨by rfl, rfl⟩) (by assumption) ?rest140
          case' rest140 => skip
          try simp only [List.getElem_toArray, List.getElem_cons_succ, List.getElem_cons_zero, Act.put, List.setIfInBounds_toArray, List.set_cons_zero, List.set_cons_succ]
          first
            | refine wpAnyH_take (i := 6) (v := undef) rfl (by kernel_rfl) (by kernel_rfl) (by kernel_rfl) (fun _ _ _ h => h) (Or.inr ⟨by rfl, rfl⟩) (by assumption) ?rest141
            | (refine wpAnyH_take (i := 6) (v := ?v141) rfl (by kernel_rfl) (by kernel_rfl) (by kernel_rfl) (fun _ _ _ h => h) (Or.inl ⟨by rfl, ?y141⟩) (by assumption) ?rest141; case y141 => (intro w hSw; have hT0 := (Mem.bl_row hSw u2 (by first | exact Mem.Row.lt u2 | omega | (simp <;> omega))).cell 0 rfl; have hT1 := (Mem.bl_row hSw u2 (by first | exact Mem.Row.lt u2 | omega | (simp <;> omega))).cell 1 rfl; clear hSw; go_simp; try with_reducible rfl))
          case' rest141 => skip
          try simp only [List.getElem_toArray, List.getElem_cons_succ, List.getElem_cons_zero, Act.put, List.setIfInBounds_toArray, List.set_cons_zero, List.set_cons_succ]
          first
            | refine wpAnyH_take (i := 9) (v := undef) rfl (by kernel_rfl) (by kernel_rfl) (by kernel_rfl) (fun _ _ _ h => h) (Or.inr ⟨by rfl, rfl⟩) (by assumption) ?rest142
            | (refine wpAnyH_take (i := 9) (v := ?v142) rfl (by kernel_rfl) (by kernel_rfl) (by kernel_rfl) (fun _ _ _ h => h) (Or.inl ⟨by rfl, ?y142⟩) (by assumption) ?rest142; case y142 => (intro w hSw; have hT0 := (Mem.bl_row hSw u2 (by first | exact Mem.Row.lt u2 | omega | (simp <;> omega))).cell 0 rfl; have hT1 := (Mem.bl_row hSw u2 (by first | exact Mem.Row.lt u2 | omega | (simp <;> omega))).cell 1 rfl; clear hSw; go_simp; try with_reducible rfl))
          case' rest142 => skip
          try simp only [List.getElem_toArray, List.getElem_cons_succ, List.getElem_cons_zero, Act.put, List.setIfInBounds_toArray, List.set_cons_zero, List.set_cons_succ]
          refine wpAnyH_ready (rs := [7]) (by kernel_rfl) (by simp) ?_
          refine AllReadyH.cons rfl (fun K hK => ?_) AllReadyH.nil
          go_simp
          (refine (to_any b A2 c2 f _ (hf5.below hHeld) hc2 hn7).mono ?_; rintro e wt4 ⟨A8, c8, rfl, j1, j2, j3, j4, hbl⟩)
          try go_wp2_with fail
          have hSnew := Mem.bl_step hHeld hbl (by first | exact Nat.le_refl _ | omega | (simp <;> omega))
          refine hK.out _ _ ?_ (fun hHeld2 => ?_)
          · exact hSnew
          clear hbl
          clear hK K hHeld hSnew
          have hHeld := hHeld2
          clear hHeld2
          try simp only [List.getElem_toArray, List.getElem_cons_succ, List.getElem_cons_zero, Act.put, List.setIfInBounds_toArray, List.set_cons_zero, List.set_cons_succ]
          refine wpAnyH_ready (rs := [8]) (by kernel_rfl) (by simp) ?_
          refine AllReadyH.cons rfl (fun K hK => ?_) AllReadyH.nil
          go_simp
          (refine (CW.out A8 c8 _).mono ?_; rintro e ws ⟨A9, c9, rfl, i1, i2, i3, i4, hbl⟩; have hw9 := i4.by_)
          try go_wp2_with fail
          have hSnew := Mem.bl_step hHeld hbl (by first | exact Nat.le_refl _ | omega | (simp <;> omega))
          refine hK.out _ _ ?_ (fun hHeld2 => ?_)
          · exact hSnew
          clear hbl
          clear hK K hHeld hSnew
          have hHeld := hHeld2
          clear hHeld2
          try simp only [List.getElem_toArray, List.getElem_cons_succ, List.getElem_cons_zero, Act.put, List.setIfInBounds_toArray, List.set_cons_zero, List.set_cons_succ]
          refine wpAnyH_ready (rs := [10]) (by kernel_rfl) (by simp) ?_
          refine AllReadyH.cons rfl (fun K hK => ?_) AllReadyH.nil
          go_simp
          (refine (to_any b A2 c2 f _ (hf5.below hHeld) hc2 hn7).mono ?_; rintro e wt5 ⟨A10, c10, rfl, m1, m2, m3, m4, hbl⟩; replace hw9 := hw9.below hbl; have hw10 := m4.by_)
          try go_wp2_with fail
          have hSnew := Mem.bl_step hHeld hbl (by first | exact Nat.le_refl _ | omega | (simp <;> omega))
          refine hK.out _ _ ?_ (fun hHeld2 => ?_)
          · exact hSnew
          clear hbl
          clear hK K hHeld hSnew
          have hHeld := hHeld2
          clear hHeld2
          try simp only [List.getElem_toArray, List.getElem_cons_succ, List.getElem_cons_zero, Act.put, List.setIfInBounds_toArray, List.set_cons_zero, List.set_cons_succ]
          refine wpAnyH_ready (rs := [11]) (by kernel_rfl) (by simp) ?_
          refine AllReadyH.cons rfl (fun K hK => ?_) AllReadyH.nil
          go_simp
          (refine (psame_any wb A9 c9 D b A10 c10 f _ (hw9) hw10).mono ?_; rw [HV.out]; rintro e wz ⟨rfl, hbl⟩)
          try go_wp2_with fail
          have hSnew := Mem.bl_step hHeld hbl (by first | exact Nat.le_refl _ | omega | (simp <;> omega))
          refine hK.out _ _ ?_ (fun hHeld2 => ?_)
          · exact hSnew
          clear hbl
          clear hK K hHeld hSnew
          have hHeld := hHeld2
          clear hHeld2
          try simp only [List.getElem_toArray, List.getElem_cons_succ, List.getElem_cons_zero, Act.put, List.setIfInBounds_toArray, List.set_cons_zero, List.set_cons_succ]
          first
            | refine wpAnyH_take (i := 12) (v := undef) rfl (by kernel_rfl) (by kernel_rfl) (by kernel_rfl) (fun _ _ _ h => h) (Or.inr ⟨by rfl, rfl⟩) (by assumption) ?rest143
            | (refine wpAnyH_take (i := 12) (v := ?v143) rfl (by kernel_rfl) (by kernel_rfl) (by kernel_rfl) (fun _ _ _ h => h) (Or.inl ⟨by rfl, ?y143⟩) (by assumption) ?rest143; case y143 => (intro w hSw; have hT0 := (Mem.bl_row hSw u2 (by first | exact Mem.Row.lt u2 | omega | (simp <;> omega))).cell 0 rfl; have hT1 := (Mem.bl_row hSw u2 (by first | exact Mem.Row.lt u2 | omega | (simp <;> omega))).cell 1 rfl; clear hSw; go_simp; try with_reducible rfl))
          case' rest143 => skip
          try simp only [List.getElem_toArray, List.getElem_cons_succ, List.getElem_cons_zero, Act.put, List.setIfInBounds_toArray, List.set_cons_zero, List.set_cons_succ]
          refine wpAnyH_take (i := 13) (v := ?v144) rfl (by kernel_rfl) (by kernel_rfl) (by kernel_rfl) (fun _ _ _ h => h) (Or.inl ⟨by rfl, ?y144⟩) (by assumption) ?rest144
          case y144 => (intro w hSw; have hT0 := (Mem.bl_row hSw u2 (by first | exact Mem.Row.lt u2 | omega | (simp <;> omega))).cell 0 rfl; have hT1 := (Mem.bl_row hSw u2 (by first | exact Mem.Row.lt u2 | omega | (simp <;> omega))).cell 1 rfl; clear hSw; go_simp; try with_reducible rfl)
          case' rest144 => skip
          try simp only [List.getElem_toArray, List.getElem_cons_succ, List.getElem_cons_zero, Act.put, List.setIfInBounds_toArray, List.set_cons_zero, List.set_cons_succ]
          refine wpAnyH_done (by kernel_rfl) ?_ _
          go_wp2_with (go_at_call 18; refine (works_any _).mono ?_; rintro e w' ⟨rfl, hbelW⟩)
          go_ret
          exact ⟨rfl, hb6.trans ((((Below.refl _ _).drew.trans hHeld).trans (hbelW.mono (Nat.le_trans (by exact Nat.le_refl _) hHeld.size))).mono hb6.size)⟩
end Go.Proofs.Ytoibdomcekainaa.Pat
