/- The statement PatchBack. -/
import Derived.Test.YtoibdomcekainaaPatW
import Derived.Deep.DeepCutAuto
import Derived.Deep.CutBlock
namespace Go.Proofs.Ytoibdomcekainaa.Pat
open Go.RowKit Go.Proofs.Ytoibdomcekainaa.Mem Go.Proofs.Ytoibdomcekainaa.Open Go.Proofs.Ytoibdomcekainaa.Kind Go.Proofs.Ytoibdomcekainaa.Blk Go.Proofs.Ytoibdomcekainaa.App
set_option linter.unusedVariables false
set_option linter.unusedSimpArgs false
theorem ext256 {l m : List Nat} (hl : l.length = 256) (hm : m.length = 256) (h : ∀ j, j < 256 → l[j]? = m[j]?) : l = m := by
  apply List.ext_getElem?
  intro j
  by_cases hj : j < 256
  · exact h j hj
  · rw [List.getElem?_eq_none (by omega), List.getElem?_eq_none (by omega)]
theorem back_law (l : List Nat) (a : Int) (d : List Nat) (hl : l.length = 256) : layL (layL l a d) (wasA a d.length) (wasD l a d.length) = l := by
  refine ext256 (by rw [layL_length, layL_length]; exact hl) hl fun j hj => ?_
  rw [layL_get _ _ _ (by rw [layL_length]; exact hl), layL_get _ _ _ hl]
  have hwl := wasD_length l a d.length hl
  cases h : rightN a d.length with
  | false =>
    have e2 : wasD l a d.length = [] := by unfold wasD; rw [h]; rfl
    rw [e2]
    have : rightN (wasA a d.length) ([] : List Nat).length = false := (right_not _ _).2 (by simp)
    rw [this]
    simp
  | true =>
    rw [h, if_pos rfl] at hwl
    have e1 : wasA a d.length = a := by unfold wasA; rw [h]; rfl
    have e2 : wasD l a d.length = (l.drop a.toNat).take d.length := by unfold wasD; rw [h]; rfl
    have := (right_iff _ _).1 h
    rw [e1, hwl, h]
    by_cases h2 : a ≤ (j : Int) ∧ (j : Int) < a + d.length
    · rw [if_pos ⟨rfl, h2.1, h2.2⟩, e2, List.getD_eq_getElem?_getD, List.getElem?_take, if_pos (by omega), List.getElem?_drop, show a.toNat + (j - a.toNat) = j from by omega, List.getElem?_eq_getElem (by omega)]; rfl
    · rw [if_neg (fun h3 => h2 h3.2), if_neg (fun h3 => h2 h3.2)]
theorem twice_law (l : List Nat) (a : Int) (d : List Nat) (hl : l.length = 256) : layL (layL l a d) a d = layL l a d := by
  refine ext256 (by rw [layL_length, layL_length]; exact hl) (by rw [layL_length]; exact hl) fun j hj => ?_
  rw [layL_get _ _ _ (by rw [layL_length]; exact hl), layL_get _ _ _ hl]
  split <;> rfl

set_option maxHeartbeats 2000000 in
set_option maxRecDepth 100000 in
theorem back_core (l Y D : List Nat) (a wa : Int) (A : Option Addr) (c : Nat) (d : List Nat) (w : World) (hl : l.length = 256) (hb : ∀ x ∈ l, x < 256) (hd : By w A d) (hc : A = none → c = 0)
    (hY : Hid (layL l a d = Y)) (hD : Hid (wasD l a d.length = D)) (hwa : Hid (wasA a d.length = wa)) (h1 : Hid (layL Y wa D = l)) (h2 : Hid (layL Y a d = Y)) (hYl : Y.length = 256) :
    Calls Try.prog 4 #[.agg (blk l), patV a A d.length c] w fun e w' => e = .returned (.bool true) ∧ Below w.heap.size w w' := by
  have hs : (blk l).size = 256 := by rw [blk_size]; exact hl
  have hsY : (blk Y).size = 256 := by rw [blk_size]; exact hYl
  obtain ⟨r0, r1, r2, b0⟩ := two w l 22 34 28 #[.int .i64 a, .slice A d.length c] (blk zblk)
  have r2n : Row (((w.alloc (.cells (blk l) 22)).alloc (.cells #[.int .i64 a, .slice A d.length c] 34)).alloc (.cells (blk zblk) 28)) ((w.alloc (.cells (blk l) 22)).alloc (.cells #[.int .i64 a, .slice A d.length c] 34)).heap.size 28 (blk zblk) := Row.new _ _ _
  have p0 : Row ((w.alloc (.cells (blk l) 22)).alloc (.cells #[.int .i64 a, .slice A d.length c] 34)) w.heap.size 22 (blk l) := (Row.new _ _ _).alloc _
  by_cases h6 : 600 < d.length
  · go_enter Try.func4, Try.ntmps4
    go_wp2_with (go_at_call 18; refine (works_any _).mono ?_; rintro e w' ⟨rfl, hbel2⟩)
    go_ret
    exact ⟨rfl, (((Below.refl _ _).alloc (Nat.le_refl _) _).alloc (by simp) _).trans (hbel2.mono (by simp; omega))⟩
  · have hn6 : d.length ≤ 100000 := by omega
    go_enter Try.func4, Try.ntmps4
    go_wp2_with (first
      | (with_reducible refine wpList_load rfl 22 _ rfl _ rfl 22 (blk l) 256 5 arrUnd arrSize hs p0.out ?_)
      | (with_reducible refine wpList_allocA rfl 28 rfl _ blkZero ?_)
      | (with_reducible refine wpList_storeRow rfl 28 _ _ rfl _ rfl (blk l) rfl (blk zblk) 28 256 blkSize hs zblk_size (blk_one _) r2n ?_))
    have e5 : ((w.alloc (.cells (blk l) 22)).alloc (.cells #[.int .i64 a, .slice A d.length c] 34)).heap.size = w.heap.size + 1 + 1 := by simp
    rw [e5]
    clear e5
    have q0 : Row ((((w.alloc (.cells (blk l) 22)).alloc (.cells #[.int .i64 a, .slice A d.length c] 34)).alloc (.cells (blk zblk) 28)).setRow (w.heap.size + 1 + 1) (blk l)) w.heap.size 22 (blk l) := Row.far (T := 22) r0 (by omega) _
    have q1 := r1.far (k := w.heap.size + 1 + 1) (by omega) (blk l)
    have q2 := r2.set (blk l)
    have bb := below_setRow b0 (g := w.heap.size + 1 + 1) (by omega) (blk l)
    generalize (((w.alloc (.cells (blk l) 22)).alloc (.cells #[.int .i64 a, .slice A d.length c] 34)).alloc (.cells (blk zblk) 28)).setRow (w.heap.size + 1 + 1) (blk l) = w1 at *
    clear r0 r1 r2 b0 p0 r2n
    have hd1 : By w1.drew A d := (hd.below bb).drew
    have hb1 := bb.drew
    have q1d := q1.drew
    have q2d := q2.drew
    have hil := blkSizeL l hl
    try simp only [Act.put, List.setIfInBounds_toArray, List.set_cons_zero, List.set_cons_succ]
    go_cut [6] (fun s6 w' => ∃ g6, s6 = .pointer (some ⟨g6, 0, none⟩) ∧ w1.heap.size ≤ g6 ∧ Row w' g6 28 (blk Y) ∧ Below w1.heap.size w1 w')
    case first =>
      refine wp_region_held_drew (S := Go.RowKit.Below ((w1.drew).heap.size) (w1.drew)) (by kernel_rfl) ?hb9 (fun hHeld => ?rest9)
      case hb9 =>
        exact Go.RowKit.Below.refl _ _
      case' rest9 => skip
      first
        | refine' wpAnyH_take (i := 0) (v := _) rfl (by kernel_rfl) (by kernel_rfl) (by kernel_rfl) (fun _ _ _ h => h) (yieldsIf_load_mid (by rfl) _ _ rfl _ _ rfl _ _ (fun w hSw => (Mem.bl_row hSw q2d (by first | exact Mem.Row.lt q2d | omega | (simp <;> omega))).range) blkUnd rfl hil) (by assumption) ?rest10
        | refine wpAnyH_take (i := 0) (v := undef) rfl (by kernel_rfl) (by kernel_rfl) (by kernel_rfl) (fun _ _ _ h => h) (Or.inr ⟨by rfl, rfl⟩) (by assumption) ?rest10
      case' rest10 => skip
      try simp only [List.getElem_toArray, List.getElem_cons_succ, List.getElem_cons_zero, Act.put, List.setIfInBounds_toArray, List.set_cons_zero, List.set_cons_succ]
      refine wpAnyH_take (i := 1) (v := ?v11) rfl (by kernel_rfl) (by kernel_rfl) (by kernel_rfl) (fun _ _ _ h => h) (Or.inl ⟨by rfl, ?y11⟩) (by assumption) ?rest11
      case y11 => (intro w hSw; have hT0 := (Mem.bl_row hSw q1d (by first | exact Mem.Row.lt q1d | omega | (simp <;> omega))).cell 0 rfl; have hT1 := (Mem.bl_row hSw q1d (by first | exact Mem.Row.lt q1d | omega | (simp <;> omega))).cell 1 rfl; clear hSw; go_simp; try with_reducible rfl)
      case' rest11 => skip
      try simp only [List.getElem_toArray, List.getElem_cons_succ, List.getElem_cons_zero, Act.put, List.setIfInBounds_toArray, List.set_cons_zero, List.set_cons_succ]
      refine wpAnyH_ready (rs := [2, 4]) (by kernel_rfl) (by simp) ?_
      refine AllReadyH.cons rfl (fun K hK => ?_) ?_
      · skip
        go_simp
        (refine (to_any a A c d _ (hd1.below hHeld) hc hn6).mono ?_; rintro e wt ⟨A1, c1, rfl, k1, k2, k3, k4, hbl⟩; have ht := k4.by_)
        try go_wp2_with fail
        have hSnew := Mem.bl_step hHeld hbl (by first | exact Nat.le_refl _ | omega | (simp <;> omega))
        refine hK.out _ _ ?_ (fun hHeld2 => ?_)
        · exact hSnew
        try replace ht := ht.below hbl
        try replace hr6 := hr6.below hbl
        clear hbl
        clear hK K hHeld hSnew
        have hHeld := hHeld2
        clear hHeld2
        try simp only [List.getElem_toArray, List.getElem_cons_succ, List.getElem_cons_zero, Act.put, List.setIfInBounds_toArray, List.set_cons_zero, List.set_cons_succ]
        refine wpAnyH_ready (rs := [3, 4]) (by kernel_rfl) (by simp) ?_
        refine AllReadyH.cons rfl (fun K hK => ?_) ?_
        · skip
          go_simp
          (refine (lay_any l a A1 d.length c1 d _ hl ht.sl_byte).mono ?_; rw [hY.out]; rintro e wl ⟨rfl, hbl⟩)
          try go_wp2_with fail
          have hSnew := Mem.bl_step hHeld hbl (by first | exact Nat.le_refl _ | omega | (simp <;> omega))
          refine hK.out _ _ ?_ (fun hHeld2 => ?_)
          · exact hSnew
          try replace ht := ht.below hbl
          try replace hr6 := hr6.below hbl
          clear hbl
          clear hK K hHeld hSnew
          have hHeld := hHeld2
          clear hHeld2
          try simp only [List.getElem_toArray, List.getElem_cons_succ, List.getElem_cons_zero, Act.put, List.setIfInBounds_toArray, List.set_cons_zero, List.set_cons_succ]
          refine wpAnyH_ready (rs := [4]) (by kernel_rfl) (by simp) ?_
          refine AllReadyH.cons rfl (fun K hK => ?_) AllReadyH.nil
          rw [if_pos (by rfl)]
          refine wp_allocN 28 (by rfl) _ blkZero ?_; intro g6 wa hr6 hbl hg6'; have hg6 : w1.heap.size ≤ g6 := Nat.le_trans hHeld.size hg6'
          have hSnew := Mem.bl_step hHeld hbl (by first | exact Nat.le_refl _ | omega | (simp <;> omega))
          refine hK.out _ _ ?_ (fun hHeld2 => ?_)
          · exact hSnew
          try replace ht := ht.below hbl
          try replace hr6 := hr6.below hbl
          clear hbl
          clear hK K hHeld hSnew
          have hHeld := hHeld2
          clear hHeld2
          try simp only [List.getElem_toArray, List.getElem_cons_succ, List.getElem_cons_zero, Act.put, List.setIfInBounds_toArray, List.set_cons_zero, List.set_cons_succ]
          refine wpAnyH_ready (rs := [5]) (by kernel_rfl) (by simp) ?_
          refine AllReadyH.cons rfl (fun K hK => ?_) AllReadyH.nil
          rw [if_pos (by rfl)]
          refine wp_storeRow _ _ _ (by rfl) g6 (by rfl) (blk Y) (by rfl) (blk zblk) 28 256 blkSize hsY zblk_size (blk_one _) hr6 ?_; have hSnew := below_setRow hHeld hg6 (blk Y); have hr7 := hr6.set (blk Y)
          refine hK.out _ _ ?_ (fun hHeld2 => ?_)
          · exact hSnew
          clear hK K hHeld hSnew
          have hHeld := hHeld2
          clear hHeld2
          try simp only [List.getElem_toArray, List.getElem_cons_succ, List.getElem_cons_zero, Act.put, List.setIfInBounds_toArray, List.set_cons_zero, List.set_cons_succ]
          refine wpAnyH_done (by kernel_rfl) ?_ _
          go_wp2_with fail
          go_meet
          case rel => exact ⟨g6, rfl, hg6, hr7, (Below.refl _ _).drew.trans hHeld⟩
        refine AllReadyH.cons rfl (fun K hK => ?_) ?_
        · skip
          rw [if_pos (by rfl)]
          refine wp_allocN 28 (by rfl) _ blkZero ?_; intro g6 wa hr6 hbl hg6'; have hg6 : w1.heap.size ≤ g6 := Nat.le_trans hHeld.size hg6'
          have hSnew := Mem.bl_step hHeld hbl (by first | exact Nat.le_refl _ | omega | (simp <;> omega))
          refine hK.out _ _ ?_ (fun hHeld2 => ?_)
          · exact hSnew
          try replace ht := ht.below hbl
          try replace hr6 := hr6.below hbl
          clear hbl
          clear hK K hHeld hSnew
          have hHeld := hHeld2
          clear hHeld2
          try simp only [List.getElem_toArray, List.getElem_cons_succ, List.getElem_cons_zero, Act.put, List.setIfInBounds_toArray, List.set_cons_zero, List.set_cons_succ]
          refine wpAnyH_ready (rs := [3]) (by kernel_rfl) (by simp) ?_
          refine AllReadyH.cons rfl (fun K hK => ?_) AllReadyH.nil
          go_simp
          (refine (lay_any l a A1 d.length c1 d _ hl ht.sl_byte).mono ?_; rw [hY.out]; rintro e wl ⟨rfl, hbl⟩)
          try go_wp2_with fail
          have hSnew := Mem.bl_step hHeld hbl (by first | exact Nat.le_refl _ | omega | (simp <;> omega))
          refine hK.out _ _ ?_ (fun hHeld2 => ?_)
          · exact hSnew
          try replace ht := ht.below hbl
          try replace hr6 := hr6.below hbl
          clear hbl
          clear hK K hHeld hSnew
          have hHeld := hHeld2
          clear hHeld2
          try simp only [List.getElem_toArray, List.getElem_cons_succ, List.getElem_cons_zero, Act.put, List.setIfInBounds_toArray, List.set_cons_zero, List.set_cons_succ]
          refine wpAnyH_ready (rs := [5]) (by kernel_rfl) (by simp) ?_
          refine AllReadyH.cons rfl (fun K hK => ?_) AllReadyH.nil
          rw [if_pos (by rfl)]
          refine wp_storeRow _ _ _ (by rfl) g6 (by rfl) (blk Y) (by rfl) (blk zblk) 28 256 blkSize hsY zblk_size (blk_one _) hr6 ?_; have hSnew := below_setRow hHeld hg6 (blk Y); have hr7 := hr6.set (blk Y)
          refine hK.out _ _ ?_ (fun hHeld2 => ?_)
          · exact hSnew
          clear hK K hHeld hSnew
          have hHeld := hHeld2
          clear hHeld2
          try simp only [List.getElem_toArray, List.getElem_cons_succ, List.getElem_cons_zero, Act.put, List.setIfInBounds_toArray, List.set_cons_zero, List.set_cons_succ]
          refine wpAnyH_done (by kernel_rfl) ?_ _
          go_wp2_with fail
          go_meet
          case rel => exact ⟨g6, rfl, hg6, hr7, (Below.refl _ _).drew.trans hHeld⟩
        exact AllReadyH.nil
      refine AllReadyH.cons rfl (fun K hK => ?_) ?_
      · skip
        rw [if_pos (by rfl)]
        refine wp_allocN 28 (by rfl) _ blkZero ?_; intro g6 wa hr6 hbl hg6'; have hg6 : w1.heap.size ≤ g6 := Nat.le_trans hHeld.size hg6'
        have hSnew := Mem.bl_step hHeld hbl (by first | exact Nat.le_refl _ | omega | (simp <;> omega))
        refine hK.out _ _ ?_ (fun hHeld2 => ?_)
        · exact hSnew
        try replace ht := ht.below hbl
        try replace hr6 := hr6.below hbl
        clear hbl
        clear hK K hHeld hSnew
        have hHeld := hHeld2
        clear hHeld2
        try simp only [List.getElem_toArray, List.getElem_cons_succ, List.getElem_cons_zero, Act.put, List.setIfInBounds_toArray, List.set_cons_zero, List.set_cons_succ]
        refine wpAnyH_ready (rs := [2]) (by kernel_rfl) (by simp) ?_
        refine AllReadyH.cons rfl (fun K hK => ?_) AllReadyH.nil
        go_simp
        (refine (to_any a A c d _ (hd1.below hHeld) hc hn6).mono ?_; rintro e wt ⟨A1, c1, rfl, k1, k2, k3, k4, hbl⟩; have ht := k4.by_)
        try go_wp2_with fail
        have hSnew := Mem.bl_step hHeld hbl (by first | exact Nat.le_refl _ | omega | (simp <;> omega))
        refine hK.out _ _ ?_ (fun hHeld2 => ?_)
        · exact hSnew
        try replace ht := ht.below hbl
        try replace hr6 := hr6.below hbl
        clear hbl
        clear hK K hHeld hSnew
        have hHeld := hHeld2
        clear hHeld2
        try simp only [List.getElem_toArray, List.getElem_cons_succ, List.getElem_cons_zero, Act.put, List.setIfInBounds_toArray, List.set_cons_zero, List.set_cons_succ]
        refine wpAnyH_ready (rs := [3]) (by kernel_rfl) (by simp) ?_
        refine AllReadyH.cons rfl (fun K hK => ?_) AllReadyH.nil
        go_simp
        (refine (lay_any l a A1 d.length c1 d _ hl ht.sl_byte).mono ?_; rw [hY.out]; rintro e wl ⟨rfl, hbl⟩)
        try go_wp2_with fail
        have hSnew := Mem.bl_step hHeld hbl (by first | exact Nat.le_refl _ | omega | (simp <;> omega))
        refine hK.out _ _ ?_ (fun hHeld2 => ?_)
        · exact hSnew
        try replace ht := ht.below hbl
        try replace hr6 := hr6.below hbl
        clear hbl
        clear hK K hHeld hSnew
        have hHeld := hHeld2
        clear hHeld2
        try simp only [List.getElem_toArray, List.getElem_cons_succ, List.getElem_cons_zero, Act.put, List.setIfInBounds_toArray, List.set_cons_zero, List.set_cons_succ]
        refine wpAnyH_ready (rs := [5]) (by kernel_rfl) (by simp) ?_
        refine AllReadyH.cons rfl (fun K hK => ?_) AllReadyH.nil
        rw [if_pos (by rfl)]
        refine wp_storeRow _ _ _ (by rfl) g6 (by rfl) (blk Y) (by rfl) (blk zblk) 28 256 blkSize hsY zblk_size (blk_one _) hr6 ?_; have hSnew := below_setRow hHeld hg6 (blk Y); have hr7 := hr6.set (blk Y)
        refine hK.out _ _ ?_ (fun hHeld2 => ?_)
        · exact hSnew
        clear hK K hHeld hSnew
        have hHeld := hHeld2
        clear hHeld2
        try simp only [List.getElem_toArray, List.getElem_cons_succ, List.getElem_cons_zero, Act.put, List.setIfInBounds_toArray, List.set_cons_zero, List.set_cons_succ]
        refine wpAnyH_done (by kernel_rfl) ?_ _
        go_wp2_with fail
        go_meet
        case rel => exact ⟨g6, rfl, hg6, hr7, (Below.refl _ _).drew.trans hHeld⟩
      exact AllReadyH.nil
    case rest =>
      obtain ⟨g6, rfl, hg6, hr6, hbel6⟩ := hcut
      have hbw := bb.trans (hbel6.mono bb.size)
      have hdc : By wc.drew A d := ((hd.below bb).below hbel6).drew
      have m1 := (q1.below hbel6).drew
      have m2 := (q2.below hbel6).drew
      have m6 := hr6.drew
      have hiY := blkSizeL Y hYl
      have heq1 : ∀ w, (Op.equalIn 10000 28 (.agg (blk l)) (.agg (blk l))).run Try.prog w = .ok true w := fun w => by rw [run_eq_blk l l hl hl, decide_eq_true rfl]
      have heq2 : ∀ w, (Op.equalIn 10000 28 (.agg (blk Y)) (.agg (blk Y))).run Try.prog w = .ok true w := fun w => by rw [run_eq_blk Y Y hYl hYl, decide_eq_true rfl]
      have hgd := blkGuard
      have hDl : D.length ≤ M63 := by rw [← hD.out, wasD_length _ _ _ hl]; show _ ≤ 9223372036854775807; split <;> omega
      have CW := Lib.hid (fun A1 c1 w' => was_any l a A1 d.length c1 w' hl hb hd.2.1)
      rw [hD.out, hwa.out] at CW
      clear q0 q1 q2 q1d q2d hr6 hbel6 hb1 hd1
      go_wp2_with fail
      refine wp_region_held_drew (S := Go.RowKit.Below ((wc.drew).heap.size) (wc.drew)) (by kernel_rfl) ?hb22 (fun hHeld => ?rest22)
      case hb22 =>
        exact Go.RowKit.Below.refl _ _
      case' rest22 => skip
      first
        | refine' wpAnyH_take (i := 0) (v := _) rfl (by kernel_rfl) (by kernel_rfl) (by kernel_rfl) (fun _ _ _ h => h) (yieldsIf_load_mid (by rfl) _ _ rfl _ _ rfl _ _ (fun w hSw => (Mem.bl_row hSw m6 (by first | exact Mem.Row.lt m6 | omega | (simp <;> omega))).range) blkUnd rfl hiY) (by assumption) ?rest23
        | refine wpAnyH_take (i := 0) (v := undef) rfl (by kernel_rfl) (by kernel_rfl) (by kernel_rfl) (fun _ _ _ h => h) (Or.inr ⟨by rfl, rfl⟩) (by assumption) ?rest23
      case' rest23 => skip
      try simp only [List.getElem_toArray, List.getElem_cons_succ, List.getElem_cons_zero, Act.put, List.setIfInBounds_toArray, List.set_cons_zero, List.set_cons_succ]
      first
        | refine' wpAnyH_take (i := 1) (v := _) rfl (by kernel_rfl) (by kernel_rfl) (by kernel_rfl) (fun _ _ _ h => h) (yieldsIf_load_mid (by rfl) _ _ rfl _ _ rfl _ _ (fun w hSw => (Mem.bl_row hSw m2 (by first | exact Mem.Row.lt m2 | omega | (simp <;> omega))).range) blkUnd rfl hil) (by assumption) ?rest24
        | refine wpAnyH_take (i := 1) (v := undef) rfl (by kernel_rfl) (by kernel_rfl) (by kernel_rfl) (fun _ _ _ h => h) (Or.inr ⟨by rfl, rfl⟩) (by assumption) ?rest24
      case' rest24 => skip
      try simp only [List.getElem_toArray, List.getElem_cons_succ, List.getElem_cons_zero, Act.put, List.setIfInBounds_toArray, List.set_cons_zero, List.set_cons_succ]
      refine wpAnyH_take (i := 2) (v := ?v25) rfl (by kernel_rfl) (by kernel_rfl) (by kernel_rfl) (fun _ _ _ h => h) (Or.inl ⟨by rfl, ?y25⟩) (by assumption) ?rest25
      case y25 => (intro w hSw; have hT0 := (Mem.bl_row hSw m1 (by first | exact Mem.Row.lt m1 | omega | (simp <;> omega))).cell 0 rfl; have hT1 := (Mem.bl_row hSw m1 (by first | exact Mem.Row.lt m1 | omega | (simp <;> omega))).cell 1 rfl; clear hSw; go_simp; try with_reducible rfl)
      case' rest25 => skip
      try simp only [List.getElem_toArray, List.getElem_cons_succ, List.getElem_cons_zero, Act.put, List.setIfInBounds_toArray, List.set_cons_zero, List.set_cons_succ]
      first
        | refine' wpAnyH_take (i := 6) (v := _) rfl (by kernel_rfl) (by kernel_rfl) (by kernel_rfl) (fun _ _ _ h => h) (yieldsIf_load_mid (by rfl) _ _ rfl _ _ rfl _ _ (fun w hSw => (Mem.bl_row hSw m2 (by first | exact Mem.Row.lt m2 | omega | (simp <;> omega))).range) blkUnd rfl hil) (by assumption) ?rest26
        | refine wpAnyH_take (i := 6) (v := undef) rfl (by kernel_rfl) (by kernel_rfl) (by kernel_rfl) (fun _ _ _ h => h) (Or.inr ⟨by rfl, rfl⟩) (by assumption) ?rest26
      case' rest26 => skip
      try simp only [List.getElem_toArray, List.getElem_cons_succ, List.getElem_cons_zero, Act.put, List.setIfInBounds_toArray, List.set_cons_zero, List.set_cons_succ]
      refine wpAnyH_ready (rs := [3]) (by kernel_rfl) (by simp) ?_
      refine AllReadyH.cons rfl (fun K hK => ?_) AllReadyH.nil
      go_simp
      (refine (to_any a A c d _ (hdc.below hHeld) hc hn6).mono ?_; rintro e wt ⟨A1, c1, rfl, k1, k2, k3, k4, hbl⟩)
      try go_wp2_with fail
      have hSnew := Mem.bl_step hHeld hbl (by first | exact Nat.le_refl _ | omega | (simp <;> omega))
      refine hK.out _ _ ?_ (fun hHeld2 => ?_)
      · exact hSnew
      clear hbl
      clear hK K hHeld hSnew
      have hHeld := hHeld2
      clear hHeld2
      try simp only [List.getElem_toArray, List.getElem_cons_succ, List.getElem_cons_zero, Act.put, List.setIfInBounds_toArray, List.set_cons_zero, List.set_cons_succ]
      refine wpAnyH_ready (rs := [4]) (by kernel_rfl) (by simp) ?_
      refine AllReadyH.cons rfl (fun K hK => ?_) AllReadyH.nil
      go_simp
      (refine (CW.out A1 c1 _).mono ?_; rintro e ws ⟨A2, c2, rfl, j1, j2, j3, j4, hbl⟩; have hs2 := j4.by_.sl_byte)
      try go_wp2_with fail
      have hSnew := Mem.bl_step hHeld hbl (by first | exact Nat.le_refl _ | omega | (simp <;> omega))
      refine hK.out _ _ ?_ (fun hHeld2 => ?_)
      · exact hSnew
      clear hbl
      clear hK K hHeld hSnew
      have hHeld := hHeld2
      clear hHeld2
      try simp only [List.getElem_toArray, List.getElem_cons_succ, List.getElem_cons_zero, Act.put, List.setIfInBounds_toArray, List.set_cons_zero, List.set_cons_succ]
      refine wpAnyH_ready (rs := [5]) (by kernel_rfl) (by simp) ?_
      refine AllReadyH.cons rfl (fun K hK => ?_) AllReadyH.nil
      go_simp
      (refine (lay_any Y wa A2 D.length c2 D _ hYl hs2).mono ?_; rw [h1.out]; rintro e wl ⟨rfl, hbl⟩)
      try go_wp2_with fail
      have hSnew := Mem.bl_step hHeld hbl (by first | exact Nat.le_refl _ | omega | (simp <;> omega))
      refine hK.out _ _ ?_ (fun hHeld2 => ?_)
      · exact hSnew
      clear hbl
      clear hK K hHeld hSnew
      have hHeld := hHeld2
      clear hHeld2
      try simp only [List.getElem_toArray, List.getElem_cons_succ, List.getElem_cons_zero, Act.put, List.setIfInBounds_toArray, List.set_cons_zero, List.set_cons_succ]
      refine wpAnyH_take (i := 7) (v := ?v27) rfl (by kernel_rfl) (by kernel_rfl) (by kernel_rfl) (fun _ _ _ h => h) (Or.inl ⟨by rfl, ?y27⟩) (by assumption) ?rest27
      case y27 => (intro w hSw; have hT0 := (Mem.bl_row hSw m1 (by first | exact Mem.Row.lt m1 | omega | (simp <;> omega))).cell 0 rfl; have hT1 := (Mem.bl_row hSw m1 (by first | exact Mem.Row.lt m1 | omega | (simp <;> omega))).cell 1 rfl; clear hSw; go_simp; try with_reducible rfl)
      case' rest27 => skip
      try simp only [List.getElem_toArray, List.getElem_cons_succ, List.getElem_cons_zero, Act.put, List.setIfInBounds_toArray, List.set_cons_zero, List.set_cons_succ]
      refine wpAnyH_take (i := 8) (v := ?v28) rfl (by kernel_rfl) (by kernel_rfl) (by kernel_rfl) (fun _ _ _ h => h) (Or.inl ⟨by rfl, ?y28⟩) (by assumption) ?rest28
      case y28 => (intro w hSw; have hT0 := (Mem.bl_row hSw m1 (by first | exact Mem.Row.lt m1 | omega | (simp <;> omega))).cell 0 rfl; have hT1 := (Mem.bl_row hSw m1 (by first | exact Mem.Row.lt m1 | omega | (simp <;> omega))).cell 1 rfl; clear hSw; go_simp; try with_reducible rfl)
      case' rest28 => skip
      try simp only [List.getElem_toArray, List.getElem_cons_succ, List.getElem_cons_zero, Act.put, List.setIfInBounds_toArray, List.set_cons_zero, List.set_cons_succ]
      first
        | refine' wpAnyH_take (i := 9) (v := _) rfl (by kernel_rfl) (by kernel_rfl) (by kernel_rfl) (fun _ _ _ h => h) (yieldsIf_load_mid (by rfl) _ _ rfl _ _ rfl _ _ (fun w hSw => (Mem.bl_row hSw m6 (by first | exact Mem.Row.lt m6 | omega | (simp <;> omega))).range) blkUnd rfl hiY) (by assumption) ?rest29
        | refine wpAnyH_take (i := 9) (v := undef) rfl (by kernel_rfl) (by kernel_rfl) (by kernel_rfl) (fun _ _ _ h => h) (Or.inr ⟨by rfl, rfl⟩) (by assumption) ?rest29
      case' rest29 => skip
      try simp only [List.getElem_toArray, List.getElem_cons_succ, List.getElem_cons_zero, Act.put, List.setIfInBounds_toArray, List.set_cons_zero, List.set_cons_succ]
      first
        | refine wpAnyH_take (i := 10) (v := undef) rfl (by kernel_rfl) (by kernel_rfl) (by kernel_rfl) (fun _ _ _ h => h) (Or.inr ⟨by rfl, rfl⟩) (by assumption) ?rest30
        | (refine wpAnyH_take (i := 10) (v := ?v30) rfl (by kernel_rfl) (by kernel_rfl) (by kernel_rfl) (fun _ _ _ h => h) (Or.inl ⟨by rfl, ?y30⟩) (by assumption) ?rest30; case y30 => (intro w hSw; have hT0 := (Mem.bl_row hSw m1 (by first | exact Mem.Row.lt m1 | omega | (simp <;> omega))).cell 0 rfl; have hT1 := (Mem.bl_row hSw m1 (by first | exact Mem.Row.lt m1 | omega | (simp <;> omega))).cell 1 rfl; clear hSw; go_simp; try with_reducible rfl))
      case' rest30 => skip
      try simp only [List.getElem_toArray, List.getElem_cons_succ, List.getElem_cons_zero, Act.put, List.setIfInBounds_toArray, List.set_cons_zero, List.set_cons_succ]
      first
        | refine' wpAnyH_take (i := 13) (v := _) rfl (by kernel_rfl) (by kernel_rfl) (by kernel_rfl) (fun _ _ _ h => h) (yieldsIf_load_mid (by rfl) _ _ rfl _ _ rfl _ _ (fun w hSw => (Mem.bl_row hSw m6 (by first | exact Mem.Row.lt m6 | omega | (simp <;> omega))).range) blkUnd rfl hiY) (by assumption) ?rest31
        | refine wpAnyH_take (i := 13) (v := undef) rfl (by kernel_rfl) (by kernel_rfl) (by kernel_rfl) (fun _ _ _ h => h) (Or.inr ⟨by rfl, rfl⟩) (by assumption) ?rest31
      case' rest31 => skip
      try simp only [List.getElem_toArray, List.getElem_cons_succ, List.getElem_cons_zero, Act.put, List.setIfInBounds_toArray, List.set_cons_zero, List.set_cons_succ]
      refine wpAnyH_ready (rs := [11]) (by kernel_rfl) (by simp) ?_
      refine AllReadyH.cons rfl (fun K hK => ?_) AllReadyH.nil
      go_simp
      (refine (to_any a A c d _ (hdc.below hHeld) hc hn6).mono ?_; rintro e wt2 ⟨A3, c3, rfl, i1, i2, i3, i4, hbl⟩; have hs3 := i4.by_.sl_byte)
      try go_wp2_with fail
      have hSnew := Mem.bl_step hHeld hbl (by first | exact Nat.le_refl _ | omega | (simp <;> omega))
      refine hK.out _ _ ?_ (fun hHeld2 => ?_)
      · exact hSnew
      clear hbl
      clear hK K hHeld hSnew
      have hHeld := hHeld2
      clear hHeld2
      try simp only [List.getElem_toArray, List.getElem_cons_succ, List.getElem_cons_zero, Act.put, List.setIfInBounds_toArray, List.set_cons_zero, List.set_cons_succ]
      refine wpAnyH_ready (rs := [12]) (by kernel_rfl) (by simp) ?_
      refine AllReadyH.cons rfl (fun K hK => ?_) AllReadyH.nil
      go_simp
      (refine (lay_any Y a A3 d.length c3 d _ hYl hs3).mono ?_; rw [h2.out]; rintro e wl2 ⟨rfl, hbl⟩)
      try go_wp2_with fail
      have hSnew := Mem.bl_step hHeld hbl (by first | exact Nat.le_refl _ | omega | (simp <;> omega))
      refine hK.out _ _ ?_ (fun hHeld2 => ?_)
      · exact hSnew
      clear hbl
      clear hK K hHeld hSnew
      have hHeld := hHeld2
      clear hHeld2
      try simp only [List.getElem_toArray, List.getElem_cons_succ, List.getElem_cons_zero, Act.put, List.setIfInBounds_toArray, List.set_cons_zero, List.set_cons_succ]
      first
        | refine wpAnyH_take (i := 14) (v := undef) rfl (by kernel_rfl) (by kernel_rfl) (by kernel_rfl) (fun _ _ _ h => h) (Or.inr ⟨by rfl, rfl⟩) (by assumption) ?rest32
        | (refine wpAnyH_take (i := 14) (v := ?v32) rfl (by kernel_rfl) (by kernel_rfl) (by kernel_rfl) (fun _ _ _ h => h) (Or.inl ⟨by rfl, ?y32⟩) (by assumption) ?rest32; case y32 => (intro w hSw; have hT0 := (Mem.bl_row hSw m1 (by first | exact Mem.Row.lt m1 | omega | (simp <;> omega))).cell 0 rfl; have hT1 := (Mem.bl_row hSw m1 (by first | exact Mem.Row.lt m1 | omega | (simp <;> omega))).cell 1 rfl; clear hSw; go_simp; try with_reducible rfl))
      case' rest32 => skip
      try simp only [List.getElem_toArray, List.getElem_cons_succ, List.getElem_cons_zero, Act.put, List.setIfInBounds_toArray, List.set_cons_zero, List.set_cons_succ]
      refine wpAnyH_take (i := 15) (v := ?v33) rfl (by kernel_rfl) (by kernel_rfl) (by kernel_rfl) (fun _ _ _ h => h) (Or.inl ⟨by rfl, ?y33⟩) (by assumption) ?rest33
      case y33 => (intro w hSw; have hT0 := (Mem.bl_row hSw m1 (by first | exact Mem.Row.lt m1 | omega | (simp <;> omega))).cell 0 rfl; have hT1 := (Mem.bl_row hSw m1 (by first | exact Mem.Row.lt m1 | omega | (simp <;> omega))).cell 1 rfl; clear hSw; go_simp; try with_reducible rfl)
      case' rest33 => skip
      try simp only [List.getElem_toArray, List.getElem_cons_succ, List.getElem_cons_zero, Act.put, List.setIfInBounds_toArray, List.set_cons_zero, List.set_cons_succ]
      refine wpAnyH_take (i := 16) (v := ?v34) rfl (by kernel_rfl) (by kernel_rfl) (by kernel_rfl) (fun _ _ _ h => h) (Or.inl ⟨by rfl, ?y34⟩) (by assumption) ?rest34
      case y34 => (intro w hSw; have hT0 := (Mem.bl_row hSw m1 (by first | exact Mem.Row.lt m1 | omega | (simp <;> omega))).cell 0 rfl; have hT1 := (Mem.bl_row hSw m1 (by first | exact Mem.Row.lt m1 | omega | (simp <;> omega))).cell 1 rfl; clear hSw; go_simp; try with_reducible rfl)
      case' rest34 => skip
      try simp only [List.getElem_toArray, List.getElem_cons_succ, List.getElem_cons_zero, Act.put, List.setIfInBounds_toArray, List.set_cons_zero, List.set_cons_succ]
      refine wpAnyH_ready (rs := [17]) (by kernel_rfl) (by simp) ?_
      refine AllReadyH.cons rfl (fun K hK => ?_) AllReadyH.nil
      go_simp
      (refine (works_any _).mono ?_; rintro e wk ⟨rfl, hbl⟩)
      try go_wp2_with fail
      have hSnew := Mem.bl_step hHeld hbl (by first | exact Nat.le_refl _ | omega | (simp <;> omega))
      refine hK.out _ _ ?_ (fun hHeld2 => ?_)
      · exact hSnew
      clear hbl
      clear hK K hHeld hSnew
      have hHeld := hHeld2
      clear hHeld2
      try simp only [List.getElem_toArray, List.getElem_cons_succ, List.getElem_cons_zero, Act.put, List.setIfInBounds_toArray, List.set_cons_zero, List.set_cons_succ]
      refine wpAnyH_take (i := 18) (v := ?v35) rfl (by kernel_rfl) (by kernel_rfl) (by kernel_rfl) (fun _ _ _ h => h) (Or.inl ⟨by rfl, ?y35⟩) (by assumption) ?rest35
      case y35 => (intro w hSw; have hT0 := (Mem.bl_row hSw m1 (by first | exact Mem.Row.lt m1 | omega | (simp <;> omega))).cell 0 rfl; have hT1 := (Mem.bl_row hSw m1 (by first | exact Mem.Row.lt m1 | omega | (simp <;> omega))).cell 1 rfl; clear hSw; go_simp; try with_reducible rfl)
      case' rest35 => skip
      try simp only [List.getElem_toArray, List.getElem_cons_succ, List.getElem_cons_zero, Act.put, List.setIfInBounds_toArray, List.set_cons_zero, List.set_cons_succ]
      refine wpAnyH_take (i := 19) (v := ?v36) rfl (by kernel_rfl) (by kernel_rfl) (by kernel_rfl) (fun _ _ _ h => h) (Or.inl ⟨by rfl, ?y36⟩) (by assumption) ?rest36
      case y36 => (intro w hSw; have hT0 := (Mem.bl_row hSw m1 (by first | exact Mem.Row.lt m1 | omega | (simp <;> omega))).cell 0 rfl; have hT1 := (Mem.bl_row hSw m1 (by first | exact Mem.Row.lt m1 | omega | (simp <;> omega))).cell 1 rfl; clear hSw; go_simp; try with_reducible rfl)
      case' rest36 => skip
      try simp only [List.getElem_toArray, List.getElem_cons_succ, List.getElem_cons_zero, Act.put, List.setIfInBounds_toArray, List.set_cons_zero, List.set_cons_succ]
      refine wpAnyH_done (by kernel_rfl) ?_ _
      go_wp2
      go_ret
      exact ⟨rfl, hbw.trans (((Below.refl _ _).drew.trans hHeld).mono hbw.size)⟩
theorem back_walk (l : List Nat) (a : Int) (A : Option Addr) (c : Nat) (d : List Nat) (w : World) (hl : l.length = 256) (hb : ∀ x ∈ l, x < 256) (hd : By w A d) (hc : A = none → c = 0) :
    Calls Try.prog 4 #[.agg (blk l), patV a A d.length c] w fun e w' => e = .returned (.bool true) ∧ Below w.heap.size w w' :=
  back_core l _ _ a _ A c d w hl hb hd hc rfl rfl rfl (back_law l a d hl) (twice_law l a d hl) (by rw [layL_length]; exact hl)
end Go.Proofs.Ytoibdomcekainaa.Pat
