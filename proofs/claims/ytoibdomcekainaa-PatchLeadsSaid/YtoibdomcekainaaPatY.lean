/- The statement PatchAll. -/
import Derived.Test.YtoibdomcekainaaPatX
namespace Go.Proofs.Ytoibdomcekainaa.Pat
open Go.RowKit Go.Proofs.Ytoibdomcekainaa.Mem Go.Proofs.Ytoibdomcekainaa.Open Go.Proofs.Ytoibdomcekainaa.Kind Go.Proofs.Ytoibdomcekainaa.Blk Go.Proofs.Ytoibdomcekainaa.App
set_option linter.unusedVariables false
set_option linter.unusedSimpArgs false
theorem allL_byte {l : List Nat} (hb : ∀ x ∈ l, x < 256) : ∀ (xs : List Pt), (∀ p ∈ xs, ∀ x ∈ p.2, x < 256) → ∀ x ∈ allL l xs, x < 256 := by
  intro xs
  induction xs generalizing l with
  | nil => intro _; exact hb
  | cons p xs ih => exact fun h => ih (layL_byte _ _ _ hb (h p List.mem_cons_self)) (fun q hq => h q (List.mem_cons_of_mem _ hq))
theorem ps_bytes {w : World} {A : Option Addr} {xs : List Pt} (h : Ps w A xs) : ∀ p ∈ xs, ∀ x ∈ p.2, x < 256 := by
  intro p hp
  obtain ⟨i, hi, rfl⟩ := List.mem_iff_getElem.1 hp
  obtain ⟨g, o, rfl⟩ := pat_form h (by omega)
  obtain ⟨A', c', _, _, _, _, _, _, _, q⟩ := pat_at h i hi
  exact q.lt_byte
set_option maxHeartbeats 4000000 in
set_option maxRecDepth 100000 in
theorem all_core (l X : List Nat) (A : Option Addr) (c : Nat) (xs : List Pt) (w : World) (hl : l.length = 256) (hb : ∀ x ∈ l, x < 256) (hx : Ps w A xs)
    (hX : Hid (allL l xs = X)) (hXl : X.length = 256) :
    Calls Try.prog 10 #[.agg (blk l), .slice A xs.length c] w fun e w' => e = .returned (.bool true) ∧ Below w.heap.size w w' := by
  have hs : (blk l).size = 256 := by rw [blk_size]; exact hl
  have hsX : (blk X).size = 256 := by rw [blk_size]; exact hXl
  have r0 := Row.new w 22 (blk l)
  have bb := (Below.refl w.heap.size w).alloc (Nat.le_refl _) (.cells (blk l) 22)
  have hx0 := hx.below bb
  have CU := Lib.hid (fun w' h => much_any A c xs 20 w' h (by omega))
  go_enter Try.func10, Try.ntmps10
  go_wp2_with fail
  generalize w.alloc (.cells (blk l) 22) = w0 at *
  cases hm : muchB xs 20 with
  | true =>
    rw [hm] at CU
    refine (CU.out _ hx0).mono ?_
    rintro e w1 ⟨rfl, hbl⟩
    have bb1 := bb.trans (hbl.mono bb.size)
    go_wp2_with (go_at_call 18; refine (works_any _).mono ?_; rintro e w' ⟨rfl, hbel2⟩)
    go_ret
    exact ⟨rfl, bb1.trans (hbel2.mono bb1.size)⟩
  | false =>
    obtain ⟨hm1, hm2⟩ := muchB_no hm
    rw [hm] at CU
    clear hm
    refine (CU.out _ hx0).mono ?_
    rintro e w1 ⟨rfl, hbl⟩
    have bb1 := bb.trans (hbl.mono bb.size)
    have r1 : Row w1 w.heap.size 22 (blk l) := Row.below r0 hbl
    have hx1 := hx.below bb1
    clear r0 bb hx0 hbl
    have r1d := r1.drew
    have hx1d : Ps w1.drew A xs := Rw.drew hx1
    have hia : (Try.prog.info? 22).map (·.size) = some (blk l).toList.length := by rw [Array.length_toList, hs]; exact arrSize
    have hm3 : xs.length ≤ 1000 := by omega
    have CT := Lib.hid (fun w' h => toall_any A c xs w' h hm3 hm2)
    have CP := Lib.hid (fun A' c' w' h => pall_any l A' c' xs w' hl h hm3)
    have HBL := Lib.hid (fun w' (h : Row w' w.heap.size 22 (blk l)) => row_by h hl hb)
    have CR := Lib.hid (fun w' hb' h => rall_any l (some ⟨w.heap.size, 0, none⟩) 256 A c xs w' hl hb' (Nat.le_refl _) (by decide) (fun h => by cases h) h hm3)
    rw [hX.out] at CP CR
    have CPB := Lib.hid (fun A' c' w' h => pbytes_any A' c' xs w' h hm3)
    have CRB := Lib.hid (fun w' h => rbytes_any A c xs w' h hm3)
    have HXl := Lib.hid hXl
    have HXS := Lib.hid (fun g7 w' (h : Row w' g7 28 (blk X)) => sl256 hXl h)
    clear hX hl hb hXl
    go_wp2_with fail
    go_cut [5] (fun s7 w' => ∃ g7, s7 = .pointer (some ⟨g7, 0, none⟩) ∧ w1.heap.size ≤ g7 ∧ Row w' g7 28 (blk X) ∧ Below w1.heap.size w1 w')
    case first =>
      refine wp_region_held_drew (S := Go.RowKit.Below ((w1.drew).heap.size) (w1.drew)) (by kernel_rfl) ?hb9 (fun hHeld => ?rest9)
      case hb9 =>
        exact Go.RowKit.Below.refl _ _
      case' rest9 => skip
      first
        | refine' wpAnyH_take (i := 0) (v := _) rfl (by kernel_rfl) (by kernel_rfl) (by kernel_rfl) (fun _ _ _ h => h) (yieldsIf_load_mid (by rfl) _ _ rfl _ _ rfl _ _ (fun w hSw => (Mem.bl_row hSw r1d (by first | exact Mem.Row.lt r1d | omega | (simp <;> omega))).range) arrUnd rfl hia) (by assumption) ?rest10
        | refine wpAnyH_take (i := 0) (v := undef) rfl (by kernel_rfl) (by kernel_rfl) (by kernel_rfl) (fun _ _ _ h => h) (Or.inr ⟨by rfl, rfl⟩) (by assumption) ?rest10
      case' rest10 => skip
      try simp only [List.getElem_toArray, List.getElem_cons_succ, List.getElem_cons_zero, Act.put, List.setIfInBounds_toArray, List.set_cons_zero, List.set_cons_succ]
      refine wpAnyH_take (i := 1) (v := ?v11) rfl (by kernel_rfl) (by kernel_rfl) (by kernel_rfl) (fun _ _ _ h => h) (Or.inl ⟨by rfl, ?y11⟩) (by assumption) ?rest11
      case y11 => (intro w hSw; clear hSw; go_simp; try with_reducible rfl)
      case' rest11 => skip
      try simp only [List.getElem_toArray, List.getElem_cons_succ, List.getElem_cons_zero, Act.put, List.setIfInBounds_toArray, List.set_cons_zero, List.set_cons_succ]
      refine wpAnyH_ready (rs := [2, 4]) (by kernel_rfl) (by simp) ?_
      refine AllReadyH.cons rfl (fun K hK => ?_) ?_
      · skip
        go_simp
        (refine (CT.out _ (hx1d.below hHeld)).mono ?_; rintro e wt ⟨v, rfl, hown, hbl⟩; obtain ⟨A5, c5, rfl, k1, k2, k3, ht⟩ := hown.rw_)
        try go_wp2_with fail
        have hSnew := Mem.bl_step hHeld hbl (by first | exact Nat.le_refl _ | omega | (simp <;> omega))
        refine hK.out _ _ ?_ (fun hHeld2 => ?_)
        · exact hSnew
        try replace ht := ht.below hbl
        try replace hr6 := hr6.below hbl
        clear hbl
        clear hK K hHeld hSnew
        have hHeld := hHeld2
        clear hHeld2
        try simp only [List.getElem_toArray, List.getElem_cons_succ, List.getElem_cons_zero, Act.put, List.setIfInBounds_toArray, List.set_cons_zero, List.set_cons_succ]
        refine wpAnyH_ready (rs := [3, 4]) (by kernel_rfl) (by simp) ?_
        refine AllReadyH.cons rfl (fun K hK => ?_) ?_
        · skip
          go_simp
          (refine (CP.out A5 c5 _ ht).mono ?_; rintro e wl ⟨rfl, hbl⟩; clear ht)
          try go_wp2_with fail
          have hSnew := Mem.bl_step hHeld hbl (by first | exact Nat.le_refl _ | omega | (simp <;> omega))
          refine hK.out _ _ ?_ (fun hHeld2 => ?_)
          · exact hSnew
          try replace ht := ht.below hbl
          try replace hr6 := hr6.below hbl
          clear hbl
          clear hK K hHeld hSnew
          have hHeld := hHeld2
          clear hHeld2
          try simp only [List.getElem_toArray, List.getElem_cons_succ, List.getElem_cons_zero, Act.put, List.setIfInBounds_toArray, List.set_cons_zero, List.set_cons_succ]
          refine wpAnyH_ready (rs := [4]) (by kernel_rfl) (by simp) ?_
          refine AllReadyH.cons rfl (fun K hK => ?_) AllReadyH.nil
          rw [if_pos (by rfl)]
          refine wp_allocN 28 (by rfl) _ blkZero ?_; intro g6 wa hr6 hbl hg6'; have hg6 : w1.heap.size ≤ g6 := Nat.le_trans hHeld.size hg6'
          have hSnew := Mem.bl_step hHeld hbl (by first | exact Nat.le_refl _ | omega | (simp <;> omega))
          refine hK.out _ _ ?_ (fun hHeld2 => ?_)
          · exact hSnew
          try replace ht := ht.below hbl
          try replace hr6 := hr6.below hbl
          clear hbl
          clear hK K hHeld hSnew
          have hHeld := hHeld2
          clear hHeld2
          try simp only [List.getElem_toArray, List.getElem_cons_succ, List.getElem_cons_zero, Act.put, List.setIfInBounds_toArray, List.set_cons_zero, List.set_cons_succ]
          refine wpAnyH_ready (rs := [5]) (by kernel_rfl) (by simp) ?_
          refine AllReadyH.cons rfl (fun K hK => ?_) AllReadyH.nil
          rw [if_pos (by rfl)]
          refine wp_storeRow _ _ _ (by rfl) g6 (by rfl) (blk X) (by rfl) (blk zblk) 28 256 blkSize hsX zblk_size (blk_one _) hr6 ?_; have hSnew := below_setRow hHeld hg6 (blk X); have hr7 := hr6.set (blk X)
          refine hK.out _ _ ?_ (fun hHeld2 => ?_)
          · exact hSnew
          clear hK K hHeld hSnew
          have hHeld := hHeld2
          clear hHeld2
          try simp only [List.getElem_toArray, List.getElem_cons_succ, List.getElem_cons_zero, Act.put, List.setIfInBounds_toArray, List.set_cons_zero, List.set_cons_succ]
          refine wpAnyH_done (by kernel_rfl) ?_ _
          go_wp2_with fail
          go_meet
          case rel => exact ⟨g6, rfl, hg6, hr7, (Below.refl _ _).drew.trans hHeld⟩
        refine AllReadyH.cons rfl (fun K hK => ?_) ?_
        · skip
          rw [if_pos (by rfl)]
          refine wp_allocN 28 (by rfl) _ blkZero ?_; intro g6 wa hr6 hbl hg6'; have hg6 : w1.heap.size ≤ g6 := Nat.le_trans hHeld.size hg6'
          have hSnew := Mem.bl_step hHeld hbl (by first | exact Nat.le_refl _ | omega | (simp <;> omega))
          refine hK.out _ _ ?_ (fun hHeld2 => ?_)
          · exact hSnew
          try replace ht := ht.below hbl
          try replace hr6 := hr6.below hbl
          clear hbl
          clear hK K hHeld hSnew
          have hHeld := hHeld2
          clear hHeld2
          try simp only [List.getElem_toArray, List.getElem_cons_succ, List.getElem_cons_zero, Act.put, List.setIfInBounds_toArray, List.set_cons_zero, List.set_cons_succ]
          refine wpAnyH_ready (rs := [3]) (by kernel_rfl) (by simp) ?_
          refine AllReadyH.cons rfl (fun K hK => ?_) AllReadyH.nil
          go_simp
          (refine (CP.out A5 c5 _ ht).mono ?_; rintro e wl ⟨rfl, hbl⟩; clear ht)
          try go_wp2_with fail
          have hSnew := Mem.bl_step hHeld hbl (by first | exact Nat.le_refl _ | omega | (simp <;> omega))
          refine hK.out _ _ ?_ (fun hHeld2 => ?_)
          · exact hSnew
          try replace ht := ht.below hbl
          try replace hr6 := hr6.below hbl
          clear hbl
          clear hK K hHeld hSnew
          have hHeld := hHeld2
          clear hHeld2
          try simp only [List.getElem_toArray, List.getElem_cons_succ, List.getElem_cons_zero, Act.put, List.setIfInBounds_toArray, List.set_cons_zero, List.set_cons_succ]
          refine wpAnyH_ready (rs := [5]) (by kernel_rfl) (by simp) ?_
          refine AllReadyH.cons rfl (fun K hK => ?_) AllReadyH.nil
          rw [if_pos (by rfl)]
          refine wp_storeRow _ _ _ (by rfl) g6 (by rfl) (blk X) (by rfl) (blk zblk) 28 256 blkSize hsX zblk_size (blk_one _) hr6 ?_; have hSnew := below_setRow hHeld hg6 (blk X); have hr7 := hr6.set (blk X)
          refine hK.out _ _ ?_ (fun hHeld2 => ?_)
          · exact hSnew
          clear hK K hHeld hSnew
          have hHeld := hHeld2
          clear hHeld2
          try simp only [List.getElem_toArray, List.getElem_cons_succ, List.getElem_cons_zero, Act.put, List.setIfInBounds_toArray, List.set_cons_zero, List.set_cons_succ]
          refine wpAnyH_done (by kernel_rfl) ?_ _
          go_wp2_with fail
          go_meet
          case rel => exact ⟨g6, rfl, hg6, hr7, (Below.refl _ _).drew.trans hHeld⟩
        exact AllReadyH.nil
      refine AllReadyH.cons rfl (fun K hK => ?_) ?_
      · skip
        rw [if_pos (by rfl)]
        refine wp_allocN 28 (by rfl) _ blkZero ?_; intro g6 wa hr6 hbl hg6'; have hg6 : w1.heap.size ≤ g6 := Nat.le_trans hHeld.size hg6'
        have hSnew := Mem.bl_step hHeld hbl (by first | exact Nat.le_refl _ | omega | (simp <;> omega))
        refine hK.out _ _ ?_ (fun hHeld2 => ?_)
        · exact hSnew
        try replace ht := ht.below hbl
        try replace hr6 := hr6.below hbl
        clear hbl
        clear hK K hHeld hSnew
        have hHeld := hHeld2
        clear hHeld2
        try simp only [List.getElem_toArray, List.getElem_cons_succ, List.getElem_cons_zero, Act.put, List.setIfInBounds_toArray, List.set_cons_zero, List.set_cons_succ]
        refine wpAnyH_ready (rs := [2]) (by kernel_rfl) (by simp) ?_
        refine AllReadyH.cons rfl (fun K hK => ?_) AllReadyH.nil
        go_simp
        (refine (CT.out _ (hx1d.below hHeld)).mono ?_; rintro e wt ⟨v, rfl, hown, hbl⟩; obtain ⟨A5, c5, rfl, k1, k2, k3, ht⟩ := hown.rw_)
        try go_wp2_with fail
        have hSnew := Mem.bl_step hHeld hbl (by first | exact Nat.le_refl _ | omega | (simp <;> omega))
        refine hK.out _ _ ?_ (fun hHeld2 => ?_)
        · exact hSnew
        try replace ht := ht.below hbl
        try replace hr6 := hr6.below hbl
        clear hbl
        clear hK K hHeld hSnew
        have hHeld := hHeld2
        clear hHeld2
        try simp only [List.getElem_toArray, List.getElem_cons_succ, List.getElem_cons_zero, Act.put, List.setIfInBounds_toArray, List.set_cons_zero, List.set_cons_succ]
        refine wpAnyH_ready (rs := [3]) (by kernel_rfl) (by simp) ?_
        refine AllReadyH.cons rfl (fun K hK => ?_) AllReadyH.nil
        go_simp
        (refine (CP.out A5 c5 _ ht).mono ?_; rintro e wl ⟨rfl, hbl⟩; clear ht)
        try go_wp2_with fail
        have hSnew := Mem.bl_step hHeld hbl (by first | exact Nat.le_refl _ | omega | (simp <;> omega))
        refine hK.out _ _ ?_ (fun hHeld2 => ?_)
        · exact hSnew
        try replace ht := ht.below hbl
        try replace hr6 := hr6.below hbl
        clear hbl
        clear hK K hHeld hSnew
        have hHeld := hHeld2
        clear hHeld2
        try simp only [List.getElem_toArray, List.getElem_cons_succ, List.getElem_cons_zero, Act.put, List.setIfInBounds_toArray, List.set_cons_zero, List.set_cons_succ]
        refine wpAnyH_ready (rs := [5]) (by kernel_rfl) (by simp) ?_
        refine AllReadyH.cons rfl (fun K hK => ?_) AllReadyH.nil
        rw [if_pos (by rfl)]
        refine wp_storeRow _ _ _ (by rfl) g6 (by rfl) (blk X) (by rfl) (blk zblk) 28 256 blkSize hsX zblk_size (blk_one _) hr6 ?_; have hSnew := below_setRow hHeld hg6 (blk X); have hr7 := hr6.set (blk X)
        refine hK.out _ _ ?_ (fun hHeld2 => ?_)
        · exact hSnew
        clear hK K hHeld hSnew
        have hHeld := hHeld2
        clear hHeld2
        try simp only [List.getElem_toArray, List.getElem_cons_succ, List.getElem_cons_zero, Act.put, List.setIfInBounds_toArray, List.set_cons_zero, List.set_cons_succ]
        refine wpAnyH_done (by kernel_rfl) ?_ _
        go_wp2_with fail
        go_meet
        case rel => exact ⟨g6, rfl, hg6, hr7, (Below.refl _ _).drew.trans hHeld⟩
      exact AllReadyH.nil
    case rest =>
      obtain ⟨g7, rfl, hg7, hr7, hb7⟩ := hcut
      have hb2 := bb1.trans (hb7.mono bb1.size)
      have r2 : Row wc w.heap.size 22 (blk l) := Row.below r1 hb7
      have hx2 := hx1.below hb7
      clear r1 hx1 r1d hx1d bb1 hb7
      generalize wc = w2 at *
      have r2d := r2.drew
      have r7d := hr7.drew
      have hx2d : Ps w2.drew A xs := Rw.drew hx2
      have CS := Lib.hid (fun A' c' w' h1 h2 => same_yes (some ⟨g7, 0, none⟩) A' 256 256 256 c' X w' h1 h2)
      generalize bytesN xs = N at *
      go_wp2_with fail
      refine wp_region_held_drew (S := Go.RowKit.Below ((w2.drew).heap.size) (w2.drew)) (by kernel_rfl) ?hb22 (fun hHeld => ?rest22)
      case hb22 =>
        exact Go.RowKit.Below.refl _ _
      case' rest22 => skip
      refine wpAnyH_take (i := 0) (v := ?v23) rfl (by kernel_rfl) (by kernel_rfl) (by kernel_rfl) (fun _ _ _ h => h) (Or.inl ⟨by rfl, ?y23⟩) (by assumption) ?rest23
      case y23 => (intro w hSw; clear hSw; go_simp; try with_reducible rfl)
      case' rest23 => skip
      try simp only [List.getElem_toArray, List.getElem_cons_succ, List.getElem_cons_zero, Act.put, List.setIfInBounds_toArray, List.set_cons_zero, List.set_cons_succ]
      refine wpAnyH_take (i := 1) (v := ?v24) rfl (by kernel_rfl) (by kernel_rfl) (by kernel_rfl) (fun _ _ _ h => h) (Or.inl ⟨by rfl, ?y24⟩) (by assumption) ?rest24
      case y24 => (intro w hSw; clear hSw; go_simp; try with_reducible rfl)
      case' rest24 => skip
      try simp only [List.getElem_toArray, List.getElem_cons_succ, List.getElem_cons_zero, Act.put, List.setIfInBounds_toArray, List.set_cons_zero, List.set_cons_succ]
      refine wpAnyH_take (i := 2) (v := ?v25) rfl (by kernel_rfl) (by kernel_rfl) (by kernel_rfl) (fun _ _ _ h => h) (Or.inl ⟨by rfl, ?y25⟩) (by assumption) ?rest25
      case y25 => (intro w hSw; clear hSw; go_simp; try with_reducible rfl)
      case' rest25 => skip
      try simp only [List.getElem_toArray, List.getElem_cons_succ, List.getElem_cons_zero, Act.put, List.setIfInBounds_toArray, List.set_cons_zero, List.set_cons_succ]
      refine wpAnyH_ready (rs := [3]) (by kernel_rfl) (by simp) ?_
      refine AllReadyH.cons rfl (fun K hK => ?_) AllReadyH.nil
      go_simp
      (refine (CR.out _ (HBL.out _ (bl_row hHeld r2d (Row.lt r2d))) (hx2d.below hHeld)).mono ?_; rintro e w5 ⟨A7, c7, rfl, k4, hbl⟩)
      try go_wp2_with fail
      have hSnew := Mem.bl_step hHeld hbl (by first | exact Nat.le_refl _ | omega | (simp <;> omega))
      refine hK.out _ _ ?_ (fun hHeld2 => ?_)
      · exact hSnew
      try replace ht := ht.below hbl
      clear hbl
      clear hK K hHeld hSnew
      have hHeld := hHeld2
      clear hHeld2
      try simp only [List.getElem_toArray, List.getElem_cons_succ, List.getElem_cons_zero, Act.put, List.setIfInBounds_toArray, List.set_cons_zero, List.set_cons_succ]
      refine wpAnyH_ready (rs := [4]) (by kernel_rfl) (by simp) ?_
      refine AllReadyH.cons rfl (fun K hK => ?_) AllReadyH.nil
      go_simp
      (refine (CS.out A7 c7 _ (HXS.out g7 _ (bl_row hHeld r7d (Row.lt r7d))) (HXl.out ▸ k4.sl_byte)).mono ?_; rintro e w6 ⟨rfl, hbl⟩; clear k4)
      try go_wp2_with fail
      have hSnew := Mem.bl_step hHeld hbl (by first | exact Nat.le_refl _ | omega | (simp <;> omega))
      refine hK.out _ _ ?_ (fun hHeld2 => ?_)
      · exact hSnew
      try replace ht := ht.below hbl
      clear hbl
      clear hK K hHeld hSnew
      have hHeld := hHeld2
      clear hHeld2
      try simp only [List.getElem_toArray, List.getElem_cons_succ, List.getElem_cons_zero, Act.put, List.setIfInBounds_toArray, List.set_cons_zero, List.set_cons_succ]
      refine wpAnyH_take (i := 5) (v := ?v26) rfl (by kernel_rfl) (by kernel_rfl) (by kernel_rfl) (fun _ _ _ h => h) (Or.inl ⟨by rfl, ?y26⟩) (by assumption) ?rest26
      case y26 => (intro w hSw; clear hSw; go_simp; try with_reducible rfl)
      case' rest26 => skip
      try simp only [List.getElem_toArray, List.getElem_cons_succ, List.getElem_cons_zero, Act.put, List.setIfInBounds_toArray, List.set_cons_zero, List.set_cons_succ]
      first
        | refine wpAnyH_take (i := 6) (v := undef) rfl (by kernel_rfl) (by kernel_rfl) (by kernel_rfl) (fun _ _ _ h => h) (Or.inr ⟨by rfl, rfl⟩) (by assumption) ?rest27
        | (refine wpAnyH_take (i := 6) (v := ?v27) rfl (by kernel_rfl) (by kernel_rfl) (by kernel_rfl) (fun _ _ _ h => h) (Or.inl ⟨by rfl, ?y27⟩) (by assumption) ?rest27; case y27 => (intro w hSw; clear hSw; go_simp; try with_reducible rfl))
      case' rest27 => skip
      try simp only [List.getElem_toArray, List.getElem_cons_succ, List.getElem_cons_zero, Act.put, List.setIfInBounds_toArray, List.set_cons_zero, List.set_cons_succ]
      first
        | refine wpAnyH_take (i := 9) (v := undef) rfl (by kernel_rfl) (by kernel_rfl) (by kernel_rfl) (fun _ _ _ h => h) (Or.inr ⟨by rfl, rfl⟩) (by assumption) ?rest28
        | (refine wpAnyH_take (i := 9) (v := ?v28) rfl (by kernel_rfl) (by kernel_rfl) (by kernel_rfl) (fun _ _ _ h => h) (Or.inl ⟨by rfl, ?y28⟩) (by assumption) ?rest28; case y28 => (intro w hSw; clear hSw; go_simp; try with_reducible rfl))
      case' rest28 => skip
      try simp only [List.getElem_toArray, List.getElem_cons_succ, List.getElem_cons_zero, Act.put, List.setIfInBounds_toArray, List.set_cons_zero, List.set_cons_succ]
      refine wpAnyH_ready (rs := [7]) (by kernel_rfl) (by simp) ?_
      refine AllReadyH.cons rfl (fun K hK => ?_) AllReadyH.nil
      go_simp
      (refine (CT.out _ (hx2d.below hHeld)).mono ?_; rintro e wt ⟨v, rfl, hown, hbl⟩; obtain ⟨A5, c5, rfl, k1, k2, k3, ht⟩ := hown.rw_)
      try go_wp2_with fail
      have hSnew := Mem.bl_step hHeld hbl (by first | exact Nat.le_refl _ | omega | (simp <;> omega))
      refine hK.out _ _ ?_ (fun hHeld2 => ?_)
      · exact hSnew
      try replace ht := ht.below hbl
      clear hbl
      clear hK K hHeld hSnew
      have hHeld := hHeld2
      clear hHeld2
      try simp only [List.getElem_toArray, List.getElem_cons_succ, List.getElem_cons_zero, Act.put, List.setIfInBounds_toArray, List.set_cons_zero, List.set_cons_succ]
      refine wpAnyH_ready (rs := [8]) (by kernel_rfl) (by simp) ?_
      refine AllReadyH.cons rfl (fun K hK => ?_) AllReadyH.nil
      go_simp
      (refine (CPB.out A5 c5 _ ht).mono ?_; rintro e wl ⟨rfl, hbl⟩; clear ht)
      try go_wp2_with fail
      have hSnew := Mem.bl_step hHeld hbl (by first | exact Nat.le_refl _ | omega | (simp <;> omega))
      refine hK.out _ _ ?_ (fun hHeld2 => ?_)
      · exact hSnew
      try replace ht := ht.below hbl
      clear hbl
      clear hK K hHeld hSnew
      have hHeld := hHeld2
      clear hHeld2
      try simp only [List.getElem_toArray, List.getElem_cons_succ, List.getElem_cons_zero, Act.put, List.setIfInBounds_toArray, List.set_cons_zero, List.set_cons_succ]
      refine wpAnyH_ready (rs := [10]) (by kernel_rfl) (by simp) ?_
      refine AllReadyH.cons rfl (fun K hK => ?_) AllReadyH.nil
      go_simp
      (refine (CRB.out _ (hx2d.below hHeld)).mono ?_; rintro e wl ⟨rfl, hbl⟩)
      try go_wp2_with fail
      have hSnew := Mem.bl_step hHeld hbl (by first | exact Nat.le_refl _ | omega | (simp <;> omega))
      refine hK.out _ _ ?_ (fun hHeld2 => ?_)
      · exact hSnew
      try replace ht := ht.below hbl
      clear hbl
      clear hK K hHeld hSnew
      have hHeld := hHeld2
      clear hHeld2
      try simp only [List.getElem_toArray, List.getElem_cons_succ, List.getElem_cons_zero, Act.put, List.setIfInBounds_toArray, List.set_cons_zero, List.set_cons_succ]
      first
        | refine wpAnyH_take (i := 11) (v := undef) rfl (by kernel_rfl) (by kernel_rfl) (by kernel_rfl) (fun _ _ _ h => h) (Or.inr ⟨by rfl, rfl⟩) (by assumption) ?rest29
        | (refine wpAnyH_take (i := 11) (v := ?v29) rfl (by kernel_rfl) (by kernel_rfl) (by kernel_rfl) (fun _ _ _ h => h) (Or.inl ⟨by rfl, ?y29⟩) (by assumption) ?rest29; case y29 => (intro w hSw; clear hSw; go_simp; try with_reducible rfl))
      case' rest29 => skip
      try simp only [List.getElem_toArray, List.getElem_cons_succ, List.getElem_cons_zero, Act.put, List.setIfInBounds_toArray, List.set_cons_zero, List.set_cons_succ]
      refine wpAnyH_take (i := 12) (v := ?v30) rfl (by kernel_rfl) (by kernel_rfl) (by kernel_rfl) (fun _ _ _ h => h) (Or.inl ⟨by rfl, ?y30⟩) (by assumption) ?rest30
      case y30 => (intro w hSw; clear hSw; go_simp; try with_reducible rfl)
      case' rest30 => skip
      try simp only [List.getElem_toArray, List.getElem_cons_succ, List.getElem_cons_zero, Act.put, List.setIfInBounds_toArray, List.set_cons_zero, List.set_cons_succ]
      refine wpAnyH_take (i := 13) (v := ?v31) rfl (by kernel_rfl) (by kernel_rfl) (by kernel_rfl) (fun _ _ _ h => h) (Or.inl ⟨by rfl, ?y31⟩) (by assumption) ?rest31
      case y31 => (intro w hSw; clear hSw; go_simp; try with_reducible rfl)
      case' rest31 => skip
      try simp only [List.getElem_toArray, List.getElem_cons_succ, List.getElem_cons_zero, Act.put, List.setIfInBounds_toArray, List.set_cons_zero, List.set_cons_succ]
      refine wpAnyH_ready (rs := [14]) (by kernel_rfl) (by simp) ?_
      refine AllReadyH.cons rfl (fun K hK => ?_) AllReadyH.nil
      go_simp
      (refine (works_any _).mono ?_; rintro e wk ⟨rfl, hbl⟩)
      try go_wp2_with fail
      have hSnew := Mem.bl_step hHeld hbl (by first | exact Nat.le_refl _ | omega | (simp <;> omega))
      refine hK.out _ _ ?_ (fun hHeld2 => ?_)
      · exact hSnew
      try replace ht := ht.below hbl
      clear hbl
      clear hK K hHeld hSnew
      have hHeld := hHeld2
      clear hHeld2
      try simp only [List.getElem_toArray, List.getElem_cons_succ, List.getElem_cons_zero, Act.put, List.setIfInBounds_toArray, List.set_cons_zero, List.set_cons_succ]
      refine wpAnyH_take (i := 15) (v := ?v32) rfl (by kernel_rfl) (by kernel_rfl) (by kernel_rfl) (fun _ _ _ h => h) (Or.inl ⟨by rfl, ?y32⟩) (by assumption) ?rest32
      case y32 => (intro w hSw; clear hSw; go_simp; try with_reducible rfl)
      case' rest32 => skip
      try simp only [List.getElem_toArray, List.getElem_cons_succ, List.getElem_cons_zero, Act.put, List.setIfInBounds_toArray, List.set_cons_zero, List.set_cons_succ]
      refine wpAnyH_take (i := 16) (v := ?v33) rfl (by kernel_rfl) (by kernel_rfl) (by kernel_rfl) (fun _ _ _ h => h) (Or.inl ⟨by rfl, ?y33⟩) (by assumption) ?rest33
      case y33 => (intro w hSw; clear hSw; go_simp; try with_reducible rfl)
      case' rest33 => skip
      try simp only [List.getElem_toArray, List.getElem_cons_succ, List.getElem_cons_zero, Act.put, List.setIfInBounds_toArray, List.set_cons_zero, List.set_cons_succ]
      refine wpAnyH_done (by kernel_rfl) ?_ _
      go_wp2
      go_ret
      exact ⟨rfl, hb2.trans (((Below.refl _ _).drew.trans hHeld).mono hb2.size)⟩
theorem all_walk (l : List Nat) (A : Option Addr) (c : Nat) (xs : List Pt) (w : World) (hl : l.length = 256) (hb : ∀ x ∈ l, x < 256) (hx : Ps w A xs) (hc : A = none → c = 0) :
    Calls Try.prog 10 #[.agg (blk l), .slice A xs.length c] w fun e w' => e = .returned (.bool true) ∧ Below w.heap.size w w' :=
  all_core l _ A c xs w hl hb hx rfl ((allL_length _ _).trans hl)
end Go.Proofs.Ytoibdomcekainaa.Pat
