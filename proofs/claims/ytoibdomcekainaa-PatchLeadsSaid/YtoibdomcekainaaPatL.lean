/- The statement PatchLays. -/
import Derived.Test.YtoibdomcekainaaPatS2
import Derived.Test.YtoibdomcekainaaPat6
namespace Go.Proofs.Ytoibdomcekainaa.Pat
open Go.RowKit Go.Proofs.Ytoibdomcekainaa.Mem Go.Proofs.Ytoibdomcekainaa.Open Go.Proofs.Ytoibdomcekainaa.Kind Go.Proofs.Ytoibdomcekainaa.Blk Go.Proofs.Ytoibdomcekainaa.App
set_option linter.unusedVariables false
set_option linter.unusedSimpArgs false
theorem row_by {w : World} {g : Nat} {T : TypeId} {l : List Nat} (h : Row w g T (blk l)) (hl : l.length = 256) (hb : ∀ x ∈ l, x < 256) : By w (some ⟨g, 0, none⟩) l := by
  refine ⟨rfl, by rw [hl]; decide, .inr ⟨g, 0, rfl, h.lt, h.lt, fun i x hx => ⟨[V8 x], ⟨rfl, hb x (List.mem_of_getElem? hx)⟩, fun j v hv => ?_⟩⟩⟩
  cases j with
  | succ j => simp at hv
  | zero =>
    simp at hv
    subst hv
    obtain ⟨hi, rfl⟩ := List.getElem?_eq_some_iff.1 hx
    rw [show 0 + i * kByte.sz + 0 = i from by show 0 + i * 1 + 0 = i; omega]
    exact h.cell i (by rw [blk_get _ _ hi]; rfl)
theorem psame_refl (a : Int) (d : List Nat) : psameB a d a d = true := decide_eq_true ⟨rfl, rfl⟩

theorem same_yes (A B : Option Addr) (n m c d : Nat) (xs : List Nat) (w : World) (hx : Sl w V8 A n xs) (hy : Sl w V8 B m xs) :
    Calls Try.prog 31 #[.slice A n c, .slice B m d] w fun e w' => e = .returned (.bool true) ∧ Below w.heap.size w w' := by
  refine (Same.same_any A B n m c d xs xs w hx hy).mono ?_
  rintro e w' ⟨rfl, q, rfl⟩
  exact ⟨ret_bool (decide_eq_true rfl), bdrewN (Below.refl _ _) q⟩

set_option maxHeartbeats 4000000 in
set_option maxRecDepth 100000 in
theorem lays_core (l X D : List Nat) (a b wa : Int) (A : Option Addr) (c : Nat) (d : List Nat) (A2 : Option Addr) (c2 : Nat) (f : List Nat) (w : World) (hl : l.length = 256) (hb : ∀ x ∈ l, x < 256) (hd : By w A d) (hc : A = none → c = 0) (hf : By w A2 f) (hc2 : A2 = none → c2 = 0)
    (hX : Hid (layL l a d = X)) (hD : Hid (wasD l a d.length = D)) (hwa : Hid (wasA a d.length = wa)) (hXl : X.length = 256) (hXb : ∀ x ∈ X, x < 256) :
    Calls Try.prog 7 #[.agg (blk l), patV a A d.length c, patV b A2 f.length c2] w fun e w' => e = .returned (.bool true) ∧ Below w.heap.size w w' := by
  have hs : (blk l).size = 256 := by rw [blk_size]; exact hl
  have hsX : (blk X).size = 256 := by rw [blk_size]; exact hXl
  obtain ⟨r0, r1, r2, bb⟩ := two w l 22 34 34 #[.int .i64 a, .slice A d.length c] #[.int .i64 b, .slice A2 f.length c2]
  have hdm := hd.2.1
  have hfm := hf.2.1
  unfold M63 at hdm hfm
  by_cases h6 : 600 < d.length
  · go_enter Try.func7, Try.ntmps7
    go_wp2_with (go_at_call 18; refine (works_any _).mono ?_; rintro e w' ⟨rfl, hbel2⟩)
    go_ret
    exact ⟨rfl, bb.trans (hbel2.mono bb.size)⟩
  by_cases h7 : 600 < f.length
  · go_enter Try.func7, Try.ntmps7
    go_wp2_with (go_at_call 18; refine (works_any _).mono ?_; rintro e w' ⟨rfl, hbel2⟩)
    go_ret
    exact ⟨rfl, bb.trans (hbel2.mono bb.size)⟩
  have hn6 : d.length ≤ 100000 := by omega
  have hn7 : f.length ≤ 100000 := by omega
  go_enter Try.func7, Try.ntmps7
  go_wp2_with fail
  generalize ((w.alloc (.cells (blk l) 22)).alloc (.cells #[.int .i64 a, .slice A d.length c] 34)).alloc (.cells #[.int .i64 b, .slice A2 f.length c2] 34) = w1 at *
  have hia : (Try.prog.info? 22).map (·.size) = some (blk l).toList.length := by rw [Array.length_toList, hs]; exact arrSize
  have hd1 : By w1.drew A d := (hd.below bb).drew
  have hf1 : By w1.drew A2 f := (hf.below bb).drew
  have r0d : Row w1.drew w.heap.size 22 (blk l) := r0
  have r1d := r1.drew
  have r2d := r2.drew
  go_cut [7] (fun s7 w' => ∃ g7, s7 = .pointer (some ⟨g7, 0, none⟩) ∧ w1.heap.size ≤ g7 ∧ Row w' g7 28 (blk X) ∧ Below w1.heap.size w1 w')
  case first =>
    refine wp_region_held_drew (S := Go.RowKit.Below ((w1.drew).heap.size) (w1.drew)) (by kernel_rfl) ?hb9 (fun hHeld => ?rest9)
    case hb9 =>
      exact Go.RowKit.Below.refl _ _
    case' rest9 => skip
    first
      | refine' wpAnyH_take (i := 0) (v := _) rfl (by kernel_rfl) (by kernel_rfl) (by kernel_rfl) (fun _ _ _ h => h) (yieldsIf_load_mid (by rfl) _ _ rfl _ _ rfl _ _ (fun w hSw => (Mem.bl_row hSw r0d (by first | exact Mem.Row.lt r0d | omega | (simp <;> omega))).range) arrUnd rfl hia) (by assumption) ?rest10
      | refine wpAnyH_take (i := 0) (v := undef) rfl (by kernel_rfl) (by kernel_rfl) (by kernel_rfl) (fun _ _ _ h => h) (Or.inr ⟨by rfl, rfl⟩) (by assumption) ?rest10
    case' rest10 => skip
    try simp only [List.getElem_toArray, List.getElem_cons_succ, List.getElem_cons_zero, Act.put, List.setIfInBounds_toArray, List.set_cons_zero, List.set_cons_succ]
    refine wpAnyH_take (i := 1) (v := ?v11) rfl (by kernel_rfl) (by kernel_rfl) (by kernel_rfl) (fun _ _ _ h => h) (Or.inl ⟨by rfl, ?y11⟩) (by assumption) ?rest11
    case y11 => (intro w hSw; have hT0 := (Mem.bl_row hSw r1d (by first | exact Mem.Row.lt r1d | omega | (simp <;> omega))).cell 0 rfl; have hT1 := (Mem.bl_row hSw r1d (by first | exact Mem.Row.lt r1d | omega | (simp <;> omega))).cell 1 rfl; have hT2 := (Mem.bl_row hSw r2d (by first | exact Mem.Row.lt r2d | omega | (simp <;> omega))).cell 0 rfl; have hT3 := (Mem.bl_row hSw r2d (by first | exact Mem.Row.lt r2d | omega | (simp <;> omega))).cell 1 rfl; clear hSw; go_simp; try with_reducible rfl)
    case' rest11 => skip
    try simp only [List.getElem_toArray, List.getElem_cons_succ, List.getElem_cons_zero, Act.put, List.setIfInBounds_toArray, List.set_cons_zero, List.set_cons_succ]
    refine wpAnyH_ready (rs := [2, 4]) (by kernel_rfl) (by simp) ?_
    refine AllReadyH.cons rfl (fun K hK => ?_) ?_
    · skip
      go_simp
      (refine (to_any a A c d _ (hd1.below hHeld) hc hn6).mono ?_; rintro e wt ⟨A5, c5, rfl, k1, k2, k3, k4, hbl⟩; have ht := k4.by_)
      try go_wp2_with fail
      have hSnew := Mem.bl_step hHeld hbl (by first | exact Nat.le_refl _ | omega | (simp <;> omega))
      refine hK.out _ _ ?_ (fun hHeld2 => ?_)
      · exact hSnew
      try replace ht := ht.below hbl
      try replace hr6 := hr6.below hbl
      clear hbl
      clear hK K hHeld hSnew
      have hHeld := hHeld2
      clear hHeld2
      try simp only [List.getElem_toArray, List.getElem_cons_succ, List.getElem_cons_zero, Act.put, List.setIfInBounds_toArray, List.set_cons_zero, List.set_cons_succ]
      refine wpAnyH_ready (rs := [3, 4]) (by kernel_rfl) (by simp) ?_
      refine AllReadyH.cons rfl (fun K hK => ?_) ?_
      · skip
        go_simp
        (refine (lay_any l a A5 d.length c5 d _ hl ht.sl_byte).mono ?_; rw [hX.out]; rintro e wl ⟨rfl, hbl⟩; clear ht)
        try go_wp2_with fail
        have hSnew := Mem.bl_step hHeld hbl (by first | exact Nat.le_refl _ | omega | (simp <;> omega))
        refine hK.out _ _ ?_ (fun hHeld2 => ?_)
        · exact hSnew
        try replace ht := ht.below hbl
        try replace hr6 := hr6.below hbl
        clear hbl
        clear hK K hHeld hSnew
        have hHeld := hHeld2
        clear hHeld2
        try simp only [List.getElem_toArray, List.getElem_cons_succ, List.getElem_cons_zero, Act.put, List.setIfInBounds_toArray, List.set_cons_zero, List.set_cons_succ]
        refine wpAnyH_ready (rs := [4]) (by kernel_rfl) (by simp) ?_
        refine AllReadyH.cons rfl (fun K hK => ?_) AllReadyH.nil
        rw [if_pos (by rfl)]
        refine wp_allocN 28 (by rfl) _ blkZero ?_; intro g6 wa hr6 hbl hg6'; have hg6 : w1.heap.size ≤ g6 := Nat.le_trans hHeld.size hg6'
        have hSnew := Mem.bl_step hHeld hbl (by first | exact Nat.le_refl _ | omega | (simp <;> omega))
        refine hK.out _ _ ?_ (fun hHeld2 => ?_)
        · exact hSnew
        try replace ht := ht.below hbl
        try replace hr6 := hr6.below hbl
        clear hbl
        clear hK K hHeld hSnew
        have hHeld := hHeld2
        clear hHeld2
        try simp only [List.getElem_toArray, List.getElem_cons_succ, List.getElem_cons_zero, Act.put, List.setIfInBounds_toArray, List.set_cons_zero, List.set_cons_succ]
        refine wpAnyH_ready (rs := [5]) (by kernel_rfl) (by simp) ?_
        refine AllReadyH.cons rfl (fun K hK => ?_) AllReadyH.nil
        rw [if_pos (by rfl)]
        refine wp_storeRow _ _ _ (by rfl) g6 (by rfl) (blk X) (by rfl) (blk zblk) 28 256 blkSize hsX zblk_size (blk_one _) hr6 ?_; have hSnew := below_setRow hHeld hg6 (blk X); have hr7 := hr6.set (blk X)
        refine hK.out _ _ ?_ (fun hHeld2 => ?_)
        · exact hSnew
        clear hK K hHeld hSnew
        have hHeld := hHeld2
        clear hHeld2
        try simp only [List.getElem_toArray, List.getElem_cons_succ, List.getElem_cons_zero, Act.put, List.setIfInBounds_toArray, List.set_cons_zero, List.set_cons_succ]
        refine wpAnyH_done (by kernel_rfl) ?_ _
        go_wp2_with fail
        go_meet
        case rel => exact ⟨g6, rfl, hg6, hr7, (Below.refl _ _).drew.trans hHeld⟩
      refine AllReadyH.cons rfl (fun K hK => ?_) ?_
      · skip
        rw [if_pos (by rfl)]
        refine wp_allocN 28 (by rfl) _ blkZero ?_; intro g6 wa hr6 hbl hg6'; have hg6 : w1.heap.size ≤ g6 := Nat.le_trans hHeld.size hg6'
        have hSnew := Mem.bl_step hHeld hbl (by first | exact Nat.le_refl _ | omega | (simp <;> omega))
        refine hK.out _ _ ?_ (fun hHeld2 => ?_)
        · exact hSnew
        try replace ht := ht.below hbl
        try replace hr6 := hr6.below hbl
        clear hbl
        clear hK K hHeld hSnew
        have hHeld := hHeld2
        clear hHeld2
        try simp only [List.getElem_toArray, List.getElem_cons_succ, List.getElem_cons_zero, Act.put, List.setIfInBounds_toArray, List.set_cons_zero, List.set_cons_succ]
        refine wpAnyH_ready (rs := [3]) (by kernel_rfl) (by simp) ?_
        refine AllReadyH.cons rfl (fun K hK => ?_) AllReadyH.nil
        go_simp
        (refine (lay_any l a A5 d.length c5 d _ hl ht.sl_byte).mono ?_; rw [hX.out]; rintro e wl ⟨rfl, hbl⟩; clear ht)
        try go_wp2_with fail
        have hSnew := Mem.bl_step hHeld hbl (by first | exact Nat.le_refl _ | omega | (simp <;> omega))
        refine hK.out _ _ ?_ (fun hHeld2 => ?_)
        · exact hSnew
        try replace ht := ht.below hbl
        try replace hr6 := hr6.below hbl
        clear hbl
        clear hK K hHeld hSnew
        have hHeld := hHeld2
        clear hHeld2
        try simp only [List.getElem_toArray, List.getElem_cons_succ, List.getElem_cons_zero, Act.put, List.setIfInBounds_toArray, List.set_cons_zero, List.set_cons_succ]
        refine wpAnyH_ready (rs := [5]) (by kernel_rfl) (by simp) ?_
        refine AllReadyH.cons rfl (fun K hK => ?_) AllReadyH.nil
        rw [if_pos (by rfl)]
        refine wp_storeRow _ _ _ (by rfl) g6 (by rfl) (blk X) (by rfl) (blk zblk) 28 256 blkSize hsX zblk_size (blk_one _) hr6 ?_; have hSnew := below_setRow hHeld hg6 (blk X); have hr7 := hr6.set (blk X)
        refine hK.out _ _ ?_ (fun hHeld2 => ?_)
        · exact hSnew
        clear hK K hHeld hSnew
        have hHeld := hHeld2
        clear hHeld2
        try simp only [List.getElem_toArray, List.getElem_cons_succ, List.getElem_cons_zero, Act.put, List.setIfInBounds_toArray, List.set_cons_zero, List.set_cons_succ]
        refine wpAnyH_done (by kernel_rfl) ?_ _
        go_wp2_with fail
        go_meet
        case rel => exact ⟨g6, rfl, hg6, hr7, (Below.refl _ _).drew.trans hHeld⟩
      exact AllReadyH.nil
    refine AllReadyH.cons rfl (fun K hK => ?_) ?_
    · skip
      rw [if_pos (by rfl)]
      refine wp_allocN 28 (by rfl) _ blkZero ?_; intro g6 wa hr6 hbl hg6'; have hg6 : w1.heap.size ≤ g6 := Nat.le_trans hHeld.size hg6'
      have hSnew := Mem.bl_step hHeld hbl (by first | exact Nat.le_refl _ | omega | (simp <;> omega))
      refine hK.out _ _ ?_ (fun hHeld2 => ?_)
      · exact hSnew
      try replace ht := ht.below hbl
      try replace hr6 := hr6.below hbl
      clear hbl
      clear hK K hHeld hSnew
      have hHeld := hHeld2
      clear hHeld2
      try simp only [List.getElem_toArray, List.getElem_cons_succ, List.getElem_cons_zero, Act.put, List.setIfInBounds_toArray, List.set_cons_zero, List.set_cons_succ]
      refine wpAnyH_ready (rs := [2]) (by kernel_rfl) (by simp) ?_
      refine AllReadyH.cons rfl (fun K hK => ?_) AllReadyH.nil
      go_simp
      (refine (to_any a A c d _ (hd1.below hHeld) hc hn6).mono ?_; rintro e wt ⟨A5, c5, rfl, k1, k2, k3, k4, hbl⟩; have ht := k4.by_)
      try go_wp2_with fail
      have hSnew := Mem.bl_step hHeld hbl (by first | exact Nat.le_refl _ | omega | (simp <;> omega))
      refine hK.out _ _ ?_ (fun hHeld2 => ?_)
      · exact hSnew
      try replace ht := ht.below hbl
      try replace hr6 := hr6.below hbl
      clear hbl
      clear hK K hHeld hSnew
      have hHeld := hHeld2
      clear hHeld2
      try simp only [List.getElem_toArray, List.getElem_cons_succ, List.getElem_cons_zero, Act.put, List.setIfInBounds_toArray, List.set_cons_zero, List.set_cons_succ]
      refine wpAnyH_ready (rs := [3]) (by kernel_rfl) (by simp) ?_
      refine AllReadyH.cons rfl (fun K hK => ?_) AllReadyH.nil
      go_simp
      (refine (lay_any l a A5 d.length c5 d _ hl ht.sl_byte).mono ?_; rw [hX.out]; rintro e wl ⟨rfl, hbl⟩; clear ht)
      try go_wp2_with fail
      have hSnew := Mem.bl_step hHeld hbl (by first | exact Nat.le_refl _ | omega | (simp <;> omega))
      refine hK.out _ _ ?_ (fun hHeld2 => ?_)
      · exact hSnew
      try replace ht := ht.below hbl
      try replace hr6 := hr6.below hbl
      clear hbl
      clear hK K hHeld hSnew
      have hHeld := hHeld2
      clear hHeld2
      try simp only [List.getElem_toArray, List.getElem_cons_succ, List.getElem_cons_zero, Act.put, List.setIfInBounds_toArray, List.set_cons_zero, List.set_cons_succ]
      refine wpAnyH_ready (rs := [5]) (by kernel_rfl) (by simp) ?_
      refine AllReadyH.cons rfl (fun K hK => ?_) AllReadyH.nil
      rw [if_pos (by rfl)]
      refine wp_storeRow _ _ _ (by rfl) g6 (by rfl) (blk X) (by rfl) (blk zblk) 28 256 blkSize hsX zblk_size (blk_one _) hr6 ?_; have hSnew := below_setRow hHeld hg6 (blk X); have hr7 := hr6.set (blk X)
      refine hK.out _ _ ?_ (fun hHeld2 => ?_)
      · exact hSnew
      clear hK K hHeld hSnew
      have hHeld := hHeld2
      clear hHeld2
      try simp only [List.getElem_toArray, List.getElem_cons_succ, List.getElem_cons_zero, Act.put, List.setIfInBounds_toArray, List.set_cons_zero, List.set_cons_succ]
      refine wpAnyH_done (by kernel_rfl) ?_ _
      go_wp2_with fail
      go_meet
      case rel => exact ⟨g6, rfl, hg6, hr7, (Below.refl _ _).drew.trans hHeld⟩
    exact AllReadyH.nil
  case rest =>
    obtain ⟨g7, rfl, hg7, hr7, hb7⟩ := hcut
    have hb2 := bb.trans (hb7.mono bb.size)
    have s0 : Row wc w.heap.size 22 (blk l) := Row.below r0 hb7
    have s1 := r1.below hb7
    have s2 := r2.below hb7
    have hd2 := (hd.below bb).below hb7
    have hf2 := (hf.below bb).below hb7
    clear r0 r1 r2 bb hd1 hf1 r0d r1d r2d hb7
    generalize wc = w2 at *
    have x0 := s1.cell 0 rfl
    have x1 := s1.cell 1 rfl
    go_wp2_with fail
    clear x0 x1
    refine (to_any a A c d _ hd2 hc hn6).mono ?_
    rintro e wt ⟨A5, c5, rfl, k1, k2, k3, k4, hbl⟩
    go_wp2_with fail
    refine (check_any a A5 d.length c5 _ hd.2.1).mono ?_
    rintro e w3 ⟨rfl, hbl2⟩
    have hb23 := hbl.trans (hbl2.mono hbl.size)
    have hb3 := hb2.trans (hb23.mono hb2.size)
    have t0 := s0.below hb23
    have t1 := s1.below hb23
    have t2 := s2.below hb23
    have t7 := hr7.below hb23
    have hd3 := hd2.below hb23
    have hf3 := hf2.below hb23
    clear s0 s1 s2 hr7 hd2 hf2 hbl hbl2 hb23 hb2 k1 k2 k3 k4
    have hd4 := hd3.drew
    have hf4 := hf3.drew
    have t0d := t0.drew
    have t1d := t1.drew
    have t2d := t2.drew
    have t7d := t7.drew
    have CR := Lib.hid (fun w' => right_any a A d.length c w' hd.2.1)
    have CL := Lib.hid (fun w' hb' hd' => rlay_any (some ⟨w.heap.size, 0, none⟩) 256 l a A c d w' hb' hd' hl (by rw [hl]; exact Nat.le_refl _) (by decide) (fun h => by cases h))
    have HBX := Lib.hid (fun w' (h : Row w' g7 28 (blk X)) => row_by h hXl hXb)
    have HBL := Lib.hid (fun w' (h : Row w' w.heap.size 22 (blk l)) => row_by h hl hb)
    have CS := Lib.hid (fun A' c' w' h1 h2 => same_yes (some ⟨g7, 0, none⟩) A' 256 256 256 c' X w' h1 h2)
    have CW := Lib.hid (fun A1 c1 w' => was_any l a A1 d.length c1 w' hl hb hd.2.1)
    have CW2 := Lib.hid (fun w' hb' => rwas_any (some ⟨w.heap.size, 0, none⟩) 256 l a A d.length c w' hl hb' hd.2.1)
    have CM := Lib.hid (fun A5 c5 A6 c6 w' => meet_any a A5 d.length c5 b A6 f.length c6 w' hd.2.1 hf.2.1)
    have CM2 := Lib.hid (fun w' => rmeet_any a A d.length c b A2 f.length c2 w' hd.2.1 hf.2.1)
    have CP := Lib.hid (fun A5 c5 A6 c6 w' h1 h2 => psame_any a A5 c5 d b A6 c6 f w' h1 h2)
    have CP2 := Lib.hid (fun w' h1 h2 => rsame_any a A c d b A2 c2 f w' h1 h2)
    have CD := Lib.hid (fun A5 c5 A6 c6 w' h1 h2 => rsame_any wa A5 c5 D wa A6 c6 D w' h1 h2)
    rw [psame_refl] at CD
    rw [hD.out, hwa.out] at CW CW2
    obtain ⟨m, hm⟩ : ∃ m, meetB a d.length b f.length = m := ⟨_, rfl⟩
    obtain ⟨n, hn⟩ : ∃ n, psameB a d b f = n := ⟨_, rfl⟩
    rw [hm] at CM CM2
    rw [hn] at CP CP2
    clear hm hn
    have HXl := Lib.hid hXl
    have HXS := Lib.hid (fun w' (h : Row w' g7 28 (blk X)) => sl256 hXl h)
    rw [hX.out] at CL
    rw [hl] at CL CW2
    obtain ⟨r, hr⟩ : ∃ r, rightN a d.length = r := ⟨_, rfl⟩
    rw [hr] at CR ⊢
    clear hr hl hb hXl hXb hX hD hwa
    cases r with
    | true =>
      simp only [if_true]
      go_wp2_with fail
      refine wp_region_held_drew (S := Go.RowKit.Below ((w3.drew).heap.size) (w3.drew)) (by kernel_rfl) ?hb16 (fun hHeld => ?rest16)
      case hb16 =>
        exact Go.RowKit.Below.refl _ _
      case' rest16 => skip
      refine wpAnyH_take (i := 0) (v := ?v17) rfl (by kernel_rfl) (by kernel_rfl) (by kernel_rfl) (fun _ _ _ h => h) (Or.inl ⟨by rfl, ?y17⟩) (by assumption) ?rest17
      case y17 => (intro w hSw; have hT0 := (Mem.bl_row hSw t1d (by first | exact Mem.Row.lt t1d | omega | (simp <;> omega))).cell 0 rfl; have hT1 := (Mem.bl_row hSw t1d (by first | exact Mem.Row.lt t1d | omega | (simp <;> omega))).cell 1 rfl; clear hSw; go_simp; try with_reducible rfl)
      case' rest17 => skip
      try simp only [List.getElem_toArray, List.getElem_cons_succ, List.getElem_cons_zero, Act.put, List.setIfInBounds_toArray, List.set_cons_zero, List.set_cons_succ]
      refine wpAnyH_take (i := 2) (v := ?v18) rfl (by kernel_rfl) (by kernel_rfl) (by kernel_rfl) (fun _ _ _ h => h) (Or.inl ⟨by rfl, ?y18⟩) (by assumption) ?rest18
      case y18 => (intro w hSw; have hT0 := (Mem.bl_row hSw t1d (by first | exact Mem.Row.lt t1d | omega | (simp <;> omega))).cell 0 rfl; have hT1 := (Mem.bl_row hSw t1d (by first | exact Mem.Row.lt t1d | omega | (simp <;> omega))).cell 1 rfl; clear hSw; go_simp; try with_reducible rfl)
      case' rest18 => skip
      try simp only [List.getElem_toArray, List.getElem_cons_succ, List.getElem_cons_zero, Act.put, List.setIfInBounds_toArray, List.set_cons_zero, List.set_cons_succ]
      refine wpAnyH_take (i := 3) (v := ?v19) rfl (by kernel_rfl) (by kernel_rfl) (by kernel_rfl) (fun _ _ _ h => h) (Or.inl ⟨by rfl, ?y19⟩) (by assumption) ?rest19
      case y19 => (intro w hSw; have hT0 := (Mem.bl_row hSw t1d (by first | exact Mem.Row.lt t1d | omega | (simp <;> omega))).cell 0 rfl; have hT1 := (Mem.bl_row hSw t1d (by first | exact Mem.Row.lt t1d | omega | (simp <;> omega))).cell 1 rfl; clear hSw; go_simp; try with_reducible rfl)
      case' rest19 => skip
      try simp only [List.getElem_toArray, List.getElem_cons_succ, List.getElem_cons_zero, Act.put, List.setIfInBounds_toArray, List.set_cons_zero, List.set_cons_succ]
      refine wpAnyH_ready (rs := [1]) (by kernel_rfl) (by simp) ?_
      refine AllReadyH.cons rfl (fun K hK => ?_) AllReadyH.nil
      go_simp
      (refine (CR.out _).mono ?_; rintro e w4 ⟨rfl, hbl⟩)
      try go_wp2_with fail
      have hSnew := Mem.bl_step hHeld hbl (by first | exact Nat.le_refl _ | omega | (simp <;> omega))
      refine hK.out _ _ ?_ (fun hHeld2 => ?_)
      · exact hSnew
      clear hbl
      clear hK K hHeld hSnew
      have hHeld := hHeld2
      clear hHeld2
      try simp only [List.getElem_toArray, List.getElem_cons_succ, List.getElem_cons_zero, Act.put, List.setIfInBounds_toArray, List.set_cons_zero, List.set_cons_succ]
      refine wpAnyH_take (i := 4) (v := ?v20) rfl (by kernel_rfl) (by kernel_rfl) (by kernel_rfl) (fun _ _ _ h => h) (Or.inl ⟨by rfl, ?y20⟩) (by assumption) ?rest20
      case y20 => (intro w hSw; have hT0 := (Mem.bl_row hSw t1d (by first | exact Mem.Row.lt t1d | omega | (simp <;> omega))).cell 0 rfl; have hT1 := (Mem.bl_row hSw t1d (by first | exact Mem.Row.lt t1d | omega | (simp <;> omega))).cell 1 rfl; clear hSw; go_simp; try with_reducible rfl)
      case' rest20 => skip
      try simp only [List.getElem_toArray, List.getElem_cons_succ, List.getElem_cons_zero, Act.put, List.setIfInBounds_toArray, List.set_cons_zero, List.set_cons_succ]
      refine wpAnyH_take (i := 5) (v := ?v21) rfl (by kernel_rfl) (by kernel_rfl) (by kernel_rfl) (fun _ _ _ h => h) (Or.inl ⟨by rfl, ?y21⟩) (by assumption) ?rest21
      case y21 => (intro w hSw; have hT0 := (Mem.bl_row hSw t1d (by first | exact Mem.Row.lt t1d | omega | (simp <;> omega))).cell 0 rfl; have hT1 := (Mem.bl_row hSw t1d (by first | exact Mem.Row.lt t1d | omega | (simp <;> omega))).cell 1 rfl; clear hSw; go_simp; try with_reducible rfl)
      case' rest21 => skip
      try simp only [List.getElem_toArray, List.getElem_cons_succ, List.getElem_cons_zero, Act.put, List.setIfInBounds_toArray, List.set_cons_zero, List.set_cons_succ]
      first
        | refine wpAnyH_take (i := 6) (v := undef) rfl (by kernel_rfl) (by kernel_rfl) (by kernel_rfl) (fun _ _ _ h => h) (Or.inr ⟨by rfl, rfl⟩) (by assumption) ?rest22
        | (refine wpAnyH_take (i := 6) (v := ?v22) rfl (by kernel_rfl) (by kernel_rfl) (by kernel_rfl) (fun _ _ _ h => h) (Or.inl ⟨by rfl, ?y22⟩) (by assumption) ?rest22; case y22 => (intro w hSw; have hT0 := (Mem.bl_row hSw t1d (by first | exact Mem.Row.lt t1d | omega | (simp <;> omega))).cell 0 rfl; have hT1 := (Mem.bl_row hSw t1d (by first | exact Mem.Row.lt t1d | omega | (simp <;> omega))).cell 1 rfl; clear hSw; go_simp; try with_reducible rfl))
      case' rest22 => skip
      try simp only [List.getElem_toArray, List.getElem_cons_succ, List.getElem_cons_zero, Act.put, List.setIfInBounds_toArray, List.set_cons_zero, List.set_cons_succ]
      first
        | refine wpAnyH_take (i := 7) (v := undef) rfl (by kernel_rfl) (by kernel_rfl) (by kernel_rfl) (fun _ _ _ h => h) (Or.inr ⟨by rfl, rfl⟩) (by assumption) ?rest23
        | (refine wpAnyH_take (i := 7) (v := ?v23) rfl (by kernel_rfl) (by kernel_rfl) (by kernel_rfl) (fun _ _ _ h => h) (Or.inl ⟨by rfl, ?y23⟩) (by assumption) ?rest23; case y23 => (intro w hSw; have hT0 := (Mem.bl_row hSw t1d (by first | exact Mem.Row.lt t1d | omega | (simp <;> omega))).cell 0 rfl; have hT1 := (Mem.bl_row hSw t1d (by first | exact Mem.Row.lt t1d | omega | (simp <;> omega))).cell 1 rfl; clear hSw; go_simp; try with_reducible rfl))
      case' rest23 => skip
      try simp only [List.getElem_toArray, List.getElem_cons_succ, List.getElem_cons_zero, Act.put, List.setIfInBounds_toArray, List.set_cons_zero, List.set_cons_succ]
      first
        | refine wpAnyH_take (i := 8) (v := undef) rfl (by kernel_rfl) (by kernel_rfl) (by kernel_rfl) (fun _ _ _ h => h) (Or.inr ⟨by rfl, rfl⟩) (by assumption) ?rest24
        | (refine wpAnyH_take (i := 8) (v := ?v24) rfl (by kernel_rfl) (by kernel_rfl) (by kernel_rfl) (fun _ _ _ h => h) (Or.inl ⟨by rfl, ?y24⟩) (by assumption) ?rest24; case y24 => (intro w hSw; have hT0 := (Mem.bl_row hSw t1d (by first | exact Mem.Row.lt t1d | omega | (simp <;> omega))).cell 0 rfl; have hT1 := (Mem.bl_row hSw t1d (by first | exact Mem.Row.lt t1d | omega | (simp <;> omega))).cell 1 rfl; clear hSw; go_simp; try with_reducible rfl))
      case' rest24 => skip
      try simp only [List.getElem_toArray, List.getElem_cons_succ, List.getElem_cons_zero, Act.put, List.setIfInBounds_toArray, List.set_cons_zero, List.set_cons_succ]
      first
        | refine wpAnyH_take (i := 9) (v := undef) rfl (by kernel_rfl) (by kernel_rfl) (by kernel_rfl) (fun _ _ _ h => h) (Or.inr ⟨by rfl, rfl⟩) (by assumption) ?rest25
        | (refine wpAnyH_take (i := 9) (v := ?v25) rfl (by kernel_rfl) (by kernel_rfl) (by kernel_rfl) (fun _ _ _ h => h) (Or.inl ⟨by rfl, ?y25⟩) (by assumption) ?rest25; case y25 => (intro w hSw; have hT0 := (Mem.bl_row hSw t1d (by first | exact Mem.Row.lt t1d | omega | (simp <;> omega))).cell 0 rfl; have hT1 := (Mem.bl_row hSw t1d (by first | exact Mem.Row.lt t1d | omega | (simp <;> omega))).cell 1 rfl; clear hSw; go_simp; try with_reducible rfl))
      case' rest25 => skip
      try simp only [List.getElem_toArray, List.getElem_cons_succ, List.getElem_cons_zero, Act.put, List.setIfInBounds_toArray, List.set_cons_zero, List.set_cons_succ]
      first
        | refine wpAnyH_take (i := 10) (v := undef) rfl (by kernel_rfl) (by kernel_rfl) (by kernel_rfl) (fun _ _ _ h => h) (Or.inr ⟨by rfl, rfl⟩) (by assumption) ?rest26
        | (refine wpAnyH_take (i := 10) (v := ?v26) rfl (by kernel_rfl) (by kernel_rfl) (by kernel_rfl) (fun _ _ _ h => h) (Or.inl ⟨by rfl, ?y26⟩) (by assumption) ?rest26; case y26 => (intro w hSw; have hT0 := (Mem.bl_row hSw t1d (by first | exact Mem.Row.lt t1d | omega | (simp <;> omega))).cell 0 rfl; have hT1 := (Mem.bl_row hSw t1d (by first | exact Mem.Row.lt t1d | omega | (simp <;> omega))).cell 1 rfl; clear hSw; go_simp; try with_reducible rfl))
      case' rest26 => skip
      try simp only [List.getElem_toArray, List.getElem_cons_succ, List.getElem_cons_zero, Act.put, List.setIfInBounds_toArray, List.set_cons_zero, List.set_cons_succ]
      first
        | refine wpAnyH_take (i := 11) (v := undef) rfl (by kernel_rfl) (by kernel_rfl) (by kernel_rfl) (fun _ _ _ h => h) (Or.inr ⟨by rfl, rfl⟩) (by assumption) ?rest27
        | (refine wpAnyH_take (i := 11) (v := ?v27) rfl (by kernel_rfl) (by kernel_rfl) (by kernel_rfl) (fun _ _ _ h => h) (Or.inl ⟨by rfl, ?y27⟩) (by assumption) ?rest27; case y27 => (intro w hSw; have hT0 := (Mem.bl_row hSw t1d (by first | exact Mem.Row.lt t1d | omega | (simp <;> omega))).cell 0 rfl; have hT1 := (Mem.bl_row hSw t1d (by first | exact Mem.Row.lt t1d | omega | (simp <;> omega))).cell 1 rfl; clear hSw; go_simp; try with_reducible rfl))
      case' rest27 => skip
      try simp only [List.getElem_toArray, List.getElem_cons_succ, List.getElem_cons_zero, Act.put, List.setIfInBounds_toArray, List.set_cons_zero, List.set_cons_succ]
      refine wpAnyH_take (i := 12) (v := ?v28) rfl (by kernel_rfl) (by kernel_rfl) (by kernel_rfl) (fun _ _ _ h => h) (Or.inl ⟨by rfl, ?y28⟩) (by assumption) ?rest28
      case y28 => (intro w hSw; have hT0 := (Mem.bl_row hSw t1d (by first | exact Mem.Row.lt t1d | omega | (simp <;> omega))).cell 0 rfl; have hT1 := (Mem.bl_row hSw t1d (by first | exact Mem.Row.lt t1d | omega | (simp <;> omega))).cell 1 rfl; clear hSw; go_simp; try with_reducible rfl)
      case' rest28 => skip
      try simp only [List.getElem_toArray, List.getElem_cons_succ, List.getElem_cons_zero, Act.put, List.setIfInBounds_toArray, List.set_cons_zero, List.set_cons_succ]
      refine wpAnyH_take (i := 13) (v := ?v29) rfl (by kernel_rfl) (by kernel_rfl) (by kernel_rfl) (fun _ _ _ h => h) (Or.inl ⟨by rfl, ?y29⟩) (by assumption) ?rest29
      case y29 => (intro w hSw; have hT0 := (Mem.bl_row hSw t1d (by first | exact Mem.Row.lt t1d | omega | (simp <;> omega))).cell 0 rfl; have hT1 := (Mem.bl_row hSw t1d (by first | exact Mem.Row.lt t1d | omega | (simp <;> omega))).cell 1 rfl; clear hSw; go_simp; try with_reducible rfl)
      case' rest29 => skip
      try simp only [List.getElem_toArray, List.getElem_cons_succ, List.getElem_cons_zero, Act.put, List.setIfInBounds_toArray, List.set_cons_zero, List.set_cons_succ]
      first
        | refine wpAnyH_take (i := 14) (v := undef) rfl (by kernel_rfl) (by kernel_rfl) (by kernel_rfl) (fun _ _ _ h => h) (Or.inr ⟨by rfl, rfl⟩) (by assumption) ?rest30
        | (refine wpAnyH_take (i := 14) (v := ?v30) rfl (by kernel_rfl) (by kernel_rfl) (by kernel_rfl) (fun _ _ _ h => h) (Or.inl ⟨by rfl, ?y30⟩) (by assumption) ?rest30; case y30 => (intro w hSw; have hT0 := (Mem.bl_row hSw t1d (by first | exact Mem.Row.lt t1d | omega | (simp <;> omega))).cell 0 rfl; have hT1 := (Mem.bl_row hSw t1d (by first | exact Mem.Row.lt t1d | omega | (simp <;> omega))).cell 1 rfl; clear hSw; go_simp; try with_reducible rfl))
      case' rest30 => skip
      try simp only [List.getElem_toArray, List.getElem_cons_succ, List.getElem_cons_zero, Act.put, List.setIfInBounds_toArray, List.set_cons_zero, List.set_cons_succ]
      first
        | refine wpAnyH_take (i := 15) (v := undef) rfl (by kernel_rfl) (by kernel_rfl) (by kernel_rfl) (fun _ _ _ h => h) (Or.inr ⟨by rfl, rfl⟩) (by assumption) ?rest31
        | (refine wpAnyH_take (i := 15) (v := ?v31) rfl (by kernel_rfl) (by kernel_rfl) (by kernel_rfl) (fun _ _ _ h => h) (Or.inl ⟨by rfl, ?y31⟩) (by assumption) ?rest31; case y31 => (intro w hSw; have hT0 := (Mem.bl_row hSw t1d (by first | exact Mem.Row.lt t1d | omega | (simp <;> omega))).cell 0 rfl; have hT1 := (Mem.bl_row hSw t1d (by first | exact Mem.Row.lt t1d | omega | (simp <;> omega))).cell 1 rfl; clear hSw; go_simp; try with_reducible rfl))
      case' rest31 => skip
      try simp only [List.getElem_toArray, List.getElem_cons_succ, List.getElem_cons_zero, Act.put, List.setIfInBounds_toArray, List.set_cons_zero, List.set_cons_succ]
      first
        | refine wpAnyH_take (i := 16) (v := undef) rfl (by kernel_rfl) (by kernel_rfl) (by kernel_rfl) (fun _ _ _ h => h) (Or.inr ⟨by rfl, rfl⟩) (by assumption) ?rest32
        | (refine wpAnyH_take (i := 16) (v := ?v32) rfl (by kernel_rfl) (by kernel_rfl) (by kernel_rfl) (fun _ _ _ h => h) (Or.inl ⟨by rfl, ?y32⟩) (by assumption) ?rest32; case y32 => (intro w hSw; have hT0 := (Mem.bl_row hSw t1d (by first | exact Mem.Row.lt t1d | omega | (simp <;> omega))).cell 0 rfl; have hT1 := (Mem.bl_row hSw t1d (by first | exact Mem.Row.lt t1d | omega | (simp <;> omega))).cell 1 rfl; clear hSw; go_simp; try with_reducible rfl))
      case' rest32 => skip
      try simp only [List.getElem_toArray, List.getElem_cons_succ, List.getElem_cons_zero, Act.put, List.setIfInBounds_toArray, List.set_cons_zero, List.set_cons_succ]
      refine wpAnyH_ready (rs := [17]) (by kernel_rfl) (by simp) ?_
      refine AllReadyH.cons rfl (fun K hK => ?_) AllReadyH.nil
      go_simp
      (refine (CL.out _ (HBL.out _ (bl_row hHeld t0d (Row.lt t0d))) (hd4.below hHeld)).mono ?_; rintro e w5 ⟨A7, c7, rfl, k1, k2, k3, k4, hbl⟩)
      try go_wp2_with fail
      have hSnew := Mem.bl_step hHeld hbl (by first | exact Nat.le_refl _ | omega | (simp <;> omega))
      refine hK.out _ _ ?_ (fun hHeld2 => ?_)
      · exact hSnew
      clear hbl
      clear hK K hHeld hSnew
      have hHeld := hHeld2
      clear hHeld2
      try simp only [List.getElem_toArray, List.getElem_cons_succ, List.getElem_cons_zero, Act.put, List.setIfInBounds_toArray, List.set_cons_zero, List.set_cons_succ]
      refine wpAnyH_ready (rs := [18]) (by kernel_rfl) (by simp) ?_
      refine AllReadyH.cons rfl (fun K hK => ?_) AllReadyH.nil
      go_simp
      (refine (CS.out A7 c7 _ (HXS.out _ (bl_row hHeld t7d (Row.lt t7d))) (HXl.out ▸ k4.sl_byte)).mono ?_; rintro e w6 ⟨rfl, hbl⟩)
      try go_wp2_with fail
      have hSnew := Mem.bl_step hHeld hbl (by first | exact Nat.le_refl _ | omega | (simp <;> omega))
      refine hK.out _ _ ?_ (fun hHeld2 => ?_)
      · exact hSnew
      clear hbl
      clear hK K hHeld hSnew
      have hHeld := hHeld2
      clear hHeld2
      try simp only [List.getElem_toArray, List.getElem_cons_succ, List.getElem_cons_zero, Act.put, List.setIfInBounds_toArray, List.set_cons_zero, List.set_cons_succ]
      first
        | refine wpAnyH_take (i := 19) (v := undef) rfl (by kernel_rfl) (by kernel_rfl) (by kernel_rfl) (fun _ _ _ h => h) (Or.inr ⟨by rfl, rfl⟩) (by assumption) ?rest33
        | (refine wpAnyH_take (i := 19) (v := ?v33) rfl (by kernel_rfl) (by kernel_rfl) (by kernel_rfl) (fun _ _ _ h => h) (Or.inl ⟨by rfl, ?y33⟩) (by assumption) ?rest33; case y33 => (intro w hSw; have hT0 := (Mem.bl_row hSw t1d (by first | exact Mem.Row.lt t1d | omega | (simp <;> omega))).cell 0 rfl; have hT1 := (Mem.bl_row hSw t1d (by first | exact Mem.Row.lt t1d | omega | (simp <;> omega))).cell 1 rfl; clear hSw; go_simp; try with_reducible rfl))
      case' rest33 => skip
      try simp only [List.getElem_toArray, List.getElem_cons_succ, List.getElem_cons_zero, Act.put, List.setIfInBounds_toArray, List.set_cons_zero, List.set_cons_succ]
      refine wpAnyH_take (i := 20) (v := ?v34) rfl (by kernel_rfl) (by kernel_rfl) (by kernel_rfl) (fun _ _ _ h => h) (Or.inl ⟨by rfl, ?y34⟩) (by assumption) ?rest34
      case y34 => (intro w hSw; have hT0 := (Mem.bl_row hSw t1d (by first | exact Mem.Row.lt t1d | omega | (simp <;> omega))).cell 0 rfl; have hT1 := (Mem.bl_row hSw t1d (by first | exact Mem.Row.lt t1d | omega | (simp <;> omega))).cell 1 rfl; clear hSw; go_simp; try with_reducible rfl)
      case' rest34 => skip
      try simp only [List.getElem_toArray, List.getElem_cons_succ, List.getElem_cons_zero, Act.put, List.setIfInBounds_toArray, List.set_cons_zero, List.set_cons_succ]
      refine wpAnyH_done (by kernel_rfl) ?_ _
      have hb5 := (Below.refl w3.heap.size w3).drew.trans hHeld
      have hb6 := hb3.trans (hb5.mono hb3.size)
      have u0 := (t0.below hb5).drew
      have u1 := (t1.below hb5).drew
      have u2 := (t2.below hb5).drew
      have hd5 : By w6.drew A d := (hd4.below hHeld).drew
      have hf5 : By w6.drew A2 f := (hf4.below hHeld).drew
      clear hHeld hb3 hb5 t0 t1 t2 t7 hd3 hf3 hd4 hf4 t0d t1d t2d t7d k1 k2 k3 k4
      go_wp2_with fail
      refine wp_region_held_drew (S := Go.RowKit.Below ((w6.drew).heap.size) (w6.drew)) (by kernel_rfl) ?hb53 (fun hHeld => ?rest53)
      case hb53 =>
        exact Go.RowKit.Below.refl _ _
      case' rest53 => skip
      first
        | refine' wpAnyH_take (i := 0) (v := _) rfl (by kernel_rfl) (by kernel_rfl) (by kernel_rfl) (fun _ _ _ h => h) (yieldsIf_load_mid (by rfl) _ _ rfl _ _ rfl _ _ (fun w hSw => (Mem.bl_row hSw u0 (by first | exact Mem.Row.lt u0 | omega | (simp <;> omega))).range) arrUnd rfl hia) (by assumption) ?rest54
        | refine wpAnyH_take (i := 0) (v := undef) rfl (by kernel_rfl) (by kernel_rfl) (by kernel_rfl) (fun _ _ _ h => h) (Or.inr ⟨by rfl, rfl⟩) (by assumption) ?rest54
      case' rest54 => skip
      try simp only [List.getElem_toArray, List.getElem_cons_succ, List.getElem_cons_zero, Act.put, List.setIfInBounds_toArray, List.set_cons_zero, List.set_cons_succ]
      refine wpAnyH_take (i := 1) (v := ?v55) rfl (by kernel_rfl) (by kernel_rfl) (by kernel_rfl) (fun _ _ _ h => h) (Or.inl ⟨by rfl, ?y55⟩) (by assumption) ?rest55
      case y55 => (intro w hSw; have hT0 := (Mem.bl_row hSw u1 (by first | exact Mem.Row.lt u1 | omega | (simp <;> omega))).cell 0 rfl; have hT1 := (Mem.bl_row hSw u1 (by first | exact Mem.Row.lt u1 | omega | (simp <;> omega))).cell 1 rfl; have hT2 := (Mem.bl_row hSw u2 (by first | exact Mem.Row.lt u2 | omega | (simp <;> omega))).cell 0 rfl; have hT3 := (Mem.bl_row hSw u2 (by first | exact Mem.Row.lt u2 | omega | (simp <;> omega))).cell 1 rfl; clear hSw; go_simp; try with_reducible rfl)
      case' rest55 => skip
      try simp only [List.getElem_toArray, List.getElem_cons_succ, List.getElem_cons_zero, Act.put, List.setIfInBounds_toArray, List.set_cons_zero, List.set_cons_succ]
      refine wpAnyH_take (i := 5) (v := ?v56) rfl (by kernel_rfl) (by kernel_rfl) (by kernel_rfl) (fun _ _ _ h => h) (Or.inl ⟨by rfl, ?y56⟩) (by assumption) ?rest56
      case y56 => (intro w hSw; have hT0 := (Mem.bl_row hSw u1 (by first | exact Mem.Row.lt u1 | omega | (simp <;> omega))).cell 0 rfl; have hT1 := (Mem.bl_row hSw u1 (by first | exact Mem.Row.lt u1 | omega | (simp <;> omega))).cell 1 rfl; have hT2 := (Mem.bl_row hSw u2 (by first | exact Mem.Row.lt u2 | omega | (simp <;> omega))).cell 0 rfl; have hT3 := (Mem.bl_row hSw u2 (by first | exact Mem.Row.lt u2 | omega | (simp <;> omega))).cell 1 rfl; clear hSw; go_simp; try with_reducible rfl)
      case' rest56 => skip
      try simp only [List.getElem_toArray, List.getElem_cons_succ, List.getElem_cons_zero, Act.put, List.setIfInBounds_toArray, List.set_cons_zero, List.set_cons_succ]
      refine wpAnyH_take (i := 6) (v := ?v57) rfl (by kernel_rfl) (by kernel_rfl) (by kernel_rfl) (fun _ _ _ h => h) (Or.inl ⟨by rfl, ?y57⟩) (by assumption) ?rest57
      case y57 => (intro w hSw; have hT0 := (Mem.bl_row hSw u1 (by first | exact Mem.Row.lt u1 | omega | (simp <;> omega))).cell 0 rfl; have hT1 := (Mem.bl_row hSw u1 (by first | exact Mem.Row.lt u1 | omega | (simp <;> omega))).cell 1 rfl; have hT2 := (Mem.bl_row hSw u2 (by first | exact Mem.Row.lt u2 | omega | (simp <;> omega))).cell 0 rfl; have hT3 := (Mem.bl_row hSw u2 (by first | exact Mem.Row.lt u2 | omega | (simp <;> omega))).cell 1 rfl; clear hSw; go_simp; try with_reducible rfl)
      case' rest57 => skip
      try simp only [List.getElem_toArray, List.getElem_cons_succ, List.getElem_cons_zero, Act.put, List.setIfInBounds_toArray, List.set_cons_zero, List.set_cons_succ]
      refine wpAnyH_ready (rs := [2]) (by kernel_rfl) (by simp) ?_
      refine AllReadyH.cons rfl (fun K hK => ?_) AllReadyH.nil
      go_simp
      (refine (to_any a A c d _ (hd5.below hHeld) hc hn6).mono ?_; rintro e wt ⟨A8, c8, rfl, k1, k2, k3, k4, hbl⟩; clear k1 k2 k3 k4)
      try go_wp2_with fail
      have hSnew := Mem.bl_step hHeld hbl (by first | exact Nat.le_refl _ | omega | (simp <;> omega))
      refine hK.out _ _ ?_ (fun hHeld2 => ?_)
      · exact hSnew
      try replace ht := ht.below hbl
      try replace ht2 := ht2.below hbl
      try replace ht3 := ht3.below hbl
      try replace ht4 := ht4.below hbl
      clear hbl
      clear hK K hHeld hSnew
      have hHeld := hHeld2
      clear hHeld2
      try simp only [List.getElem_toArray, List.getElem_cons_succ, List.getElem_cons_zero, Act.put, List.setIfInBounds_toArray, List.set_cons_zero, List.set_cons_succ]
      refine wpAnyH_ready (rs := [3]) (by kernel_rfl) (by simp) ?_
      refine AllReadyH.cons rfl (fun K hK => ?_) AllReadyH.nil
      go_simp
      (refine (CW.out A8 c8 _).mono ?_; rintro e wt ⟨A9, c9, rfl, k1, k2, k3, k4, hbl⟩; have ht := k4.by_; clear k1 k2 k3 k4)
      try go_wp2_with fail
      have hSnew := Mem.bl_step hHeld hbl (by first | exact Nat.le_refl _ | omega | (simp <;> omega))
      refine hK.out _ _ ?_ (fun hHeld2 => ?_)
      · exact hSnew
      try replace ht := ht.below hbl
      try replace ht2 := ht2.below hbl
      try replace ht3 := ht3.below hbl
      try replace ht4 := ht4.below hbl
      clear hbl
      clear hK K hHeld hSnew
      have hHeld := hHeld2
      clear hHeld2
      try simp only [List.getElem_toArray, List.getElem_cons_succ, List.getElem_cons_zero, Act.put, List.setIfInBounds_toArray, List.set_cons_zero, List.set_cons_succ]
      refine wpAnyH_ready (rs := [4]) (by kernel_rfl) (by simp) ?_
      refine AllReadyH.cons rfl (fun K hK => ?_) AllReadyH.nil
      go_simp
      (refine (of_any wa A9 D.length c9 _).mono ?_; rintro e wt ⟨rfl, hbl⟩)
      try go_wp2_with fail
      have hSnew := Mem.bl_step hHeld hbl (by first | exact Nat.le_refl _ | omega | (simp <;> omega))
      refine hK.out _ _ ?_ (fun hHeld2 => ?_)
      · exact hSnew
      try replace ht := ht.below hbl
      try replace ht2 := ht2.below hbl
      try replace ht3 := ht3.below hbl
      try replace ht4 := ht4.below hbl
      clear hbl
      clear hK K hHeld hSnew
      have hHeld := hHeld2
      clear hHeld2
      try simp only [List.getElem_toArray, List.getElem_cons_succ, List.getElem_cons_zero, Act.put, List.setIfInBounds_toArray, List.set_cons_zero, List.set_cons_succ]
      refine wpAnyH_ready (rs := [7]) (by kernel_rfl) (by simp) ?_
      refine AllReadyH.cons rfl (fun K hK => ?_) AllReadyH.nil
      go_simp
      (refine (CW2.out _ (HBL.out _ (bl_row hHeld u0 (Row.lt u0)))).mono ?_; rintro e wt ⟨A10, c10, rfl, k1, k2, k3, k4, hbl⟩; have ht2 := k4.by_; clear k1 k2 k3 k4)
      try go_wp2_with fail
      have hSnew := Mem.bl_step hHeld hbl (by first | exact Nat.le_refl _ | omega | (simp <;> omega))
      refine hK.out _ _ ?_ (fun hHeld2 => ?_)
      · exact hSnew
      try replace ht := ht.below hbl
      try replace ht2 := ht2.below hbl
      try replace ht3 := ht3.below hbl
      try replace ht4 := ht4.below hbl
      clear hbl
      clear hK K hHeld hSnew
      have hHeld := hHeld2
      clear hHeld2
      try simp only [List.getElem_toArray, List.getElem_cons_succ, List.getElem_cons_zero, Act.put, List.setIfInBounds_toArray, List.set_cons_zero, List.set_cons_succ]
      refine wpAnyH_ready (rs := [8]) (by kernel_rfl) (by simp) ?_
      refine AllReadyH.cons rfl (fun K hK => ?_) AllReadyH.nil
      go_simp
      (refine (CD.out A9 c9 A10 c10 _ ht ht2).mono ?_; rintro e wt ⟨rfl, hbl⟩; clear ht ht2)
      try go_wp2_with fail
      have hSnew := Mem.bl_step hHeld hbl (by first | exact Nat.le_refl _ | omega | (simp <;> omega))
      refine hK.out _ _ ?_ (fun hHeld2 => ?_)
      · exact hSnew
      try replace ht := ht.below hbl
      try replace ht2 := ht2.below hbl
      try replace ht3 := ht3.below hbl
      try replace ht4 := ht4.below hbl
      clear hbl
      clear hK K hHeld hSnew
      have hHeld := hHeld2
      clear hHeld2
      try simp only [List.getElem_toArray, List.getElem_cons_succ, List.getElem_cons_zero, Act.put, List.setIfInBounds_toArray, List.set_cons_zero, List.set_cons_succ]
      refine wpAnyH_take (i := 9) (v := ?v58) rfl (by kernel_rfl) (by kernel_rfl) (by kernel_rfl) (fun _ _ _ h => h) (Or.inl ⟨by rfl, ?y58⟩) (by assumption) ?rest58
      case y58 => (intro w hSw; have hT0 := (Mem.bl_row hSw u1 (by first | exact Mem.Row.lt u1 | omega | (simp <;> omega))).cell 0 rfl; have hT1 := (Mem.bl_row hSw u1 (by first | exact Mem.Row.lt u1 | omega | (simp <;> omega))).cell 1 rfl; have hT2 := (Mem.bl_row hSw u2 (by first | exact Mem.Row.lt u2 | omega | (simp <;> omega))).cell 0 rfl; have hT3 := (Mem.bl_row hSw u2 (by first | exact Mem.Row.lt u2 | omega | (simp <;> omega))).cell 1 rfl; clear hSw; go_simp; try with_reducible rfl)
      case' rest58 => skip
      try simp only [List.getElem_toArray, List.getElem_cons_succ, List.getElem_cons_zero, Act.put, List.setIfInBounds_toArray, List.set_cons_zero, List.set_cons_succ]
      first
        | refine wpAnyH_take (i := 10) (v := undef) rfl (by kernel_rfl) (by kernel_rfl) (by kernel_rfl) (fun _ _ _ h => h) (Or.inr ⟨by rfl, rfl⟩) (by assumption) ?rest59
        | (refine wpAnyH_take (i := 10) (v := ?v59) rfl (by kernel_rfl) (by kernel_rfl) (by kernel_rfl) (fun _ _ _ h => h) (Or.inl ⟨by rfl, ?y59⟩) (by assumption) ?rest59; case y59 => (intro w hSw; have hT0 := (Mem.bl_row hSw u1 (by first | exact Mem.Row.lt u1 | omega | (simp <;> omega))).cell 0 rfl; have hT1 := (Mem.bl_row hSw u1 (by first | exact Mem.Row.lt u1 | omega | (simp <;> omega))).cell 1 rfl; have hT2 := (Mem.bl_row hSw u2 (by first | exact Mem.Row.lt u2 | omega | (simp <;> omega))).cell 0 rfl; have hT3 := (Mem.bl_row hSw u2 (by first | exact Mem.Row.lt u2 | omega | (simp <;> omega))).cell 1 rfl; clear hSw; go_simp; try with_reducible rfl))
      case' rest59 => skip
      try simp only [List.getElem_toArray, List.getElem_cons_succ, List.getElem_cons_zero, Act.put, List.setIfInBounds_toArray, List.set_cons_zero, List.set_cons_succ]
      first
        | refine wpAnyH_take (i := 12) (v := undef) rfl (by kernel_rfl) (by kernel_rfl) (by kernel_rfl) (fun _ _ _ h => h) (Or.inr ⟨by rfl, rfl⟩) (by assumption) ?rest60
        | (refine wpAnyH_take (i := 12) (v := ?v60) rfl (by kernel_rfl) (by kernel_rfl) (by kernel_rfl) (fun _ _ _ h => h) (Or.inl ⟨by rfl, ?y60⟩) (by assumption) ?rest60; case y60 => (intro w hSw; have hT0 := (Mem.bl_row hSw u1 (by first | exact Mem.Row.lt u1 | omega | (simp <;> omega))).cell 0 rfl; have hT1 := (Mem.bl_row hSw u1 (by first | exact Mem.Row.lt u1 | omega | (simp <;> omega))).cell 1 rfl; have hT2 := (Mem.bl_row hSw u2 (by first | exact Mem.Row.lt u2 | omega | (simp <;> omega))).cell 0 rfl; have hT3 := (Mem.bl_row hSw u2 (by first | exact Mem.Row.lt u2 | omega | (simp <;> omega))).cell 1 rfl; clear hSw; go_simp; try with_reducible rfl))
      case' rest60 => skip
      try simp only [List.getElem_toArray, List.getElem_cons_succ, List.getElem_cons_zero, Act.put, List.setIfInBounds_toArray, List.set_cons_zero, List.set_cons_succ]
      first
        | refine wpAnyH_take (i := 15) (v := undef) rfl (by kernel_rfl) (by kernel_rfl) (by kernel_rfl) (fun _ _ _ h => h) (Or.inr ⟨by rfl, rfl⟩) (by assumption) ?rest61
        | (refine wpAnyH_take (i := 15) (v := ?v61) rfl (by kernel_rfl) (by kernel_rfl) (by kernel_rfl) (fun _ _ _ h => h) (Or.inl ⟨by rfl, ?y61⟩) (by assumption) ?rest61; case y61 => (intro w hSw; have hT0 := (Mem.bl_row hSw u1 (by first | exact Mem.Row.lt u1 | omega | (simp <;> omega))).cell 0 rfl; have hT1 := (Mem.bl_row hSw u1 (by first | exact Mem.Row.lt u1 | omega | (simp <;> omega))).cell 1 rfl; have hT2 := (Mem.bl_row hSw u2 (by first | exact Mem.Row.lt u2 | omega | (simp <;> omega))).cell 0 rfl; have hT3 := (Mem.bl_row hSw u2 (by first | exact Mem.Row.lt u2 | omega | (simp <;> omega))).cell 1 rfl; clear hSw; go_simp; try with_reducible rfl))
      case' rest61 => skip
      try simp only [List.getElem_toArray, List.getElem_cons_succ, List.getElem_cons_zero, Act.put, List.setIfInBounds_toArray, List.set_cons_zero, List.set_cons_succ]
      first
        | refine wpAnyH_take (i := 16) (v := undef) rfl (by kernel_rfl) (by kernel_rfl) (by kernel_rfl) (fun _ _ _ h => h) (Or.inr ⟨by rfl, rfl⟩) (by assumption) ?rest62
        | (refine wpAnyH_take (i := 16) (v := ?v62) rfl (by kernel_rfl) (by kernel_rfl) (by kernel_rfl) (fun _ _ _ h => h) (Or.inl ⟨by rfl, ?y62⟩) (by assumption) ?rest62; case y62 => (intro w hSw; have hT0 := (Mem.bl_row hSw u1 (by first | exact Mem.Row.lt u1 | omega | (simp <;> omega))).cell 0 rfl; have hT1 := (Mem.bl_row hSw u1 (by first | exact Mem.Row.lt u1 | omega | (simp <;> omega))).cell 1 rfl; have hT2 := (Mem.bl_row hSw u2 (by first | exact Mem.Row.lt u2 | omega | (simp <;> omega))).cell 0 rfl; have hT3 := (Mem.bl_row hSw u2 (by first | exact Mem.Row.lt u2 | omega | (simp <;> omega))).cell 1 rfl; clear hSw; go_simp; try with_reducible rfl))
      case' rest62 => skip
      try simp only [List.getElem_toArray, List.getElem_cons_succ, List.getElem_cons_zero, Act.put, List.setIfInBounds_toArray, List.set_cons_zero, List.set_cons_succ]
      refine wpAnyH_ready (rs := [11]) (by kernel_rfl) (by simp) ?_
      refine AllReadyH.cons rfl (fun K hK => ?_) AllReadyH.nil
      go_simp
      (refine (to_any a A c d _ (hd5.below hHeld) hc hn6).mono ?_; rintro e wt ⟨A11, c11, rfl, k1, k2, k3, k4, hbl⟩; clear k1 k2 k3 k4)
      try go_wp2_with fail
      have hSnew := Mem.bl_step hHeld hbl (by first | exact Nat.le_refl _ | omega | (simp <;> omega))
      refine hK.out _ _ ?_ (fun hHeld2 => ?_)
      · exact hSnew
      try replace ht := ht.below hbl
      try replace ht2 := ht2.below hbl
      try replace ht3 := ht3.below hbl
      try replace ht4 := ht4.below hbl
      clear hbl
      clear hK K hHeld hSnew
      have hHeld := hHeld2
      clear hHeld2
      try simp only [List.getElem_toArray, List.getElem_cons_succ, List.getElem_cons_zero, Act.put, List.setIfInBounds_toArray, List.set_cons_zero, List.set_cons_succ]
      refine wpAnyH_ready (rs := [13]) (by kernel_rfl) (by simp) ?_
      refine AllReadyH.cons rfl (fun K hK => ?_) AllReadyH.nil
      go_simp
      (refine (to_any b A2 c2 f _ (hf5.below hHeld) hc2 hn7).mono ?_; rintro e wt ⟨A12, c12, rfl, k1, k2, k3, k4, hbl⟩; clear k1 k2 k3 k4)
      try go_wp2_with fail
      have hSnew := Mem.bl_step hHeld hbl (by first | exact Nat.le_refl _ | omega | (simp <;> omega))
      refine hK.out _ _ ?_ (fun hHeld2 => ?_)
      · exact hSnew
      try replace ht := ht.below hbl
      try replace ht2 := ht2.below hbl
      try replace ht3 := ht3.below hbl
      try replace ht4 := ht4.below hbl
      clear hbl
      clear hK K hHeld hSnew
      have hHeld := hHeld2
      clear hHeld2
      try simp only [List.getElem_toArray, List.getElem_cons_succ, List.getElem_cons_zero, Act.put, List.setIfInBounds_toArray, List.set_cons_zero, List.set_cons_succ]
      refine wpAnyH_ready (rs := [14]) (by kernel_rfl) (by simp) ?_
      refine AllReadyH.cons rfl (fun K hK => ?_) AllReadyH.nil
      go_simp
      (refine (CM.out A11 c11 A12 c12 _).mono ?_; rintro e wt ⟨rfl, hbl⟩)
      try go_wp2_with fail
      have hSnew := Mem.bl_step hHeld hbl (by first | exact Nat.le_refl _ | omega | (simp <;> omega))
      refine hK.out _ _ ?_ (fun hHeld2 => ?_)
      · exact hSnew
      try replace ht := ht.below hbl
      try replace ht2 := ht2.below hbl
      try replace ht3 := ht3.below hbl
      try replace ht4 := ht4.below hbl
      clear hbl
      clear hK K hHeld hSnew
      have hHeld := hHeld2
      clear hHeld2
      try simp only [List.getElem_toArray, List.getElem_cons_succ, List.getElem_cons_zero, Act.put, List.setIfInBounds_toArray, List.set_cons_zero, List.set_cons_succ]
      refine wpAnyH_ready (rs := [17]) (by kernel_rfl) (by simp) ?_
      refine AllReadyH.cons rfl (fun K hK => ?_) AllReadyH.nil
      go_simp
      (refine (CM2.out _).mono ?_; rintro e wt ⟨rfl, hbl⟩)
      try go_wp2_with fail
      have hSnew := Mem.bl_step hHeld hbl (by first | exact Nat.le_refl _ | omega | (simp <;> omega))
      refine hK.out _ _ ?_ (fun hHeld2 => ?_)
      · exact hSnew
      try replace ht := ht.below hbl
      try replace ht2 := ht2.below hbl
      try replace ht3 := ht3.below hbl
      try replace ht4 := ht4.below hbl
      clear hbl
      clear hK K hHeld hSnew
      have hHeld := hHeld2
      clear hHeld2
      try simp only [List.getElem_toArray, List.getElem_cons_succ, List.getElem_cons_zero, Act.put, List.setIfInBounds_toArray, List.set_cons_zero, List.set_cons_succ]
      first
        | refine wpAnyH_take (i := 18) (v := undef) rfl (by kernel_rfl) (by kernel_rfl) (by kernel_rfl) (fun _ _ _ h => h) (Or.inr ⟨by rfl, rfl⟩) (by assumption) ?rest63
        | (refine wpAnyH_take (i := 18) (v := ?v63) rfl (by kernel_rfl) (by kernel_rfl) (by kernel_rfl) (fun _ _ _ h => h) (Or.inl ⟨by rfl, ?y63⟩) (by assumption) ?rest63; case y63 => (intro w hSw; have hT0 := (Mem.bl_row hSw u1 (by first | exact Mem.Row.lt u1 | omega | (simp <;> omega))).cell 0 rfl; have hT1 := (Mem.bl_row hSw u1 (by first | exact Mem.Row.lt u1 | omega | (simp <;> omega))).cell 1 rfl; have hT2 := (Mem.bl_row hSw u2 (by first | exact Mem.Row.lt u2 | omega | (simp <;> omega))).cell 0 rfl; have hT3 := (Mem.bl_row hSw u2 (by first | exact Mem.Row.lt u2 | omega | (simp <;> omega))).cell 1 rfl; clear hSw; go_simp; try with_reducible rfl))
      case' rest63 => skip
      try simp only [List.getElem_toArray, List.getElem_cons_succ, List.getElem_cons_zero, Act.put, List.setIfInBounds_toArray, List.set_cons_zero, List.set_cons_succ]
      refine wpAnyH_take (i := 19) (v := ?v64) rfl (by kernel_rfl) (by kernel_rfl) (by kernel_rfl) (fun _ _ _ h => h) (Or.inl ⟨by rfl, ?y64⟩) (by assumption) ?rest64
      case y64 => (intro w hSw; have hT0 := (Mem.bl_row hSw u1 (by first | exact Mem.Row.lt u1 | omega | (simp <;> omega))).cell 0 rfl; have hT1 := (Mem.bl_row hSw u1 (by first | exact Mem.Row.lt u1 | omega | (simp <;> omega))).cell 1 rfl; have hT2 := (Mem.bl_row hSw u2 (by first | exact Mem.Row.lt u2 | omega | (simp <;> omega))).cell 0 rfl; have hT3 := (Mem.bl_row hSw u2 (by first | exact Mem.Row.lt u2 | omega | (simp <;> omega))).cell 1 rfl; clear hSw; go_simp; try with_reducible rfl)
      case' rest64 => skip
      try simp only [List.getElem_toArray, List.getElem_cons_succ, List.getElem_cons_zero, Act.put, List.setIfInBounds_toArray, List.set_cons_zero, List.set_cons_succ]
      refine wpAnyH_take (i := 20) (v := ?v65) rfl (by kernel_rfl) (by kernel_rfl) (by kernel_rfl) (fun _ _ _ h => h) (Or.inl ⟨by rfl, ?y65⟩) (by assumption) ?rest65
      case y65 => (intro w hSw; have hT0 := (Mem.bl_row hSw u1 (by first | exact Mem.Row.lt u1 | omega | (simp <;> omega))).cell 0 rfl; have hT1 := (Mem.bl_row hSw u1 (by first | exact Mem.Row.lt u1 | omega | (simp <;> omega))).cell 1 rfl; have hT2 := (Mem.bl_row hSw u2 (by first | exact Mem.Row.lt u2 | omega | (simp <;> omega))).cell 0 rfl; have hT3 := (Mem.bl_row hSw u2 (by first | exact Mem.Row.lt u2 | omega | (simp <;> omega))).cell 1 rfl; clear hSw; go_simp; try with_reducible rfl)
      case' rest65 => skip
      try simp only [List.getElem_toArray, List.getElem_cons_succ, List.getElem_cons_zero, Act.put, List.setIfInBounds_toArray, List.set_cons_zero, List.set_cons_succ]
      first
        | refine wpAnyH_take (i := 21) (v := undef) rfl (by kernel_rfl) (by kernel_rfl) (by kernel_rfl) (fun _ _ _ h => h) (Or.inr ⟨by rfl, rfl⟩) (by assumption) ?rest66
        | (refine wpAnyH_take (i := 21) (v := ?v66) rfl (by kernel_rfl) (by kernel_rfl) (by kernel_rfl) (fun _ _ _ h => h) (Or.inl ⟨by rfl, ?y66⟩) (by assumption) ?rest66; case y66 => (intro w hSw; have hT0 := (Mem.bl_row hSw u1 (by first | exact Mem.Row.lt u1 | omega | (simp <;> omega))).cell 0 rfl; have hT1 := (Mem.bl_row hSw u1 (by first | exact Mem.Row.lt u1 | omega | (simp <;> omega))).cell 1 rfl; have hT2 := (Mem.bl_row hSw u2 (by first | exact Mem.Row.lt u2 | omega | (simp <;> omega))).cell 0 rfl; have hT3 := (Mem.bl_row hSw u2 (by first | exact Mem.Row.lt u2 | omega | (simp <;> omega))).cell 1 rfl; clear hSw; go_simp; try with_reducible rfl))
      case' rest66 => skip
      try simp only [List.getElem_toArray, List.getElem_cons_succ, List.getElem_cons_zero, Act.put, List.setIfInBounds_toArray, List.set_cons_zero, List.set_cons_succ]
      first
        | refine wpAnyH_take (i := 23) (v := undef) rfl (by kernel_rfl) (by kernel_rfl) (by kernel_rfl) (fun _ _ _ h => h) (Or.inr ⟨by rfl, rfl⟩) (by assumption) ?rest67
        | (refine wpAnyH_take (i := 23) (v := ?v67) rfl (by kernel_rfl) (by kernel_rfl) (by kernel_rfl) (fun _ _ _ h => h) (Or.inl ⟨by rfl, ?y67⟩) (by assumption) ?rest67; case y67 => (intro w hSw; have hT0 := (Mem.bl_row hSw u1 (by first | exact Mem.Row.lt u1 | omega | (simp <;> omega))).cell 0 rfl; have hT1 := (Mem.bl_row hSw u1 (by first | exact Mem.Row.lt u1 | omega | (simp <;> omega))).cell 1 rfl; have hT2 := (Mem.bl_row hSw u2 (by first | exact Mem.Row.lt u2 | omega | (simp <;> omega))).cell 0 rfl; have hT3 := (Mem.bl_row hSw u2 (by first | exact Mem.Row.lt u2 | omega | (simp <;> omega))).cell 1 rfl; clear hSw; go_simp; try with_reducible rfl))
      case' rest67 => skip
      try simp only [List.getElem_toArray, List.getElem_cons_succ, List.getElem_cons_zero, Act.put, List.setIfInBounds_toArray, List.set_cons_zero, List.set_cons_succ]
      first
        | refine wpAnyH_take (i := 26) (v := undef) rfl (by kernel_rfl) (by kernel_rfl) (by kernel_rfl) (fun _ _ _ h => h) (Or.inr ⟨by rfl, rfl⟩) (by assumption) ?rest68
        | (refine wpAnyH_take (i := 26) (v := ?v68) rfl (by kernel_rfl) (by kernel_rfl) (by kernel_rfl) (fun _ _ _ h => h) (Or.inl ⟨by rfl, ?y68⟩) (by assumption) ?rest68; case y68 => (intro w hSw; have hT0 := (Mem.bl_row hSw u1 (by first | exact Mem.Row.lt u1 | omega | (simp <;> omega))).cell 0 rfl; have hT1 := (Mem.bl_row hSw u1 (by first | exact Mem.Row.lt u1 | omega | (simp <;> omega))).cell 1 rfl; have hT2 := (Mem.bl_row hSw u2 (by first | exact Mem.Row.lt u2 | omega | (simp <;> omega))).cell 0 rfl; have hT3 := (Mem.bl_row hSw u2 (by first | exact Mem.Row.lt u2 | omega | (simp <;> omega))).cell 1 rfl; clear hSw; go_simp; try with_reducible rfl))
      case' rest68 => skip
      try simp only [List.getElem_toArray, List.getElem_cons_succ, List.getElem_cons_zero, Act.put, List.setIfInBounds_toArray, List.set_cons_zero, List.set_cons_succ]
      first
        | refine wpAnyH_take (i := 27) (v := undef) rfl (by kernel_rfl) (by kernel_rfl) (by kernel_rfl) (fun _ _ _ h => h) (Or.inr ⟨by rfl, rfl⟩) (by assumption) ?rest69
        | (refine wpAnyH_take (i := 27) (v := ?v69) rfl (by kernel_rfl) (by kernel_rfl) (by kernel_rfl) (fun _ _ _ h => h) (Or.inl ⟨by rfl, ?y69⟩) (by assumption) ?rest69; case y69 => (intro w hSw; have hT0 := (Mem.bl_row hSw u1 (by first | exact Mem.Row.lt u1 | omega | (simp <;> omega))).cell 0 rfl; have hT1 := (Mem.bl_row hSw u1 (by first | exact Mem.Row.lt u1 | omega | (simp <;> omega))).cell 1 rfl; have hT2 := (Mem.bl_row hSw u2 (by first | exact Mem.Row.lt u2 | omega | (simp <;> omega))).cell 0 rfl; have hT3 := (Mem.bl_row hSw u2 (by first | exact Mem.Row.lt u2 | omega | (simp <;> omega))).cell 1 rfl; clear hSw; go_simp; try with_reducible rfl))
      case' rest69 => skip
      try simp only [List.getElem_toArray, List.getElem_cons_succ, List.getElem_cons_zero, Act.put, List.setIfInBounds_toArray, List.set_cons_zero, List.set_cons_succ]
      refine wpAnyH_ready (rs := [22]) (by kernel_rfl) (by simp) ?_
      refine AllReadyH.cons rfl (fun K hK => ?_) AllReadyH.nil
      go_simp
      (refine (to_any a A c d _ (hd5.below hHeld) hc hn6).mono ?_; rintro e wt ⟨A13, c13, rfl, k1, k2, k3, k4, hbl⟩; have ht3 := k4.by_; clear k1 k2 k3 k4)
      try go_wp2_with fail
      have hSnew := Mem.bl_step hHeld hbl (by first | exact Nat.le_refl _ | omega | (simp <;> omega))
      refine hK.out _ _ ?_ (fun hHeld2 => ?_)
      · exact hSnew
      try replace ht := ht.below hbl
      try replace ht2 := ht2.below hbl
      try replace ht3 := ht3.below hbl
      try replace ht4 := ht4.below hbl
      clear hbl
      clear hK K hHeld hSnew
      have hHeld := hHeld2
      clear hHeld2
      try simp only [List.getElem_toArray, List.getElem_cons_succ, List.getElem_cons_zero, Act.put, List.setIfInBounds_toArray, List.set_cons_zero, List.set_cons_succ]
      refine wpAnyH_ready (rs := [24]) (by kernel_rfl) (by simp) ?_
      refine AllReadyH.cons rfl (fun K hK => ?_) AllReadyH.nil
      go_simp
      (refine (to_any b A2 c2 f _ (hf5.below hHeld) hc2 hn7).mono ?_; rintro e wt ⟨A14, c14, rfl, k1, k2, k3, k4, hbl⟩; have ht4 := k4.by_; clear k1 k2 k3 k4)
      try go_wp2_with fail
      have hSnew := Mem.bl_step hHeld hbl (by first | exact Nat.le_refl _ | omega | (simp <;> omega))
      refine hK.out _ _ ?_ (fun hHeld2 => ?_)
      · exact hSnew
      try replace ht := ht.below hbl
      try replace ht2 := ht2.below hbl
      try replace ht3 := ht3.below hbl
      try replace ht4 := ht4.below hbl
      clear hbl
      clear hK K hHeld hSnew
      have hHeld := hHeld2
      clear hHeld2
      try simp only [List.getElem_toArray, List.getElem_cons_succ, List.getElem_cons_zero, Act.put, List.setIfInBounds_toArray, List.set_cons_zero, List.set_cons_succ]
      refine wpAnyH_ready (rs := [25]) (by kernel_rfl) (by simp) ?_
      refine AllReadyH.cons rfl (fun K hK => ?_) AllReadyH.nil
      go_simp
      (refine (CP.out A13 c13 A14 c14 _ ht3 ht4).mono ?_; rintro e wt ⟨rfl, hbl⟩; clear ht3 ht4)
      try go_wp2_with fail
      have hSnew := Mem.bl_step hHeld hbl (by first | exact Nat.le_refl _ | omega | (simp <;> omega))
      refine hK.out _ _ ?_ (fun hHeld2 => ?_)
      · exact hSnew
      try replace ht := ht.below hbl
      try replace ht2 := ht2.below hbl
      try replace ht3 := ht3.below hbl
      try replace ht4 := ht4.below hbl
      clear hbl
      clear hK K hHeld hSnew
      have hHeld := hHeld2
      clear hHeld2
      try simp only [List.getElem_toArray, List.getElem_cons_succ, List.getElem_cons_zero, Act.put, List.setIfInBounds_toArray, List.set_cons_zero, List.set_cons_succ]
      refine wpAnyH_ready (rs := [28]) (by kernel_rfl) (by simp) ?_
      refine AllReadyH.cons rfl (fun K hK => ?_) AllReadyH.nil
      go_simp
      (refine (CP2.out _ (hd5.below hHeld) (hf5.below hHeld)).mono ?_; rintro e wt ⟨rfl, hbl⟩)
      try go_wp2_with fail
      have hSnew := Mem.bl_step hHeld hbl (by first | exact Nat.le_refl _ | omega | (simp <;> omega))
      refine hK.out _ _ ?_ (fun hHeld2 => ?_)
      · exact hSnew
      try replace ht := ht.below hbl
      try replace ht2 := ht2.below hbl
      try replace ht3 := ht3.below hbl
      try replace ht4 := ht4.below hbl
      clear hbl
      clear hK K hHeld hSnew
      have hHeld := hHeld2
      clear hHeld2
      try simp only [List.getElem_toArray, List.getElem_cons_succ, List.getElem_cons_zero, Act.put, List.setIfInBounds_toArray, List.set_cons_zero, List.set_cons_succ]
      first
        | refine wpAnyH_take (i := 29) (v := undef) rfl (by kernel_rfl) (by kernel_rfl) (by kernel_rfl) (fun _ _ _ h => h) (Or.inr ⟨by rfl, rfl⟩) (by assumption) ?rest70
        | (refine wpAnyH_take (i := 29) (v := ?v70) rfl (by kernel_rfl) (by kernel_rfl) (by kernel_rfl) (fun _ _ _ h => h) (Or.inl ⟨by rfl, ?y70⟩) (by assumption) ?rest70; case y70 => (intro w hSw; have hT0 := (Mem.bl_row hSw u1 (by first | exact Mem.Row.lt u1 | omega | (simp <;> omega))).cell 0 rfl; have hT1 := (Mem.bl_row hSw u1 (by first | exact Mem.Row.lt u1 | omega | (simp <;> omega))).cell 1 rfl; have hT2 := (Mem.bl_row hSw u2 (by first | exact Mem.Row.lt u2 | omega | (simp <;> omega))).cell 0 rfl; have hT3 := (Mem.bl_row hSw u2 (by first | exact Mem.Row.lt u2 | omega | (simp <;> omega))).cell 1 rfl; clear hSw; go_simp; try with_reducible rfl))
      case' rest70 => skip
      try simp only [List.getElem_toArray, List.getElem_cons_succ, List.getElem_cons_zero, Act.put, List.setIfInBounds_toArray, List.set_cons_zero, List.set_cons_succ]
      refine wpAnyH_take (i := 30) (v := ?v71) rfl (by kernel_rfl) (by kernel_rfl) (by kernel_rfl) (fun _ _ _ h => h) (Or.inl ⟨by rfl, ?y71⟩) (by assumption) ?rest71
      case y71 => (intro w hSw; have hT0 := (Mem.bl_row hSw u1 (by first | exact Mem.Row.lt u1 | omega | (simp <;> omega))).cell 0 rfl; have hT1 := (Mem.bl_row hSw u1 (by first | exact Mem.Row.lt u1 | omega | (simp <;> omega))).cell 1 rfl; have hT2 := (Mem.bl_row hSw u2 (by first | exact Mem.Row.lt u2 | omega | (simp <;> omega))).cell 0 rfl; have hT3 := (Mem.bl_row hSw u2 (by first | exact Mem.Row.lt u2 | omega | (simp <;> omega))).cell 1 rfl; clear hSw; go_simp; try with_reducible rfl)
      case' rest71 => skip
      try simp only [List.getElem_toArray, List.getElem_cons_succ, List.getElem_cons_zero, Act.put, List.setIfInBounds_toArray, List.set_cons_zero, List.set_cons_succ]
      refine wpAnyH_take (i := 31) (v := ?v72) rfl (by kernel_rfl) (by kernel_rfl) (by kernel_rfl) (fun _ _ _ h => h) (Or.inl ⟨by rfl, ?y72⟩) (by assumption) ?rest72
      case y72 => (intro w hSw; have hT0 := (Mem.bl_row hSw u1 (by first | exact Mem.Row.lt u1 | omega | (simp <;> omega))).cell 0 rfl; have hT1 := (Mem.bl_row hSw u1 (by first | exact Mem.Row.lt u1 | omega | (simp <;> omega))).cell 1 rfl; have hT2 := (Mem.bl_row hSw u2 (by first | exact Mem.Row.lt u2 | omega | (simp <;> omega))).cell 0 rfl; have hT3 := (Mem.bl_row hSw u2 (by first | exact Mem.Row.lt u2 | omega | (simp <;> omega))).cell 1 rfl; clear hSw; go_simp; try with_reducible rfl)
      case' rest72 => skip
      try simp only [List.getElem_toArray, List.getElem_cons_succ, List.getElem_cons_zero, Act.put, List.setIfInBounds_toArray, List.set_cons_zero, List.set_cons_succ]
      refine wpAnyH_ready (rs := [32]) (by kernel_rfl) (by simp) ?_
      refine AllReadyH.cons rfl (fun K hK => ?_) AllReadyH.nil
      go_simp
      (refine (works_any _).mono ?_; rintro e wk ⟨rfl, hbl⟩)
      try go_wp2_with fail
      have hSnew := Mem.bl_step hHeld hbl (by first | exact Nat.le_refl _ | omega | (simp <;> omega))
      refine hK.out _ _ ?_ (fun hHeld2 => ?_)
      · exact hSnew
      try replace ht := ht.below hbl
      try replace ht2 := ht2.below hbl
      try replace ht3 := ht3.below hbl
      try replace ht4 := ht4.below hbl
      clear hbl
      clear hK K hHeld hSnew
      have hHeld := hHeld2
      clear hHeld2
      try simp only [List.getElem_toArray, List.getElem_cons_succ, List.getElem_cons_zero, Act.put, List.setIfInBounds_toArray, List.set_cons_zero, List.set_cons_succ]
      refine wpAnyH_take (i := 33) (v := ?v73) rfl (by kernel_rfl) (by kernel_rfl) (by kernel_rfl) (fun _ _ _ h => h) (Or.inl ⟨by rfl, ?y73⟩) (by assumption) ?rest73
      case y73 => (intro w hSw; have hT0 := (Mem.bl_row hSw u1 (by first | exact Mem.Row.lt u1 | omega | (simp <;> omega))).cell 0 rfl; have hT1 := (Mem.bl_row hSw u1 (by first | exact Mem.Row.lt u1 | omega | (simp <;> omega))).cell 1 rfl; have hT2 := (Mem.bl_row hSw u2 (by first | exact Mem.Row.lt u2 | omega | (simp <;> omega))).cell 0 rfl; have hT3 := (Mem.bl_row hSw u2 (by first | exact Mem.Row.lt u2 | omega | (simp <;> omega))).cell 1 rfl; clear hSw; go_simp; try with_reducible rfl)
      case' rest73 => skip
      try simp only [List.getElem_toArray, List.getElem_cons_succ, List.getElem_cons_zero, Act.put, List.setIfInBounds_toArray, List.set_cons_zero, List.set_cons_succ]
      refine wpAnyH_take (i := 34) (v := ?v74) rfl (by kernel_rfl) (by kernel_rfl) (by kernel_rfl) (fun _ _ _ h => h) (Or.inl ⟨by rfl, ?y74⟩) (by assumption) ?rest74
      case y74 => (intro w hSw; have hT0 := (Mem.bl_row hSw u1 (by first | exact Mem.Row.lt u1 | omega | (simp <;> omega))).cell 0 rfl; have hT1 := (Mem.bl_row hSw u1 (by first | exact Mem.Row.lt u1 | omega | (simp <;> omega))).cell 1 rfl; have hT2 := (Mem.bl_row hSw u2 (by first | exact Mem.Row.lt u2 | omega | (simp <;> omega))).cell 0 rfl; have hT3 := (Mem.bl_row hSw u2 (by first | exact Mem.Row.lt u2 | omega | (simp <;> omega))).cell 1 rfl; clear hSw; go_simp; try with_reducible rfl)
      case' rest74 => skip
      try simp only [List.getElem_toArray, List.getElem_cons_succ, List.getElem_cons_zero, Act.put, List.setIfInBounds_toArray, List.set_cons_zero, List.set_cons_succ]
      refine wpAnyH_done (by kernel_rfl) ?_ _
      go_wp2
      go_ret
      exact ⟨rfl, hb6.trans (((Below.refl _ _).drew.trans hHeld).mono hb6.size)⟩
    | false =>
      simp only [Bool.false_eq_true, if_false]
      go_wp2_with fail
      refine wp_region_held_drew (S := Go.RowKit.Below ((w3.drew).heap.size) (w3.drew)) (by kernel_rfl) ?hb79 (fun hHeld => ?rest79)
      case hb79 =>
        exact Go.RowKit.Below.refl _ _
      case' rest79 => skip
      refine wpAnyH_take (i := 0) (v := ?v80) rfl (by kernel_rfl) (by kernel_rfl) (by kernel_rfl) (fun _ _ _ h => h) (Or.inl ⟨by rfl, ?y80⟩) (by assumption) ?rest80
      case y80 => (intro w hSw; have hT0 := (Mem.bl_row hSw t1d (by first | exact Mem.Row.lt t1d | omega | (simp <;> omega))).cell 0 rfl; have hT1 := (Mem.bl_row hSw t1d (by first | exact Mem.Row.lt t1d | omega | (simp <;> omega))).cell 1 rfl; clear hSw; go_simp; try with_reducible rfl)
      case' rest80 => skip
      try simp only [List.getElem_toArray, List.getElem_cons_succ, List.getElem_cons_zero, Act.put, List.setIfInBounds_toArray, List.set_cons_zero, List.set_cons_succ]
      refine wpAnyH_take (i := 2) (v := ?v81) rfl (by kernel_rfl) (by kernel_rfl) (by kernel_rfl) (fun _ _ _ h => h) (Or.inl ⟨by rfl, ?y81⟩) (by assumption) ?rest81
      case y81 => (intro w hSw; have hT0 := (Mem.bl_row hSw t1d (by first | exact Mem.Row.lt t1d | omega | (simp <;> omega))).cell 0 rfl; have hT1 := (Mem.bl_row hSw t1d (by first | exact Mem.Row.lt t1d | omega | (simp <;> omega))).cell 1 rfl; clear hSw; go_simp; try with_reducible rfl)
      case' rest81 => skip
      try simp only [List.getElem_toArray, List.getElem_cons_succ, List.getElem_cons_zero, Act.put, List.setIfInBounds_toArray, List.set_cons_zero, List.set_cons_succ]
      refine wpAnyH_take (i := 3) (v := ?v82) rfl (by kernel_rfl) (by kernel_rfl) (by kernel_rfl) (fun _ _ _ h => h) (Or.inl ⟨by rfl, ?y82⟩) (by assumption) ?rest82
      case y82 => (intro w hSw; have hT0 := (Mem.bl_row hSw t1d (by first | exact Mem.Row.lt t1d | omega | (simp <;> omega))).cell 0 rfl; have hT1 := (Mem.bl_row hSw t1d (by first | exact Mem.Row.lt t1d | omega | (simp <;> omega))).cell 1 rfl; clear hSw; go_simp; try with_reducible rfl)
      case' rest82 => skip
      try simp only [List.getElem_toArray, List.getElem_cons_succ, List.getElem_cons_zero, Act.put, List.setIfInBounds_toArray, List.set_cons_zero, List.set_cons_succ]
      refine wpAnyH_ready (rs := [1]) (by kernel_rfl) (by simp) ?_
      refine AllReadyH.cons rfl (fun K hK => ?_) AllReadyH.nil
      go_simp
      (refine (CR.out _).mono ?_; rintro e w4 ⟨rfl, hbl⟩)
      try go_wp2_with fail
      have hSnew := Mem.bl_step hHeld hbl (by first | exact Nat.le_refl _ | omega | (simp <;> omega))
      refine hK.out _ _ ?_ (fun hHeld2 => ?_)
      · exact hSnew
      clear hbl
      clear hK K hHeld hSnew
      have hHeld := hHeld2
      clear hHeld2
      try simp only [List.getElem_toArray, List.getElem_cons_succ, List.getElem_cons_zero, Act.put, List.setIfInBounds_toArray, List.set_cons_zero, List.set_cons_succ]
      refine wpAnyH_take (i := 4) (v := ?v83) rfl (by kernel_rfl) (by kernel_rfl) (by kernel_rfl) (fun _ _ _ h => h) (Or.inl ⟨by rfl, ?y83⟩) (by assumption) ?rest83
      case y83 => (intro w hSw; have hT0 := (Mem.bl_row hSw t1d (by first | exact Mem.Row.lt t1d | omega | (simp <;> omega))).cell 0 rfl; have hT1 := (Mem.bl_row hSw t1d (by first | exact Mem.Row.lt t1d | omega | (simp <;> omega))).cell 1 rfl; clear hSw; go_simp; try with_reducible rfl)
      case' rest83 => skip
      try simp only [List.getElem_toArray, List.getElem_cons_succ, List.getElem_cons_zero, Act.put, List.setIfInBounds_toArray, List.set_cons_zero, List.set_cons_succ]
      refine wpAnyH_take (i := 5) (v := ?v84) rfl (by kernel_rfl) (by kernel_rfl) (by kernel_rfl) (fun _ _ _ h => h) (Or.inl ⟨by rfl, ?y84⟩) (by assumption) ?rest84
      case y84 => (intro w hSw; have hT0 := (Mem.bl_row hSw t1d (by first | exact Mem.Row.lt t1d | omega | (simp <;> omega))).cell 0 rfl; have hT1 := (Mem.bl_row hSw t1d (by first | exact Mem.Row.lt t1d | omega | (simp <;> omega))).cell 1 rfl; clear hSw; go_simp; try with_reducible rfl)
      case' rest84 => skip
      try simp only [List.getElem_toArray, List.getElem_cons_succ, List.getElem_cons_zero, Act.put, List.setIfInBounds_toArray, List.set_cons_zero, List.set_cons_succ]
      first
        | refine wpAnyH_take (i := 6) (v := undef) rfl (by kernel_rfl) (by kernel_rfl) (by kernel_rfl) (fun _ _ _ h => h) (Or.inr ⟨by rfl, rfl⟩) (by assumption) ?rest85
        | (refine wpAnyH_take (i := 6) (v := ?v85) rfl (by kernel_rfl) (by kernel_rfl) (by kernel_rfl) (fun _ _ _ h => h) (Or.inl ⟨by rfl, ?y85⟩) (by assumption) ?rest85; case y85 => (intro w hSw; have hT0 := (Mem.bl_row hSw t1d (by first | exact Mem.Row.lt t1d | omega | (simp <;> omega))).cell 0 rfl; have hT1 := (Mem.bl_row hSw t1d (by first | exact Mem.Row.lt t1d | omega | (simp <;> omega))).cell 1 rfl; clear hSw; go_simp; try with_reducible rfl))
      case' rest85 => skip
      try simp only [List.getElem_toArray, List.getElem_cons_succ, List.getElem_cons_zero, Act.put, List.setIfInBounds_toArray, List.set_cons_zero, List.set_cons_succ]
      first
        | refine wpAnyH_take (i := 7) (v := undef) rfl (by kernel_rfl) (by kernel_rfl) (by kernel_rfl) (fun _ _ _ h => h) (Or.inr ⟨by rfl, rfl⟩) (by assumption) ?rest86
        | (refine wpAnyH_take (i := 7) (v := ?v86) rfl (by kernel_rfl) (by kernel_rfl) (by kernel_rfl) (fun _ _ _ h => h) (Or.inl ⟨by rfl, ?y86⟩) (by assumption) ?rest86; case y86 => (intro w hSw; have hT0 := (Mem.bl_row hSw t1d (by first | exact Mem.Row.lt t1d | omega | (simp <;> omega))).cell 0 rfl; have hT1 := (Mem.bl_row hSw t1d (by first | exact Mem.Row.lt t1d | omega | (simp <;> omega))).cell 1 rfl; clear hSw; go_simp; try with_reducible rfl))
      case' rest86 => skip
      try simp only [List.getElem_toArray, List.getElem_cons_succ, List.getElem_cons_zero, Act.put, List.setIfInBounds_toArray, List.set_cons_zero, List.set_cons_succ]
      first
        | refine wpAnyH_take (i := 8) (v := undef) rfl (by kernel_rfl) (by kernel_rfl) (by kernel_rfl) (fun _ _ _ h => h) (Or.inr ⟨by rfl, rfl⟩) (by assumption) ?rest87
        | (refine wpAnyH_take (i := 8) (v := ?v87) rfl (by kernel_rfl) (by kernel_rfl) (by kernel_rfl) (fun _ _ _ h => h) (Or.inl ⟨by rfl, ?y87⟩) (by assumption) ?rest87; case y87 => (intro w hSw; have hT0 := (Mem.bl_row hSw t1d (by first | exact Mem.Row.lt t1d | omega | (simp <;> omega))).cell 0 rfl; have hT1 := (Mem.bl_row hSw t1d (by first | exact Mem.Row.lt t1d | omega | (simp <;> omega))).cell 1 rfl; clear hSw; go_simp; try with_reducible rfl))
      case' rest87 => skip
      try simp only [List.getElem_toArray, List.getElem_cons_succ, List.getElem_cons_zero, Act.put, List.setIfInBounds_toArray, List.set_cons_zero, List.set_cons_succ]
      first
        | refine wpAnyH_take (i := 9) (v := undef) rfl (by kernel_rfl) (by kernel_rfl) (by kernel_rfl) (fun _ _ _ h => h) (Or.inr ⟨by rfl, rfl⟩) (by assumption) ?rest88
        | (refine wpAnyH_take (i := 9) (v := ?v88) rfl (by kernel_rfl) (by kernel_rfl) (by kernel_rfl) (fun _ _ _ h => h) (Or.inl ⟨by rfl, ?y88⟩) (by assumption) ?rest88; case y88 => (intro w hSw; have hT0 := (Mem.bl_row hSw t1d (by first | exact Mem.Row.lt t1d | omega | (simp <;> omega))).cell 0 rfl; have hT1 := (Mem.bl_row hSw t1d (by first | exact Mem.Row.lt t1d | omega | (simp <;> omega))).cell 1 rfl; clear hSw; go_simp; try with_reducible rfl))
      case' rest88 => skip
      try simp only [List.getElem_toArray, List.getElem_cons_succ, List.getElem_cons_zero, Act.put, List.setIfInBounds_toArray, List.set_cons_zero, List.set_cons_succ]
      first
        | refine wpAnyH_take (i := 10) (v := undef) rfl (by kernel_rfl) (by kernel_rfl) (by kernel_rfl) (fun _ _ _ h => h) (Or.inr ⟨by rfl, rfl⟩) (by assumption) ?rest89
        | (refine wpAnyH_take (i := 10) (v := ?v89) rfl (by kernel_rfl) (by kernel_rfl) (by kernel_rfl) (fun _ _ _ h => h) (Or.inl ⟨by rfl, ?y89⟩) (by assumption) ?rest89; case y89 => (intro w hSw; have hT0 := (Mem.bl_row hSw t1d (by first | exact Mem.Row.lt t1d | omega | (simp <;> omega))).cell 0 rfl; have hT1 := (Mem.bl_row hSw t1d (by first | exact Mem.Row.lt t1d | omega | (simp <;> omega))).cell 1 rfl; clear hSw; go_simp; try with_reducible rfl))
      case' rest89 => skip
      try simp only [List.getElem_toArray, List.getElem_cons_succ, List.getElem_cons_zero, Act.put, List.setIfInBounds_toArray, List.set_cons_zero, List.set_cons_succ]
      first
        | refine wpAnyH_take (i := 11) (v := undef) rfl (by kernel_rfl) (by kernel_rfl) (by kernel_rfl) (fun _ _ _ h => h) (Or.inr ⟨by rfl, rfl⟩) (by assumption) ?rest90
        | (refine wpAnyH_take (i := 11) (v := ?v90) rfl (by kernel_rfl) (by kernel_rfl) (by kernel_rfl) (fun _ _ _ h => h) (Or.inl ⟨by rfl, ?y90⟩) (by assumption) ?rest90; case y90 => (intro w hSw; have hT0 := (Mem.bl_row hSw t1d (by first | exact Mem.Row.lt t1d | omega | (simp <;> omega))).cell 0 rfl; have hT1 := (Mem.bl_row hSw t1d (by first | exact Mem.Row.lt t1d | omega | (simp <;> omega))).cell 1 rfl; clear hSw; go_simp; try with_reducible rfl))
      case' rest90 => skip
      try simp only [List.getElem_toArray, List.getElem_cons_succ, List.getElem_cons_zero, Act.put, List.setIfInBounds_toArray, List.set_cons_zero, List.set_cons_succ]
      refine wpAnyH_take (i := 12) (v := ?v91) rfl (by kernel_rfl) (by kernel_rfl) (by kernel_rfl) (fun _ _ _ h => h) (Or.inl ⟨by rfl, ?y91⟩) (by assumption) ?rest91
      case y91 => (intro w hSw; have hT0 := (Mem.bl_row hSw t1d (by first | exact Mem.Row.lt t1d | omega | (simp <;> omega))).cell 0 rfl; have hT1 := (Mem.bl_row hSw t1d (by first | exact Mem.Row.lt t1d | omega | (simp <;> omega))).cell 1 rfl; clear hSw; go_simp; try with_reducible rfl)
      case' rest91 => skip
      try simp only [List.getElem_toArray, List.getElem_cons_succ, List.getElem_cons_zero, Act.put, List.setIfInBounds_toArray, List.set_cons_zero, List.set_cons_succ]
      refine wpAnyH_take (i := 13) (v := ?v92) rfl (by kernel_rfl) (by kernel_rfl) (by kernel_rfl) (fun _ _ _ h => h) (Or.inl ⟨by rfl, ?y92⟩) (by assumption) ?rest92
      case y92 => (intro w hSw; have hT0 := (Mem.bl_row hSw t1d (by first | exact Mem.Row.lt t1d | omega | (simp <;> omega))).cell 0 rfl; have hT1 := (Mem.bl_row hSw t1d (by first | exact Mem.Row.lt t1d | omega | (simp <;> omega))).cell 1 rfl; clear hSw; go_simp; try with_reducible rfl)
      case' rest92 => skip
      try simp only [List.getElem_toArray, List.getElem_cons_succ, List.getElem_cons_zero, Act.put, List.setIfInBounds_toArray, List.set_cons_zero, List.set_cons_succ]
      first
        | refine wpAnyH_take (i := 14) (v := undef) rfl (by kernel_rfl) (by kernel_rfl) (by kernel_rfl) (fun _ _ _ h => h) (Or.inr ⟨by rfl, rfl⟩) (by assumption) ?rest93
        | (refine wpAnyH_take (i := 14) (v := ?v93) rfl (by kernel_rfl) (by kernel_rfl) (by kernel_rfl) (fun _ _ _ h => h) (Or.inl ⟨by rfl, ?y93⟩) (by assumption) ?rest93; case y93 => (intro w hSw; have hT0 := (Mem.bl_row hSw t1d (by first | exact Mem.Row.lt t1d | omega | (simp <;> omega))).cell 0 rfl; have hT1 := (Mem.bl_row hSw t1d (by first | exact Mem.Row.lt t1d | omega | (simp <;> omega))).cell 1 rfl; clear hSw; go_simp; try with_reducible rfl))
      case' rest93 => skip
      try simp only [List.getElem_toArray, List.getElem_cons_succ, List.getElem_cons_zero, Act.put, List.setIfInBounds_toArray, List.set_cons_zero, List.set_cons_succ]
      first
        | refine wpAnyH_take (i := 15) (v := undef) rfl (by kernel_rfl) (by kernel_rfl) (by kernel_rfl) (fun _ _ _ h => h) (Or.inr ⟨by rfl, rfl⟩) (by assumption) ?rest94
        | (refine wpAnyH_take (i := 15) (v := ?v94) rfl (by kernel_rfl) (by kernel_rfl) (by kernel_rfl) (fun _ _ _ h => h) (Or.inl ⟨by rfl, ?y94⟩) (by assumption) ?rest94; case y94 => (intro w hSw; have hT0 := (Mem.bl_row hSw t1d (by first | exact Mem.Row.lt t1d | omega | (simp <;> omega))).cell 0 rfl; have hT1 := (Mem.bl_row hSw t1d (by first | exact Mem.Row.lt t1d | omega | (simp <;> omega))).cell 1 rfl; clear hSw; go_simp; try with_reducible rfl))
      case' rest94 => skip
      try simp only [List.getElem_toArray, List.getElem_cons_succ, List.getElem_cons_zero, Act.put, List.setIfInBounds_toArray, List.set_cons_zero, List.set_cons_succ]
      first
        | refine wpAnyH_take (i := 16) (v := undef) rfl (by kernel_rfl) (by kernel_rfl) (by kernel_rfl) (fun _ _ _ h => h) (Or.inr ⟨by rfl, rfl⟩) (by assumption) ?rest95
        | (refine wpAnyH_take (i := 16) (v := ?v95) rfl (by kernel_rfl) (by kernel_rfl) (by kernel_rfl) (fun _ _ _ h => h) (Or.inl ⟨by rfl, ?y95⟩) (by assumption) ?rest95; case y95 => (intro w hSw; have hT0 := (Mem.bl_row hSw t1d (by first | exact Mem.Row.lt t1d | omega | (simp <;> omega))).cell 0 rfl; have hT1 := (Mem.bl_row hSw t1d (by first | exact Mem.Row.lt t1d | omega | (simp <;> omega))).cell 1 rfl; clear hSw; go_simp; try with_reducible rfl))
      case' rest95 => skip
      try simp only [List.getElem_toArray, List.getElem_cons_succ, List.getElem_cons_zero, Act.put, List.setIfInBounds_toArray, List.set_cons_zero, List.set_cons_succ]
      refine wpAnyH_ready (rs := [17]) (by kernel_rfl) (by simp) ?_
      refine AllReadyH.cons rfl (fun K hK => ?_) AllReadyH.nil
      go_simp
      (refine (CL.out _ (HBL.out _ (bl_row hHeld t0d (Row.lt t0d))) (hd4.below hHeld)).mono ?_; rintro e w5 ⟨A7, c7, rfl, k1, k2, k3, k4, hbl⟩)
      try go_wp2_with fail
      have hSnew := Mem.bl_step hHeld hbl (by first | exact Nat.le_refl _ | omega | (simp <;> omega))
      refine hK.out _ _ ?_ (fun hHeld2 => ?_)
      · exact hSnew
      clear hbl
      clear hK K hHeld hSnew
      have hHeld := hHeld2
      clear hHeld2
      try simp only [List.getElem_toArray, List.getElem_cons_succ, List.getElem_cons_zero, Act.put, List.setIfInBounds_toArray, List.set_cons_zero, List.set_cons_succ]
      refine wpAnyH_ready (rs := [18]) (by kernel_rfl) (by simp) ?_
      refine AllReadyH.cons rfl (fun K hK => ?_) AllReadyH.nil
      go_simp
      (refine (CS.out A7 c7 _ (HXS.out _ (bl_row hHeld t7d (Row.lt t7d))) (HXl.out ▸ k4.sl_byte)).mono ?_; rintro e w6 ⟨rfl, hbl⟩)
      try go_wp2_with fail
      have hSnew := Mem.bl_step hHeld hbl (by first | exact Nat.le_refl _ | omega | (simp <;> omega))
      refine hK.out _ _ ?_ (fun hHeld2 => ?_)
      · exact hSnew
      clear hbl
      clear hK K hHeld hSnew
      have hHeld := hHeld2
      clear hHeld2
      try simp only [List.getElem_toArray, List.getElem_cons_succ, List.getElem_cons_zero, Act.put, List.setIfInBounds_toArray, List.set_cons_zero, List.set_cons_succ]
      first
        | refine wpAnyH_take (i := 19) (v := undef) rfl (by kernel_rfl) (by kernel_rfl) (by kernel_rfl) (fun _ _ _ h => h) (Or.inr ⟨by rfl, rfl⟩) (by assumption) ?rest96
        | (refine wpAnyH_take (i := 19) (v := ?v96) rfl (by kernel_rfl) (by kernel_rfl) (by kernel_rfl) (fun _ _ _ h => h) (Or.inl ⟨by rfl, ?y96⟩) (by assumption) ?rest96; case y96 => (intro w hSw; have hT0 := (Mem.bl_row hSw t1d (by first | exact Mem.Row.lt t1d | omega | (simp <;> omega))).cell 0 rfl; have hT1 := (Mem.bl_row hSw t1d (by first | exact Mem.Row.lt t1d | omega | (simp <;> omega))).cell 1 rfl; clear hSw; go_simp; try with_reducible rfl))
      case' rest96 => skip
      try simp only [List.getElem_toArray, List.getElem_cons_succ, List.getElem_cons_zero, Act.put, List.setIfInBounds_toArray, List.set_cons_zero, List.set_cons_succ]
      refine wpAnyH_take (i := 20) (v := ?v97) rfl (by kernel_rfl) (by kernel_rfl) (by kernel_rfl) (fun _ _ _ h => h) (Or.inl ⟨by rfl, ?y97⟩) (by assumption) ?rest97
      case y97 => (intro w hSw; have hT0 := (Mem.bl_row hSw t1d (by first | exact Mem.Row.lt t1d | omega | (simp <;> omega))).cell 0 rfl; have hT1 := (Mem.bl_row hSw t1d (by first | exact Mem.Row.lt t1d | omega | (simp <;> omega))).cell 1 rfl; clear hSw; go_simp; try with_reducible rfl)
      case' rest97 => skip
      try simp only [List.getElem_toArray, List.getElem_cons_succ, List.getElem_cons_zero, Act.put, List.setIfInBounds_toArray, List.set_cons_zero, List.set_cons_succ]
      refine wpAnyH_done (by kernel_rfl) ?_ _
      have hb5 := (Below.refl w3.heap.size w3).drew.trans hHeld
      have hb6 := hb3.trans (hb5.mono hb3.size)
      have u0 := (t0.below hb5).drew
      have u1 := (t1.below hb5).drew
      have u2 := (t2.below hb5).drew
      have hd5 : By w6.drew A d := (hd4.below hHeld).drew
      have hf5 : By w6.drew A2 f := (hf4.below hHeld).drew
      clear hHeld hb3 hb5 t0 t1 t2 t7 hd3 hf3 hd4 hf4 t0d t1d t2d t7d k1 k2 k3 k4
      go_wp2_with fail
      refine wp_region_held_drew (S := Go.RowKit.Below ((w6.drew).heap.size) (w6.drew)) (by kernel_rfl) ?hb116 (fun hHeld => ?rest116)
      case hb116 =>
        exact Go.RowKit.Below.refl _ _
      case' rest116 => skip
      first
        | refine' wpAnyH_take (i := 0) (v := _) rfl (by kernel_rfl) (by kernel_rfl) (by kernel_rfl) (fun _ _ _ h => h) (yieldsIf_load_mid (by rfl) _ _ rfl _ _ rfl _ _ (fun w hSw => (Mem.bl_row hSw u0 (by first | exact Mem.Row.lt u0 | omega | (simp <;> omega))).range) arrUnd rfl hia) (by assumption) ?rest117
        | refine wpAnyH_take (i := 0) (v := undef) rfl (by kernel_rfl) (by kernel_rfl) (by kernel_rfl) (fun _ _ _ h => h) (Or.inr ⟨by rfl, rfl⟩) (by assumption) ?rest117
      case' rest117 => skip
      try simp only [List.getElem_toArray, List.getElem_cons_succ, List.getElem_cons_zero, Act.put, List.setIfInBounds_toArray, List.set_cons_zero, List.set_cons_succ]
      refine wpAnyH_take (i := 1) (v := ?v118) rfl (by kernel_rfl) (by kernel_rfl) (by kernel_rfl) (fun _ _ _ h => h) (Or.inl ⟨by rfl, ?y118⟩) (by assumption) ?rest118
      case y118 => (intro w hSw; have hT0 := (Mem.bl_row hSw u1 (by first | exact Mem.Row.lt u1 | omega | (simp <;> omega))).cell 0 rfl; have hT1 := (Mem.bl_row hSw u1 (by first | exact Mem.Row.lt u1 | omega | (simp <;> omega))).cell 1 rfl; have hT2 := (Mem.bl_row hSw u2 (by first | exact Mem.Row.lt u2 | omega | (simp <;> omega))).cell 0 rfl; have hT3 := (Mem.bl_row hSw u2 (by first | exact Mem.Row.lt u2 | omega | (simp <;> omega))).cell 1 rfl; clear hSw; go_simp; try with_reducible rfl)
      case' rest118 => skip
      try simp only [List.getElem_toArray, List.getElem_cons_succ, List.getElem_cons_zero, Act.put, List.setIfInBounds_toArray, List.set_cons_zero, List.set_cons_succ]
      refine wpAnyH_take (i := 5) (v := ?v119) rfl (by kernel_rfl) (by kernel_rfl) (by kernel_rfl) (fun _ _ _ h => h) (Or.inl ⟨by rfl, ?y119⟩) (by assumption) ?rest119
      case y119 => (intro w hSw; have hT0 := (Mem.bl_row hSw u1 (by first | exact Mem.Row.lt u1 | omega | (simp <;> omega))).cell 0 rfl; have hT1 := (Mem.bl_row hSw u1 (by first | exact Mem.Row.lt u1 | omega | (simp <;> omega))).cell 1 rfl; have hT2 := (Mem.bl_row hSw u2 (by first | exact Mem.Row.lt u2 | omega | (simp <;> omega))).cell 0 rfl; have hT3 := (Mem.bl_row hSw u2 (by first | exact Mem.Row.lt u2 | omega | (simp <;> omega))).cell 1 rfl; clear hSw; go_simp; try with_reducible rfl)
      case' rest119 => skip
      try simp only [List.getElem_toArray, List.getElem_cons_succ, List.getElem_cons_zero, Act.put, List.setIfInBounds_toArray, List.set_cons_zero, List.set_cons_succ]
      refine wpAnyH_take (i := 6) (v := ?v120) rfl (by kernel_rfl) (by kernel_rfl) (by kernel_rfl) (fun _ _ _ h => h) (Or.inl ⟨by rfl, ?y120⟩) (by assumption) ?rest120
      case y120 => (intro w hSw; have hT0 := (Mem.bl_row hSw u1 (by first | exact Mem.Row.lt u1 | omega | (simp <;> omega))).cell 0 rfl; have hT1 := (Mem.bl_row hSw u1 (by first | exact Mem.Row.lt u1 | omega | (simp <;> omega))).cell 1 rfl; have hT2 := (Mem.bl_row hSw u2 (by first | exact Mem.Row.lt u2 | omega | (simp <;> omega))).cell 0 rfl; have hT3 := (Mem.bl_row hSw u2 (by first | exact Mem.Row.lt u2 | omega | (simp <;> omega))).cell 1 rfl; clear hSw; go_simp; try with_reducible rfl)
      case' rest120 => skip
      try simp only [List.getElem_toArray, List.getElem_cons_succ, List.getElem_cons_zero, Act.put, List.setIfInBounds_toArray, List.set_cons_zero, List.set_cons_succ]
      refine wpAnyH_ready (rs := [2]) (by kernel_rfl) (by simp) ?_
      refine AllReadyH.cons rfl (fun K hK => ?_) AllReadyH.nil
      go_simp
      (refine (to_any a A c d _ (hd5.below hHeld) hc hn6).mono ?_; rintro e wt ⟨A8, c8, rfl, k1, k2, k3, k4, hbl⟩; clear k1 k2 k3 k4)
      try go_wp2_with fail
      have hSnew := Mem.bl_step hHeld hbl (by first | exact Nat.le_refl _ | omega | (simp <;> omega))
      refine hK.out _ _ ?_ (fun hHeld2 => ?_)
      · exact hSnew
      try replace ht := ht.below hbl
      try replace ht2 := ht2.below hbl
      try replace ht3 := ht3.below hbl
      try replace ht4 := ht4.below hbl
      clear hbl
      clear hK K hHeld hSnew
      have hHeld := hHeld2
      clear hHeld2
      try simp only [List.getElem_toArray, List.getElem_cons_succ, List.getElem_cons_zero, Act.put, List.setIfInBounds_toArray, List.set_cons_zero, List.set_cons_succ]
      refine wpAnyH_ready (rs := [3]) (by kernel_rfl) (by simp) ?_
      refine AllReadyH.cons rfl (fun K hK => ?_) AllReadyH.nil
      go_simp
      (refine (CW.out A8 c8 _).mono ?_; rintro e wt ⟨A9, c9, rfl, k1, k2, k3, k4, hbl⟩; have ht := k4.by_; clear k1 k2 k3 k4)
      try go_wp2_with fail
      have hSnew := Mem.bl_step hHeld hbl (by first | exact Nat.le_refl _ | omega | (simp <;> omega))
      refine hK.out _ _ ?_ (fun hHeld2 => ?_)
      · exact hSnew
      try replace ht := ht.below hbl
      try replace ht2 := ht2.below hbl
      try replace ht3 := ht3.below hbl
      try replace ht4 := ht4.below hbl
      clear hbl
      clear hK K hHeld hSnew
      have hHeld := hHeld2
      clear hHeld2
      try simp only [List.getElem_toArray, List.getElem_cons_succ, List.getElem_cons_zero, Act.put, List.setIfInBounds_toArray, List.set_cons_zero, List.set_cons_succ]
      refine wpAnyH_ready (rs := [4]) (by kernel_rfl) (by simp) ?_
      refine AllReadyH.cons rfl (fun K hK => ?_) AllReadyH.nil
      go_simp
      (refine (of_any wa A9 D.length c9 _).mono ?_; rintro e wt ⟨rfl, hbl⟩)
      try go_wp2_with fail
      have hSnew := Mem.bl_step hHeld hbl (by first | exact Nat.le_refl _ | omega | (simp <;> omega))
      refine hK.out _ _ ?_ (fun hHeld2 => ?_)
      · exact hSnew
      try replace ht := ht.below hbl
      try replace ht2 := ht2.below hbl
      try replace ht3 := ht3.below hbl
      try replace ht4 := ht4.below hbl
      clear hbl
      clear hK K hHeld hSnew
      have hHeld := hHeld2
      clear hHeld2
      try simp only [List.getElem_toArray, List.getElem_cons_succ, List.getElem_cons_zero, Act.put, List.setIfInBounds_toArray, List.set_cons_zero, List.set_cons_succ]
      refine wpAnyH_ready (rs := [7]) (by kernel_rfl) (by simp) ?_
      refine AllReadyH.cons rfl (fun K hK => ?_) AllReadyH.nil
      go_simp
      (refine (CW2.out _ (HBL.out _ (bl_row hHeld u0 (Row.lt u0)))).mono ?_; rintro e wt ⟨A10, c10, rfl, k1, k2, k3, k4, hbl⟩; have ht2 := k4.by_; clear k1 k2 k3 k4)
      try go_wp2_with fail
      have hSnew := Mem.bl_step hHeld hbl (by first | exact Nat.le_refl _ | omega | (simp <;> omega))
      refine hK.out _ _ ?_ (fun hHeld2 => ?_)
      · exact hSnew
      try replace ht := ht.below hbl
      try replace ht2 := ht2.below hbl
      try replace ht3 := ht3.below hbl
      try replace ht4 := ht4.below hbl
      clear hbl
      clear hK K hHeld hSnew
      have hHeld := hHeld2
      clear hHeld2
      try simp only [List.getElem_toArray, List.getElem_cons_succ, List.getElem_cons_zero, Act.put, List.setIfInBounds_toArray, List.set_cons_zero, List.set_cons_succ]
      refine wpAnyH_ready (rs := [8]) (by kernel_rfl) (by simp) ?_
      refine AllReadyH.cons rfl (fun K hK => ?_) AllReadyH.nil
      go_simp
      (refine (CD.out A9 c9 A10 c10 _ ht ht2).mono ?_; rintro e wt ⟨rfl, hbl⟩; clear ht ht2)
      try go_wp2_with fail
      have hSnew := Mem.bl_step hHeld hbl (by first | exact Nat.le_refl _ | omega | (simp <;> omega))
      refine hK.out _ _ ?_ (fun hHeld2 => ?_)
      · exact hSnew
      try replace ht := ht.below hbl
      try replace ht2 := ht2.below hbl
      try replace ht3 := ht3.below hbl
      try replace ht4 := ht4.below hbl
      clear hbl
      clear hK K hHeld hSnew
      have hHeld := hHeld2
      clear hHeld2
      try simp only [List.getElem_toArray, List.getElem_cons_succ, List.getElem_cons_zero, Act.put, List.setIfInBounds_toArray, List.set_cons_zero, List.set_cons_succ]
      refine wpAnyH_take (i := 9) (v := ?v121) rfl (by kernel_rfl) (by kernel_rfl) (by kernel_rfl) (fun _ _ _ h => h) (Or.inl ⟨by rfl, ?y121⟩) (by assumption) ?rest121
      case y121 => (intro w hSw; have hT0 := (Mem.bl_row hSw u1 (by first | exact Mem.Row.lt u1 | omega | (simp <;> omega))).cell 0 rfl; have hT1 := (Mem.bl_row hSw u1 (by first | exact Mem.Row.lt u1 | omega | (simp <;> omega))).cell 1 rfl; have hT2 := (Mem.bl_row hSw u2 (by first | exact Mem.Row.lt u2 | omega | (simp <;> omega))).cell 0 rfl; have hT3 := (Mem.bl_row hSw u2 (by first | exact Mem.Row.lt u2 | omega | (simp <;> omega))).cell 1 rfl; clear hSw; go_simp; try with_reducible rfl)
      case' rest121 => skip
      try simp only [List.getElem_toArray, List.getElem_cons_succ, List.getElem_cons_zero, Act.put, List.setIfInBounds_toArray, List.set_cons_zero, List.set_cons_succ]
      first
        | refine wpAnyH_take (i := 10) (v := undef) rfl (by kernel_rfl) (by kernel_rfl) (by kernel_rfl) (fun _ _ _ h => h) (Or.inr ⟨by rfl, rfl⟩) (by assumption) ?rest122
        | (refine wpAnyH_take (i := 10) (v := ?v122) rfl (by kernel_rfl) (by kernel_rfl) (by kernel_rfl) (fun _ _ _ h => h) (Or.inl ⟨by rfl, ?y122⟩) (by assumption) ?rest122; case y122 => (intro w hSw; have hT0 := (Mem.bl_row hSw u1 (by first | exact Mem.Row.lt u1 | omega | (simp <;> omega))).cell 0 rfl; have hT1 := (Mem.bl_row hSw u1 (by first | exact Mem.Row.lt u1 | omega | (simp <;> omega))).cell 1 rfl; have hT2 := (Mem.bl_row hSw u2 (by first | exact Mem.Row.lt u2 | omega | (simp <;> omega))).cell 0 rfl; have hT3 := (Mem.bl_row hSw u2 (by first | exact Mem.Row.lt u2 | omega | (simp <;> omega))).cell 1 rfl; clear hSw; go_simp; try with_reducible rfl))
      case' rest122 => skip
      try simp only [List.getElem_toArray, List.getElem_cons_succ, List.getElem_cons_zero, Act.put, List.setIfInBounds_toArray, List.set_cons_zero, List.set_cons_succ]
      first
        | refine wpAnyH_take (i := 12) (v := undef) rfl (by kernel_rfl) (by kernel_rfl) (by kernel_rfl) (fun _ _ _ h => h) (Or.inr ⟨by rfl, rfl⟩) (by assumption) ?rest123
        | (refine wpAnyH_take (i := 12) (v := ?v123) rfl (by kernel_rfl) (by kernel_rfl) (by kernel_rfl) (fun _ _ _ h => h) (Or.inl ⟨by rfl, ?y123⟩) (by assumption) ?rest123; case y123 => (intro w hSw; have hT0 := (Mem.bl_row hSw u1 (by first | exact Mem.Row.lt u1 | omega | (simp <;> omega))).cell 0 rfl; have hT1 := (Mem.bl_row hSw u1 (by first | exact Mem.Row.lt u1 | omega | (simp <;> omega))).cell 1 rfl; have hT2 := (Mem.bl_row hSw u2 (by first | exact Mem.Row.lt u2 | omega | (simp <;> omega))).cell 0 rfl; have hT3 := (Mem.bl_row hSw u2 (by first | exact Mem.Row.lt u2 | omega | (simp <;> omega))).cell 1 rfl; clear hSw; go_simp; try with_reducible rfl))
      case' rest123 => skip
      try simp only [List.getElem_toArray, List.getElem_cons_succ, List.getElem_cons_zero, Act.put, List.setIfInBounds_toArray, List.set_cons_zero, List.set_cons_succ]
      first
        | refine wpAnyH_take (i := 15) (v := undef) rfl (by kernel_rfl) (by kernel_rfl) (by kernel_rfl) (fun _ _ _ h => h) (Or.inr ⟨by rfl, rfl⟩) (by assumption) ?rest124
        | (refine wpAnyH_take (i := 15) (v := ?v124) rfl (by kernel_rfl) (by kernel_rfl) (by kernel_rfl) (fun _ _ _ h => h) (Or.inl ⟨by rfl, ?y124⟩) (by assumption) ?rest124; case y124 => (intro w hSw; have hT0 := (Mem.bl_row hSw u1 (by first | exact Mem.Row.lt u1 | omega | (simp <;> omega))).cell 0 rfl; have hT1 := (Mem.bl_row hSw u1 (by first | exact Mem.Row.lt u1 | omega | (simp <;> omega))).cell 1 rfl; have hT2 := (Mem.bl_row hSw u2 (by first | exact Mem.Row.lt u2 | omega | (simp <;> omega))).cell 0 rfl; have hT3 := (Mem.bl_row hSw u2 (by first | exact Mem.Row.lt u2 | omega | (simp <;> omega))).cell 1 rfl; clear hSw; go_simp; try with_reducible rfl))
      case' rest124 => skip
      try simp only [List.getElem_toArray, List.getElem_cons_succ, List.getElem_cons_zero, Act.put, List.setIfInBounds_toArray, List.set_cons_zero, List.set_cons_succ]
      first
        | refine wpAnyH_take (i := 16) (v := undef) rfl (by kernel_rfl) (by kernel_rfl) (by kernel_rfl) (fun _ _ _ h => h) (Or.inr ⟨by rfl, rfl⟩) (by assumption) ?rest125
        | (refine wpAnyH_take (i := 16) (v := ?v125) rfl (by kernel_rfl) (by kernel_rfl) (by kernel_rfl) (fun _ _ _ h => h) (Or.inl ⟨by rfl, ?y125⟩) (by assumption) ?rest125; case y125 => (intro w hSw; have hT0 := (Mem.bl_row hSw u1 (by first | exact Mem.Row.lt u1 | omega | (simp <;> omega))).cell 0 rfl; have hT1 := (Mem.bl_row hSw u1 (by first | exact Mem.Row.lt u1 | omega | (simp <;> omega))).cell 1 rfl; have hT2 := (Mem.bl_row hSw u2 (by first | exact Mem.Row.lt u2 | omega | (simp <;> omega))).cell 0 rfl; have hT3 := (Mem.bl_row hSw u2 (by first | exact Mem.Row.lt u2 | omega | (simp <;> omega))).cell 1 rfl; clear hSw; go_simp; try with_reducible rfl))
      case' rest125 => skip
      try simp only [List.getElem_toArray, List.getElem_cons_succ, List.getElem_cons_zero, Act.put, List.setIfInBounds_toArray, List.set_cons_zero, List.set_cons_succ]
      refine wpAnyH_ready (rs := [11]) (by kernel_rfl) (by simp) ?_
      refine AllReadyH.cons rfl (fun K hK => ?_) AllReadyH.nil
      go_simp
      (refine (to_any a A c d _ (hd5.below hHeld) hc hn6).mono ?_; rintro e wt ⟨A11, c11, rfl, k1, k2, k3, k4, hbl⟩; clear k1 k2 k3 k4)
      try go_wp2_with fail
      have hSnew := Mem.bl_step hHeld hbl (by first | exact Nat.le_refl _ | omega | (simp <;> omega))
      refine hK.out _ _ ?_ (fun hHeld2 => ?_)
      · exact hSnew
      try replace ht := ht.below hbl
      try replace ht2 := ht2.below hbl
      try replace ht3 := ht3.below hbl
      try replace ht4 := ht4.below hbl
      clear hbl
      clear hK K hHeld hSnew
      have hHeld := hHeld2
      clear hHeld2
      try simp only [List.getElem_toArray, List.getElem_cons_succ, List.getElem_cons_zero, Act.put, List.setIfInBounds_toArray, List.set_cons_zero, List.set_cons_succ]
      refine wpAnyH_ready (rs := [13]) (by kernel_rfl) (by simp) ?_
      refine AllReadyH.cons rfl (fun K hK => ?_) AllReadyH.nil
      go_simp
      (refine (to_any b A2 c2 f _ (hf5.below hHeld) hc2 hn7).mono ?_; rintro e wt ⟨A12, c12, rfl, k1, k2, k3, k4, hbl⟩; clear k1 k2 k3 k4)
      try go_wp2_with fail
      have hSnew := Mem.bl_step hHeld hbl (by first | exact Nat.le_refl _ | omega | (simp <;> omega))
      refine hK.out _ _ ?_ (fun hHeld2 => ?_)
      · exact hSnew
      try replace ht := ht.below hbl
      try replace ht2 := ht2.below hbl
      try replace ht3 := ht3.below hbl
      try replace ht4 := ht4.below hbl
      clear hbl
      clear hK K hHeld hSnew
      have hHeld := hHeld2
      clear hHeld2
      try simp only [List.getElem_toArray, List.getElem_cons_succ, List.getElem_cons_zero, Act.put, List.setIfInBounds_toArray, List.set_cons_zero, List.set_cons_succ]
      refine wpAnyH_ready (rs := [14]) (by kernel_rfl) (by simp) ?_
      refine AllReadyH.cons rfl (fun K hK => ?_) AllReadyH.nil
      go_simp
      (refine (CM.out A11 c11 A12 c12 _).mono ?_; rintro e wt ⟨rfl, hbl⟩)
      try go_wp2_with fail
      have hSnew := Mem.bl_step hHeld hbl (by first | exact Nat.le_refl _ | omega | (simp <;> omega))
      refine hK.out _ _ ?_ (fun hHeld2 => ?_)
      · exact hSnew
      try replace ht := ht.below hbl
      try replace ht2 := ht2.below hbl
      try replace ht3 := ht3.below hbl
      try replace ht4 := ht4.below hbl
      clear hbl
      clear hK K hHeld hSnew
      have hHeld := hHeld2
      clear hHeld2
      try simp only [List.getElem_toArray, List.getElem_cons_succ, List.getElem_cons_zero, Act.put, List.setIfInBounds_toArray, List.set_cons_zero, List.set_cons_succ]
      refine wpAnyH_ready (rs := [17]) (by kernel_rfl) (by simp) ?_
      refine AllReadyH.cons rfl (fun K hK => ?_) AllReadyH.nil
      go_simp
      (refine (CM2.out _).mono ?_; rintro e wt ⟨rfl, hbl⟩)
      try go_wp2_with fail
      have hSnew := Mem.bl_step hHeld hbl (by first | exact Nat.le_refl _ | omega | (simp <;> omega))
      refine hK.out _ _ ?_ (fun hHeld2 => ?_)
      · exact hSnew
      try replace ht := ht.below hbl
      try replace ht2 := ht2.below hbl
      try replace ht3 := ht3.below hbl
      try replace ht4 := ht4.below hbl
      clear hbl
      clear hK K hHeld hSnew
      have hHeld := hHeld2
      clear hHeld2
      try simp only [List.getElem_toArray, List.getElem_cons_succ, List.getElem_cons_zero, Act.put, List.setIfInBounds_toArray, List.set_cons_zero, List.set_cons_succ]
      first
        | refine wpAnyH_take (i := 18) (v := undef) rfl (by kernel_rfl) (by kernel_rfl) (by kernel_rfl) (fun _ _ _ h => h) (Or.inr ⟨by rfl, rfl⟩) (by assumption) ?rest126
        | (refine wpAnyH_take (i := 18) (v := ?v126) rfl (by kernel_rfl) (by kernel_rfl) (by kernel_rfl) (fun _ _ _ h => h) (Or.inl ⟨by rfl, ?y126⟩) (by assumption) ?rest126; case y126 => (intro w hSw; have hT0 := (Mem.bl_row hSw u1 (by first | exact Mem.Row.lt u1 | omega | (simp <;> omega))).cell 0 rfl; have hT1 := (Mem.bl_row hSw u1 (by first | exact Mem.Row.lt u1 | omega | (simp <;> omega))).cell 1 rfl; have hT2 := (Mem.bl_row hSw u2 (by first | exact Mem.Row.lt u2 | omega | (simp <;> omega))).cell 0 rfl; have hT3 := (Mem.bl_row hSw u2 (by first | exact Mem.Row.lt u2 | omega | (simp <;> omega))).cell 1 rfl; clear hSw; go_simp; try with_reducible rfl))
      case' rest126 => skip
      try simp only [List.getElem_toArray, List.getElem_cons_succ, List.getElem_cons_zero, Act.put, List.setIfInBounds_toArray, List.set_cons_zero, List.set_cons_succ]
      refine wpAnyH_take (i := 19) (v := ?v127) rfl (by kernel_rfl) (by kernel_rfl) (by kernel_rfl) (fun _ _ _ h => h) (Or.inl ⟨by rfl, ?y127⟩) (by assumption) ?rest127
      case y127 => (intro w hSw; have hT0 := (Mem.bl_row hSw u1 (by first | exact Mem.Row.lt u1 | omega | (simp <;> omega))).cell 0 rfl; have hT1 := (Mem.bl_row hSw u1 (by first | exact Mem.Row.lt u1 | omega | (simp <;> omega))).cell 1 rfl; have hT2 := (Mem.bl_row hSw u2 (by first | exact Mem.Row.lt u2 | omega | (simp <;> omega))).cell 0 rfl; have hT3 := (Mem.bl_row hSw u2 (by first | exact Mem.Row.lt u2 | omega | (simp <;> omega))).cell 1 rfl; clear hSw; go_simp; try with_reducible rfl)
      case' rest127 => skip
      try simp only [List.getElem_toArray, List.getElem_cons_succ, List.getElem_cons_zero, Act.put, List.setIfInBounds_toArray, List.set_cons_zero, List.set_cons_succ]
      refine wpAnyH_take (i := 20) (v := ?v128) rfl (by kernel_rfl) (by kernel_rfl) (by kernel_rfl) (fun _ _ _ h => h) (Or.inl ⟨by rfl, ?y128⟩) (by assumption) ?rest128
      case y128 => (intro w hSw; have hT0 := (Mem.bl_row hSw u1 (by first | exact Mem.Row.lt u1 | omega | (simp <;> omega))).cell 0 rfl; have hT1 := (Mem.bl_row hSw u1 (by first | exact Mem.Row.lt u1 | omega | (simp <;> omega))).cell 1 rfl; have hT2 := (Mem.bl_row hSw u2 (by first | exact Mem.Row.lt u2 | omega | (simp <;> omega))).cell 0 rfl; have hT3 := (Mem.bl_row hSw u2 (by first | exact Mem.Row.lt u2 | omega | (simp <;> omega))).cell 1 rfl; clear hSw; go_simp; try with_reducible rfl)
      case' rest128 => skip
      try simp only [List.getElem_toArray, List.getElem_cons_succ, List.getElem_cons_zero, Act.put, List.setIfInBounds_toArray, List.set_cons_zero, List.set_cons_succ]
      first
        | refine wpAnyH_take (i := 21) (v := undef) rfl (by kernel_rfl) (by kernel_rfl) (by kernel_rfl) (fun _ _ _ h => h) (Or.inr ⟨by rfl, rfl⟩) (by assumption) ?rest129
        | (refine wpAnyH_take (i := 21) (v := ?v129) rfl (by kernel_rfl) (by kernel_rfl) (by kernel_rfl) (fun _ _ _ h => h) (Or.inl ⟨by rfl, ?y129⟩) (by assumption) ?rest129; case y129 => (intro w hSw; have hT0 := (Mem.bl_row hSw u1 (by first | exact Mem.Row.lt u1 | omega | (simp <;> omega))).cell 0 rfl; have hT1 := (Mem.bl_row hSw u1 (by first | exact Mem.Row.lt u1 | omega | (simp <;> omega))).cell 1 rfl; have hT2 := (Mem.bl_row hSw u2 (by first | exact Mem.Row.lt u2 | omega | (simp <;> omega))).cell 0 rfl; have hT3 := (Mem.bl_row hSw u2 (by first | exact Mem.Row.lt u2 | omega | (simp <;> omega))).cell 1 rfl; clear hSw; go_simp; try with_reducible rfl))
      case' rest129 => skip
      try simp only [List.getElem_toArray, List.getElem_cons_succ, List.getElem_cons_zero, Act.put, List.setIfInBounds_toArray, List.set_cons_zero, List.set_cons_succ]
      first
        | refine wpAnyH_take (i := 23) (v := undef) rfl (by kernel_rfl) (by kernel_rfl) (by kernel_rfl) (fun _ _ _ h => h) (Or.inr ⟨by rfl, rfl⟩) (by assumption) ?rest130
        | (refine wpAnyH_take (i := 23) (v := ?v130) rfl (by kernel_rfl) (by kernel_rfl) (by kernel_rfl) (fun _ _ _ h => h) (Or.inl ⟨by rfl, ?y130⟩) (by assumption) ?rest130; case y130 => (intro w hSw; have hT0 := (Mem.bl_row hSw u1 (by first | exact Mem.Row.lt u1 | omega | (simp <;> omega))).cell 0 rfl; have hT1 := (Mem.bl_row hSw u1 (by first | exact Mem.Row.lt u1 | omega | (simp <;> omega))).cell 1 rfl; have hT2 := (Mem.bl_row hSw u2 (by first | exact Mem.Row.lt u2 | omega | (simp <;> omega))).cell 0 rfl; have hT3 := (Mem.bl_row hSw u2 (by first | exact Mem.Row.lt u2 | omega | (simp <;> omega))).cell 1 rfl; clear hSw; go_simp; try with_reducible rfl))
      case' rest130 => skip
      try simp only [List.getElem_toArray, List.getElem_cons_succ, List.getElem_cons_zero, Act.put, List.setIfInBounds_toArray, List.set_cons_zero, List.set_cons_succ]
      first
        | refine wpAnyH_take (i := 26) (v := undef) rfl (by kernel_rfl) (by kernel_rfl) (by kernel_rfl) (fun _ _ _ h => h) (Or.inr ⟨by rfl, rfl⟩) (by assumption) ?rest131
        | (refine wpAnyH_take (i := 26) (v := ?v131) rfl (by kernel_rfl) (by kernel_rfl) (by kernel_rfl) (fun _ _ _ h => h) (Or.inl ⟨by rfl, ?y131⟩) (by assumption) ?rest131; case y131 => (intro w hSw; have hT0 := (Mem.bl_row hSw u1 (by first | exact Mem.Row.lt u1 | omega | (simp <;> omega))).cell 0 rfl; have hT1 := (Mem.bl_row hSw u1 (by first | exact Mem.Row.lt u1 | omega | (simp <;> omega))).cell 1 rfl; have hT2 := (Mem.bl_row hSw u2 (by first | exact Mem.Row.lt u2 | omega | (simp <;> omega))).cell 0 rfl; have hT3 := (Mem.bl_row hSw u2 (by first | exact Mem.Row.lt u2 | omega | (simp <;> omega))).cell 1 rfl; clear hSw; go_simp; try with_reducible rfl))
      case' rest131 => skip
      try simp only [List.getElem_toArray, List.getElem_cons_succ, List.getElem_cons_zero, Act.put, List.setIfInBounds_toArray, List.set_cons_zero, List.set_cons_succ]
      first
        | refine wpAnyH_take (i := 27) (v := undef) rfl (by kernel_rfl) (by kernel_rfl) (by kernel_rfl) (fun _ _ _ h => h) (Or.inr ⟨by rfl, rfl⟩) (by assumption) ?rest132
        | (refine wpAnyH_take (i := 27) (v := ?v132) rfl (by kernel_rfl) (by kernel_rfl) (by kernel_rfl) (fun _ _ _ h => h) (Or.inl ⟨by rfl, ?y132⟩) (by assumption) ?rest132; case y132 => (intro w hSw; have hT0 := (Mem.bl_row hSw u1 (by first | exact Mem.Row.lt u1 | omega | (simp <;> omega))).cell 0 rfl; have hT1 := (Mem.bl_row hSw u1 (by first | exact Mem.Row.lt u1 | omega | (simp <;> omega))).cell 1 rfl; have hT2 := (Mem.bl_row hSw u2 (by first | exact Mem.Row.lt u2 | omega | (simp <;> omega))).cell 0 rfl; have hT3 := (Mem.bl_row hSw u2 (by first | exact Mem.Row.lt u2 | omega | (simp <;> omega))).cell 1 rfl; clear hSw; go_simp; try with_reducible rfl))
      case' rest132 => skip
      try simp only [List.getElem_toArray, List.getElem_cons_succ, List.getElem_cons_zero, Act.put, List.setIfInBounds_toArray, List.set_cons_zero, List.set_cons_succ]
      refine wpAnyH_ready (rs := [22]) (by kernel_rfl) (by simp) ?_
      refine AllReadyH.cons rfl (fun K hK => ?_) AllReadyH.nil
      go_simp
      (refine (to_any a A c d _ (hd5.below hHeld) hc hn6).mono ?_; rintro e wt ⟨A13, c13, rfl, k1, k2, k3, k4, hbl⟩; have ht3 := k4.by_; clear k1 k2 k3 k4)
      try go_wp2_with fail
      have hSnew := Mem.bl_step hHeld hbl (by first | exact Nat.le_refl _ | omega | (simp <;> omega))
      refine hK.out _ _ ?_ (fun hHeld2 => ?_)
      · exact hSnew
      try replace ht := ht.below hbl
      try replace ht2 := ht2.below hbl
      try replace ht3 := ht3.below hbl
      try replace ht4 := ht4.below hbl
      clear hbl
      clear hK K hHeld hSnew
      have hHeld := hHeld2
      clear hHeld2
      try simp only [List.getElem_toArray, List.getElem_cons_succ, List.getElem_cons_zero, Act.put, List.setIfInBounds_toArray, List.set_cons_zero, List.set_cons_succ]
      refine wpAnyH_ready (rs := [24]) (by kernel_rfl) (by simp) ?_
      refine AllReadyH.cons rfl (fun K hK => ?_) AllReadyH.nil
      go_simp
      (refine (to_any b A2 c2 f _ (hf5.below hHeld) hc2 hn7).mono ?_; rintro e wt ⟨A14, c14, rfl, k1, k2, k3, k4, hbl⟩; have ht4 := k4.by_; clear k1 k2 k3 k4)
      try go_wp2_with fail
      have hSnew := Mem.bl_step hHeld hbl (by first | exact Nat.le_refl _ | omega | (simp <;> omega))
      refine hK.out _ _ ?_ (fun hHeld2 => ?_)
      · exact hSnew
      try replace ht := ht.below hbl
      try replace ht2 := ht2.below hbl
      try replace ht3 := ht3.below hbl
      try replace ht4 := ht4.below hbl
      clear hbl
      clear hK K hHeld hSnew
      have hHeld := hHeld2
      clear hHeld2
      try simp only [List.getElem_toArray, List.getElem_cons_succ, List.getElem_cons_zero, Act.put, List.setIfInBounds_toArray, List.set_cons_zero, List.set_cons_succ]
      refine wpAnyH_ready (rs := [25]) (by kernel_rfl) (by simp) ?_
      refine AllReadyH.cons rfl (fun K hK => ?_) AllReadyH.nil
      go_simp
      (refine (CP.out A13 c13 A14 c14 _ ht3 ht4).mono ?_; rintro e wt ⟨rfl, hbl⟩; clear ht3 ht4)
      try go_wp2_with fail
      have hSnew := Mem.bl_step hHeld hbl (by first | exact Nat.le_refl _ | omega | (simp <;> omega))
      refine hK.out _ _ ?_ (fun hHeld2 => ?_)
      · exact hSnew
      try replace ht := ht.below hbl
      try replace ht2 := ht2.below hbl
      try replace ht3 := ht3.below hbl
      try replace ht4 := ht4.below hbl
      clear hbl
      clear hK K hHeld hSnew
      have hHeld := hHeld2
      clear hHeld2
      try simp only [List.getElem_toArray, List.getElem_cons_succ, List.getElem_cons_zero, Act.put, List.setIfInBounds_toArray, List.set_cons_zero, List.set_cons_succ]
      refine wpAnyH_ready (rs := [28]) (by kernel_rfl) (by simp) ?_
      refine AllReadyH.cons rfl (fun K hK => ?_) AllReadyH.nil
      go_simp
      (refine (CP2.out _ (hd5.below hHeld) (hf5.below hHeld)).mono ?_; rintro e wt ⟨rfl, hbl⟩)
      try go_wp2_with fail
      have hSnew := Mem.bl_step hHeld hbl (by first | exact Nat.le_refl _ | omega | (simp <;> omega))
      refine hK.out _ _ ?_ (fun hHeld2 => ?_)
      · exact hSnew
      try replace ht := ht.below hbl
      try replace ht2 := ht2.below hbl
      try replace ht3 := ht3.below hbl
      try replace ht4 := ht4.below hbl
      clear hbl
      clear hK K hHeld hSnew
      have hHeld := hHeld2
      clear hHeld2
      try simp only [List.getElem_toArray, List.getElem_cons_succ, List.getElem_cons_zero, Act.put, List.setIfInBounds_toArray, List.set_cons_zero, List.set_cons_succ]
      first
        | refine wpAnyH_take (i := 29) (v := undef) rfl (by kernel_rfl) (by kernel_rfl) (by kernel_rfl) (fun _ _ _ h => h) (Or.inr ⟨by rfl, rfl⟩) (by assumption) ?rest133
        | (refine wpAnyH_take (i := 29) (v := ?v133) rfl (by kernel_rfl) (by kernel_rfl) (by kernel_rfl) (fun _ _ _ h => h) (Or.inl ⟨by rfl, ?y133⟩) (by assumption) ?rest133; case y133 => (intro w hSw; have hT0 := (Mem.bl_row hSw u1 (by first | exact Mem.Row.lt u1 | omega | (simp <;> omega))).cell 0 rfl; have hT1 := (Mem.bl_row hSw u1 (by first | exact Mem.Row.lt u1 | omega | (simp <;> omega))).cell 1 rfl; have hT2 := (Mem.bl_row hSw u2 (by first | exact Mem.Row.lt u2 | omega | (simp <;> omega))).cell 0 rfl; have hT3 := (Mem.bl_row hSw u2 (by first | exact Mem.Row.lt u2 | omega | (simp <;> omega))).cell 1 rfl; clear hSw; go_simp; try with_reducible rfl))
      case' rest133 => skip
      try simp only [List.getElem_toArray, List.getElem_cons_succ, List.getElem_cons_zero, Act.put, List.setIfInBounds_toArray, List.set_cons_zero, List.set_cons_succ]
      refine wpAnyH_take (i := 30) (v := ?v134) rfl (by kernel_rfl) (by kernel_rfl) (by kernel_rfl) (fun _ _ _ h => h) (Or.inl ⟨by rfl, ?y134⟩) (by assumption) ?rest134
      case y134 => (intro w hSw; have hT0 := (Mem.bl_row hSw u1 (by first | exact Mem.Row.lt u1 | omega | (simp <;> omega))).cell 0 rfl; have hT1 := (Mem.bl_row hSw u1 (by first | exact Mem.Row.lt u1 | omega | (simp <;> omega))).cell 1 rfl; have hT2 := (Mem.bl_row hSw u2 (by first | exact Mem.Row.lt u2 | omega | (simp <;> omega))).cell 0 rfl; have hT3 := (Mem.bl_row hSw u2 (by first | exact Mem.Row.lt u2 | omega | (simp <;> omega))).cell 1 rfl; clear hSw; go_simp; try with_reducible rfl)
      case' rest134 => skip
      try simp only [List.getElem_toArray, List.getElem_cons_succ, List.getElem_cons_zero, Act.put, List.setIfInBounds_toArray, List.set_cons_zero, List.set_cons_succ]
      refine wpAnyH_take (i := 31) (v := ?v135) rfl (by kernel_rfl) (by kernel_rfl) (by kernel_rfl) (fun _ _ _ h => h) (Or.inl ⟨by rfl, ?y135⟩) (by assumption) ?rest135
      case y135 => (intro w hSw; have hT0 := (Mem.bl_row hSw u1 (by first | exact Mem.Row.lt u1 | omega | (simp <;> omega))).cell 0 rfl; have hT1 := (Mem.bl_row hSw u1 (by first | exact Mem.Row.lt u1 | omega | (simp <;> omega))).cell 1 rfl; have hT2 := (Mem.bl_row hSw u2 (by first | exact Mem.Row.lt u2 | omega | (simp <;> omega))).cell 0 rfl; have hT3 := (Mem.bl_row hSw u2 (by first | exact Mem.Row.lt u2 | omega | (simp <;> omega))).cell 1 rfl; clear hSw; go_simp; try with_reducible rfl)
      case' rest135 => skip
      try simp only [List.getElem_toArray, List.getElem_cons_succ, List.getElem_cons_zero, Act.put, List.setIfInBounds_toArray, List.set_cons_zero, List.set_cons_succ]
      refine wpAnyH_ready (rs := [32]) (by kernel_rfl) (by simp) ?_
      refine AllReadyH.cons rfl (fun K hK => ?_) AllReadyH.nil
      go_simp
      (refine (works_any _).mono ?_; rintro e wk ⟨rfl, hbl⟩)
      try go_wp2_with fail
      have hSnew := Mem.bl_step hHeld hbl (by first | exact Nat.le_refl _ | omega | (simp <;> omega))
      refine hK.out _ _ ?_ (fun hHeld2 => ?_)
      · exact hSnew
      try replace ht := ht.below hbl
      try replace ht2 := ht2.below hbl
      try replace ht3 := ht3.below hbl
      try replace ht4 := ht4.below hbl
      clear hbl
      clear hK K hHeld hSnew
      have hHeld := hHeld2
      clear hHeld2
      try simp only [List.getElem_toArray, List.getElem_cons_succ, List.getElem_cons_zero, Act.put, List.setIfInBounds_toArray, List.set_cons_zero, List.set_cons_succ]
      refine wpAnyH_take (i := 33) (v := ?v136) rfl (by kernel_rfl) (by kernel_rfl) (by kernel_rfl) (fun _ _ _ h => h) (Or.inl ⟨by rfl, ?y136⟩) (by assumption) ?rest136
      case y136 => (intro w hSw; have hT0 := (Mem.bl_row hSw u1 (by first | exact Mem.Row.lt u1 | omega | (simp <;> omega))).cell 0 rfl; have hT1 := (Mem.bl_row hSw u1 (by first | exact Mem.Row.lt u1 | omega | (simp <;> omega))).cell 1 rfl; have hT2 := (Mem.bl_row hSw u2 (by first | exact Mem.Row.lt u2 | omega | (simp <;> omega))).cell 0 rfl; have hT3 := (Mem.bl_row hSw u2 (by first | exact Mem.Row.lt u2 | omega | (simp <;> omega))).cell 1 rfl; clear hSw; go_simp; try with_reducible rfl)
      case' rest136 => skip
      try simp only [List.getElem_toArray, List.getElem_cons_succ, List.getElem_cons_zero, Act.put, List.setIfInBounds_toArray, List.set_cons_zero, List.set_cons_succ]
      refine wpAnyH_take (i := 34) (v := ?v137) rfl (by kernel_rfl) (by kernel_rfl) (by kernel_rfl) (fun _ _ _ h => h) (Or.inl ⟨by rfl, ?y137⟩) (by assumption) ?rest137
      case y137 => (intro w hSw; have hT0 := (Mem.bl_row hSw u1 (by first | exact Mem.Row.lt u1 | omega | (simp <;> omega))).cell 0 rfl; have hT1 := (Mem.bl_row hSw u1 (by first | exact Mem.Row.lt u1 | omega | (simp <;> omega))).cell 1 rfl; have hT2 := (Mem.bl_row hSw u2 (by first | exact Mem.Row.lt u2 | omega | (simp <;> omega))).cell 0 rfl; have hT3 := (Mem.bl_row hSw u2 (by first | exact Mem.Row.lt u2 | omega | (simp <;> omega))).cell 1 rfl; clear hSw; go_simp; try with_reducible rfl)
      case' rest137 => skip
      try simp only [List.getElem_toArray, List.getElem_cons_succ, List.getElem_cons_zero, Act.put, List.setIfInBounds_toArray, List.set_cons_zero, List.set_cons_succ]
      refine wpAnyH_done (by kernel_rfl) ?_ _
      go_wp2
      go_ret
      exact ⟨rfl, hb6.trans (((Below.refl _ _).drew.trans hHeld).mono hb6.size)⟩
theorem lays_walk (l : List Nat) (a : Int) (A : Option Addr) (c : Nat) (d : List Nat) (b : Int) (A2 : Option Addr) (c2 : Nat) (f : List Nat) (w : World) (hl : l.length = 256) (hb : ∀ x ∈ l, x < 256) (hd : By w A d) (hc : A = none → c = 0) (hf : By w A2 f) (hc2 : A2 = none → c2 = 0) :
    Calls Try.prog 7 #[.agg (blk l), patV a A d.length c, patV b A2 f.length c2] w fun e w' => e = .returned (.bool true) ∧ Below w.heap.size w w' :=
  lays_core l _ _ a b _ A c d A2 c2 f w hl hb hd hc hf hc2 rfl rfl rfl (by rw [layL_length]; exact hl) (layL_byte _ _ _ hb hd.lt_byte)
end Go.Proofs.Ytoibdomcekainaa.Pat
