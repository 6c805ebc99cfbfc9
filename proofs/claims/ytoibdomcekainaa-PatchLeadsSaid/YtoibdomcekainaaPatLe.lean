/- The statement PatchLeads. -/
import Derived.Test.YtoibdomcekainaaPatLw
namespace Go.Proofs.Ytoibdomcekainaa.Pat
open Go.RowKit Go.Proofs.Ytoibdomcekainaa.Mem Go.Proofs.Ytoibdomcekainaa.Open Go.Proofs.Ytoibdomcekainaa.Kind Go.Proofs.Ytoibdomcekainaa.Blk Go.Proofs.Ytoibdomcekainaa.App
set_option linter.unusedVariables false
set_option linter.unusedSimpArgs false
/-- Where the patch ahead of the k-th one ends. -/
def endK (D : List Pt) : Nat → Int
  | 0 => -1
  | k + 1 => (D.getD k (0, [])).1 + ((D.getD k (0, [])).2.length : Int)
theorem endK_lt {a b : List Nat} {D : List Pt} (h : DInv a b 256 D) {k : Nat} (hk : k < D.length) : endK D k < D[k].1 := by
  cases k with
  | zero => have := (h.each D[0] (List.getElem_mem _)).1; show (-1 : Int) < _; omega
  | succ k =>
    have := (List.pairwise_iff_getElem.1 h.apart) k (k + 1) (by omega) hk (by omega)
    show (D.getD k (0, [])).1 + ((D.getD k (0, [])).2.length : Int) < _
    rw [List.getD_eq_getElem?_getD, List.getElem?_eq_getElem (by omega), Option.getD_some]
    exact this
theorem endK_succ (D : List Pt) (k : Nat) (hk : k < D.length) : endK D (k + 1) = D[k].1 + (D[k].2.length : Int) := by
  show (D.getD k (0, [])).1 + ((D.getD k (0, [])).2.length : Int) = _
  rw [List.getD_eq_getElem?_getD, List.getElem?_eq_getElem hk, Option.getD_some]
theorem sumL_take (D : List Pt) (k : Nat) (hk : k < D.length) : sumL (D.take (k + 1)) = sumL (D.take k) + D[k].2.length := by
  rw [List.take_add_one, List.getElem?_eq_getElem hk, Option.toList_some, sumL_concat]
theorem backL_take (a : List Nat) (D : List Pt) (k : Nat) (hk : k < D.length) : backL a (D.take (k + 1)) = backL a (D.take k) ++ [(wasA D[k].1 D[k].2.length, wasD a D[k].1 D[k].2.length)] := by
  unfold backL
  rw [List.take_add_one, List.getElem?_eq_getElem hk, Option.toList_some, List.map_append]
  rfl
theorem sumL_le {a b : List Nat} {D : List Pt} (h : DInv a b 256 D) (k : Nat) : sumL (D.take k) ≤ 256 := by
  have h1 : sumL D ≤ 256 := by rw [h.sum]; have := List.countP_le_length (p := neqB a b) (l := List.range 256); rwa [List.length_range] at this
  have h2 : sumL D = sumL (D.take k) + sumL (D.drop k) := by
    conv => lhs; rw [← List.take_append_drop k D]
    unfold sumL; rw [List.map_append, List.sum_append]
  omega
set_option maxHeartbeats 4000000 in
set_option maxRecDepth 100000 in
theorem leads_core (a b : List Nat) (D : List Pt) (w : World) (ha : a.length = 256) (hab : ∀ x ∈ a, x < 256) (hb : b.length = 256) (hbb : ∀ x ∈ b, x < 256) (hD : Hid (diffL a b = D)) (hI : DInv a b 256 D) (hn : D.length ≤ 256) :
    Calls Try.prog 11 #[.agg (blk a), .agg (blk b)] w fun e w' => e = .returned (.bool true) ∧ Below w.heap.size w w' := by
  have hia : (Try.prog.info? 22).map (·.size) = some (blk a).toList.length := by rw [Array.length_toList, blk_size, ha]; exact arrSize
  have hib : (Try.prog.info? 22).map (·.size) = some (blk b).toList.length := by rw [Array.length_toList, blk_size, hb]; exact arrSize
  have hsa : (blk a).size = 256 := by rw [blk_size]; exact ha
  have hsb : (blk b).size = 256 := by rw [blk_size]; exact hb
  obtain ⟨r0, r1, bb⟩ := two_rows w 22 22 (blk a) (blk b)
  have CD := Lib.hid (fun w' => diff_any a b w' ha hb hbb)
  rw [hD.out] at CD
  go_enter Try.func11, Try.ntmps11
  go_wp2_with fail
  generalize (w.alloc (.cells (blk a) 22)).alloc (.cells (blk b) 22) = w1 at *
  have r0d := r0.drew
  have r1d := r1.drew
  go_cut [5, 6] (fun s5 s6 w' => ∃ g5 g6, s5 = .pointer (some ⟨g5, 0, none⟩) ∧ s6 = .pointer (some ⟨g6, 0, none⟩) ∧ Row w' g5 28 (blk a) ∧ Row w' g6 28 (blk b) ∧ Below w1.heap.size w1 w')
  case first =>
    refine wp_region_held_drew (S := Go.RowKit.Below ((w1.drew).heap.size) (w1.drew)) (by kernel_rfl) ?hb9 (fun hHeld => ?rest9)
    case hb9 =>
      exact Go.RowKit.Below.refl _ _
    case' rest9 => skip
    first
      | refine' wpAnyH_take (i := 0) (v := _) rfl (by kernel_rfl) (by kernel_rfl) (by kernel_rfl) (fun _ _ _ h => h) (yieldsIf_load_mid (by rfl) _ _ rfl _ _ rfl _ _ (fun w hSw => (Mem.bl_row hSw r0d (by first | exact Mem.Row.lt r0d | omega | (simp <;> omega))).range) arrUnd rfl hia) (by assumption) ?rest10
      | refine wpAnyH_take (i := 0) (v := undef) rfl (by kernel_rfl) (by kernel_rfl) (by kernel_rfl) (fun _ _ _ h => h) (Or.inr ⟨by rfl, rfl⟩) (by assumption) ?rest10
    case' rest10 => skip
    try simp only [List.getElem_toArray, List.getElem_cons_succ, List.getElem_cons_zero, Act.put, List.setIfInBounds_toArray, List.set_cons_zero, List.set_cons_succ]
    first
      | refine' wpAnyH_take (i := 1) (v := _) rfl (by kernel_rfl) (by kernel_rfl) (by kernel_rfl) (fun _ _ _ h => h) (yieldsIf_load_mid (by rfl) _ _ rfl _ _ rfl _ _ (fun w hSw => (Mem.bl_row hSw r1d (by first | exact Mem.Row.lt r1d | omega | (simp <;> omega))).range) arrUnd rfl hib) (by assumption) ?rest11
      | refine wpAnyH_take (i := 1) (v := undef) rfl (by kernel_rfl) (by kernel_rfl) (by kernel_rfl) (fun _ _ _ h => h) (Or.inr ⟨by rfl, rfl⟩) (by assumption) ?rest11
    case' rest11 => skip
    try simp only [List.getElem_toArray, List.getElem_cons_succ, List.getElem_cons_zero, Act.put, List.setIfInBounds_toArray, List.set_cons_zero, List.set_cons_succ]
    refine wpAnyH_ready (rs := [2, 3]) (by kernel_rfl) (by simp) ?_
    refine AllReadyH.cons rfl (fun K hK => ?_) ?_
    · skip
      rw [if_pos (by rfl)]
      refine wp_allocN 28 (by rfl) _ blkZero ?_; intro g5 wa hr5 hbl hg5'; have hg5 : w1.heap.size ≤ g5 := Nat.le_trans hHeld.size hg5'; have hz5 := Row.lt hr5
      have hSnew := Mem.bl_step hHeld hbl (by first | exact Nat.le_refl _ | omega | (simp <;> omega))
      refine hK.out _ _ ?_ (fun hHeld2 => ?_)
      · exact hSnew
      try replace hr5 := hr5.below hbl
      try replace hr6 := hr6.below hbl
      clear hbl
      clear hK K hHeld hSnew
      have hHeld := hHeld2
      clear hHeld2
      try simp only [List.getElem_toArray, List.getElem_cons_succ, List.getElem_cons_zero, Act.put, List.setIfInBounds_toArray, List.set_cons_zero, List.set_cons_succ]
      refine wpAnyH_ready (rs := [3]) (by kernel_rfl) (by simp) ?_
      refine AllReadyH.cons rfl (fun K hK => ?_) AllReadyH.nil
      rw [if_pos (by rfl)]
      refine wp_allocN 28 (by rfl) _ blkZero ?_; intro g6 wb hr6 hbl hg6'; have hg6 : w1.heap.size ≤ g6 := Nat.le_trans hHeld.size hg6'; have hz6 := Row.lt hr6
      have hSnew := Mem.bl_step hHeld hbl (by first | exact Nat.le_refl _ | omega | (simp <;> omega))
      refine hK.out _ _ ?_ (fun hHeld2 => ?_)
      · exact hSnew
      try replace hr5 := hr5.below hbl
      try replace hr6 := hr6.below hbl
      clear hbl
      clear hK K hHeld hSnew
      have hHeld := hHeld2
      clear hHeld2
      try simp only [List.getElem_toArray, List.getElem_cons_succ, List.getElem_cons_zero, Act.put, List.setIfInBounds_toArray, List.set_cons_zero, List.set_cons_succ]
      refine wpAnyH_ready (rs := [4]) (by kernel_rfl) (by simp) ?_
      refine AllReadyH.cons rfl (fun K hK => ?_) AllReadyH.nil
      rw [if_pos (by rfl)]
      refine wp_storeRow _ _ _ (by rfl) g5 (by rfl) (blk a) (by rfl) (blk zblk) 28 256 blkSize hsa zblk_size (blk_one _) hr5 ?_; have hSnew := below_setRow hHeld hg5 (blk a); have hr5b := hr5.set (blk a); have hr6b := Row.far (T := 28) hr6 (k := g5) (by omega) (blk a)
      refine hK.out _ _ ?_ (fun hHeld2 => ?_)
      · exact hSnew
      clear hK K hHeld hSnew
      have hHeld := hHeld2
      clear hHeld2
      try simp only [List.getElem_toArray, List.getElem_cons_succ, List.getElem_cons_zero, Act.put, List.setIfInBounds_toArray, List.set_cons_zero, List.set_cons_succ]
      refine wpAnyH_ready (rs := [5]) (by kernel_rfl) (by simp) ?_
      refine AllReadyH.cons rfl (fun K hK => ?_) AllReadyH.nil
      rw [if_pos (by rfl)]
      refine wp_storeRow _ _ _ (by rfl) g6 (by rfl) (blk b) (by rfl) (blk zblk) 28 256 blkSize hsb zblk_size (blk_one _) hr6b ?_; have hSnew := below_setRow hHeld hg6 (blk b); have hr6c := hr6b.set (blk b); have hr5c := Row.far (T := 28) hr5b (k := g6) (by omega) (blk b)
      refine hK.out _ _ ?_ (fun hHeld2 => ?_)
      · exact hSnew
      clear hK K hHeld hSnew
      have hHeld := hHeld2
      clear hHeld2
      try simp only [List.getElem_toArray, List.getElem_cons_succ, List.getElem_cons_zero, Act.put, List.setIfInBounds_toArray, List.set_cons_zero, List.set_cons_succ]
      refine wpAnyH_done (by kernel_rfl) ?_ _
      go_wp2_with fail
      go_meet
      case rel => exact ⟨g5, g6, rfl, rfl, hr5c, hr6c, (Below.refl _ _).drew.trans hHeld⟩
    refine AllReadyH.cons rfl (fun K hK => ?_) ?_
    · skip
      rw [if_pos (by rfl)]
      refine wp_allocN 28 (by rfl) _ blkZero ?_; intro g6 wb hr6 hbl hg6'; have hg6 : w1.heap.size ≤ g6 := Nat.le_trans hHeld.size hg6'; have hz6 := Row.lt hr6
      have hSnew := Mem.bl_step hHeld hbl (by first | exact Nat.le_refl _ | omega | (simp <;> omega))
      refine hK.out _ _ ?_ (fun hHeld2 => ?_)
      · exact hSnew
      try replace hr5 := hr5.below hbl
      try replace hr6 := hr6.below hbl
      clear hbl
      clear hK K hHeld hSnew
      have hHeld := hHeld2
      clear hHeld2
      try simp only [List.getElem_toArray, List.getElem_cons_succ, List.getElem_cons_zero, Act.put, List.setIfInBounds_toArray, List.set_cons_zero, List.set_cons_succ]
      refine wpAnyH_ready (rs := [2]) (by kernel_rfl) (by simp) ?_
      refine AllReadyH.cons rfl (fun K hK => ?_) AllReadyH.nil
      rw [if_pos (by rfl)]
      refine wp_allocN 28 (by rfl) _ blkZero ?_; intro g5 wa hr5 hbl hg5'; have hg5 : w1.heap.size ≤ g5 := Nat.le_trans hHeld.size hg5'; have hz5 := Row.lt hr5
      have hSnew := Mem.bl_step hHeld hbl (by first | exact Nat.le_refl _ | omega | (simp <;> omega))
      refine hK.out _ _ ?_ (fun hHeld2 => ?_)
      · exact hSnew
      try replace hr5 := hr5.below hbl
      try replace hr6 := hr6.below hbl
      clear hbl
      clear hK K hHeld hSnew
      have hHeld := hHeld2
      clear hHeld2
      try simp only [List.getElem_toArray, List.getElem_cons_succ, List.getElem_cons_zero, Act.put, List.setIfInBounds_toArray, List.set_cons_zero, List.set_cons_succ]
      refine wpAnyH_ready (rs := [4]) (by kernel_rfl) (by simp) ?_
      refine AllReadyH.cons rfl (fun K hK => ?_) AllReadyH.nil
      rw [if_pos (by rfl)]
      refine wp_storeRow _ _ _ (by rfl) g5 (by rfl) (blk a) (by rfl) (blk zblk) 28 256 blkSize hsa zblk_size (blk_one _) hr5 ?_; have hSnew := below_setRow hHeld hg5 (blk a); have hr5b := hr5.set (blk a); have hr6b := Row.far (T := 28) hr6 (k := g5) (by omega) (blk a)
      refine hK.out _ _ ?_ (fun hHeld2 => ?_)
      · exact hSnew
      clear hK K hHeld hSnew
      have hHeld := hHeld2
      clear hHeld2
      try simp only [List.getElem_toArray, List.getElem_cons_succ, List.getElem_cons_zero, Act.put, List.setIfInBounds_toArray, List.set_cons_zero, List.set_cons_succ]
      refine wpAnyH_ready (rs := [5]) (by kernel_rfl) (by simp) ?_
      refine AllReadyH.cons rfl (fun K hK => ?_) AllReadyH.nil
      rw [if_pos (by rfl)]
      refine wp_storeRow _ _ _ (by rfl) g6 (by rfl) (blk b) (by rfl) (blk zblk) 28 256 blkSize hsb zblk_size (blk_one _) hr6b ?_; have hSnew := below_setRow hHeld hg6 (blk b); have hr6c := hr6b.set (blk b); have hr5c := Row.far (T := 28) hr5b (k := g6) (by omega) (blk b)
      refine hK.out _ _ ?_ (fun hHeld2 => ?_)
      · exact hSnew
      clear hK K hHeld hSnew
      have hHeld := hHeld2
      clear hHeld2
      try simp only [List.getElem_toArray, List.getElem_cons_succ, List.getElem_cons_zero, Act.put, List.setIfInBounds_toArray, List.set_cons_zero, List.set_cons_succ]
      refine wpAnyH_done (by kernel_rfl) ?_ _
      go_wp2_with fail
      go_meet
      case rel => exact ⟨g5, g6, rfl, rfl, hr5c, hr6c, (Below.refl _ _).drew.trans hHeld⟩
    exact AllReadyH.nil
  case rest =>
    obtain ⟨g5, g6, rfl, rfl, x5, x6, hb5⟩ := hcut
    have hb2 := bb.trans (hb5.mono bb.size)
    clear r0 r1 r0d r1d bb hb5
    generalize wc = w2 at *
    go_wp2_with (first
      | (with_reducible refine wpList_load rfl 28 _ rfl _ rfl 28 (blk a) 256 5 blkUnd blkSize hsa x5.out ?_)
      | (with_reducible refine wpList_load rfl 28 _ rfl _ rfl 28 (blk b) 256 5 blkUnd blkSize hsb x6.out ?_))
    refine (CD.out _).mono ?_
    rintro e w3 ⟨v, rfl, hown, hbl⟩
    obtain ⟨A5, c5, rfl, k1, k2, k3, hps⟩ := hown.rw_
    have y5 := x5.below hbl
    have y6 := x6.below hbl
    have hb3 := hb2.trans (hbl.mono hb2.size)
    clear x5 x6 hbl hb2 hown
    have hl5 := y5.lt
    have hl6 := y6.lt
    have hps0 : Rw kPat w3 (All w3) A5 D.length D := hps
    go_wp2
    go_loopw [8, 9, 10, 11] (fun e n v i wr => ∃ k : Nat, k ≤ D.length ∧ i = .int .i64 k ∧ e = .int .i64 (endK D k) ∧ n = .int .i64 ((sumL (D.take k) : Nat) : Int) ∧ OwnK kPat wr w3.heap.size 36 v (backL a (D.take k)) ∧ Below w3.heap.size w3 wr) (fun _ _ _ i _ => D.length - (intOf i).toNat)
    case atStart => exact ⟨0, by omega, rfl, rfl, rfl, OwnK.nil _ _ _ _, Below.refl _ _⟩
    case round =>
      obtain ⟨k, hk, rfl, rfl, rfl, hown, hbel⟩ := hrel
      have hsl := sumL_le hI k
      by_cases hlt : k < D.length
      · obtain ⟨g, o, rfl⟩ := pat_form hps (by omega)
        obtain ⟨A', c', q0, q1, q2, q3, q4, q5, q6, q7⟩ := pat_at hps k hlt
        have d0 := (hbel.cell (p := ⟨g, o + k * 2, none⟩) q0).trans q1
        have d1 := (hbel.cell (p := ⟨g, o + k * 2 + 1, none⟩) q0).trans q2
        have hel := endK_lt hI hlt
        have HE1 := Lib.hid (endK_succ D k hlt)
        have HS1 := Lib.hid (sumL_take D k hlt)
        have HB1 := Lib.hid (backL_take a D k hlt)
        have hrr := dinv_right hI D[k] (List.getElem_mem hlt)
        obtain ⟨e1, e2, e3, _⟩ := hI.each D[k] (List.getElem_mem hlt)
        have hbk : (backL a (D.take k)).length ≤ 256 := by unfold backL; rw [List.length_map, List.length_take]; omega
        have hend0 : -1 ≤ endK D k := by
          cases k with
          | zero => exact Int.le_refl _
          | succ k =>
            have := (hI.each D[k] (List.getElem_mem _)).1
            rw [endK_succ D k (by omega)]
            omega
        generalize endK D k = e at *
        generalize sumL (D.take k) = n at *
        generalize D[k] = p at *
        obtain ⟨at_, d⟩ := p
        obtain ⟨q, rfl⟩ := Int.eq_ofNat_of_zero_le e1
        have hqd : q + d.length ≤ 256 := by simp at e3; omega
        have CC := Lib.hid (fun w' => check_any (q : Int) A' d.length c' w' q7.2.1)
        have CW := Lib.hid (fun w' => was_any a (q : Int) A' d.length c' w' ha hab q7.2.1)
        rw [hrr] at CC
        simp only [if_true] at CC
        have hle : decide ((q : Int) ≤ e) = false := decide_eq_false (by simp at hel; omega)
        go_wp2_with fail
        refine (CC.out _).mono ?_
        rintro ee w4 ⟨rfl, hbl⟩
        have hsz := hbel.size
        have hown4 := hown.below hbl
        have hbel4 := hbel.trans (hbl.mono hsz)
        have hb0 : Below wr.heap.size wr w4 := hbl
        clear d0 d1 hown hbel hbl hel
        have d0 := (hbel4.cell (p := ⟨g, o + k * 2, none⟩) q0).trans q1
        have d1 := (hbel4.cell (p := ⟨g, o + k * 2 + 1, none⟩) q0).trans q2
        have hqw : IntKind.i64.wrap ((q : Int) + (d.length : Int)) = (q : Int) + (d.length : Int) := by
          unfold IntKind.wrap; simp [IntKind.signed, IntKind.bits]; omega
        go_wp2
        go_quiet (fail)
        have hown5 := hown4.drewN nq
        have hbel5 := bdrewN hbel4 nq
        have f0 : (w4.drewN nq).cell? ⟨g, o + k * 2, none⟩ = some (.int .i64 (q : Int)) := d0
        have f1 : (w4.drewN nq).cell? ⟨g, o + k * 2 + 1, none⟩ = some (.slice A' d.length c') := d1
        clear d0 d1 hown4 hbel4 hb0
        generalize w4.drewN nq = w5 at *
        go_wp2
        have hown := hown5.drew
        have hbelA := hbel5.drew
        have g0 : w5.drew.cell? ⟨g, o + k * 2, none⟩ = some (.int .i64 (q : Int)) := f0
        have g1 : w5.drew.cell? ⟨g, o + k * 2 + 1, none⟩ = some (.slice A' d.length c') := f1
        have y5d : Row w5.drew g5 28 (blk a) := Row.below y5 hbelA
        have hia2 := blkSizeL a ha
        have hszA := hbelA.size
        have hm1 : wasA (q : Int) d.length = (q : Int) := by unfold wasA; rw [hrr]; rfl
        rw [hm1] at CW HB1
        have hwfq := wf_nat q (by omega)
        have hlt5 := hown.lt
        obtain ⟨vb, hvb⟩ : ∃ vb, wasD a (q : Int) d.length = vb := ⟨_, rfl⟩
        rw [hvb] at CW HB1
        clear hvb
        refine wp_region_held_drew (S := Go.RowKit.Below (w3.heap.size) (w5.drew)) (by kernel_rfl) ?hb22 (fun hHeld => ?rest22)
        case hb22 =>
          exact Go.RowKit.Below.refl _ _
        case' rest22 => skip
        refine wpAnyH_take (i := 0) (v := ?v23) rfl (by kernel_rfl) (by kernel_rfl) (by kernel_rfl) (fun _ _ _ h => h) (Or.inl ⟨by rfl, ?y23⟩) (by assumption) ?rest23
        case y23 => (intro w hSw; have hT0 := Mem.bl_cell hSw g0 (by first | omega | exact World.block_lt_of_cell? _ _ g0 | (simp <;> omega)); have hT1 := Mem.bl_cell hSw g1 (by first | omega | exact World.block_lt_of_cell? _ _ g1 | (simp <;> omega)); clear hSw; go_simp; try with_reducible rfl)
        case' rest23 => skip
        try simp only [List.getElem_toArray, List.getElem_cons_succ, List.getElem_cons_zero, Act.put, List.setIfInBounds_toArray, List.set_cons_zero, List.set_cons_succ]
        first
          | refine' wpAnyH_take (i := 1) (v := _) rfl (by kernel_rfl) (by kernel_rfl) (by kernel_rfl) (fun _ _ _ h => h) (yieldsIf_load_mid (by rfl) _ _ rfl _ _ rfl _ _ (fun w hSw => (Mem.bl_row hSw y5d (by first | exact Mem.Row.lt y5d | omega | (simp <;> omega))).range) blkUnd rfl hia2) (by assumption) ?rest24
          | refine wpAnyH_take (i := 1) (v := undef) rfl (by kernel_rfl) (by kernel_rfl) (by kernel_rfl) (fun _ _ _ h => h) (Or.inr ⟨by rfl, rfl⟩) (by assumption) ?rest24
        case' rest24 => skip
        try simp only [List.getElem_toArray, List.getElem_cons_succ, List.getElem_cons_zero, Act.put, List.setIfInBounds_toArray, List.set_cons_zero, List.set_cons_succ]
        refine wpAnyH_take (i := 2) (v := ?v25) rfl (by kernel_rfl) (by kernel_rfl) (by kernel_rfl) (fun _ _ _ h => h) (Or.inl ⟨by rfl, ?y25⟩) (by assumption) ?rest25
        case y25 => (intro w hSw; have hT0 := Mem.bl_cell hSw g0 (by first | omega | exact World.block_lt_of_cell? _ _ g0 | (simp <;> omega)); have hT1 := Mem.bl_cell hSw g1 (by first | omega | exact World.block_lt_of_cell? _ _ g1 | (simp <;> omega)); clear hSw; go_simp; try with_reducible rfl)
        case' rest25 => skip
        try simp only [List.getElem_toArray, List.getElem_cons_succ, List.getElem_cons_zero, Act.put, List.setIfInBounds_toArray, List.set_cons_zero, List.set_cons_succ]
        refine wpAnyH_take (i := 3) (v := ?v26) rfl (by kernel_rfl) (by kernel_rfl) (by kernel_rfl) (fun _ _ _ h => h) (Or.inl ⟨by rfl, ?y26⟩) (by assumption) ?rest26
        case y26 => (intro w hSw; have hT0 := Mem.bl_cell hSw g0 (by first | omega | exact World.block_lt_of_cell? _ _ g0 | (simp <;> omega)); have hT1 := Mem.bl_cell hSw g1 (by first | omega | exact World.block_lt_of_cell? _ _ g1 | (simp <;> omega)); clear hSw; go_simp; try with_reducible rfl)
        case' rest26 => skip
        try simp only [List.getElem_toArray, List.getElem_cons_succ, List.getElem_cons_zero, Act.put, List.setIfInBounds_toArray, List.set_cons_zero, List.set_cons_succ]
        refine wpAnyH_take (i := 4) (v := ?v27) rfl (by kernel_rfl) (by kernel_rfl) (by kernel_rfl) (fun _ _ _ h => h) (Or.inl ⟨by rfl, ?y27⟩) (by assumption) ?rest27
        case y27 => (intro w hSw; have hT0 := Mem.bl_cell hSw g0 (by first | omega | exact World.block_lt_of_cell? _ _ g0 | (simp <;> omega)); have hT1 := Mem.bl_cell hSw g1 (by first | omega | exact World.block_lt_of_cell? _ _ g1 | (simp <;> omega)); clear hSw; go_simp; try with_reducible rfl)
        case' rest27 => skip
        try simp only [List.getElem_toArray, List.getElem_cons_succ, List.getElem_cons_zero, Act.put, List.setIfInBounds_toArray, List.set_cons_zero, List.set_cons_succ]
        refine wpAnyH_take (i := 5) (v := ?v28) rfl (by kernel_rfl) (by kernel_rfl) (by kernel_rfl) (fun _ _ _ h => h) (Or.inl ⟨by rfl, ?y28⟩) (by assumption) ?rest28
        case y28 => (intro w hSw; have hT0 := Mem.bl_cell hSw g0 (by first | omega | exact World.block_lt_of_cell? _ _ g0 | (simp <;> omega)); have hT1 := Mem.bl_cell hSw g1 (by first | omega | exact World.block_lt_of_cell? _ _ g1 | (simp <;> omega)); clear hSw; go_simp; try with_reducible rfl)
        case' rest28 => skip
        try simp only [List.getElem_toArray, List.getElem_cons_succ, List.getElem_cons_zero, Act.put, List.setIfInBounds_toArray, List.set_cons_zero, List.set_cons_succ]
        refine wpAnyH_ready (rs := [6]) (by kernel_rfl) (by simp) ?_
        refine AllReadyH.cons rfl (fun K hK => ?_) AllReadyH.nil
        go_simp
        (refine (CW.out _).mono ?_; rintro ee w6 ⟨A2, c2, rfl, k4, k5, k6, k7, hbl⟩)
        try go_wp2_with fail
        have hSnew := Mem.bl_step hHeld hbl (by first | exact Nat.le_refl _ | omega | (simp <;> omega))
        refine hK.out _ _ ?_ (fun hHeld2 => ?_)
        · exact hSnew
        try replace hown := hown.below hbl
        clear hbl
        clear hK K hHeld hSnew
        have hHeld := hHeld2
        clear hHeld2
        try simp only [List.getElem_toArray, List.getElem_cons_succ, List.getElem_cons_zero, Act.put, List.setIfInBounds_toArray, List.set_cons_zero, List.set_cons_succ]
        refine wpAnyH_ready (rs := [7]) (by kernel_rfl) (by simp) ?_
        refine AllReadyH.cons rfl (fun K hK => ?_) AllReadyH.nil
        go_simp
        have hbl := (Below.refl w6.heap.size w6).alloc (Nat.le_refl _) (.cells #[.int .i64 (q : Int), .slice A2 vb.length c2] 36); have hrow := Row.new w6 36 #[.int .i64 (q : Int), .slice A2 vb.length c2]; have hK2 := kPat_mk (w := w6.alloc (.cells #[.int .i64 (q : Int), .slice A2 vb.length c2] 36)) hwfq k4 k5 k6 (k7.stay fun x hx => Below.heap_alloc _ _ _ hx.2)
        try go_wp2_with fail
        have hSnew := Mem.bl_step hHeld hbl (by first | exact Nat.le_refl _ | omega | (simp <;> omega))
        refine hK.out _ _ ?_ (fun hHeld2 => ?_)
        · exact hSnew
        try replace hown := hown.below hbl
        clear hbl
        clear hK K hHeld hSnew
        have hHeld := hHeld2
        clear hHeld2
        try simp only [List.getElem_toArray, List.getElem_cons_succ, List.getElem_cons_zero, Act.put, List.setIfInBounds_toArray, List.set_cons_zero, List.set_cons_succ]
        refine wpAnyH_ready (rs := [8]) (by kernel_rfl) (by simp) ?_
        refine AllReadyH.cons rfl (fun K hK => ?_) AllReadyH.nil
        rw [if_pos (by rfl)]
        refine wp_appK _ _ 26 (by rfl) (.agg #[.int .i64 0, .slice none 0 0]) 32 Try.underlying26 patInfo rfl (by decide) (by rfl) _ _ (by rfl) hown 36 [.int .i64 (q : Int), .slice A2 vb.length c2] hrow ((q : Int), vb) _ hK2 (fun x hx => ⟨fun e => by have := hlt5 x e.symm; have := hx.1; omega, by have := hx.2; simp; omega⟩) (by omega) (by omega) (Nat.le_trans hszA hHeld.size) ?_; intro v4 w7 hown4 hg4 hat4; have hSnew := hHeld.grown hg4 (Nat.le_trans hszA hHeld.size) (fun qq hq => (hlt5 qq hq).1)
        refine hK.out _ _ ?_ (fun hHeld2 => ?_)
        · exact hSnew
        clear hK K hHeld hSnew
        have hHeld := hHeld2
        clear hHeld2
        try simp only [List.getElem_toArray, List.getElem_cons_succ, List.getElem_cons_zero, Act.put, List.setIfInBounds_toArray, List.set_cons_zero, List.set_cons_succ]
        refine wpAnyH_take (i := 9) (v := ?v29) rfl (by kernel_rfl) (by kernel_rfl) (by kernel_rfl) (fun _ _ _ h => h) (Or.inl ⟨by rfl, ?y29⟩) (by assumption) ?rest29
        case y29 => (intro w hSw; have hT0 := Mem.bl_cell hSw g0 (by first | omega | exact World.block_lt_of_cell? _ _ g0 | (simp <;> omega)); have hT1 := Mem.bl_cell hSw g1 (by first | omega | exact World.block_lt_of_cell? _ _ g1 | (simp <;> omega)); clear hSw; go_simp; try with_reducible rfl)
        case' rest29 => skip
        try simp only [List.getElem_toArray, List.getElem_cons_succ, List.getElem_cons_zero, Act.put, List.setIfInBounds_toArray, List.set_cons_zero, List.set_cons_succ]
        refine wpAnyH_done (by kernel_rfl) ?_ _
        have hbel9 := hbelA.trans hHeld
        go_wp2
        rw [← HB1.out] at hown4
        go_roundw
        case rel => exact ⟨k + 1, by omega, by go_num, by rw [HE1.out], by rw [HS1.out]; go_num, hown4, hbel9⟩
        case measure => simp [intOf]; omega
      · have hke : k = D.length := by omega
        subst hke
        rw [List.take_length] at hown hsl ⊢
        have y5r : Row wr g5 28 (blk a) := Row.below y5 hbel
        have y6r : Row wr g6 28 (blk b) := Row.below y6 hbel
        have hpsr := hps.below hbel
        have hszr := hbel.size
        have hb4 := hb3.trans (hbel.mono hb3.size)
        obtain ⟨A7, c7, rfl, k4, k5, k6, hbk⟩ := hown.rw_
        have hia2 := blkSizeL a ha
        have hib2 := blkSizeL b hb
        have hbkl : (backL a D).length = D.length := by unfold backL; rw [List.length_map]
        have CA1 := Lib.hid (fun w' h => pall_any a A5 c5 D w' ha h (by omega))
        have CA2 := Lib.hid (fun w' h => pall_any b A7 c7 (backL a D) w' hb h (by omega))
        rw [leads_law ha hb hI] at CA1
        rw [backs_law ha hb hI] at CA2
        have CB := Lib.hid (fun w' h => pbytes_any A5 c5 D w' h (by omega))
        rw [bytes_law hI] at CB
        have heqb : ∀ w, (Op.equalIn 10000 28 (.agg (blk b)) (.agg (blk b))).run Try.prog w = .ok true w := fun w => by rw [run_eq_blk b b hb hb, decide_eq_true rfl]
        have heqa : ∀ w, (Op.equalIn 10000 28 (.agg (blk a)) (.agg (blk a))).run Try.prog w = .ok true w := fun w => by rw [run_eq_blk a a ha ha, decide_eq_true rfl]
        have heab : ∀ w, (Op.equalIn 10000 28 (.agg (blk a)) (.agg (blk b))).run Try.prog w = .ok (decide (a = b)) w := fun w => run_eq_blk a b ha hb w
        have hem := empty_law ha hb hI
        have hgd := blkGuard
        have hpsd : Ps wr.drew A5 D := Rw.drew hpsr
        have hbkd : Ps wr.drew A7 (backL a D) := Rw.drew hbk
        have y5d := y5r.drew
        have y6d := y6r.drew
        obtain ⟨n0, hn0⟩ : ∃ n0, D.length = n0 := ⟨_, rfl⟩
        obtain ⟨bl, hbl0⟩ : ∃ bl, (backL a D).length = bl := ⟨_, rfl⟩
        obtain ⟨sn, hsn⟩ : ∃ sn, sumL D = sn := ⟨_, rfl⟩
        rw [hsn] at CB hsl
        rw [hn0] at CB CA1 hem
        rw [hbl0] at CA2
        rw [hbl0, hn0, hsn]
        cases hab2 : decide (a = b) with
        | true =>
          rw [hab2] at hem heab
          have hz := of_decide_eq_true hem
          subst hz
          clear hem hab2
          go_wp2_with fail
          refine wp_region_held_drew (S := Go.RowKit.Below ((wr.drew).heap.size) (wr.drew)) (by kernel_rfl) ?hb38 (fun hHeld => ?rest38)
          case hb38 =>
            exact Go.RowKit.Below.refl _ _
          case' rest38 => skip
          first
            | refine' wpAnyH_take (i := 0) (v := _) rfl (by kernel_rfl) (by kernel_rfl) (by kernel_rfl) (fun _ _ _ h => h) (yieldsIf_load_mid (by rfl) _ _ rfl _ _ rfl _ _ (fun w hSw => (Mem.bl_row hSw y5d (by first | exact Mem.Row.lt y5d | omega | (simp <;> omega))).range) blkUnd rfl hia2) (by assumption) ?rest39
            | refine wpAnyH_take (i := 0) (v := undef) rfl (by kernel_rfl) (by kernel_rfl) (by kernel_rfl) (fun _ _ _ h => h) (Or.inr ⟨by rfl, rfl⟩) (by assumption) ?rest39
          case' rest39 => skip
          try simp only [List.getElem_toArray, List.getElem_cons_succ, List.getElem_cons_zero, Act.put, List.setIfInBounds_toArray, List.set_cons_zero, List.set_cons_succ]
          refine wpAnyH_take (i := 1) (v := ?v40) rfl (by kernel_rfl) (by kernel_rfl) (by kernel_rfl) (fun _ _ _ h => h) (Or.inl ⟨by rfl, ?y40⟩) (by assumption) ?rest40
          case y40 => (intro w hSw; clear hSw; go_simp; try with_reducible rfl)
          case' rest40 => skip
          try simp only [List.getElem_toArray, List.getElem_cons_succ, List.getElem_cons_zero, Act.put, List.setIfInBounds_toArray, List.set_cons_zero, List.set_cons_succ]
          first
            | refine' wpAnyH_take (i := 3) (v := _) rfl (by kernel_rfl) (by kernel_rfl) (by kernel_rfl) (fun _ _ _ h => h) (yieldsIf_load_mid (by rfl) _ _ rfl _ _ rfl _ _ (fun w hSw => (Mem.bl_row hSw y6d (by first | exact Mem.Row.lt y6d | omega | (simp <;> omega))).range) blkUnd rfl hib2) (by assumption) ?rest41
            | refine wpAnyH_take (i := 3) (v := undef) rfl (by kernel_rfl) (by kernel_rfl) (by kernel_rfl) (fun _ _ _ h => h) (Or.inr ⟨by rfl, rfl⟩) (by assumption) ?rest41
          case' rest41 => skip
          try simp only [List.getElem_toArray, List.getElem_cons_succ, List.getElem_cons_zero, Act.put, List.setIfInBounds_toArray, List.set_cons_zero, List.set_cons_succ]
          refine wpAnyH_ready (rs := [2]) (by kernel_rfl) (by simp) ?_
          refine AllReadyH.cons rfl (fun K hK => ?_) AllReadyH.nil
          go_simp
          (refine (CA1.out _ (hpsd.below hHeld)).mono ?_; rintro e wl ⟨rfl, hbl⟩)
          try go_wp2_with fail
          have hSnew := Mem.bl_step hHeld hbl (by first | exact Nat.le_refl _ | omega | (simp <;> omega))
          refine hK.out _ _ ?_ (fun hHeld2 => ?_)
          · exact hSnew
          clear hbl
          clear hK K hHeld hSnew
          have hHeld := hHeld2
          clear hHeld2
          try simp only [List.getElem_toArray, List.getElem_cons_succ, List.getElem_cons_zero, Act.put, List.setIfInBounds_toArray, List.set_cons_zero, List.set_cons_succ]
          refine wpAnyH_take (i := 4) (v := ?v42) rfl (by kernel_rfl) (by kernel_rfl) (by kernel_rfl) (fun _ _ _ h => h) (Or.inl ⟨by rfl, ?y42⟩) (by assumption) ?rest42
          case y42 => (intro w hSw; clear hSw; go_simp; try with_reducible rfl)
          case' rest42 => skip
          try simp only [List.getElem_toArray, List.getElem_cons_succ, List.getElem_cons_zero, Act.put, List.setIfInBounds_toArray, List.set_cons_zero, List.set_cons_succ]
          refine wpAnyH_take (i := 5) (v := ?v43) rfl (by kernel_rfl) (by kernel_rfl) (by kernel_rfl) (fun _ _ _ h => h) (Or.inl ⟨by rfl, ?y43⟩) (by assumption) ?rest43
          case y43 => (intro w hSw; clear hSw; go_simp; try with_reducible rfl)
          case' rest43 => skip
          try simp only [List.getElem_toArray, List.getElem_cons_succ, List.getElem_cons_zero, Act.put, List.setIfInBounds_toArray, List.set_cons_zero, List.set_cons_succ]
          first
            | refine' wpAnyH_take (i := 6) (v := _) rfl (by kernel_rfl) (by kernel_rfl) (by kernel_rfl) (fun _ _ _ h => h) (yieldsIf_load_mid (by rfl) _ _ rfl _ _ rfl _ _ (fun w hSw => (Mem.bl_row hSw y6d (by first | exact Mem.Row.lt y6d | omega | (simp <;> omega))).range) blkUnd rfl hib2) (by assumption) ?rest44
            | refine wpAnyH_take (i := 6) (v := undef) rfl (by kernel_rfl) (by kernel_rfl) (by kernel_rfl) (fun _ _ _ h => h) (Or.inr ⟨by rfl, rfl⟩) (by assumption) ?rest44
          case' rest44 => skip
          try simp only [List.getElem_toArray, List.getElem_cons_succ, List.getElem_cons_zero, Act.put, List.setIfInBounds_toArray, List.set_cons_zero, List.set_cons_succ]
          first
            | refine wpAnyH_take (i := 7) (v := undef) rfl (by kernel_rfl) (by kernel_rfl) (by kernel_rfl) (fun _ _ _ h => h) (Or.inr ⟨by rfl, rfl⟩) (by assumption) ?rest45
            | (refine wpAnyH_take (i := 7) (v := ?v45) rfl (by kernel_rfl) (by kernel_rfl) (by kernel_rfl) (fun _ _ _ h => h) (Or.inl ⟨by rfl, ?y45⟩) (by assumption) ?rest45; case y45 => (intro w hSw; clear hSw; go_simp; try with_reducible rfl))
          case' rest45 => skip
          try simp only [List.getElem_toArray, List.getElem_cons_succ, List.getElem_cons_zero, Act.put, List.setIfInBounds_toArray, List.set_cons_zero, List.set_cons_succ]
          first
            | refine' wpAnyH_take (i := 9) (v := _) rfl (by kernel_rfl) (by kernel_rfl) (by kernel_rfl) (fun _ _ _ h => h) (yieldsIf_load_mid (by rfl) _ _ rfl _ _ rfl _ _ (fun w hSw => (Mem.bl_row hSw y5d (by first | exact Mem.Row.lt y5d | omega | (simp <;> omega))).range) blkUnd rfl hia2) (by assumption) ?rest46
            | refine wpAnyH_take (i := 9) (v := undef) rfl (by kernel_rfl) (by kernel_rfl) (by kernel_rfl) (fun _ _ _ h => h) (Or.inr ⟨by rfl, rfl⟩) (by assumption) ?rest46
          case' rest46 => skip
          try simp only [List.getElem_toArray, List.getElem_cons_succ, List.getElem_cons_zero, Act.put, List.setIfInBounds_toArray, List.set_cons_zero, List.set_cons_succ]
          refine wpAnyH_ready (rs := [8]) (by kernel_rfl) (by simp) ?_
          refine AllReadyH.cons rfl (fun K hK => ?_) AllReadyH.nil
          go_simp
          (refine (CA2.out _ (hbkd.below hHeld)).mono ?_; rintro e wl ⟨rfl, hbl⟩)
          try go_wp2_with fail
          have hSnew := Mem.bl_step hHeld hbl (by first | exact Nat.le_refl _ | omega | (simp <;> omega))
          refine hK.out _ _ ?_ (fun hHeld2 => ?_)
          · exact hSnew
          clear hbl
          clear hK K hHeld hSnew
          have hHeld := hHeld2
          clear hHeld2
          try simp only [List.getElem_toArray, List.getElem_cons_succ, List.getElem_cons_zero, Act.put, List.setIfInBounds_toArray, List.set_cons_zero, List.set_cons_succ]
          first
            | refine wpAnyH_take (i := 10) (v := undef) rfl (by kernel_rfl) (by kernel_rfl) (by kernel_rfl) (fun _ _ _ h => h) (Or.inr ⟨by rfl, rfl⟩) (by assumption) ?rest47
            | (refine wpAnyH_take (i := 10) (v := ?v47) rfl (by kernel_rfl) (by kernel_rfl) (by kernel_rfl) (fun _ _ _ h => h) (Or.inl ⟨by rfl, ?y47⟩) (by assumption) ?rest47; case y47 => (intro w hSw; clear hSw; go_simp; try with_reducible rfl))
          case' rest47 => skip
          try simp only [List.getElem_toArray, List.getElem_cons_succ, List.getElem_cons_zero, Act.put, List.setIfInBounds_toArray, List.set_cons_zero, List.set_cons_succ]
          refine wpAnyH_take (i := 11) (v := ?v48) rfl (by kernel_rfl) (by kernel_rfl) (by kernel_rfl) (fun _ _ _ h => h) (Or.inl ⟨by rfl, ?y48⟩) (by assumption) ?rest48
          case y48 => (intro w hSw; clear hSw; go_simp; try with_reducible rfl)
          case' rest48 => skip
          try simp only [List.getElem_toArray, List.getElem_cons_succ, List.getElem_cons_zero, Act.put, List.setIfInBounds_toArray, List.set_cons_zero, List.set_cons_succ]
          refine wpAnyH_take (i := 12) (v := ?v49) rfl (by kernel_rfl) (by kernel_rfl) (by kernel_rfl) (fun _ _ _ h => h) (Or.inl ⟨by rfl, ?y49⟩) (by assumption) ?rest49
          case y49 => (intro w hSw; clear hSw; go_simp; try with_reducible rfl)
          case' rest49 => skip
          try simp only [List.getElem_toArray, List.getElem_cons_succ, List.getElem_cons_zero, Act.put, List.setIfInBounds_toArray, List.set_cons_zero, List.set_cons_succ]
          first
            | refine wpAnyH_take (i := 13) (v := undef) rfl (by kernel_rfl) (by kernel_rfl) (by kernel_rfl) (fun _ _ _ h => h) (Or.inr ⟨by rfl, rfl⟩) (by assumption) ?rest50
            | (refine wpAnyH_take (i := 13) (v := ?v50) rfl (by kernel_rfl) (by kernel_rfl) (by kernel_rfl) (fun _ _ _ h => h) (Or.inl ⟨by rfl, ?y50⟩) (by assumption) ?rest50; case y50 => (intro w hSw; clear hSw; go_simp; try with_reducible rfl))
          case' rest50 => skip
          try simp only [List.getElem_toArray, List.getElem_cons_succ, List.getElem_cons_zero, Act.put, List.setIfInBounds_toArray, List.set_cons_zero, List.set_cons_succ]
          first
            | refine wpAnyH_take (i := 15) (v := undef) rfl (by kernel_rfl) (by kernel_rfl) (by kernel_rfl) (fun _ _ _ h => h) (Or.inr ⟨by rfl, rfl⟩) (by assumption) ?rest51
            | (refine wpAnyH_take (i := 15) (v := ?v51) rfl (by kernel_rfl) (by kernel_rfl) (by kernel_rfl) (fun _ _ _ h => h) (Or.inl ⟨by rfl, ?y51⟩) (by assumption) ?rest51; case y51 => (intro w hSw; clear hSw; go_simp; try with_reducible rfl))
          case' rest51 => skip
          try simp only [List.getElem_toArray, List.getElem_cons_succ, List.getElem_cons_zero, Act.put, List.setIfInBounds_toArray, List.set_cons_zero, List.set_cons_succ]
          refine wpAnyH_ready (rs := [14]) (by kernel_rfl) (by simp) ?_
          refine AllReadyH.cons rfl (fun K hK => ?_) AllReadyH.nil
          go_simp
          (refine (CB.out _ (hpsd.below hHeld)).mono ?_; rintro e wl ⟨rfl, hbl⟩)
          try go_wp2_with fail
          have hSnew := Mem.bl_step hHeld hbl (by first | exact Nat.le_refl _ | omega | (simp <;> omega))
          refine hK.out _ _ ?_ (fun hHeld2 => ?_)
          · exact hSnew
          clear hbl
          clear hK K hHeld hSnew
          have hHeld := hHeld2
          clear hHeld2
          try simp only [List.getElem_toArray, List.getElem_cons_succ, List.getElem_cons_zero, Act.put, List.setIfInBounds_toArray, List.set_cons_zero, List.set_cons_succ]
          first
            | refine wpAnyH_take (i := 16) (v := undef) rfl (by kernel_rfl) (by kernel_rfl) (by kernel_rfl) (fun _ _ _ h => h) (Or.inr ⟨by rfl, rfl⟩) (by assumption) ?rest52
            | (refine wpAnyH_take (i := 16) (v := ?v52) rfl (by kernel_rfl) (by kernel_rfl) (by kernel_rfl) (fun _ _ _ h => h) (Or.inl ⟨by rfl, ?y52⟩) (by assumption) ?rest52; case y52 => (intro w hSw; clear hSw; go_simp; try with_reducible rfl))
          case' rest52 => skip
          try simp only [List.getElem_toArray, List.getElem_cons_succ, List.getElem_cons_zero, Act.put, List.setIfInBounds_toArray, List.set_cons_zero, List.set_cons_succ]
          refine wpAnyH_take (i := 17) (v := ?v53) rfl (by kernel_rfl) (by kernel_rfl) (by kernel_rfl) (fun _ _ _ h => h) (Or.inl ⟨by rfl, ?y53⟩) (by assumption) ?rest53
          case y53 => (intro w hSw; clear hSw; go_simp; try with_reducible rfl)
          case' rest53 => skip
          try simp only [List.getElem_toArray, List.getElem_cons_succ, List.getElem_cons_zero, Act.put, List.setIfInBounds_toArray, List.set_cons_zero, List.set_cons_succ]
          refine wpAnyH_take (i := 18) (v := ?v54) rfl (by kernel_rfl) (by kernel_rfl) (by kernel_rfl) (fun _ _ _ h => h) (Or.inl ⟨by rfl, ?y54⟩) (by assumption) ?rest54
          case y54 => (intro w hSw; clear hSw; go_simp; try with_reducible rfl)
          case' rest54 => skip
          try simp only [List.getElem_toArray, List.getElem_cons_succ, List.getElem_cons_zero, Act.put, List.setIfInBounds_toArray, List.set_cons_zero, List.set_cons_succ]
          first
            | refine wpAnyH_take (i := 19) (v := undef) rfl (by kernel_rfl) (by kernel_rfl) (by kernel_rfl) (fun _ _ _ h => h) (Or.inr ⟨by rfl, rfl⟩) (by assumption) ?rest55
            | (refine wpAnyH_take (i := 19) (v := ?v55) rfl (by kernel_rfl) (by kernel_rfl) (by kernel_rfl) (fun _ _ _ h => h) (Or.inl ⟨by rfl, ?y55⟩) (by assumption) ?rest55; case y55 => (intro w hSw; clear hSw; go_simp; try with_reducible rfl))
          case' rest55 => skip
          try simp only [List.getElem_toArray, List.getElem_cons_succ, List.getElem_cons_zero, Act.put, List.setIfInBounds_toArray, List.set_cons_zero, List.set_cons_succ]
          first
            | refine wpAnyH_take (i := 20) (v := undef) rfl (by kernel_rfl) (by kernel_rfl) (by kernel_rfl) (fun _ _ _ h => h) (Or.inr ⟨by rfl, rfl⟩) (by assumption) ?rest56
            | (refine wpAnyH_take (i := 20) (v := ?v56) rfl (by kernel_rfl) (by kernel_rfl) (by kernel_rfl) (fun _ _ _ h => h) (Or.inl ⟨by rfl, ?y56⟩) (by assumption) ?rest56; case y56 => (intro w hSw; clear hSw; go_simp; try with_reducible rfl))
          case' rest56 => skip
          try simp only [List.getElem_toArray, List.getElem_cons_succ, List.getElem_cons_zero, Act.put, List.setIfInBounds_toArray, List.set_cons_zero, List.set_cons_succ]
          first
            | refine wpAnyH_take (i := 21) (v := undef) rfl (by kernel_rfl) (by kernel_rfl) (by kernel_rfl) (fun _ _ _ h => h) (Or.inr ⟨by rfl, rfl⟩) (by assumption) ?rest57
            | (refine wpAnyH_take (i := 21) (v := ?v57) rfl (by kernel_rfl) (by kernel_rfl) (by kernel_rfl) (fun _ _ _ h => h) (Or.inl ⟨by rfl, ?y57⟩) (by assumption) ?rest57; case y57 => (intro w hSw; clear hSw; go_simp; try with_reducible rfl))
          case' rest57 => skip
          try simp only [List.getElem_toArray, List.getElem_cons_succ, List.getElem_cons_zero, Act.put, List.setIfInBounds_toArray, List.set_cons_zero, List.set_cons_succ]
          first
            | refine' wpAnyH_take (i := 22) (v := _) rfl (by kernel_rfl) (by kernel_rfl) (by kernel_rfl) (fun _ _ _ h => h) (yieldsIf_load_mid (by rfl) _ _ rfl _ _ rfl _ _ (fun w hSw => (Mem.bl_row hSw y5d (by first | exact Mem.Row.lt y5d | omega | (simp <;> omega))).range) blkUnd rfl hia2) (by assumption) ?rest58
            | refine wpAnyH_take (i := 22) (v := undef) rfl (by kernel_rfl) (by kernel_rfl) (by kernel_rfl) (fun _ _ _ h => h) (Or.inr ⟨by rfl, rfl⟩) (by assumption) ?rest58
          case' rest58 => skip
          try simp only [List.getElem_toArray, List.getElem_cons_succ, List.getElem_cons_zero, Act.put, List.setIfInBounds_toArray, List.set_cons_zero, List.set_cons_succ]
          first
            | refine' wpAnyH_take (i := 23) (v := _) rfl (by kernel_rfl) (by kernel_rfl) (by kernel_rfl) (fun _ _ _ h => h) (yieldsIf_load_mid (by rfl) _ _ rfl _ _ rfl _ _ (fun w hSw => (Mem.bl_row hSw y6d (by first | exact Mem.Row.lt y6d | omega | (simp <;> omega))).range) blkUnd rfl hib2) (by assumption) ?rest59
            | refine wpAnyH_take (i := 23) (v := undef) rfl (by kernel_rfl) (by kernel_rfl) (by kernel_rfl) (fun _ _ _ h => h) (Or.inr ⟨by rfl, rfl⟩) (by assumption) ?rest59
          case' rest59 => skip
          try simp only [List.getElem_toArray, List.getElem_cons_succ, List.getElem_cons_zero, Act.put, List.setIfInBounds_toArray, List.set_cons_zero, List.set_cons_succ]
          first
            | refine wpAnyH_take (i := 24) (v := undef) rfl (by kernel_rfl) (by kernel_rfl) (by kernel_rfl) (fun _ _ _ h => h) (Or.inr ⟨by rfl, rfl⟩) (by assumption) ?rest60
            | (refine wpAnyH_take (i := 24) (v := ?v60) rfl (by kernel_rfl) (by kernel_rfl) (by kernel_rfl) (fun _ _ _ h => h) (Or.inl ⟨by rfl, ?y60⟩) (by assumption) ?rest60; case y60 => (intro w hSw; clear hSw; go_simp; try with_reducible rfl))
          case' rest60 => skip
          try simp only [List.getElem_toArray, List.getElem_cons_succ, List.getElem_cons_zero, Act.put, List.setIfInBounds_toArray, List.set_cons_zero, List.set_cons_succ]
          first
            | refine wpAnyH_take (i := 25) (v := undef) rfl (by kernel_rfl) (by kernel_rfl) (by kernel_rfl) (fun _ _ _ h => h) (Or.inr ⟨by rfl, rfl⟩) (by assumption) ?rest61
            | (refine wpAnyH_take (i := 25) (v := ?v61) rfl (by kernel_rfl) (by kernel_rfl) (by kernel_rfl) (fun _ _ _ h => h) (Or.inl ⟨by rfl, ?y61⟩) (by assumption) ?rest61; case y61 => (intro w hSw; clear hSw; go_simp; try with_reducible rfl))
          case' rest61 => skip
          try simp only [List.getElem_toArray, List.getElem_cons_succ, List.getElem_cons_zero, Act.put, List.setIfInBounds_toArray, List.set_cons_zero, List.set_cons_succ]
          refine wpAnyH_take (i := 26) (v := ?v62) rfl (by kernel_rfl) (by kernel_rfl) (by kernel_rfl) (fun _ _ _ h => h) (Or.inl ⟨by rfl, ?y62⟩) (by assumption) ?rest62
          case y62 => (intro w hSw; clear hSw; go_simp; try with_reducible rfl)
          case' rest62 => skip
          try simp only [List.getElem_toArray, List.getElem_cons_succ, List.getElem_cons_zero, Act.put, List.setIfInBounds_toArray, List.set_cons_zero, List.set_cons_succ]
          refine wpAnyH_take (i := 27) (v := ?v63) rfl (by kernel_rfl) (by kernel_rfl) (by kernel_rfl) (fun _ _ _ h => h) (Or.inl ⟨by rfl, ?y63⟩) (by assumption) ?rest63
          case y63 => (intro w hSw; clear hSw; go_simp; try with_reducible rfl)
          case' rest63 => skip
          try simp only [List.getElem_toArray, List.getElem_cons_succ, List.getElem_cons_zero, Act.put, List.setIfInBounds_toArray, List.set_cons_zero, List.set_cons_succ]
          refine wpAnyH_ready (rs := [28]) (by kernel_rfl) (by simp) ?_
          refine AllReadyH.cons rfl (fun K hK => ?_) AllReadyH.nil
          go_simp
          (refine (works_any _).mono ?_; rintro e wk ⟨rfl, hbl⟩)
          try go_wp2_with fail
          have hSnew := Mem.bl_step hHeld hbl (by first | exact Nat.le_refl _ | omega | (simp <;> omega))
          refine hK.out _ _ ?_ (fun hHeld2 => ?_)
          · exact hSnew
          clear hbl
          clear hK K hHeld hSnew
          have hHeld := hHeld2
          clear hHeld2
          try simp only [List.getElem_toArray, List.getElem_cons_succ, List.getElem_cons_zero, Act.put, List.setIfInBounds_toArray, List.set_cons_zero, List.set_cons_succ]
          refine wpAnyH_take (i := 29) (v := ?v64) rfl (by kernel_rfl) (by kernel_rfl) (by kernel_rfl) (fun _ _ _ h => h) (Or.inl ⟨by rfl, ?y64⟩) (by assumption) ?rest64
          case y64 => (intro w hSw; clear hSw; go_simp; try with_reducible rfl)
          case' rest64 => skip
          try simp only [List.getElem_toArray, List.getElem_cons_succ, List.getElem_cons_zero, Act.put, List.setIfInBounds_toArray, List.set_cons_zero, List.set_cons_succ]
          refine wpAnyH_take (i := 30) (v := ?v65) rfl (by kernel_rfl) (by kernel_rfl) (by kernel_rfl) (fun _ _ _ h => h) (Or.inl ⟨by rfl, ?y65⟩) (by assumption) ?rest65
          case y65 => (intro w hSw; clear hSw; go_simp; try with_reducible rfl)
          case' rest65 => skip
          try simp only [List.getElem_toArray, List.getElem_cons_succ, List.getElem_cons_zero, Act.put, List.setIfInBounds_toArray, List.set_cons_zero, List.set_cons_succ]
          refine wpAnyH_done (by kernel_rfl) ?_ _
          go_wp2
          go_ret
          exact ⟨rfl, hb4.trans (((Below.refl _ _).drew.trans hHeld).mono hb4.size)⟩
        | false =>
          rw [hab2] at hem heab
          have hz : ((n0 : Int) == 0) = false := by rw [beq_eq_false_iff_ne]; have := of_decide_eq_false hem; omega
          clear hem hab2
          go_wp2_with fail
          refine wp_region_held_drew (S := Go.RowKit.Below ((wr.drew).heap.size) (wr.drew)) (by kernel_rfl) ?hb74 (fun hHeld => ?rest74)
          case hb74 =>
            exact Go.RowKit.Below.refl _ _
          case' rest74 => skip
          first
            | refine' wpAnyH_take (i := 0) (v := _) rfl (by kernel_rfl) (by kernel_rfl) (by kernel_rfl) (fun _ _ _ h => h) (yieldsIf_load_mid (by rfl) _ _ rfl _ _ rfl _ _ (fun w hSw => (Mem.bl_row hSw y5d (by first | exact Mem.Row.lt y5d | omega | (simp <;> omega))).range) blkUnd rfl hia2) (by assumption) ?rest75
            | refine wpAnyH_take (i := 0) (v := undef) rfl (by kernel_rfl) (by kernel_rfl) (by kernel_rfl) (fun _ _ _ h => h) (Or.inr ⟨by rfl, rfl⟩) (by assumption) ?rest75
          case' rest75 => skip
          try simp only [List.getElem_toArray, List.getElem_cons_succ, List.getElem_cons_zero, Act.put, List.setIfInBounds_toArray, List.set_cons_zero, List.set_cons_succ]
          refine wpAnyH_take (i := 1) (v := ?v76) rfl (by kernel_rfl) (by kernel_rfl) (by kernel_rfl) (fun _ _ _ h => h) (Or.inl ⟨by rfl, ?y76⟩) (by assumption) ?rest76
          case y76 => (intro w hSw; clear hSw; go_simp; try with_reducible rfl)
          case' rest76 => skip
          try simp only [List.getElem_toArray, List.getElem_cons_succ, List.getElem_cons_zero, Act.put, List.setIfInBounds_toArray, List.set_cons_zero, List.set_cons_succ]
          first
            | refine' wpAnyH_take (i := 3) (v := _) rfl (by kernel_rfl) (by kernel_rfl) (by kernel_rfl) (fun _ _ _ h => h) (yieldsIf_load_mid (by rfl) _ _ rfl _ _ rfl _ _ (fun w hSw => (Mem.bl_row hSw y6d (by first | exact Mem.Row.lt y6d | omega | (simp <;> omega))).range) blkUnd rfl hib2) (by assumption) ?rest77
            | refine wpAnyH_take (i := 3) (v := undef) rfl (by kernel_rfl) (by kernel_rfl) (by kernel_rfl) (fun _ _ _ h => h) (Or.inr ⟨by rfl, rfl⟩) (by assumption) ?rest77
          case' rest77 => skip
          try simp only [List.getElem_toArray, List.getElem_cons_succ, List.getElem_cons_zero, Act.put, List.setIfInBounds_toArray, List.set_cons_zero, List.set_cons_succ]
          refine wpAnyH_ready (rs := [2]) (by kernel_rfl) (by simp) ?_
          refine AllReadyH.cons rfl (fun K hK => ?_) AllReadyH.nil
          go_simp
          (refine (CA1.out _ (hpsd.below hHeld)).mono ?_; rintro e wl ⟨rfl, hbl⟩)
          try go_wp2_with fail
          have hSnew := Mem.bl_step hHeld hbl (by first | exact Nat.le_refl _ | omega | (simp <;> omega))
          refine hK.out _ _ ?_ (fun hHeld2 => ?_)
          · exact hSnew
          clear hbl
          clear hK K hHeld hSnew
          have hHeld := hHeld2
          clear hHeld2
          try simp only [List.getElem_toArray, List.getElem_cons_succ, List.getElem_cons_zero, Act.put, List.setIfInBounds_toArray, List.set_cons_zero, List.set_cons_succ]
          refine wpAnyH_take (i := 4) (v := ?v78) rfl (by kernel_rfl) (by kernel_rfl) (by kernel_rfl) (fun _ _ _ h => h) (Or.inl ⟨by rfl, ?y78⟩) (by assumption) ?rest78
          case y78 => (intro w hSw; clear hSw; go_simp; try with_reducible rfl)
          case' rest78 => skip
          try simp only [List.getElem_toArray, List.getElem_cons_succ, List.getElem_cons_zero, Act.put, List.setIfInBounds_toArray, List.set_cons_zero, List.set_cons_succ]
          refine wpAnyH_take (i := 5) (v := ?v79) rfl (by kernel_rfl) (by kernel_rfl) (by kernel_rfl) (fun _ _ _ h => h) (Or.inl ⟨by rfl, ?y79⟩) (by assumption) ?rest79
          case y79 => (intro w hSw; clear hSw; go_simp; try with_reducible rfl)
          case' rest79 => skip
          try simp only [List.getElem_toArray, List.getElem_cons_succ, List.getElem_cons_zero, Act.put, List.setIfInBounds_toArray, List.set_cons_zero, List.set_cons_succ]
          first
            | refine' wpAnyH_take (i := 6) (v := _) rfl (by kernel_rfl) (by kernel_rfl) (by kernel_rfl) (fun _ _ _ h => h) (yieldsIf_load_mid (by rfl) _ _ rfl _ _ rfl _ _ (fun w hSw => (Mem.bl_row hSw y6d (by first | exact Mem.Row.lt y6d | omega | (simp <;> omega))).range) blkUnd rfl hib2) (by assumption) ?rest80
            | refine wpAnyH_take (i := 6) (v := undef) rfl (by kernel_rfl) (by kernel_rfl) (by kernel_rfl) (fun _ _ _ h => h) (Or.inr ⟨by rfl, rfl⟩) (by assumption) ?rest80
          case' rest80 => skip
          try simp only [List.getElem_toArray, List.getElem_cons_succ, List.getElem_cons_zero, Act.put, List.setIfInBounds_toArray, List.set_cons_zero, List.set_cons_succ]
          first
            | refine wpAnyH_take (i := 7) (v := undef) rfl (by kernel_rfl) (by kernel_rfl) (by kernel_rfl) (fun _ _ _ h => h) (Or.inr ⟨by rfl, rfl⟩) (by assumption) ?rest81
            | (refine wpAnyH_take (i := 7) (v := ?v81) rfl (by kernel_rfl) (by kernel_rfl) (by kernel_rfl) (fun _ _ _ h => h) (Or.inl ⟨by rfl, ?y81⟩) (by assumption) ?rest81; case y81 => (intro w hSw; clear hSw; go_simp; try with_reducible rfl))
          case' rest81 => skip
          try simp only [List.getElem_toArray, List.getElem_cons_succ, List.getElem_cons_zero, Act.put, List.setIfInBounds_toArray, List.set_cons_zero, List.set_cons_succ]
          first
            | refine' wpAnyH_take (i := 9) (v := _) rfl (by kernel_rfl) (by kernel_rfl) (by kernel_rfl) (fun _ _ _ h => h) (yieldsIf_load_mid (by rfl) _ _ rfl _ _ rfl _ _ (fun w hSw => (Mem.bl_row hSw y5d (by first | exact Mem.Row.lt y5d | omega | (simp <;> omega))).range) blkUnd rfl hia2) (by assumption) ?rest82
            | refine wpAnyH_take (i := 9) (v := undef) rfl (by kernel_rfl) (by kernel_rfl) (by kernel_rfl) (fun _ _ _ h => h) (Or.inr ⟨by rfl, rfl⟩) (by assumption) ?rest82
          case' rest82 => skip
          try simp only [List.getElem_toArray, List.getElem_cons_succ, List.getElem_cons_zero, Act.put, List.setIfInBounds_toArray, List.set_cons_zero, List.set_cons_succ]
          refine wpAnyH_ready (rs := [8]) (by kernel_rfl) (by simp) ?_
          refine AllReadyH.cons rfl (fun K hK => ?_) AllReadyH.nil
          go_simp
          (refine (CA2.out _ (hbkd.below hHeld)).mono ?_; rintro e wl ⟨rfl, hbl⟩)
          try go_wp2_with fail
          have hSnew := Mem.bl_step hHeld hbl (by first | exact Nat.le_refl _ | omega | (simp <;> omega))
          refine hK.out _ _ ?_ (fun hHeld2 => ?_)
          · exact hSnew
          clear hbl
          clear hK K hHeld hSnew
          have hHeld := hHeld2
          clear hHeld2
          try simp only [List.getElem_toArray, List.getElem_cons_succ, List.getElem_cons_zero, Act.put, List.setIfInBounds_toArray, List.set_cons_zero, List.set_cons_succ]
          first
            | refine wpAnyH_take (i := 10) (v := undef) rfl (by kernel_rfl) (by kernel_rfl) (by kernel_rfl) (fun _ _ _ h => h) (Or.inr ⟨by rfl, rfl⟩) (by assumption) ?rest83
            | (refine wpAnyH_take (i := 10) (v := ?v83) rfl (by kernel_rfl) (by kernel_rfl) (by kernel_rfl) (fun _ _ _ h => h) (Or.inl ⟨by rfl, ?y83⟩) (by assumption) ?rest83; case y83 => (intro w hSw; clear hSw; go_simp; try with_reducible rfl))
          case' rest83 => skip
          try simp only [List.getElem_toArray, List.getElem_cons_succ, List.getElem_cons_zero, Act.put, List.setIfInBounds_toArray, List.set_cons_zero, List.set_cons_succ]
          refine wpAnyH_take (i := 11) (v := ?v84) rfl (by kernel_rfl) (by kernel_rfl) (by kernel_rfl) (fun _ _ _ h => h) (Or.inl ⟨by rfl, ?y84⟩) (by assumption) ?rest84
          case y84 => (intro w hSw; clear hSw; go_simp; try with_reducible rfl)
          case' rest84 => skip
          try simp only [List.getElem_toArray, List.getElem_cons_succ, List.getElem_cons_zero, Act.put, List.setIfInBounds_toArray, List.set_cons_zero, List.set_cons_succ]
          refine wpAnyH_take (i := 12) (v := ?v85) rfl (by kernel_rfl) (by kernel_rfl) (by kernel_rfl) (fun _ _ _ h => h) (Or.inl ⟨by rfl, ?y85⟩) (by assumption) ?rest85
          case y85 => (intro w hSw; clear hSw; go_simp; try with_reducible rfl)
          case' rest85 => skip
          try simp only [List.getElem_toArray, List.getElem_cons_succ, List.getElem_cons_zero, Act.put, List.setIfInBounds_toArray, List.set_cons_zero, List.set_cons_succ]
          first
            | refine wpAnyH_take (i := 13) (v := undef) rfl (by kernel_rfl) (by kernel_rfl) (by kernel_rfl) (fun _ _ _ h => h) (Or.inr ⟨by rfl, rfl⟩) (by assumption) ?rest86
            | (refine wpAnyH_take (i := 13) (v := ?v86) rfl (by kernel_rfl) (by kernel_rfl) (by kernel_rfl) (fun _ _ _ h => h) (Or.inl ⟨by rfl, ?y86⟩) (by assumption) ?rest86; case y86 => (intro w hSw; clear hSw; go_simp; try with_reducible rfl))
          case' rest86 => skip
          try simp only [List.getElem_toArray, List.getElem_cons_succ, List.getElem_cons_zero, Act.put, List.setIfInBounds_toArray, List.set_cons_zero, List.set_cons_succ]
          first
            | refine wpAnyH_take (i := 15) (v := undef) rfl (by kernel_rfl) (by kernel_rfl) (by kernel_rfl) (fun _ _ _ h => h) (Or.inr ⟨by rfl, rfl⟩) (by assumption) ?rest87
            | (refine wpAnyH_take (i := 15) (v := ?v87) rfl (by kernel_rfl) (by kernel_rfl) (by kernel_rfl) (fun _ _ _ h => h) (Or.inl ⟨by rfl, ?y87⟩) (by assumption) ?rest87; case y87 => (intro w hSw; clear hSw; go_simp; try with_reducible rfl))
          case' rest87 => skip
          try simp only [List.getElem_toArray, List.getElem_cons_succ, List.getElem_cons_zero, Act.put, List.setIfInBounds_toArray, List.set_cons_zero, List.set_cons_succ]
          refine wpAnyH_ready (rs := [14]) (by kernel_rfl) (by simp) ?_
          refine AllReadyH.cons rfl (fun K hK => ?_) AllReadyH.nil
          go_simp
          (refine (CB.out _ (hpsd.below hHeld)).mono ?_; rintro e wl ⟨rfl, hbl⟩)
          try go_wp2_with fail
          have hSnew := Mem.bl_step hHeld hbl (by first | exact Nat.le_refl _ | omega | (simp <;> omega))
          refine hK.out _ _ ?_ (fun hHeld2 => ?_)
          · exact hSnew
          clear hbl
          clear hK K hHeld hSnew
          have hHeld := hHeld2
          clear hHeld2
          try simp only [List.getElem_toArray, List.getElem_cons_succ, List.getElem_cons_zero, Act.put, List.setIfInBounds_toArray, List.set_cons_zero, List.set_cons_succ]
          first
            | refine wpAnyH_take (i := 16) (v := undef) rfl (by kernel_rfl) (by kernel_rfl) (by kernel_rfl) (fun _ _ _ h => h) (Or.inr ⟨by rfl, rfl⟩) (by assumption) ?rest88
            | (refine wpAnyH_take (i := 16) (v := ?v88) rfl (by kernel_rfl) (by kernel_rfl) (by kernel_rfl) (fun _ _ _ h => h) (Or.inl ⟨by rfl, ?y88⟩) (by assumption) ?rest88; case y88 => (intro w hSw; clear hSw; go_simp; try with_reducible rfl))
          case' rest88 => skip
          try simp only [List.getElem_toArray, List.getElem_cons_succ, List.getElem_cons_zero, Act.put, List.setIfInBounds_toArray, List.set_cons_zero, List.set_cons_succ]
          refine wpAnyH_take (i := 17) (v := ?v89) rfl (by kernel_rfl) (by kernel_rfl) (by kernel_rfl) (fun _ _ _ h => h) (Or.inl ⟨by rfl, ?y89⟩) (by assumption) ?rest89
          case y89 => (intro w hSw; clear hSw; go_simp; try with_reducible rfl)
          case' rest89 => skip
          try simp only [List.getElem_toArray, List.getElem_cons_succ, List.getElem_cons_zero, Act.put, List.setIfInBounds_toArray, List.set_cons_zero, List.set_cons_succ]
          refine wpAnyH_take (i := 18) (v := ?v90) rfl (by kernel_rfl) (by kernel_rfl) (by kernel_rfl) (fun _ _ _ h => h) (Or.inl ⟨by rfl, ?y90⟩) (by assumption) ?rest90
          case y90 => (intro w hSw; clear hSw; go_simp; try with_reducible rfl)
          case' rest90 => skip
          try simp only [List.getElem_toArray, List.getElem_cons_succ, List.getElem_cons_zero, Act.put, List.setIfInBounds_toArray, List.set_cons_zero, List.set_cons_succ]
          first
            | refine wpAnyH_take (i := 19) (v := undef) rfl (by kernel_rfl) (by kernel_rfl) (by kernel_rfl) (fun _ _ _ h => h) (Or.inr ⟨by rfl, rfl⟩) (by assumption) ?rest91
            | (refine wpAnyH_take (i := 19) (v := ?v91) rfl (by kernel_rfl) (by kernel_rfl) (by kernel_rfl) (fun _ _ _ h => h) (Or.inl ⟨by rfl, ?y91⟩) (by assumption) ?rest91; case y91 => (intro w hSw; clear hSw; go_simp; try with_reducible rfl))
          case' rest91 => skip
          try simp only [List.getElem_toArray, List.getElem_cons_succ, List.getElem_cons_zero, Act.put, List.setIfInBounds_toArray, List.set_cons_zero, List.set_cons_succ]
          first
            | refine wpAnyH_take (i := 20) (v := undef) rfl (by kernel_rfl) (by kernel_rfl) (by kernel_rfl) (fun _ _ _ h => h) (Or.inr ⟨by rfl, rfl⟩) (by assumption) ?rest92
            | (refine wpAnyH_take (i := 20) (v := ?v92) rfl (by kernel_rfl) (by kernel_rfl) (by kernel_rfl) (fun _ _ _ h => h) (Or.inl ⟨by rfl, ?y92⟩) (by assumption) ?rest92; case y92 => (intro w hSw; clear hSw; go_simp; try with_reducible rfl))
          case' rest92 => skip
          try simp only [List.getElem_toArray, List.getElem_cons_succ, List.getElem_cons_zero, Act.put, List.setIfInBounds_toArray, List.set_cons_zero, List.set_cons_succ]
          first
            | refine wpAnyH_take (i := 21) (v := undef) rfl (by kernel_rfl) (by kernel_rfl) (by kernel_rfl) (fun _ _ _ h => h) (Or.inr ⟨by rfl, rfl⟩) (by assumption) ?rest93
            | (refine wpAnyH_take (i := 21) (v := ?v93) rfl (by kernel_rfl) (by kernel_rfl) (by kernel_rfl) (fun _ _ _ h => h) (Or.inl ⟨by rfl, ?y93⟩) (by assumption) ?rest93; case y93 => (intro w hSw; clear hSw; go_simp; try with_reducible rfl))
          case' rest93 => skip
          try simp only [List.getElem_toArray, List.getElem_cons_succ, List.getElem_cons_zero, Act.put, List.setIfInBounds_toArray, List.set_cons_zero, List.set_cons_succ]
          first
            | refine' wpAnyH_take (i := 22) (v := _) rfl (by kernel_rfl) (by kernel_rfl) (by kernel_rfl) (fun _ _ _ h => h) (yieldsIf_load_mid (by rfl) _ _ rfl _ _ rfl _ _ (fun w hSw => (Mem.bl_row hSw y5d (by first | exact Mem.Row.lt y5d | omega | (simp <;> omega))).range) blkUnd rfl hia2) (by assumption) ?rest94
            | refine wpAnyH_take (i := 22) (v := undef) rfl (by kernel_rfl) (by kernel_rfl) (by kernel_rfl) (fun _ _ _ h => h) (Or.inr ⟨by rfl, rfl⟩) (by assumption) ?rest94
          case' rest94 => skip
          try simp only [List.getElem_toArray, List.getElem_cons_succ, List.getElem_cons_zero, Act.put, List.setIfInBounds_toArray, List.set_cons_zero, List.set_cons_succ]
          first
            | refine' wpAnyH_take (i := 23) (v := _) rfl (by kernel_rfl) (by kernel_rfl) (by kernel_rfl) (fun _ _ _ h => h) (yieldsIf_load_mid (by rfl) _ _ rfl _ _ rfl _ _ (fun w hSw => (Mem.bl_row hSw y6d (by first | exact Mem.Row.lt y6d | omega | (simp <;> omega))).range) blkUnd rfl hib2) (by assumption) ?rest95
            | refine wpAnyH_take (i := 23) (v := undef) rfl (by kernel_rfl) (by kernel_rfl) (by kernel_rfl) (fun _ _ _ h => h) (Or.inr ⟨by rfl, rfl⟩) (by assumption) ?rest95
          case' rest95 => skip
          try simp only [List.getElem_toArray, List.getElem_cons_succ, List.getElem_cons_zero, Act.put, List.setIfInBounds_toArray, List.set_cons_zero, List.set_cons_succ]
          first
            | refine wpAnyH_take (i := 24) (v := undef) rfl (by kernel_rfl) (by kernel_rfl) (by kernel_rfl) (fun _ _ _ h => h) (Or.inr ⟨by rfl, rfl⟩) (by assumption) ?rest96
            | (refine wpAnyH_take (i := 24) (v := ?v96) rfl (by kernel_rfl) (by kernel_rfl) (by kernel_rfl) (fun _ _ _ h => h) (Or.inl ⟨by rfl, ?y96⟩) (by assumption) ?rest96; case y96 => (intro w hSw; clear hSw; go_simp; try with_reducible rfl))
          case' rest96 => skip
          try simp only [List.getElem_toArray, List.getElem_cons_succ, List.getElem_cons_zero, Act.put, List.setIfInBounds_toArray, List.set_cons_zero, List.set_cons_succ]
          first
            | refine wpAnyH_take (i := 25) (v := undef) rfl (by kernel_rfl) (by kernel_rfl) (by kernel_rfl) (fun _ _ _ h => h) (Or.inr ⟨by rfl, rfl⟩) (by assumption) ?rest97
            | (refine wpAnyH_take (i := 25) (v := ?v97) rfl (by kernel_rfl) (by kernel_rfl) (by kernel_rfl) (fun _ _ _ h => h) (Or.inl ⟨by rfl, ?y97⟩) (by assumption) ?rest97; case y97 => (intro w hSw; clear hSw; go_simp; try with_reducible rfl))
          case' rest97 => skip
          try simp only [List.getElem_toArray, List.getElem_cons_succ, List.getElem_cons_zero, Act.put, List.setIfInBounds_toArray, List.set_cons_zero, List.set_cons_succ]
          refine wpAnyH_take (i := 26) (v := ?v98) rfl (by kernel_rfl) (by kernel_rfl) (by kernel_rfl) (fun _ _ _ h => h) (Or.inl ⟨by rfl, ?y98⟩) (by assumption) ?rest98
          case y98 => (intro w hSw; clear hSw; go_simp; try with_reducible rfl)
          case' rest98 => skip
          try simp only [List.getElem_toArray, List.getElem_cons_succ, List.getElem_cons_zero, Act.put, List.setIfInBounds_toArray, List.set_cons_zero, List.set_cons_succ]
          refine wpAnyH_take (i := 27) (v := ?v99) rfl (by kernel_rfl) (by kernel_rfl) (by kernel_rfl) (fun _ _ _ h => h) (Or.inl ⟨by rfl, ?y99⟩) (by assumption) ?rest99
          case y99 => (intro w hSw; clear hSw; go_simp; try with_reducible rfl)
          case' rest99 => skip
          try simp only [List.getElem_toArray, List.getElem_cons_succ, List.getElem_cons_zero, Act.put, List.setIfInBounds_toArray, List.set_cons_zero, List.set_cons_succ]
          refine wpAnyH_ready (rs := [28]) (by kernel_rfl) (by simp) ?_
          refine AllReadyH.cons rfl (fun K hK => ?_) AllReadyH.nil
          go_simp
          (refine (works_any _).mono ?_; rintro e wk ⟨rfl, hbl⟩)
          try go_wp2_with fail
          have hSnew := Mem.bl_step hHeld hbl (by first | exact Nat.le_refl _ | omega | (simp <;> omega))
          refine hK.out _ _ ?_ (fun hHeld2 => ?_)
          · exact hSnew
          clear hbl
          clear hK K hHeld hSnew
          have hHeld := hHeld2
          clear hHeld2
          try simp only [List.getElem_toArray, List.getElem_cons_succ, List.getElem_cons_zero, Act.put, List.setIfInBounds_toArray, List.set_cons_zero, List.set_cons_succ]
          refine wpAnyH_take (i := 29) (v := ?v100) rfl (by kernel_rfl) (by kernel_rfl) (by kernel_rfl) (fun _ _ _ h => h) (Or.inl ⟨by rfl, ?y100⟩) (by assumption) ?rest100
          case y100 => (intro w hSw; clear hSw; go_simp; try with_reducible rfl)
          case' rest100 => skip
          try simp only [List.getElem_toArray, List.getElem_cons_succ, List.getElem_cons_zero, Act.put, List.setIfInBounds_toArray, List.set_cons_zero, List.set_cons_succ]
          refine wpAnyH_take (i := 30) (v := ?v101) rfl (by kernel_rfl) (by kernel_rfl) (by kernel_rfl) (fun _ _ _ h => h) (Or.inl ⟨by rfl, ?y101⟩) (by assumption) ?rest101
          case y101 => (intro w hSw; clear hSw; go_simp; try with_reducible rfl)
          case' rest101 => skip
          try simp only [List.getElem_toArray, List.getElem_cons_succ, List.getElem_cons_zero, Act.put, List.setIfInBounds_toArray, List.set_cons_zero, List.set_cons_succ]
          refine wpAnyH_done (by kernel_rfl) ?_ _
          go_wp2
          go_ret
          exact ⟨rfl, hb4.trans (((Below.refl _ _).drew.trans hHeld).mono hb4.size)⟩
theorem leads_walk (a b : List Nat) (w : World) (ha : a.length = 256) (hab : ∀ x ∈ a, x < 256) (hb : b.length = 256) (hbb : ∀ x ∈ b, x < 256) :
    Calls Try.prog 11 #[.agg (blk a), .agg (blk b)] w fun e w' => e = .returned (.bool true) ∧ Below w.heap.size w w' :=
  leads_core a b _ w ha hab hb hbb rfl (dinv a b 256) (by have := diffK_len a b 256; show (diffK a b 256).length ≤ 256; omega)
end Go.Proofs.Ytoibdomcekainaa.Pat
