/- A block of a cache, written back: the contract of Flush. No statement is proved here. -/
import Derived.Test.YtbamhiegabeicaaGreatCe
namespace Go.Proofs.YtbamhiegabeicaaGreat.Cb
open Go.RowKit Go.Proofs.YtbamhiegabeicaaGreat.Mem Go.Proofs.YtbamhiegabeicaaGreat.Open Go.Proofs.YtbamhiegabeicaaGreat.Kind Go.Proofs.YtbamhiegabeicaaGreat.Blk Go.Proofs.YtbamhiegabeicaaGreat.App Go.Proofs.YtbamhiegabeicaaGreat.Pat Go.Proofs.YtbamhiegabeicaaGreat.Rd
open Go.Proofs.YtbamhiegabeicaaGreat.Db (Dv Dev Asd)
set_option linter.unusedVariables false
set_option linter.unusedSimpArgs false
def flB (s : St) (no : Int) : List Nat := imgF (s.dv.bs.getD no.toNat zblk) s.xs no
def flS (s : St) (no : Int) : St := if s.K no = true ∧ readyS s.xs no ≠ [] then (if Db.wrE s.dv no ≠ 0 then { s with dv := Db.wrS s.dv no (flB s no) } else { s with dv := Db.wrS s.dv no (flB s no), xs := woS s.xs (readyS s.xs no) }) else s
def flE (s : St) (no : Int) : Int := if s.K no = true ∧ readyS s.xs no ≠ [] then Db.wrE s.dv no else 0
theorem wr_bad {s : Dv} {no : Int} (h : Db.wrE s no ≠ 0) (x : List Nat) : (Db.wrS s no x).bs = s.bs ∧ (Db.wrS s no x).wr = s.wr ∧ (Db.wrS s no x).rd = s.rd := by
  unfold Db.wrE at h
  unfold Db.wrS
  by_cases h1 : Db.mayE s no ≠ 0
  · rw [if_pos h1]; exact ⟨rfl, rfl, rfl⟩
  · rw [if_neg h1] at h ⊢
    by_cases h2 : s.lit = true ∧ s.fuse = 0
    · rw [if_pos h2]; exact ⟨rfl, rfl, rfl⟩
    · rw [if_neg h2] at h; exact absurd rfl h
theorem wr_good {s : Dv} {no : Int} (h : Db.wrE s no = 0) (x : List Nat) : (Db.wrS s no x).bs = s.bs.set no.toNat x ∧ (Db.wrS s no x).wr = s.wr + 1 ∧ (Db.wrS s no x).rd = s.rd := by
  unfold Db.wrE at h
  unfold Db.wrS
  by_cases h1 : Db.mayE s no ≠ 0
  · rw [if_pos h1] at h; exact absurd h h1
  · rw [if_neg h1] at h ⊢
    by_cases h2 : s.lit = true ∧ s.fuse = 0
    · rw [if_pos h2] at h; cases h
    · rw [if_neg h2]
      split
      · exact ⟨rfl, rfl, rfl⟩
      · exact ⟨rfl, rfl, rfl⟩
theorem getD_set {l : List (List Nat)} {i j : Nat} {x : List Nat} (hi : i < l.length) : (l.set i x).getD j zblk = if j = i then x else l.getD j zblk := by
  rw [List.getD_eq_getElem?_getD, List.getD_eq_getElem?_getD, List.getElem?_set]
  by_cases h : j = i
  · subst h; rw [if_pos rfl, if_pos rfl, if_pos hi]; rfl
  · rw [if_neg (fun e => h e.symm), if_neg h]
/-- What is known, behind a write. -/
theorem F_wr {s : St} {no : Int} (hi : Inv s) (hk : s.K no = true) (hw : Db.wrE s.dv no = 0) (I : List Nat) (L : List Chg) : ∀ x, updB s.F no I x = St.F { s with dv := Db.wrS s.dv no I, xs := L } x := by
  intro x
  unfold St.F
  obtain ⟨h1, _, _⟩ := wr_good hw I
  have hr := hi.kn no hk
  have hlen := hi.len
  simp only [h1]
  by_cases hx : x = no
  · subst hx
    rw [updB_same, if_pos hk, getD_set (by omega), if_pos rfl]
  · rw [updB_ne _ _ hx]
    by_cases hkx : s.K x = true
    · have := hi.kn x hkx
      rw [if_pos hkx, if_pos hkx, getD_set (by omega), if_neg (by omega)]
    · rw [if_neg hkx, if_neg hkx]
section
variable {w w5 : World} {c d g b : Nat} {N : Nat → Prop} {v : Value} {s : St}
/-- The list and the map laid anew. -/
theorem Ca.laid {v' : Value} {n : Nat} {F : Int → Option (List Nat)} {dv : Dv} {L : List Chg} (hrow : Row w c 83 (caC d b v s.last)) (hd : Dev w d g dv) (hg : w.grownBy w5 (some b)) (hm : Mb w5 b n F) (ho : OwnK (kN kChg N) w 0 90 v' L) (hv : ∀ j, v'.ownBlock = some j → ¬ N j) (hbl : b < w.heap.size)
    (cd : c ≠ d) (cg : c ≠ g) (cb : c ≠ b) (db : d ≠ b) (gb : g ≠ b) (Nc : N c) (Nd : N d) (Ng : N g) (Nb : N b) (lt : ∀ j, N j → j < w.heap.size) (hn : n ≤ (dv.wr + dv.rd).toNat) (hF : ∀ x, F x = St.F { s with dv := dv, xs := L } x) :
    Ca (w5.setCell ⟨c, 2, none⟩ v') c d g b N v' { s with dv := dv, xs := L } ∧ Tn N c d g b w (w5.setCell ⟨c, 2, none⟩ v') := by
  have ha : ∀ k, k < w.heap.size → k ≠ b → w5.heap[k]? = w.heap[k]? := fun k h1 h2 => hg.block k h1 (fun e => h2 (by injection e))
  have ho2 : ∀ k, k ≠ c → (w5.setCell ⟨c, 2, none⟩ v').heap[k]? = w5.heap[k]? := fun k hk => Below.heap_setCell w5 ⟨c, 2, none⟩ _ k hk
  have hz : w5.heap.size ≤ (w5.setCell ⟨c, 2, none⟩ v').heap.size := by simp [World.setCell]
  have ho5 := own_stay ho hv (fun j h1 h2 => ha j h2 (fun e => h1 (e ▸ Nb))) hg.size
  refine ⟨⟨Row.put (g := c) (cs := caC d b v s.last) (show Row w5 c _ _ from (ha c hrow.lt cb).trans hrow) 2 v', dev_other (dev_other hd (ha d hd.1.lt db) (ha g hd.2.1.2.2 gb) hg.size) (ho2 d (fun e => cd e.symm)) (ho2 g (fun e => cg e.symm)) hz, ((hm.stay (ho2 b (fun e => cb e.symm))).mono hn).ext hF, own_stay ho5 hv (fun j h1 _ => ho2 j (fun e => h1 (e ▸ Nc))) hz, hv, cd, cg, cb, db, gb, Nc, Nd, Ng, Nb, fun j hj => Nat.lt_of_lt_of_le (lt j hj) (Nat.le_trans hg.size hz)⟩,
    ⟨hg.os, hg.tape, hg.output, Nat.le_trans hg.size hz, fun k hk => (ho2 k hk.c).trans (ha k (lt k hk.n) hk.b)⟩⟩
end
set_option maxHeartbeats 4000000 in
set_option maxRecDepth 100000 in
theorem Flush_any (no : Int) (hno : WfI no) (c d g b : Nat) (N : Nat → Prop) (v : Value) (s : St) (w : World) (h : Ca w c d g b N v s) (hi : Inv s) :
    Calls Tryz.prog 25 #[.pointer (some ⟨c, 0, none⟩), .int .i64 no] w fun e w' => ∃ v', e = .returned (.int .i64 (flE s no)) ∧ Ca w' c d g b N v' (flS s no) ∧ Tn N c d g b w w' := by
  obtain ⟨c0, c1, c2, c3⟩ := h.cells
  have hz : (blk zblk).size = 256 := zblk_size
  have hm := h.map
  have R0 : Row (w.alloc (.cells (blk zblk) 78)) w.heap.size 78 (blk zblk) := Row.new _ _ _
  by_cases hk : s.K no = true
  · have hF : s.F no = some (s.dv.bs.getD no.toNat zblk) := if_pos hk
    have hBl : (s.dv.bs.getD no.toNat zblk).length = 256 := getD_mem _ _ hi.each
    have HFI := Lib.hid (fun hw I L => F_wr hi hk hw I L)
    have hIe : flB s no = imgF (s.dv.bs.getD no.toNat zblk) s.xs no := rfl
    have hEe : flE s no = if readyS s.xs no ≠ [] then Db.wrE s.dv no else 0 := by
      unfold flE
      by_cases hq : readyS s.xs no ≠ []
      · rw [if_pos ⟨hk, hq⟩, if_pos hq]
      · rw [if_neg (fun e => hq e.2), if_neg hq]
    have hSe : flS s no = if readyS s.xs no ≠ [] then (if Db.wrE s.dv no ≠ 0 then { s with dv := Db.wrS s.dv no (flB s no) } else { s with dv := Db.wrS s.dv no (flB s no), xs := woS s.xs (readyS s.xs no) }) else s := by
      unfold flS
      by_cases hq : readyS s.xs no ≠ []
      · rw [if_pos ⟨hk, hq⟩, if_pos hq]
      · rw [if_neg (fun e => hq e.2), if_neg hq]
    generalize hB : s.dv.bs.getD no.toNat zblk = B at *
    have hIl : (imgF B s.xs no).length = 256 := (imgF_len _ _ _).trans hBl
    obtain ⟨I, hI⟩ : ∃ I, imgF B s.xs no = I := ⟨_, rfl⟩
    rw [hIe, hI] at hSe
    rw [hI] at hIl
    obtain ⟨R, hR⟩ : ∃ R, readyS s.xs no = R := ⟨_, rfl⟩
    rw [hR] at hSe hEe
    obtain ⟨L, hL⟩ : ∃ L, woS s.xs R = L := ⟨_, rfl⟩
    rw [hL] at hSe
    have HS := Lib.hid hSe
    have HE := Lib.hid hEe
    have CW : ∀ (A' : Option Addr) (c' : Nat) (w' : World), Chs w' A' s.xs → s.xs.length ≤ c' → c' ≤ M63 → Calls Tryz.prog 57 #[.agg (blk B), .slice A' s.xs.length c', .int .i64 no] w' fun r w'' => ∃ v5 v6, r = .returned (.tuple #[.agg (blk I), v5, v6]) ∧ OwnK (kF kChg w'.heap.size) w'' w'.heap.size 90 v5 L ∧ Ns w'' w'.heap.size v6 R ∧ Below w'.heap.size w' w'' := fun A' c' w' h1 h2 h3 => by
      have := Write_any A' c' s.xs no B w' h1 hBl h2 h3 hi.xl hi.small
      rw [hI, hR, hL] at this
      exact this
    have HCW := Lib.hid CW
    have hBs : (blk B).size = 256 := by rw [blk_size]; exact hBl
    have hIs : (blk I).size = 256 := by rw [blk_size]; exact hIl
    have hBL := blkSizeL B hBl
    have hIL := blkSizeL I hIl
    have hg : (.tuple #[.agg (blk ((s.F no).getD zblk)), .bool (s.F no).isSome] : Value) = .tuple #[.agg (blk B), .bool true] := by rw [hF]; rfl
    obtain ⟨⟨r9, b9, z9⟩⟩ : Nonempty (_ ∧ _ ∧ _) := ⟨boxed w 78 (blk zblk) (blk B)⟩
    obtain ⟨w1, hW1⟩ : ∃ W, W = (w.alloc (.cells (blk zblk) 78)).setRow w.heap.size (blk B) := ⟨_, rfl⟩
    rw [← hW1] at r9 b9 z9
    have HW1 := Lib.hid hW1
    have HF9 := Lib.hid hF
    have HK := Lib.hid hk
    have HI := Lib.hid hi
    have HIL := Lib.hid hIl
    have HC1 := Lib.hid (h.below b9)
    have HT1 := Lib.hid (h.tn b9)
    have r9d := r9.drew
    clear CW hSe hEe hIe hI hR hL hF hk hi hW1 b9 z9 r9 hB
    go_enter Tryz.func25, Tryz.ntmps25
    go_wp2_with (first
      | (at_lookup; go_loud (refine wpList_mbLook rfl _ _ rfl rfl hm no rfl hno ?_); rw [hg])
      | (with_reducible refine wpList_allocA rfl 78 rfl _ blkZero ?_)
      | (with_reducible refine wpList_storeRow rfl 78 _ _ rfl w.heap.size rfl (blk B) rfl (blk zblk) 78 256 blkSize hBs hz (blk_one _) R0 ?_))
    rw [← HW1.out]
    have HN1 : Hid (∀ j, N j → j < w1.heap.size) := Lib.hid HC1.out.lt
    have hcR : Row w1.drew c 83 (caC d b v s.last) := HC1.out.row.drew
    obtain ⟨A, n, hv, hn1, hn2, hn3, hx⟩ := HC1.out.list
    have hxd : Chs w1.drew A s.xs := Rw.drew hx
    rw [hv] at hcR
    clear hm c0 c1 c2 c3 R0 hx HW1
    go_cut [7, 8, 9] (fun s7 s8 s9 w' => ∃ g7 A8 n8 c8 A9 c9, s7 = .pointer (some ⟨g7, 0, none⟩) ∧ s8 = .slice A8 n8 c8 ∧ s9 = .slice A9 R.length c9 ∧ Row w' g7 78 (blk I) ∧ w1.heap.size ≤ g7 ∧ OwnK (kN kChg N) w' 0 90 (.slice A8 n8 c8) L ∧ (∀ j, (Value.slice A8 n8 c8).ownBlock = some j → ¬ N j) ∧ Below w1.heap.size w1 w')
    case first =>
      refine wp_region_held_drew (S := Go.RowKit.Below ((w1.drew).heap.size) (w1.drew)) (by kernel_rfl) ?hb8 (fun hHeld => ?rest8)
      case hb8 =>
        exact Go.RowKit.Below.refl _ _
      case' rest8 => skip
      have hCl := fun (wS : World) (hSw : Go.RowKit.Below ((w1.drew).heap.size) (w1.drew) wS) =>  (Mem.bl_row hSw hcR (by first | exact Mem.Row.lt hcR | omega | (simp <;> omega))).cell 2 rfl
      replace hCl := Go.Lib.hid hCl
      first
        | refine' wpAnyH_take (i := 0) (v := _) rfl (by kernel_rfl) (by kernel_rfl) (by kernel_rfl) (fun _ _ _ h => h) (yieldsIf_load_mid (by rfl) _ _ rfl _ _ rfl _ _ (fun w hSw => (Mem.bl_row hSw r9d (by first | exact Mem.Row.lt r9d | omega | (simp <;> omega))).range) blkUnd rfl hBL) (by assumption) ?rest9
        | refine wpAnyH_take (i := 0) (v := undef) rfl (by kernel_rfl) (by kernel_rfl) (by kernel_rfl) (fun _ _ _ h => h) (Or.inr ⟨by rfl, rfl⟩) (by assumption) ?rest9
      case' rest9 => skip
      try simp only [Mem.pa, Mem.pb, Mem.pc, Act.put, Mem.pd, Mem.pe, Mem.pf]
      refine Mem.tkV 1 ?v10 ?y10 ?r10
      case y10 => (intro w hSw; clear hSw; go_simp; try with_reducible rfl)
      refine Mem.tkV 2 ?v11 ?y11 ?r11
      case y11 => (intro w hSw; clear hSw; go_simp; try with_reducible rfl)
      refine Mem.tkV 3 ?v12 ?y12 ?r12
      case y12 => (intro w hSw; clear hSw; go_simp; try with_reducible rfl)
      try simp only [Mem.pa, Mem.pb, Mem.pc, Act.put, Mem.pd, Mem.pe, Mem.pf]
      refine Mem.tkV 4 ?v13 ?y13 ?r13
      case y13 => (intro w hSw; have hT0 := hCl.out w hSw; clear hSw; go_simp; try with_reducible rfl)
      refine Mem.tkV 5 ?v14 ?y14 ?r14
      case y14 => (intro w hSw; clear hSw; go_simp; try with_reducible rfl)
      try simp only [Mem.pa, Mem.pb, Mem.pc, Act.put, Mem.pd, Mem.pe, Mem.pf]
      refine wpAnyH_ready (rs := [6, 11]) (by kernel_rfl) (by simp) ?_
      refine AllReadyH.cons rfl (fun K hK => ?_) ?_
      · skip
        go_simp
        ((try have hgl := Row.lt hr7); have hsz6 := hHeld.size; refine (HCW.out A n _ (hxd.below hHeld) hn1 hn2).mono ?_; rintro e wl ⟨v5, v6, rfl, ho5, ho6, hbl⟩; obtain ⟨A8, n8, c8, rfl⟩ := own_slice ho5; obtain ⟨A9, c9, rfl⟩ := ho6.slice)
        try go_wp2_with fail
        have hSnew := Mem.bl_step hHeld hbl (by first | exact Nat.le_refl _ | omega | (simp <;> omega))
        refine hK.out _ _ ?_ (fun hHeld2 => ?_)
        · exact hSnew
        try replace hr7 := hr7.below hbl
        clear hbl
        clear hK K hHeld hSnew
        have hHeld := hHeld2
        clear hHeld2
        try simp only [Mem.pa, Mem.pb, Mem.pc, Act.put, Mem.pd, Mem.pe, Mem.pf]
        refine Mem.tkV 7 ?v15 ?y15 ?r15
        case y15 => (intro w hSw; clear hSw; go_simp; try with_reducible rfl)
        refine Mem.tkV 8 ?v16 ?y16 ?r16
        case y16 => (intro w hSw; clear hSw; go_simp; try with_reducible rfl)
        refine Mem.tkV 9 ?v17 ?y17 ?r17
        case y17 => (intro w hSw; clear hSw; go_simp; try with_reducible rfl)
        try simp only [Mem.pa, Mem.pb, Mem.pc, Act.put, Mem.pd, Mem.pe, Mem.pf]
        refine Mem.tkV 10 ?v18 ?y18 ?r18
        case y18 => (intro w hSw; clear hSw; go_simp; try with_reducible rfl)
        try simp only [Mem.pa, Mem.pb, Mem.pc, Act.put, Mem.pd, Mem.pe, Mem.pf]
        refine wpAnyH_ready (rs := [11]) (by kernel_rfl) (by simp) ?_
        refine AllReadyH.cons rfl (fun K hK => ?_) AllReadyH.nil
        rw [if_pos (by rfl)]
        refine wp_allocN 78 (by rfl) _ blkZero ?_; intro g7 wa hr7 hbl hg7'; have hg7 : w1.heap.size ≤ g7 := Nat.le_trans hHeld.size hg7'; have hlc := hbl
        have hSnew := Mem.bl_step hHeld hbl (by first | exact Nat.le_refl _ | omega | (simp <;> omega))
        refine hK.out _ _ ?_ (fun hHeld2 => ?_)
        · exact hSnew
        try replace hr7 := hr7.below hbl
        clear hbl
        clear hK K hHeld hSnew
        have hHeld := hHeld2
        clear hHeld2
        try simp only [Mem.pa, Mem.pb, Mem.pc, Act.put, Mem.pd, Mem.pe, Mem.pf]
        refine wpAnyH_ready (rs := [12]) (by kernel_rfl) (by simp) ?_
        refine AllReadyH.cons rfl (fun K hK => ?_) AllReadyH.nil
        rw [if_pos (by rfl)]
        refine wp_storeRow _ _ _ (by rfl) g7 (by rfl) (blk I) (by rfl) (blk zblk) 78 256 blkSize hIs zblk_size (blk_one _) hr7 ?_; have hSnew := below_setRow hHeld hg7 (blk I); have hr8 := hr7.set (blk I); have hvN : ∀ j, (Value.slice A8 n8 c8).ownBlock = some j → ¬ N j := (fun j e hj => by have h1 := (ho5.lt j e).1; have h2 := HN1.out j hj; have h3 : w1.heap.size ≤ _ := hsz6; omega); have hNB : ∀ j, N j → j < _ := (fun j hj => Nat.lt_of_lt_of_le (HN1.out j hj) hsz6); first | (have hL8 := (kN_kF (kF_setRow ho5 g7 hgl (blk I)) hNB).mono (Nat.zero_le _)) | (have hlw := below_setRow hlc hg7' (blk I); have hL8 := ((kN_kF ho5 hNB).mono (Nat.zero_le _)).below hlw)
        refine hK.out _ _ ?_ (fun hHeld2 => ?_)
        · exact hSnew
        clear hK K hHeld hSnew
        have hHeld := hHeld2
        clear hHeld2
        try simp only [Mem.pa, Mem.pb, Mem.pc, Act.put, Mem.pd, Mem.pe, Mem.pf]
        refine Mem.tkV 13 ?v19 ?y19 ?r19
        case y19 => (intro w hSw; clear hSw; go_simp; try with_reducible rfl)
        refine Mem.tkV 14 ?v20 ?y20 ?r20
        case y20 => (intro w hSw; clear hSw; go_simp; try with_reducible rfl)
        try simp only [Mem.pa, Mem.pb, Mem.pc, Act.put, Mem.pd, Mem.pe, Mem.pf]
        refine wpAnyH_done (by kernel_rfl) ?_ _
        clear hCl
        go_wp2_with fail
        go_meet
        case rel => exact ⟨g7, A8, n8, c8, A9, c9, rfl, rfl, rfl, hr8, hg7, hL8, hvN, (Below.refl _ _).drew.trans hHeld⟩
      refine AllReadyH.cons rfl (fun K hK => ?_) ?_
      · skip
        rw [if_pos (by rfl)]
        refine wp_allocN 78 (by rfl) _ blkZero ?_; intro g7 wa hr7 hbl hg7'; have hg7 : w1.heap.size ≤ g7 := Nat.le_trans hHeld.size hg7'; have hlc := hbl
        have hSnew := Mem.bl_step hHeld hbl (by first | exact Nat.le_refl _ | omega | (simp <;> omega))
        refine hK.out _ _ ?_ (fun hHeld2 => ?_)
        · exact hSnew
        try replace hr7 := hr7.below hbl
        clear hbl
        clear hK K hHeld hSnew
        have hHeld := hHeld2
        clear hHeld2
        try simp only [Mem.pa, Mem.pb, Mem.pc, Act.put, Mem.pd, Mem.pe, Mem.pf]
        refine wpAnyH_ready (rs := [6]) (by kernel_rfl) (by simp) ?_
        refine AllReadyH.cons rfl (fun K hK => ?_) AllReadyH.nil
        go_simp
        ((try have hgl := Row.lt hr7); have hsz6 := hHeld.size; refine (HCW.out A n _ (hxd.below hHeld) hn1 hn2).mono ?_; rintro e wl ⟨v5, v6, rfl, ho5, ho6, hbl⟩; obtain ⟨A8, n8, c8, rfl⟩ := own_slice ho5; obtain ⟨A9, c9, rfl⟩ := ho6.slice)
        try go_wp2_with fail
        have hSnew := Mem.bl_step hHeld hbl (by first | exact Nat.le_refl _ | omega | (simp <;> omega))
        refine hK.out _ _ ?_ (fun hHeld2 => ?_)
        · exact hSnew
        try replace hr7 := hr7.below hbl
        clear hbl
        clear hK K hHeld hSnew
        have hHeld := hHeld2
        clear hHeld2
        try simp only [Mem.pa, Mem.pb, Mem.pc, Act.put, Mem.pd, Mem.pe, Mem.pf]
        refine Mem.tkV 7 ?v21 ?y21 ?r21
        case y21 => (intro w hSw; clear hSw; go_simp; try with_reducible rfl)
        refine Mem.tkV 8 ?v22 ?y22 ?r22
        case y22 => (intro w hSw; clear hSw; go_simp; try with_reducible rfl)
        refine Mem.tkV 9 ?v23 ?y23 ?r23
        case y23 => (intro w hSw; clear hSw; go_simp; try with_reducible rfl)
        try simp only [Mem.pa, Mem.pb, Mem.pc, Act.put, Mem.pd, Mem.pe, Mem.pf]
        refine Mem.tkV 10 ?v24 ?y24 ?r24
        case y24 => (intro w hSw; clear hSw; go_simp; try with_reducible rfl)
        try simp only [Mem.pa, Mem.pb, Mem.pc, Act.put, Mem.pd, Mem.pe, Mem.pf]
        refine wpAnyH_ready (rs := [12]) (by kernel_rfl) (by simp) ?_
        refine AllReadyH.cons rfl (fun K hK => ?_) AllReadyH.nil
        rw [if_pos (by rfl)]
        refine wp_storeRow _ _ _ (by rfl) g7 (by rfl) (blk I) (by rfl) (blk zblk) 78 256 blkSize hIs zblk_size (blk_one _) hr7 ?_; have hSnew := below_setRow hHeld hg7 (blk I); have hr8 := hr7.set (blk I); have hvN : ∀ j, (Value.slice A8 n8 c8).ownBlock = some j → ¬ N j := (fun j e hj => by have h1 := (ho5.lt j e).1; have h2 := HN1.out j hj; have h3 : w1.heap.size ≤ _ := hsz6; omega); have hNB : ∀ j, N j → j < _ := (fun j hj => Nat.lt_of_lt_of_le (HN1.out j hj) hsz6); first | (have hL8 := (kN_kF (kF_setRow ho5 g7 hgl (blk I)) hNB).mono (Nat.zero_le _)) | (have hlw := below_setRow hlc hg7' (blk I); have hL8 := ((kN_kF ho5 hNB).mono (Nat.zero_le _)).below hlw)
        refine hK.out _ _ ?_ (fun hHeld2 => ?_)
        · exact hSnew
        clear hK K hHeld hSnew
        have hHeld := hHeld2
        clear hHeld2
        try simp only [Mem.pa, Mem.pb, Mem.pc, Act.put, Mem.pd, Mem.pe, Mem.pf]
        refine Mem.tkV 13 ?v25 ?y25 ?r25
        case y25 => (intro w hSw; clear hSw; go_simp; try with_reducible rfl)
        refine Mem.tkV 14 ?v26 ?y26 ?r26
        case y26 => (intro w hSw; clear hSw; go_simp; try with_reducible rfl)
        try simp only [Mem.pa, Mem.pb, Mem.pc, Act.put, Mem.pd, Mem.pe, Mem.pf]
        refine wpAnyH_done (by kernel_rfl) ?_ _
        clear hCl
        go_wp2_with fail
        go_meet
        case rel => exact ⟨g7, A8, n8, c8, A9, c9, rfl, rfl, rfl, hr8, hg7, hL8, hvN, (Below.refl _ _).drew.trans hHeld⟩
      exact AllReadyH.nil
    case rest =>
      obtain ⟨g7, A8, n8, c8, A9, c9, rfl, rfl, rfl, hr7, hg7, hL7, hvN, hb7⟩ := hcut
      have HC7 := Lib.hid (HC1.out.below hb7)
      have HT7 := Lib.hid (HT1.out.trans (HC1.out.tn hb7))
      clear hxd hcR r9d HCW HT1
      by_cases hRe : R = []
      · have HS2 : Hid (flS s no = s) := Lib.hid (by rw [HS.out, if_neg (fun e => e hRe)])
        have HE2 : Hid (flE s no = 0) := Lib.hid (by rw [HE.out, if_neg (fun e => e hRe)])
        have hRl : ((R.length : Int) == 0) = true := by rw [hRe]; rfl
        clear HS HE hRe hb7
        go_wp2
        go_ret
        exact ⟨v, by rw [HE2.out]; rfl, by rw [HS2.out]; exact HC7.out, HT7.out⟩
      have hRl : ((R.length : Int) == 0) = false := by
        rw [beq_eq_false_iff_ne]
        intro e
        exact hRe (List.eq_nil_of_length_eq_zero (by omega))
      have HS2 : Hid (flS s no = if Db.wrE s.dv no ≠ 0 then { s with dv := Db.wrS s.dv no I } else { s with dv := Db.wrS s.dv no I, xs := L }) := Lib.hid (by rw [HS.out, if_pos hRe])
      have HE2 : Hid (flE s no = Db.wrE s.dv no) := Lib.hid (by rw [HE.out, if_pos hRe])
      have hgd : ¬ g7 = d := fun e => by have := HN1.out d HC7.out.Nd; omega
      have hgg : ¬ g7 = g := fun e => by have := HN1.out g HC7.out.Ng; omega
      have hgc : ¬ g7 = c := fun e => by have := HN1.out c HC7.out.Nc; omega
      have hgb : ¬ g7 = b := fun e => by have := HN1.out b HC7.out.Nb; omega
      have hcd : ¬ c = d := HC7.out.cd
      have hcg : ¬ c = g := HC7.out.cg
      have hcb : ¬ c = b := HC7.out.cb
      have hcR : Row wc.drew c 83 (caC d b v s.last) := HC7.out.row.drew
      have p7 := hr7.drew
      have HL7 := Lib.hid hL7.drew
      have HVN := Lib.hid hvN
      have CWR := Lib.hid (Db.write_any d g s.dv no I hIl wc.drew (HC7.out.below (Below.refl _ _).drew).dev HI.out.ok)
      clear HS HE hRe hb7 hr7 hL7 hvN hg7
      go_wp2_with fail
      refine wp_region_held_drew (S := fun w' => Db.Asd d g (wc.drew) w') (by kernel_rfl) ?hb29 (fun hHeld => ?rest29)
      case hb29 =>
        exact Db.Asd.refl _ _ _
      case' rest29 => skip
      have hCl := fun (wS : World) (hSw : Db.Asd d g (wc.drew) wS) =>  (Db.Asd.kept hSw hcR (by omega) (by omega)).cell 0 rfl
      replace hCl := Go.Lib.hid hCl
      refine Mem.tkV 0 ?v30 ?y30 ?r30
      case y30 => (intro w hSw; clear hSw; go_simp; try with_reducible rfl)
      refine Mem.tkV 1 ?v31 ?y31 ?r31
      case y31 => (intro w hSw; clear hSw; go_simp; try with_reducible rfl)
      refine Mem.tkV 2 ?v32 ?y32 ?r32
      case y32 => (intro w hSw; clear hSw; go_simp; try with_reducible rfl)
      try simp only [Mem.pa, Mem.pb, Mem.pc, Act.put, Mem.pd, Mem.pe, Mem.pf]
      refine Mem.tkV 3 ?v33 ?y33 ?r33
      case y33 => (intro w hSw; have hT0 := hCl.out w hSw; clear hSw; go_simp; try with_reducible rfl)
      refine Mem.tkV 4 ?v34 ?y34 ?r34
      case y34 => (intro w hSw; clear hSw; go_simp; try with_reducible rfl)
      first
        | refine' wpAnyH_take (i := 5) (v := _) rfl (by kernel_rfl) (by kernel_rfl) (by kernel_rfl) (fun _ _ _ h => h) (yieldsIf_load_mid (by rfl) _ _ rfl _ _ rfl _ _ (fun w hSw => (Db.Asd.kept hSw p7 (by omega) (by omega)).range) blkUnd rfl hIL) (by assumption) ?rest35
        | refine wpAnyH_take (i := 5) (v := undef) rfl (by kernel_rfl) (by kernel_rfl) (by kernel_rfl) (fun _ _ _ h => h) (Or.inr ⟨by rfl, rfl⟩) (by assumption) ?rest35
      case' rest35 => skip
      try simp only [Mem.pa, Mem.pb, Mem.pc, Act.put, Mem.pd, Mem.pe, Mem.pf]
      try simp only [Mem.pa, Mem.pb, Mem.pc, Act.put, Mem.pd, Mem.pe, Mem.pf]
      refine wpAnyH_ready (rs := [6]) (by kernel_rfl) (by simp) ?_
      refine AllReadyH.cons rfl (fun K hK => ?_) AllReadyH.nil
      go_simp
      (refine CWR.out.mono ?_; rintro e w3 ⟨rfl, hd3, ha3⟩; have hSnew := ha3; have HD3 := Lib.hid hd3; have HA3 := Lib.hid ha3; clear hd3 ha3)
      try go_wp2_with fail
      refine hK.out _ _ ?_ (fun hHeld2 => ?_)
      · exact hSnew
      clear hK K hHeld hSnew
      have hHeld := hHeld2
      clear hHeld2
      try simp only [Mem.pa, Mem.pb, Mem.pc, Act.put, Mem.pd, Mem.pe, Mem.pf]
      refine Mem.tkV 7 ?v36 ?y36 ?r36
      case y36 => (intro w hSw; clear hSw; go_simp; try with_reducible rfl)
      try simp only [Mem.pa, Mem.pb, Mem.pc, Act.put, Mem.pd, Mem.pe, Mem.pf]
      refine wpAnyH_done (by kernel_rfl) ?_ _
      clear hCl
      have hc3 : Row w3 c 83 (caC d b v s.last) := HA3.out.kept hcR hcd hcg
      have p73 := HA3.out.kept p7 hgd hgg
      have HT3 := Lib.hid ((HT7.out.trans (HC7.out.tn (Below.refl _ _).drew)).trans ((HC7.out.below (Below.refl _ _).drew).tnd HA3.out))
      clear hcR p7 CWR hHeld
      by_cases hE : Db.wrE s.dv no = 0
      · have HS3 : Hid (flS s no = { s with dv := Db.wrS s.dv no I, xs := L }) := Lib.hid (by rw [HS2.out, if_neg (fun e => e hE)])
        have HE3 : Hid (flE s no = 0) := Lib.hid (by rw [HE2.out, hE])
        have hm3 : Mb w3 b (s.dv.wr + s.dv.rd).toNat s.F := (HC7.out.map.drew).stay (HA3.out.block b HC7.out.map.lt (fun e => HC7.out.db e.symm) (fun e => HC7.out.gb e.symm))
        have hL3 : Hid (OwnK (kN kChg N) w3 0 90 (.slice A8 n8 c8) L) := Lib.hid (own_stay HL7.out HVN.out (fun j h1 h2 => HA3.out.block j h2 (fun e => h1 (e ▸ HC7.out.Nd)) (fun e => h1 (e ▸ HC7.out.Ng))) HA3.out.size)
        have hnn : (s.dv.wr + s.dv.rd).toNat < 1000000 ∧ (s.dv.wr + s.dv.rd).toNat + 1 ≤ ((Db.wrS s.dv no I).wr + (Db.wrS s.dv no I).rd).toNat := by
          obtain ⟨_, e1, e2⟩ := wr_good hE I
          have h1 := HI.out.cw
          have h1' := HI.out.last1
          have h2 := HI.out.cr
          obtain ⟨_, h3, _, h4, _⟩ := HI.out.ok
          rw [e1, e2]
          omega
        have HNN := Lib.hid hnn.2
        have hF0 : s.F no = some B := HF9.out
        obtain ⟨v0, st, hent, hst⟩ := hm3.drew.entry hnn.1 hno hF0
        obtain ⟨w5, hsto, hm5, hg5⟩ := hst w3.drew I rfl hIl
        have HM5 := Lib.hid hm5
        have HG5 := Lib.hid hg5
        have HFX := Lib.hid (HFI.out hE I L)
        have hc3d : Row w3.drew c 83 (caC d b v s.last) := hc3.drew
        have HC3D := Lib.hid hc3d
        have q1 : w3.drew.cell? ⟨c, 1, none⟩ = some (.map (some b)) := hc3d.cell 1 rfl
        have p73d := p73.drew
        have hcl : c < w3.drew.heap.size := hc3d.lt
        have hc5 := gb_row hg5 hc3d (fun e => hcb (by injection e))
        have c52 : w5.cell? ⟨c, 2, none⟩ = some v := hc5.cell 2 rfl
        have f52 := hc5.frozen 2
        have hlc5 : Lc c b w3.drew w5 := (Lc.refl c b w3.drew).grown hg5 (fun k e => .inl (by injection e with e; exact e.symm)) (fun e => hcb (by injection e with e; exact e.symm)) hcl
        have HLC5 := Lib.hid hlc5
        have HLT3 : Hid (∀ j, N j → j < w3.drew.heap.size) := Lib.hid (fun j hj => Nat.lt_of_lt_of_le (HC7.out.lt j hj) HA3.out.size)
        rw [hv] at c52
        rw [hE]
        clear hm3 hnn hF0 hst hm5 hg5 hE hlc5 hc3 p73 hc5
        go_wp2_with fail
        refine wp_region_held_drew (S := fun w' => Cb.Lc c b (w3.drew) w') (by kernel_rfl) ?hb45 (fun hHeld => ?rest45)
        case hb45 =>
          exact Cb.Lc.refl _ _ _
        case' rest45 => skip
        have hCl := fun (wS : World) (hSw : Cb.Lc c b (w3.drew) wS) =>  Cb.Lc.cl hSw _ _ (by decide) q1
        replace hCl := Go.Lib.hid hCl
        refine Mem.tkV 0 ?v46 ?y46 ?r46
        case y46 => (intro w hSw; clear hSw; go_simp; try with_reducible rfl)
        refine Mem.tkV 1 ?v47 ?y47 ?r47
        case y47 => (intro w hSw; clear hSw; go_simp; try with_reducible rfl)
        refine Mem.tkV 2 ?v48 ?y48 ?r48
        case y48 => (intro w hSw; clear hSw; go_simp; try with_reducible rfl)
        try simp only [Mem.pa, Mem.pb, Mem.pc, Act.put, Mem.pd, Mem.pe, Mem.pf]
        refine Mem.tkV 3 ?v49 ?y49 ?r49
        case y49 => (intro w hSw; have hT0 := hCl.out w hSw; clear hSw; go_simp; try with_reducible rfl)
        refine Mem.tkV 4 ?v50 ?y50 ?r50
        case y50 => (intro w hSw; clear hSw; go_simp; try with_reducible rfl)
        refine Mem.tkV 5 ?v51 ?y51 ?r51
        case y51 => (intro w hSw; clear hSw; go_simp; try with_reducible rfl)
        first
          | refine' wpAnyH_take (i := 6) (v := _) rfl (by kernel_rfl) (by kernel_rfl) (by kernel_rfl) (fun _ _ _ h => h) (yieldsIf_load_mid (by rfl) _ _ rfl _ _ rfl _ _ (fun w hSw => (Cb.Lc.kept hSw p73d (by omega) (by omega)).range) blkUnd rfl hIL) (by assumption) ?rest52
          | refine wpAnyH_take (i := 6) (v := undef) rfl (by kernel_rfl) (by kernel_rfl) (by kernel_rfl) (fun _ _ _ h => h) (Or.inr ⟨by rfl, rfl⟩) (by assumption) ?rest52
        case' rest52 => skip
        try simp only [Mem.pa, Mem.pb, Mem.pc, Act.put, Mem.pd, Mem.pe, Mem.pf]
        try simp only [Mem.pa, Mem.pb, Mem.pc, Act.put, Mem.pd, Mem.pe, Mem.pf]
        refine Mem.tkV 7 ?v53 ?y53 ?r53
        case y53 => (intro w hSw; clear hSw; go_simp; try with_reducible rfl)
        try simp only [Mem.pa, Mem.pb, Mem.pc, Act.put, Mem.pd, Mem.pe, Mem.pf]
        refine wpAnyH_ready (rs := [8]) (by kernel_rfl) (by simp) ?_
        refine AllReadyH.cons rfl (fun K hK => ?_) AllReadyH.nil
        rw [if_pos (by rfl)]
        refine wp_mbEntry _ _ (by rfl) (by rfl) no (by rfl) v0 st hent ?_; have hSnew := hHeld
        refine hK.out _ _ ?_ (fun hHeld2 => ?_)
        · exact hSnew
        clear hK K hHeld hSnew
        have hHeld := hHeld2
        clear hHeld2
        try simp only [Mem.pa, Mem.pb, Mem.pc, Act.put, Mem.pd, Mem.pe, Mem.pf]
        refine Mem.tkV 9 ?v54 ?y54 ?r54
        case y54 => (intro w hSw; clear hSw; go_simp; try with_reducible rfl)
        try simp only [Mem.pa, Mem.pb, Mem.pc, Act.put, Mem.pd, Mem.pe, Mem.pf]
        refine wpAnyH_ready (rs := [10]) (by kernel_rfl) (by simp) ?_
        refine AllReadyH.cons rfl (fun K hK => ?_) AllReadyH.nil
        rw [if_pos (by rfl)]
        refine wp_mbStore _ _ _ (by rfl) (by rfl) st (by rfl) I (by rfl) w5 hsto ?_; have hSnew := HLC5.out
        refine hK.out _ _ ?_ (fun hHeld2 => ?_)
        · exact hSnew
        clear hK K hHeld hSnew
        have hHeld := hHeld2
        clear hHeld2
        try simp only [Mem.pa, Mem.pb, Mem.pc, Act.put, Mem.pd, Mem.pe, Mem.pf]
        refine Mem.tkV 11 ?v55 ?y55 ?r55
        case y55 => (intro w hSw; clear hSw; go_simp; try with_reducible rfl)
        refine Mem.tkV 12 ?v56 ?y56 ?r56
        case y56 => (intro w hSw; clear hSw; go_simp; try with_reducible rfl)
        try simp only [Mem.pa, Mem.pb, Mem.pc, Act.put, Mem.pd, Mem.pe, Mem.pf]
        refine wpAnyH_ready (rs := [13]) (by kernel_rfl) (by simp) ?_
        refine AllReadyH.cons rfl (fun K hK => ?_) AllReadyH.nil
        go_simp
        have hSnew := Lc.set2 hHeld (.slice A8 n8 c8)
        try go_wp2_with fail
        refine hK.out _ _ ?_ (fun hHeld2 => ?_)
        · exact hSnew
        clear hK K hHeld hSnew
        have hHeld := hHeld2
        clear hHeld2
        try simp only [Mem.pa, Mem.pb, Mem.pc, Act.put, Mem.pd, Mem.pe, Mem.pf]
        refine wpAnyH_done (by kernel_rfl) ?_ _
        clear hCl
        go_wp2_with fail
        go_ret
        obtain ⟨hz1, hz2⟩ := Ca.laid (s := s) HC3D.out (show Dev w3.drew d g _ from HD3.out) HG5.out HM5.out hL3.out.drew HVN.out (Nat.lt_of_lt_of_le HC7.out.map.lt HA3.out.size) HC7.out.cd HC7.out.cg HC7.out.cb HC7.out.db HC7.out.gb HC7.out.Nc HC7.out.Nd HC7.out.Ng HC7.out.Nb HLT3.out HNN.out HFX.out
        exact ⟨.slice A8 n8 c8, by rw [HE3.out]; rfl, by rw [HS3.out]; exact hz1, (HT3.out.trans (show Tn N c d g b w3 w3.drew from ⟨rfl, rfl, rfl, Nat.le_refl _, fun _ _ => rfl⟩)).trans hz2⟩
      · have hE2 : (Db.wrE s.dv no == 0) = false := by rw [beq_eq_false_iff_ne]; exact hE
        have HS3 : Hid (flS s no = { s with dv := Db.wrS s.dv no I }) := Lib.hid (by rw [HS2.out, if_pos hE])
        obtain ⟨e1, e2, e3⟩ := wr_bad hE I
        have HCX := Lib.hid ((HC7.out.below (Below.refl _ _).drew).dev' HA3.out HD3.out (by rw [e2, e3]; exact Nat.le_refl _) (fun x => by unfold St.F; rw [e1]))
        clear e1 e2 e3 hE HS2 hc3 p73
        generalize Db.wrE s.dv no = E at *
        go_wp2
        go_ret
        exact ⟨v, by rw [HE2.out]; rfl, by rw [HS3.out]; exact HCX.out, HT3.out⟩
  · have hF : s.F no = none := if_neg hk
    have HE : Hid (flE s no = 0) := Lib.hid (if_neg (fun e => hk e.1))
    have HS : Hid (flS s no = s) := Lib.hid (if_neg (fun e => hk e.1))
    have hg : (.tuple #[.agg (blk ((s.F no).getD zblk)), .bool (s.F no).isSome] : Value) = .tuple #[.agg (blk zblk), .bool false] := by rw [hF]; rfl
    obtain ⟨⟨r9, b9, z9⟩⟩ : Nonempty (_ ∧ _ ∧ _) := ⟨boxed w 78 (blk zblk) (blk zblk)⟩
    have HC := Lib.hid (h.below b9)
    have HT := Lib.hid (h.tn b9)
    clear h hi hk hF r9 b9 z9
    go_enter Tryz.func25, Tryz.ntmps25
    go_wp2_with (first
      | (at_lookup; go_loud (refine wpList_mbLook rfl _ _ rfl rfl hm no rfl hno ?_); rw [hg])
      | (with_reducible refine wpList_allocA rfl 78 rfl _ blkZero ?_)
      | (with_reducible refine wpList_storeRow rfl 78 _ _ rfl w.heap.size rfl (blk zblk) rfl (blk zblk) 78 256 blkSize hz hz (blk_one _) R0 ?_))
    go_ret
    exact ⟨v, by rw [HE.out]; rfl, by rw [HS.out]; exact HC.out, HT.out⟩
end Go.Proofs.YtbamhiegabeicaaGreat.Cb

