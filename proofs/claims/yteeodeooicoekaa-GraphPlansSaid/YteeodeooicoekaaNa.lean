/- RollWrites. -/
import Derived.Test.YteeodeooicoekaaLm
import Derived.Test.YteeodeooicoekaaLf
import Derived.Test.YteeodeooicoekaaLg
import Derived.Test.YteeodeooicoekaaLo
import Derived.Test.YteeodeooicoekaaRg
namespace Go.Proofs.Yteeodeooicoekaa.Rd
open Go.RowKit Go.Proofs.Yteeodeooicoekaa.Mem Go.Proofs.Yteeodeooicoekaa.Open Go.Proofs.Yteeodeooicoekaa.Kind Go.Proofs.Yteeodeooicoekaa.Blk Go.Proofs.Yteeodeooicoekaa.App Go.Proofs.Yteeodeooicoekaa.Pat Go.Proofs.Yteeodeooicoekaa.Same
set_option linter.unusedVariables false
set_option linter.unusedSimpArgs false
theorem bl_drewN {w w' : World} {q : Nat} (h : w' = w.drewN q) : Below w.heap.size w w' := by rw [h]; exact bdrewN (Below.refl _ _) q
theorem woS_len (xs : List Chg) (ids : List Int) : (woS xs ids).length ≤ xs.length := List.length_filter_le _ _
theorem row_by2 {w : World} {g : Nat} {T : TypeId} {l : List Nat} (h : Row w g T (blk l)) (hl : l.length = 256) (hb : ∀ x ∈ l, x < 256) : By w (some ⟨g, 0, none⟩) l := by_row h hb (by rw [hl]; decide)
theorem same_blk (A B : Option Addr) (n m c d : Nat) (xs : List Nat) (w : World) (hx : Sl w V8 A n xs) (hy : Sl w V8 B m xs) :
    Calls Try.prog 17 #[.slice A n c, .slice B m d] w fun e w' => e = .returned (.bool true) ∧ Below w.heap.size w w' := by
  refine (Same.same_any A B n m c d xs xs w hx hy).mono ?_
  rintro e w' ⟨rfl, q, rfl⟩
  exact ⟨by rw [decide_eq_true rfl], bdrewN (Below.refl _ _) q⟩
theorem ints_yes (A B : Option Addr) (n m c d : Nat) (xs : List Int) (w : World) (hx : Sl w V64 A n xs) (hy : Sl w V64 B m xs) :
    Calls Try.prog 22 #[.slice A n c, .slice B m d] w fun e w' => e = .returned (.bool true) ∧ Below w.heap.size w w' := by
  refine (ints_any A B n m c d xs xs w hx hy).mono ?_
  rintro e w' ⟨rfl, q, rfl⟩
  exact ⟨by rw [decide_eq_true rfl], bdrewN (Below.refl _ _) q⟩
theorem chs_pd {w : World} {A : Option Addr} {xs : List Chg} (h : Chs w A xs) : ∀ x ∈ xs, Bytes x.pd := by
  intro x hx
  obtain ⟨i, hi, rfl⟩ := List.mem_iff_getElem.1 hx
  obtain ⟨g, o, rfl, hg⟩ := ch_form h (by omega)
  obtain ⟨A1, c1, A2, c2, hat⟩ := ch_at h i hi
  exact hat.p.2.2.2.lt_byte
theorem chs_own {α : Type} {k : Kd α} {w : World} {B : Nat} {T : TypeId} {A : Option Addr} {n c : Nat} {xs : List α} (h : OwnK k w B T (.slice A n c) xs) : Rw k w (All w) A xs.length xs := by
  obtain ⟨A', c', e, -, -, -, hr⟩ := h.rw_
  injection e with e1 e2 e3
  subst e1
  exact hr
theorem is_own {w : World} {B : Nat} {A : Option Addr} {n c : Nat} {xs : List Int} (h : Ns w B (.slice A n c) xs) (hw : ∀ x ∈ xs, WfI x) : Is w A xs := by
  obtain ⟨A', c', e, -, -, -, hr⟩ := own_is h hw
  injection e with e1 e2 e3
  subst e1
  exact hr
theorem ns_setRow {w : World} {B : Nat} {v : Value} {xs : List Int} (h : Ns w B v xs) (g : Nat) (hg : g < B) (cs : Array Value) : Ns (w.setRow g cs) B v xs :=
  own_grown h (grown_setRow _ g cs) (fun q hq e => by injection e with e; have := (Own.lt h q hq).1; omega)
theorem ownK_slice {α : Type} {k : Kd α} {w : World} {B : Nat} {T : TypeId} {v : Value} {xs : List α} (h : OwnK k w B T v xs) : ∃ A c, v = .slice A xs.length c := by
  obtain ⟨A', c', e, -, -, -, hr⟩ := h.rw_
  exact ⟨A', c', e⟩
set_option maxHeartbeats 8000000 in
set_option maxRecDepth 100000 in
theorem writes_walk (B : List Nat) (A : Option Addr) (c : Nat) (xs : List Chg) (bl : Int) (w : World) (hBl : B.length = 256) (hBb : ∀ x ∈ B, x < 256) (hx : Chs w A xs) (hc : A = none → c = 0) (hwb : (Lit.int .i64 bl).wf = true) :
    Calls Try.prog 3 #[.agg (blk B), .slice A xs.length c, .int .i64 bl] w fun e w' => e = .returned (.bool true) ∧ Below w.heap.size w w' := by
  have hia : (Try.prog.info? 22).map (·.size) = some (blk B).toList.length := by rw [Array.length_toList, blk_size, hBl]; exact arrSize
  have r0 := Row.new w 22 (blk B)
  have bb := (Below.refl w.heap.size w).alloc (Nat.le_refl _) (.cells (blk B) 22)
  have hx0 := hx.below bb
  have CMu := Lib.hid (much_any A c xs 30 _ hx0 (by omega))
  have HBL := Lib.hid hBl
  clear hBl
  go_enter Try.func3, Try.ntmps3
  go_wp2_with fail
  generalize w.alloc (.cells (blk B) 22) = w0 at *
  cases hmu : muchC xs 30 with
  | true =>
    rw [hmu] at CMu
    refine CMu.out.mono ?_
    rintro e w1 ⟨rfl, hb1⟩
    have bb1 := bb.trans (hb1.mono bb.size)
    clear CMu
    go_wp2_with fail
    refine (works10 _).mono ?_
    rintro e wB ⟨rfl, hbB⟩
    go_wp2
    go_ret
    exact ⟨rfl, bb1.trans (hbB.mono bb1.size)⟩
  | false =>
    rw [hmu] at CMu
    obtain ⟨hn, hs⟩ := muchC_no hmu
    clear hmu
    refine CMu.out.mono ?_
    rintro e w1 ⟨rfl, hb1⟩
    have bb1 := bb.trans (hb1.mono bb.size)
    have r1 : Row w1 w.heap.size 22 (blk B) := Row.below r0 hb1
    have hx1 := hx.below bb1
    clear CMu hb1 bb hx0 r0
    have hIl : (imgF B xs bl).length = 256 := (imgF_len _ _ _).trans HBL.out
    have hIb : ∀ x ∈ imgF B xs bl, x < 256 := imgF_bytes HBL.out hBb (chs_pd hx1)
    have hwf := ready_wf2 hx1 bl
    have hrl := ready_len2 xs bl
    have r1d := r1.drew
    have hx1d : Chs w1.drew A xs := Rw.drew hx1
    have CT := Lib.hid (fun w' h => to9_any A c xs w' h hs (by omega))
    have CW := Lib.hid (fun A' c' w' h k1 k2 => Write_any A' c' xs bl B w' h HBL.out k1 k2 (by omega) hs)
    have CI := Lib.hid (fun w' h hB => RImage_any A c xs bl (some ⟨w.heap.size, 0, none⟩) 256 B w' h HBL.out (Nat.le_refl _) (by decide) (fun h => by cases h) hB (by omega))
    have CR := Lib.hid (fun w' h => RReady_any A c xs bl w' h (by omega))
    have hwl := woS_len xs (readyS xs bl)
    obtain ⟨I, hI⟩ : ∃ I, imgF B xs bl = I := ⟨_, rfl⟩
    rw [hI] at CW CI hIl hIb
    obtain ⟨R, hR⟩ : ∃ R, readyS xs bl = R := ⟨_, rfl⟩
    rw [hR] at CW CR hwl hrl hwf
    obtain ⟨L, hL⟩ : ∃ L, woS xs R = L := ⟨_, rfl⟩
    rw [hL] at CW hwl
    have HL := Lib.hid hL
    clear hI hR hL
    have hsI : (blk I).size = 256 := by rw [blk_size]; exact hIl
    have HIL := Lib.hid hIl
    clear hIl
    go_wp2_with fail
    go_cut [7, 8, 9] (fun s7 s8 s9 w' => ∃ g7 A8 c8 A9 c9, s7 = .pointer (some ⟨g7, 0, none⟩) ∧ s8 = .slice A8 L.length c8 ∧ s9 = .slice A9 R.length c9 ∧ Row w' g7 26 (blk I) ∧ Chs w' A8 L ∧ Is w' A9 R ∧ Below w1.heap.size w1 w')
    case first =>
      refine wp_region_held_drew (S := Go.RowKit.Below ((w1.drew).heap.size) (w1.drew)) (by kernel_rfl) ?hb9 (fun hHeld => ?rest9)
      case hb9 =>
        exact Go.RowKit.Below.refl _ _
      case' rest9 => skip
      first
        | refine' wpAnyH_take (i := 0) (v := _) rfl (by kernel_rfl) (by kernel_rfl) (by kernel_rfl) (fun _ _ _ h => h) (yieldsIf_load_mid (by rfl) _ _ rfl _ _ rfl _ _ (fun w hSw => (Mem.bl_row hSw r1d (by first | exact Mem.Row.lt r1d | omega | (simp <;> omega))).range) arrUnd rfl hia) (by assumption) ?rest10
        | refine wpAnyH_take (i := 0) (v := undef) rfl (by kernel_rfl) (by kernel_rfl) (by kernel_rfl) (fun _ _ _ h => h) (Or.inr ⟨by rfl, rfl⟩) (by assumption) ?rest10
      case' rest10 => skip
      try simp only [List.getElem_toArray, List.getElem_cons_succ, List.getElem_cons_zero, Act.put, List.setIfInBounds_toArray, List.set_cons_zero, List.set_cons_succ]
      refine Mem.tkY 1 ?v11 (hy := Or.inl ⟨by rfl, ?y11⟩) (hS := by assumption) (h := ?r11)
      case y11 => (intro w hSw; clear hSw; go_simp; try with_reducible rfl)
      case' r11 => skip
      refine Mem.tkY 3 ?v12 (hy := Or.inl ⟨by rfl, ?y12⟩) (hS := by assumption) (h := ?r12)
      case y12 => (intro w hSw; clear hSw; go_simp; try with_reducible rfl)
      case' r12 => skip
      try simp only [List.getElem_toArray, List.getElem_cons_succ, List.getElem_cons_zero, Act.put, List.setIfInBounds_toArray, List.set_cons_zero, List.set_cons_succ]
      refine wpAnyH_ready (rs := [2, 9]) (by kernel_rfl) (by simp) ?_
      refine AllReadyH.cons rfl (fun K hK => ?_) ?_
      · skip
        go_simp
        (refine (CT.out _ (hx1d.below hHeld)).mono ?_; rintro e wt ⟨v, rfl, hown, hbl⟩; obtain ⟨A5, c5, rfl, k1, k2, k3, ht⟩ := hown.rw_)
        try go_wp2_with fail
        have hSnew := Mem.bl_step hHeld hbl (by first | exact Nat.le_refl _ | omega | (simp <;> omega))
        refine hK.out _ _ ?_ (fun hHeld2 => ?_)
        · exact hSnew
        try replace ht := ht.below hbl
        try replace hr7 := hr7.below hbl
        clear hbl
        clear hK K hHeld hSnew
        have hHeld := hHeld2
        clear hHeld2
        try simp only [List.getElem_toArray, List.getElem_cons_succ, List.getElem_cons_zero, Act.put, List.setIfInBounds_toArray, List.set_cons_zero, List.set_cons_succ]
        refine wpAnyH_ready (rs := [4, 9]) (by kernel_rfl) (by simp) ?_
        refine AllReadyH.cons rfl (fun K hK => ?_) ?_
        · skip
          go_simp
          ((try have hgl := Row.lt hr7); refine (CW.out A5 c5 _ ht k1 k2).mono ?_; rintro e wl ⟨v5, v6, rfl, ho5, ho6, hbl⟩; clear ht; obtain ⟨A8, c8, rfl⟩ := ownK_slice ho5; obtain ⟨A9, c9, rfl⟩ := ho6.slice)
          try go_wp2_with fail
          have hSnew := Mem.bl_step hHeld hbl (by first | exact Nat.le_refl _ | omega | (simp <;> omega))
          refine hK.out _ _ ?_ (fun hHeld2 => ?_)
          · exact hSnew
          try replace ht := ht.below hbl
          try replace hr7 := hr7.below hbl
          clear hbl
          clear hK K hHeld hSnew
          have hHeld := hHeld2
          clear hHeld2
          try simp only [List.getElem_toArray, List.getElem_cons_succ, List.getElem_cons_zero, Act.put, List.setIfInBounds_toArray, List.set_cons_zero, List.set_cons_succ]
          refine Mem.tkY 5 ?v13 (hy := Or.inl ⟨by rfl, ?y13⟩) (hS := by assumption) (h := ?r13)
          case y13 => (intro w hSw; clear hSw; go_simp; try with_reducible rfl)
          case' r13 => skip
          refine Mem.tkY 6 ?v14 (hy := Or.inl ⟨by rfl, ?y14⟩) (hS := by assumption) (h := ?r14)
          case y14 => (intro w hSw; clear hSw; go_simp; try with_reducible rfl)
          case' r14 => skip
          refine Mem.tkY 7 ?v15 (hy := Or.inl ⟨by rfl, ?y15⟩) (hS := by assumption) (h := ?r15)
          case y15 => (intro w hSw; clear hSw; go_simp; try with_reducible rfl)
          case' r15 => skip
          try simp only [List.getElem_toArray, List.getElem_cons_succ, List.getElem_cons_zero, Act.put, List.setIfInBounds_toArray, List.set_cons_zero, List.set_cons_succ]
          refine Mem.tkY 8 ?v16 (hy := Or.inl ⟨by rfl, ?y16⟩) (hS := by assumption) (h := ?r16)
          case y16 => (intro w hSw; clear hSw; go_simp; try with_reducible rfl)
          case' r16 => skip
          try simp only [List.getElem_toArray, List.getElem_cons_succ, List.getElem_cons_zero, Act.put, List.setIfInBounds_toArray, List.set_cons_zero, List.set_cons_succ]
          refine wpAnyH_ready (rs := [9]) (by kernel_rfl) (by simp) ?_
          refine AllReadyH.cons rfl (fun K hK => ?_) AllReadyH.nil
          rw [if_pos (by rfl)]
          refine wp_allocN 26 (by rfl) _ blkZero ?_; intro g7 wa hr7 hbl hg7'; have hg7 : w1.heap.size ≤ g7 := Nat.le_trans hHeld.size hg7'; have hlc := hbl
          have hSnew := Mem.bl_step hHeld hbl (by first | exact Nat.le_refl _ | omega | (simp <;> omega))
          refine hK.out _ _ ?_ (fun hHeld2 => ?_)
          · exact hSnew
          try replace ht := ht.below hbl
          try replace hr7 := hr7.below hbl
          clear hbl
          clear hK K hHeld hSnew
          have hHeld := hHeld2
          clear hHeld2
          try simp only [List.getElem_toArray, List.getElem_cons_succ, List.getElem_cons_zero, Act.put, List.setIfInBounds_toArray, List.set_cons_zero, List.set_cons_succ]
          refine wpAnyH_ready (rs := [10]) (by kernel_rfl) (by simp) ?_
          refine AllReadyH.cons rfl (fun K hK => ?_) AllReadyH.nil
          rw [if_pos (by rfl)]
          refine wp_storeRow _ _ _ (by rfl) g7 (by rfl) (blk I) (by rfl) (blk zblk) 26 256 blkSize hsI zblk_size (blk_one _) hr7 ?_; have hSnew := below_setRow hHeld hg7 (blk I); have hr8 := hr7.set (blk I); first | (have hL8 := chs_own (kF_weak (kF_setRow ho5 g7 hgl (blk I))); have hR8 := is_own (ns_setRow ho6 g7 hgl (blk I)) hwf) | (have hlw := below_setRow hlc hg7' (blk I); have hL8 := (chs_own (kF_weak ho5)).below hlw; have hR8 := (is_own ho6 hwf).below hlw)
          refine hK.out _ _ ?_ (fun hHeld2 => ?_)
          · exact hSnew
          clear hK K hHeld hSnew
          have hHeld := hHeld2
          clear hHeld2
          try simp only [List.getElem_toArray, List.getElem_cons_succ, List.getElem_cons_zero, Act.put, List.setIfInBounds_toArray, List.set_cons_zero, List.set_cons_succ]
          refine Mem.tkY 11 ?v17 (hy := Or.inl ⟨by rfl, ?y17⟩) (hS := by assumption) (h := ?r17)
          case y17 => (intro w hSw; clear hSw; go_simp; try with_reducible rfl)
          case' r17 => skip
          refine Mem.tkY 12 ?v18 (hy := Or.inl ⟨by rfl, ?y18⟩) (hS := by assumption) (h := ?r18)
          case y18 => (intro w hSw; clear hSw; go_simp; try with_reducible rfl)
          case' r18 => skip
          try simp only [List.getElem_toArray, List.getElem_cons_succ, List.getElem_cons_zero, Act.put, List.setIfInBounds_toArray, List.set_cons_zero, List.set_cons_succ]
          refine wpAnyH_done (by kernel_rfl) ?_ _
          go_wp2_with fail
          go_meet
          case rel => exact ⟨g7, A8, c8, A9, c9, rfl, rfl, rfl, hr8, hL8, hR8, (Below.refl _ _).drew.trans hHeld⟩
        refine AllReadyH.cons rfl (fun K hK => ?_) ?_
        · skip
          rw [if_pos (by rfl)]
          refine wp_allocN 26 (by rfl) _ blkZero ?_; intro g7 wa hr7 hbl hg7'; have hg7 : w1.heap.size ≤ g7 := Nat.le_trans hHeld.size hg7'; have hlc := hbl
          have hSnew := Mem.bl_step hHeld hbl (by first | exact Nat.le_refl _ | omega | (simp <;> omega))
          refine hK.out _ _ ?_ (fun hHeld2 => ?_)
          · exact hSnew
          try replace ht := ht.below hbl
          try replace hr7 := hr7.below hbl
          clear hbl
          clear hK K hHeld hSnew
          have hHeld := hHeld2
          clear hHeld2
          try simp only [List.getElem_toArray, List.getElem_cons_succ, List.getElem_cons_zero, Act.put, List.setIfInBounds_toArray, List.set_cons_zero, List.set_cons_succ]
          refine wpAnyH_ready (rs := [4]) (by kernel_rfl) (by simp) ?_
          refine AllReadyH.cons rfl (fun K hK => ?_) AllReadyH.nil
          go_simp
          ((try have hgl := Row.lt hr7); refine (CW.out A5 c5 _ ht k1 k2).mono ?_; rintro e wl ⟨v5, v6, rfl, ho5, ho6, hbl⟩; clear ht; obtain ⟨A8, c8, rfl⟩ := ownK_slice ho5; obtain ⟨A9, c9, rfl⟩ := ho6.slice)
          try go_wp2_with fail
          have hSnew := Mem.bl_step hHeld hbl (by first | exact Nat.le_refl _ | omega | (simp <;> omega))
          refine hK.out _ _ ?_ (fun hHeld2 => ?_)
          · exact hSnew
          try replace ht := ht.below hbl
          try replace hr7 := hr7.below hbl
          clear hbl
          clear hK K hHeld hSnew
          have hHeld := hHeld2
          clear hHeld2
          try simp only [List.getElem_toArray, List.getElem_cons_succ, List.getElem_cons_zero, Act.put, List.setIfInBounds_toArray, List.set_cons_zero, List.set_cons_succ]
          refine Mem.tkY 5 ?v19 (hy := Or.inl ⟨by rfl, ?y19⟩) (hS := by assumption) (h := ?r19)
          case y19 => (intro w hSw; clear hSw; go_simp; try with_reducible rfl)
          case' r19 => skip
          refine Mem.tkY 6 ?v20 (hy := Or.inl ⟨by rfl, ?y20⟩) (hS := by assumption) (h := ?r20)
          case y20 => (intro w hSw; clear hSw; go_simp; try with_reducible rfl)
          case' r20 => skip
          refine Mem.tkY 7 ?v21 (hy := Or.inl ⟨by rfl, ?y21⟩) (hS := by assumption) (h := ?r21)
          case y21 => (intro w hSw; clear hSw; go_simp; try with_reducible rfl)
          case' r21 => skip
          try simp only [List.getElem_toArray, List.getElem_cons_succ, List.getElem_cons_zero, Act.put, List.setIfInBounds_toArray, List.set_cons_zero, List.set_cons_succ]
          refine Mem.tkY 8 ?v22 (hy := Or.inl ⟨by rfl, ?y22⟩) (hS := by assumption) (h := ?r22)
          case y22 => (intro w hSw; clear hSw; go_simp; try with_reducible rfl)
          case' r22 => skip
          try simp only [List.getElem_toArray, List.getElem_cons_succ, List.getElem_cons_zero, Act.put, List.setIfInBounds_toArray, List.set_cons_zero, List.set_cons_succ]
          refine wpAnyH_ready (rs := [10]) (by kernel_rfl) (by simp) ?_
          refine AllReadyH.cons rfl (fun K hK => ?_) AllReadyH.nil
          rw [if_pos (by rfl)]
          refine wp_storeRow _ _ _ (by rfl) g7 (by rfl) (blk I) (by rfl) (blk zblk) 26 256 blkSize hsI zblk_size (blk_one _) hr7 ?_; have hSnew := below_setRow hHeld hg7 (blk I); have hr8 := hr7.set (blk I); first | (have hL8 := chs_own (kF_weak (kF_setRow ho5 g7 hgl (blk I))); have hR8 := is_own (ns_setRow ho6 g7 hgl (blk I)) hwf) | (have hlw := below_setRow hlc hg7' (blk I); have hL8 := (chs_own (kF_weak ho5)).below hlw; have hR8 := (is_own ho6 hwf).below hlw)
          refine hK.out _ _ ?_ (fun hHeld2 => ?_)
          · exact hSnew
          clear hK K hHeld hSnew
          have hHeld := hHeld2
          clear hHeld2
          try simp only [List.getElem_toArray, List.getElem_cons_succ, List.getElem_cons_zero, Act.put, List.setIfInBounds_toArray, List.set_cons_zero, List.set_cons_succ]
          refine Mem.tkY 11 ?v23 (hy := Or.inl ⟨by rfl, ?y23⟩) (hS := by assumption) (h := ?r23)
          case y23 => (intro w hSw; clear hSw; go_simp; try with_reducible rfl)
          case' r23 => skip
          refine Mem.tkY 12 ?v24 (hy := Or.inl ⟨by rfl, ?y24⟩) (hS := by assumption) (h := ?r24)
          case y24 => (intro w hSw; clear hSw; go_simp; try with_reducible rfl)
          case' r24 => skip
          try simp only [List.getElem_toArray, List.getElem_cons_succ, List.getElem_cons_zero, Act.put, List.setIfInBounds_toArray, List.set_cons_zero, List.set_cons_succ]
          refine wpAnyH_done (by kernel_rfl) ?_ _
          go_wp2_with fail
          go_meet
          case rel => exact ⟨g7, A8, c8, A9, c9, rfl, rfl, rfl, hr8, hL8, hR8, (Below.refl _ _).drew.trans hHeld⟩
        exact AllReadyH.nil
      refine AllReadyH.cons rfl (fun K hK => ?_) ?_
      · skip
        rw [if_pos (by rfl)]
        refine wp_allocN 26 (by rfl) _ blkZero ?_; intro g7 wa hr7 hbl hg7'; have hg7 : w1.heap.size ≤ g7 := Nat.le_trans hHeld.size hg7'; have hlc := hbl
        have hSnew := Mem.bl_step hHeld hbl (by first | exact Nat.le_refl _ | omega | (simp <;> omega))
        refine hK.out _ _ ?_ (fun hHeld2 => ?_)
        · exact hSnew
        try replace ht := ht.below hbl
        try replace hr7 := hr7.below hbl
        clear hbl
        clear hK K hHeld hSnew
        have hHeld := hHeld2
        clear hHeld2
        try simp only [List.getElem_toArray, List.getElem_cons_succ, List.getElem_cons_zero, Act.put, List.setIfInBounds_toArray, List.set_cons_zero, List.set_cons_succ]
        refine wpAnyH_ready (rs := [2]) (by kernel_rfl) (by simp) ?_
        refine AllReadyH.cons rfl (fun K hK => ?_) AllReadyH.nil
        go_simp
        (refine (CT.out _ (hx1d.below hHeld)).mono ?_; rintro e wt ⟨v, rfl, hown, hbl⟩; obtain ⟨A5, c5, rfl, k1, k2, k3, ht⟩ := hown.rw_)
        try go_wp2_with fail
        have hSnew := Mem.bl_step hHeld hbl (by first | exact Nat.le_refl _ | omega | (simp <;> omega))
        refine hK.out _ _ ?_ (fun hHeld2 => ?_)
        · exact hSnew
        try replace ht := ht.below hbl
        try replace hr7 := hr7.below hbl
        clear hbl
        clear hK K hHeld hSnew
        have hHeld := hHeld2
        clear hHeld2
        try simp only [List.getElem_toArray, List.getElem_cons_succ, List.getElem_cons_zero, Act.put, List.setIfInBounds_toArray, List.set_cons_zero, List.set_cons_succ]
        refine wpAnyH_ready (rs := [4]) (by kernel_rfl) (by simp) ?_
        refine AllReadyH.cons rfl (fun K hK => ?_) AllReadyH.nil
        go_simp
        ((try have hgl := Row.lt hr7); refine (CW.out A5 c5 _ ht k1 k2).mono ?_; rintro e wl ⟨v5, v6, rfl, ho5, ho6, hbl⟩; clear ht; obtain ⟨A8, c8, rfl⟩ := ownK_slice ho5; obtain ⟨A9, c9, rfl⟩ := ho6.slice)
        try go_wp2_with fail
        have hSnew := Mem.bl_step hHeld hbl (by first | exact Nat.le_refl _ | omega | (simp <;> omega))
        refine hK.out _ _ ?_ (fun hHeld2 => ?_)
        · exact hSnew
        try replace ht := ht.below hbl
        try replace hr7 := hr7.below hbl
        clear hbl
        clear hK K hHeld hSnew
        have hHeld := hHeld2
        clear hHeld2
        try simp only [List.getElem_toArray, List.getElem_cons_succ, List.getElem_cons_zero, Act.put, List.setIfInBounds_toArray, List.set_cons_zero, List.set_cons_succ]
        refine Mem.tkY 5 ?v25 (hy := Or.inl ⟨by rfl, ?y25⟩) (hS := by assumption) (h := ?r25)
        case y25 => (intro w hSw; clear hSw; go_simp; try with_reducible rfl)
        case' r25 => skip
        refine Mem.tkY 6 ?v26 (hy := Or.inl ⟨by rfl, ?y26⟩) (hS := by assumption) (h := ?r26)
        case y26 => (intro w hSw; clear hSw; go_simp; try with_reducible rfl)
        case' r26 => skip
        refine Mem.tkY 7 ?v27 (hy := Or.inl ⟨by rfl, ?y27⟩) (hS := by assumption) (h := ?r27)
        case y27 => (intro w hSw; clear hSw; go_simp; try with_reducible rfl)
        case' r27 => skip
        try simp only [List.getElem_toArray, List.getElem_cons_succ, List.getElem_cons_zero, Act.put, List.setIfInBounds_toArray, List.set_cons_zero, List.set_cons_succ]
        refine Mem.tkY 8 ?v28 (hy := Or.inl ⟨by rfl, ?y28⟩) (hS := by assumption) (h := ?r28)
        case y28 => (intro w hSw; clear hSw; go_simp; try with_reducible rfl)
        case' r28 => skip
        try simp only [List.getElem_toArray, List.getElem_cons_succ, List.getElem_cons_zero, Act.put, List.setIfInBounds_toArray, List.set_cons_zero, List.set_cons_succ]
        refine wpAnyH_ready (rs := [10]) (by kernel_rfl) (by simp) ?_
        refine AllReadyH.cons rfl (fun K hK => ?_) AllReadyH.nil
        rw [if_pos (by rfl)]
        refine wp_storeRow _ _ _ (by rfl) g7 (by rfl) (blk I) (by rfl) (blk zblk) 26 256 blkSize hsI zblk_size (blk_one _) hr7 ?_; have hSnew := below_setRow hHeld hg7 (blk I); have hr8 := hr7.set (blk I); first | (have hL8 := chs_own (kF_weak (kF_setRow ho5 g7 hgl (blk I))); have hR8 := is_own (ns_setRow ho6 g7 hgl (blk I)) hwf) | (have hlw := below_setRow hlc hg7' (blk I); have hL8 := (chs_own (kF_weak ho5)).below hlw; have hR8 := (is_own ho6 hwf).below hlw)
        refine hK.out _ _ ?_ (fun hHeld2 => ?_)
        · exact hSnew
        clear hK K hHeld hSnew
        have hHeld := hHeld2
        clear hHeld2
        try simp only [List.getElem_toArray, List.getElem_cons_succ, List.getElem_cons_zero, Act.put, List.setIfInBounds_toArray, List.set_cons_zero, List.set_cons_succ]
        refine Mem.tkY 11 ?v29 (hy := Or.inl ⟨by rfl, ?y29⟩) (hS := by assumption) (h := ?r29)
        case y29 => (intro w hSw; clear hSw; go_simp; try with_reducible rfl)
        case' r29 => skip
        refine Mem.tkY 12 ?v30 (hy := Or.inl ⟨by rfl, ?y30⟩) (hS := by assumption) (h := ?r30)
        case y30 => (intro w hSw; clear hSw; go_simp; try with_reducible rfl)
        case' r30 => skip
        try simp only [List.getElem_toArray, List.getElem_cons_succ, List.getElem_cons_zero, Act.put, List.setIfInBounds_toArray, List.set_cons_zero, List.set_cons_succ]
        refine wpAnyH_done (by kernel_rfl) ?_ _
        go_wp2_with fail
        go_meet
        case rel => exact ⟨g7, A8, c8, A9, c9, rfl, rfl, rfl, hr8, hL8, hR8, (Below.refl _ _).drew.trans hHeld⟩
      exact AllReadyH.nil
    case rest =>
      obtain ⟨g7, A8, c8, A9, c9, rfl, rfl, rfl, hr7, hL7, hR7, hb7⟩ := hcut
      have hb2 := bb1.trans (hb7.mono bb1.size)
      have r2 : Row wc w.heap.size 22 (blk B) := Row.below r1 hb7
      have hx2 := hx1.below hb7
      clear r1 hx1 r1d hx1d bb1 hb7 CT CW
      generalize wc = w2 at *
      go_wp2_with fail
      refine (CR.out _ hx2).mono ?_
      rintro e w3 ⟨v3, rfl, hown3, hb3⟩
      obtain ⟨A10, c10, rfl, -, -, -, hD⟩ := own_is hown3 hwf
      have hbW := (hb2.trans (hb3.mono hb2.size)).drew
      have p7 := (hr7.below hb3).drew
      have p3 := (r2.below hb3).drew
      have hL3 := (hL7.below hb3).drew
      have hR3 := (hR7.below hb3).drew
      have hD3 := hD.drew
      have hx3 := (hx2.below hb3).drew
      clear hr7 hL7 hR7 hb2 r2 hx2 hown3 hb3 hD CR
      have HIS := Lib.hid (fun g7 w' (h : Row w' g7 26 (blk I)) => sl256 HIL.out h)
      go_wp2_with fail
      refine wp_region_held_drew (S := Go.RowKit.Below ((w3.drew).heap.size) (w3.drew)) (by kernel_rfl) ?hb42 (fun hHeld => ?rest42)
      case hb42 =>
        exact Go.RowKit.Below.refl _ _
      case' rest42 => skip
      refine Mem.tkY 0 ?v43 (hy := Or.inl ⟨by rfl, ?y43⟩) (hS := by assumption) (h := ?r43)
      case y43 => (intro w hSw; clear hSw; go_simp; try with_reducible rfl)
      case' r43 => skip
      refine Mem.tkY 1 ?v44 (hy := Or.inl ⟨by rfl, ?y44⟩) (hS := by assumption) (h := ?r44)
      case y44 => (intro w hSw; clear hSw; go_simp; try with_reducible rfl)
      case' r44 => skip
      refine Mem.tkY 2 ?v45 (hy := Or.inl ⟨by rfl, ?y45⟩) (hS := by assumption) (h := ?r45)
      case y45 => (intro w hSw; clear hSw; go_simp; try with_reducible rfl)
      case' r45 => skip
      try simp only [List.getElem_toArray, List.getElem_cons_succ, List.getElem_cons_zero, Act.put, List.setIfInBounds_toArray, List.set_cons_zero, List.set_cons_succ]
      refine Mem.tkY 3 ?v46 (hy := Or.inl ⟨by rfl, ?y46⟩) (hS := by assumption) (h := ?r46)
      case y46 => (intro w hSw; clear hSw; go_simp; try with_reducible rfl)
      case' r46 => skip
      try simp only [List.getElem_toArray, List.getElem_cons_succ, List.getElem_cons_zero, Act.put, List.setIfInBounds_toArray, List.set_cons_zero, List.set_cons_succ]
      refine wpAnyH_ready (rs := [4]) (by kernel_rfl) (by simp) ?_
      refine AllReadyH.cons rfl (fun K hK => ?_) AllReadyH.nil
      go_simp
      (refine (CI.out _ hx3 (row_by2 p3 HBL.out hBb)).mono ?_; rintro e wb ⟨A4, c4, rfl, -, -, -, hi4, hbl⟩)
      try go_wp2_with fail
      have hSnew := Mem.bl_step hHeld hbl (by first | exact Nat.le_refl _ | omega | (simp <;> omega))
      refine hK.out _ _ ?_ (fun hHeld2 => ?_)
      · exact hSnew
      try replace p7 := p7.below hbl
      try replace p3 := p3.below hbl
      try replace hL3 := hL3.below hbl
      try replace hR3 := hR3.below hbl
      try replace hD3 := hD3.below hbl
      try replace hx3 := hx3.below hbl
      clear hbl
      clear hK K hHeld hSnew
      have hHeld := hHeld2
      clear hHeld2
      try simp only [List.getElem_toArray, List.getElem_cons_succ, List.getElem_cons_zero, Act.put, List.setIfInBounds_toArray, List.set_cons_zero, List.set_cons_succ]
      refine wpAnyH_ready (rs := [5]) (by kernel_rfl) (by simp) ?_
      refine AllReadyH.cons rfl (fun K hK => ?_) AllReadyH.nil
      go_simp
      (refine (same_blk _ A4 256 256 256 c4 I _ (HIS.out g7 _ p7) (HIL.out ▸ hi4.sl_byte)).mono ?_; rintro e wb ⟨rfl, hbl⟩; clear hi4)
      try go_wp2_with fail
      have hSnew := Mem.bl_step hHeld hbl (by first | exact Nat.le_refl _ | omega | (simp <;> omega))
      refine hK.out _ _ ?_ (fun hHeld2 => ?_)
      · exact hSnew
      try replace p7 := p7.below hbl
      try replace p3 := p3.below hbl
      try replace hL3 := hL3.below hbl
      try replace hR3 := hR3.below hbl
      try replace hD3 := hD3.below hbl
      try replace hx3 := hx3.below hbl
      clear hbl
      clear hK K hHeld hSnew
      have hHeld := hHeld2
      clear hHeld2
      try simp only [List.getElem_toArray, List.getElem_cons_succ, List.getElem_cons_zero, Act.put, List.setIfInBounds_toArray, List.set_cons_zero, List.set_cons_succ]
      refine Mem.tkY 6 ?v47 (hy := Or.inl ⟨by rfl, ?y47⟩) (hS := by assumption) (h := ?r47)
      case y47 => (intro w hSw; clear hSw; go_simp; try with_reducible rfl)
      case' r47 => skip
      try simp only [List.getElem_toArray, List.getElem_cons_succ, List.getElem_cons_zero, Act.put, List.setIfInBounds_toArray, List.set_cons_zero, List.set_cons_succ]
      first | refine Mem.tkY 7 undef (hy := Or.inr ⟨by rfl, rfl⟩) (hS := by assumption) (h := ?r48) | (refine Mem.tkY 7 ?v48 (hy := Or.inl ⟨by rfl, ?y48⟩) (hS := by assumption) (h := ?r48); case y48 => (intro w hSw; clear hSw; go_simp; try with_reducible rfl))
      case' r48 => skip
      try simp only [List.getElem_toArray, List.getElem_cons_succ, List.getElem_cons_zero, Act.put, List.setIfInBounds_toArray, List.set_cons_zero, List.set_cons_succ]
      first | refine Mem.tkY 9 undef (hy := Or.inr ⟨by rfl, rfl⟩) (hS := by assumption) (h := ?r49) | (refine Mem.tkY 9 ?v49 (hy := Or.inl ⟨by rfl, ?y49⟩) (hS := by assumption) (h := ?r49); case y49 => (intro w hSw; clear hSw; go_simp; try with_reducible rfl))
      case' r49 => skip
      try simp only [List.getElem_toArray, List.getElem_cons_succ, List.getElem_cons_zero, Act.put, List.setIfInBounds_toArray, List.set_cons_zero, List.set_cons_succ]
      first | refine Mem.tkY 10 undef (hy := Or.inr ⟨by rfl, rfl⟩) (hS := by assumption) (h := ?r50) | (refine Mem.tkY 10 ?v50 (hy := Or.inl ⟨by rfl, ?y50⟩) (hS := by assumption) (h := ?r50); case y50 => (intro w hSw; clear hSw; go_simp; try with_reducible rfl))
      case' r50 => skip
      try simp only [List.getElem_toArray, List.getElem_cons_succ, List.getElem_cons_zero, Act.put, List.setIfInBounds_toArray, List.set_cons_zero, List.set_cons_succ]
      refine wpAnyH_ready (rs := [8]) (by kernel_rfl) (by simp) ?_
      refine AllReadyH.cons rfl (fun K hK => ?_) AllReadyH.nil
      go_simp
      (refine (lof_any A8 c8 L _ hL3 (by omega)).mono ?_; rintro e wb ⟨v8, rfl, ho8, hbl⟩; obtain ⟨A12, c12, rfl, -, -, -, v12⟩ := ho8.rw_; clear ho8)
      try go_wp2_with fail
      have hSnew := Mem.bl_step hHeld hbl (by first | exact Nat.le_refl _ | omega | (simp <;> omega))
      refine hK.out _ _ ?_ (fun hHeld2 => ?_)
      · exact hSnew
      try replace p7 := p7.below hbl
      try replace p3 := p3.below hbl
      try replace hL3 := hL3.below hbl
      try replace hR3 := hR3.below hbl
      try replace hD3 := hD3.below hbl
      try replace hx3 := hx3.below hbl
      clear hbl
      clear hK K hHeld hSnew
      have hHeld := hHeld2
      clear hHeld2
      try simp only [List.getElem_toArray, List.getElem_cons_succ, List.getElem_cons_zero, Act.put, List.setIfInBounds_toArray, List.set_cons_zero, List.set_cons_succ]
      refine wpAnyH_ready (rs := [11]) (by kernel_rfl) (by simp) ?_
      refine AllReadyH.cons rfl (fun K hK => ?_) AllReadyH.nil
      go_simp
      (refine (RWithout_any A c xs A10 c10 R _ hx3 hD3 (by omega)).mono ?_; rw [HL.out]; rintro e wb ⟨v11, rfl, ho11, hbl⟩; obtain ⟨A13, c13, rfl, -, -, -, v13⟩ := ho11.rw_; clear ho11; replace v12 := v12.below hbl)
      try go_wp2_with fail
      have hSnew := Mem.bl_step hHeld hbl (by first | exact Nat.le_refl _ | omega | (simp <;> omega))
      refine hK.out _ _ ?_ (fun hHeld2 => ?_)
      · exact hSnew
      try replace p7 := p7.below hbl
      try replace p3 := p3.below hbl
      try replace hL3 := hL3.below hbl
      try replace hR3 := hR3.below hbl
      try replace hD3 := hD3.below hbl
      try replace hx3 := hx3.below hbl
      clear hbl
      clear hK K hHeld hSnew
      have hHeld := hHeld2
      clear hHeld2
      try simp only [List.getElem_toArray, List.getElem_cons_succ, List.getElem_cons_zero, Act.put, List.setIfInBounds_toArray, List.set_cons_zero, List.set_cons_succ]
      refine wpAnyH_ready (rs := [12]) (by kernel_rfl) (by simp) ?_
      refine AllReadyH.cons rfl (fun K hK => ?_) AllReadyH.nil
      go_simp
      (refine (sameall_yes A12 c12 A13 c13 L _ v12 v13).mono ?_; rintro e wb ⟨rfl, hbl⟩; clear v12 v13)
      try go_wp2_with fail
      have hSnew := Mem.bl_step hHeld hbl (by first | exact Nat.le_refl _ | omega | (simp <;> omega))
      refine hK.out _ _ ?_ (fun hHeld2 => ?_)
      · exact hSnew
      try replace p7 := p7.below hbl
      try replace p3 := p3.below hbl
      try replace hL3 := hL3.below hbl
      try replace hR3 := hR3.below hbl
      try replace hD3 := hD3.below hbl
      try replace hx3 := hx3.below hbl
      clear hbl
      clear hK K hHeld hSnew
      have hHeld := hHeld2
      clear hHeld2
      try simp only [List.getElem_toArray, List.getElem_cons_succ, List.getElem_cons_zero, Act.put, List.setIfInBounds_toArray, List.set_cons_zero, List.set_cons_succ]
      refine Mem.tkY 13 ?v51 (hy := Or.inl ⟨by rfl, ?y51⟩) (hS := by assumption) (h := ?r51)
      case y51 => (intro w hSw; clear hSw; go_simp; try with_reducible rfl)
      case' r51 => skip
      refine Mem.tkY 14 ?v52 (hy := Or.inl ⟨by rfl, ?y52⟩) (hS := by assumption) (h := ?r52)
      case y52 => (intro w hSw; clear hSw; go_simp; try with_reducible rfl)
      case' r52 => skip
      try simp only [List.getElem_toArray, List.getElem_cons_succ, List.getElem_cons_zero, Act.put, List.setIfInBounds_toArray, List.set_cons_zero, List.set_cons_succ]
      first | refine Mem.tkY 15 undef (hy := Or.inr ⟨by rfl, rfl⟩) (hS := by assumption) (h := ?r53) | (refine Mem.tkY 15 ?v53 (hy := Or.inl ⟨by rfl, ?y53⟩) (hS := by assumption) (h := ?r53); case y53 => (intro w hSw; clear hSw; go_simp; try with_reducible rfl))
      case' r53 => skip
      try simp only [List.getElem_toArray, List.getElem_cons_succ, List.getElem_cons_zero, Act.put, List.setIfInBounds_toArray, List.set_cons_zero, List.set_cons_succ]
      first | refine Mem.tkY 16 undef (hy := Or.inr ⟨by rfl, rfl⟩) (hS := by assumption) (h := ?r54) | (refine Mem.tkY 16 ?v54 (hy := Or.inl ⟨by rfl, ?y54⟩) (hS := by assumption) (h := ?r54); case y54 => (intro w hSw; clear hSw; go_simp; try with_reducible rfl))
      case' r54 => skip
      try simp only [List.getElem_toArray, List.getElem_cons_succ, List.getElem_cons_zero, Act.put, List.setIfInBounds_toArray, List.set_cons_zero, List.set_cons_succ]
      refine wpAnyH_ready (rs := [17]) (by kernel_rfl) (by simp) ?_
      refine AllReadyH.cons rfl (fun K hK => ?_) AllReadyH.nil
      go_simp
      (refine (ints_yes A9 A10 _ _ c9 c10 R _ hR3.sl_int hD3.sl_int).mono ?_; rintro e wb ⟨rfl, hbl⟩)
      try go_wp2_with fail
      have hSnew := Mem.bl_step hHeld hbl (by first | exact Nat.le_refl _ | omega | (simp <;> omega))
      refine hK.out _ _ ?_ (fun hHeld2 => ?_)
      · exact hSnew
      try replace p7 := p7.below hbl
      try replace p3 := p3.below hbl
      try replace hL3 := hL3.below hbl
      try replace hR3 := hR3.below hbl
      try replace hD3 := hD3.below hbl
      try replace hx3 := hx3.below hbl
      clear hbl
      clear hK K hHeld hSnew
      have hHeld := hHeld2
      clear hHeld2
      try simp only [List.getElem_toArray, List.getElem_cons_succ, List.getElem_cons_zero, Act.put, List.setIfInBounds_toArray, List.set_cons_zero, List.set_cons_succ]
      refine Mem.tkY 18 ?v55 (hy := Or.inl ⟨by rfl, ?y55⟩) (hS := by assumption) (h := ?r55)
      case y55 => (intro w hSw; clear hSw; go_simp; try with_reducible rfl)
      case' r55 => skip
      refine Mem.tkY 19 ?v56 (hy := Or.inl ⟨by rfl, ?y56⟩) (hS := by assumption) (h := ?r56)
      case y56 => (intro w hSw; clear hSw; go_simp; try with_reducible rfl)
      case' r56 => skip
      try simp only [List.getElem_toArray, List.getElem_cons_succ, List.getElem_cons_zero, Act.put, List.setIfInBounds_toArray, List.set_cons_zero, List.set_cons_succ]
      refine wpAnyH_ready (rs := [20]) (by kernel_rfl) (by simp) ?_
      refine AllReadyH.cons rfl (fun K hK => ?_) AllReadyH.nil
      go_simp
      (refine (works10 _).mono ?_; rintro e wb ⟨rfl, hbl⟩)
      try go_wp2_with fail
      have hSnew := Mem.bl_step hHeld hbl (by first | exact Nat.le_refl _ | omega | (simp <;> omega))
      refine hK.out _ _ ?_ (fun hHeld2 => ?_)
      · exact hSnew
      try replace p7 := p7.below hbl
      try replace p3 := p3.below hbl
      try replace hL3 := hL3.below hbl
      try replace hR3 := hR3.below hbl
      try replace hD3 := hD3.below hbl
      try replace hx3 := hx3.below hbl
      clear hbl
      clear hK K hHeld hSnew
      have hHeld := hHeld2
      clear hHeld2
      try simp only [List.getElem_toArray, List.getElem_cons_succ, List.getElem_cons_zero, Act.put, List.setIfInBounds_toArray, List.set_cons_zero, List.set_cons_succ]
      refine Mem.tkY 21 ?v57 (hy := Or.inl ⟨by rfl, ?y57⟩) (hS := by assumption) (h := ?r57)
      case y57 => (intro w hSw; clear hSw; go_simp; try with_reducible rfl)
      case' r57 => skip
      refine Mem.tkY 22 ?v58 (hy := Or.inl ⟨by rfl, ?y58⟩) (hS := by assumption) (h := ?r58)
      case y58 => (intro w hSw; clear hSw; go_simp; try with_reducible rfl)
      case' r58 => skip
      try simp only [List.getElem_toArray, List.getElem_cons_succ, List.getElem_cons_zero, Act.put, List.setIfInBounds_toArray, List.set_cons_zero, List.set_cons_succ]
      refine wpAnyH_done (by kernel_rfl) ?_ _
      go_wp2
      go_ret
      exact ⟨rfl, hbW.trans (hHeld.mono hbW.size)⟩
end Go.Proofs.Yteeodeooicoekaa.Rd
