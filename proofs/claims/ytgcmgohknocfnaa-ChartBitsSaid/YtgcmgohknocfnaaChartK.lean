/- The walk of the statement ChartBits. -/
import Derived.Test.YtgcmgohknocfnaaChartR
import Derived.Test.YtgcmgohknocfnaaChartF
import Derived.Deep.RegionHeld3
import Derived.BigQuiet
namespace Go.Proofs.Ytgcmgohknocfnaa.Chart
open Go.RowKit Go.Proofs.Ytgcmgohknocfnaa.Mem Go.Proofs.Ytgcmgohknocfnaa.Open Go.Proofs.Ytgcmgohknocfnaa.Bits Go.Proofs.Ytgcmgohknocfnaa.RefD Go.Proofs.Ytgcmgohknocfnaa.Same
set_option linter.unusedVariables false
set_option linter.unusedSimpArgs false

theorem with_eq (l : List Nat) (i : Int) (on : Bool) (hl : l.length = 256) (hb : ∀ x ∈ l, x < 256) :
    blockL (if 0 ≤ i ∧ i < 2048 then (bitsL l).set i.toNat on else bitsL l) = withB l i on := by
  have hlen : (if 0 ≤ i ∧ i < 2048 then (bitsL l).set i.toNat on else bitsL l).length = 2048 := by
    split
    · rw [List.length_set, bitsL_length, hl]
    · rw [bitsL_length, hl]
  refine bits_ext _ _ (by rw [blockL_length, hlen, withB_length, hl]) (blockL_byte _) (withB_byte l i on hb) fun j hj => ?_
  rw [blockL_length, hlen] at hj
  rw [blockL_bit _ (by rw [hlen]) j (by omega), withB_bit l hl i on j (by omega)]
  by_cases hi : 0 ≤ i ∧ i < 2048
  · rw [if_pos hi, List.getD_eq_getElem?_getD, List.getElem?_set, bitsL_length, hl]
    by_cases e : i.toNat = j
    · rw [if_pos e, if_pos (by omega), if_pos ⟨hi.1, hi.2, e.symm⟩]; rfl
    · rw [if_neg e, if_neg (fun h => e h.2.2.symm), bitsL_get l j (by omega)]; rfl
  · rw [if_neg hi, if_neg (fun h => hi ⟨h.1, h.2.1⟩), List.getD_eq_getElem?_getD, bitsL_get l j (by omega)]; rfl
theorem has_eq (l : List Nat) (i : Int) (hl : l.length = 256) : (if 0 ≤ i ∧ i < 8 * ((256 : Nat) : Int) then bitAt l i.toNat else false) = hasB l i := by
  by_cases hi : 0 ≤ i ∧ i < 2048
  · obtain ⟨k, rfl⟩ := Int.eq_ofNat_of_zero_le hi.1
    rw [if_pos (by omega), hasB_bit l k (by omega), Int.toNat_natCast]
  · rw [if_neg (by omega)]
    unfold hasB
    by_cases h0 : 0 ≤ i
    · rw [if_pos h0, if_neg (by omega)]
    · rw [if_neg h0]

/-- What the patch of a bit is, in the range and out of it. -/
def patIs (w : World) (l2 : List Nat) (i a : Int) (A : Option Addr) (n : Nat) : Prop :=
  (i < 0 ∨ 2048 ≤ i → a = 0 ∧ n = 0) ∧ ∀ k : Nat, i = (k : Int) → k < 2048 → a = ((k / 8 : Nat) : Int) ∧ n = 1 ∧ ∃ (g x : Nat), A = some ⟨g, 0, none⟩ ∧ w.heap[g]? = some (.cells #[.int .u8 (x : Int)] 5 (0, 0)) ∧ l2[k / 8]? = some x
theorem patch_any (l : List Nat) (i : Int) (on : Bool) (w : World) (hl : l.length = 256) (hb : ∀ x ∈ l, x < 256) :
    Calls Try.prog 44 #[.agg (blk l), .int .i64 i, .bool on] w fun e w' => ∃ a A n, e = .returned (.agg #[.int .i64 a, .slice A n n]) ∧ patIs w' (withB l i on) i a A n ∧ Below w.heap.size w w' := by
  by_cases hi : i < 0 ∨ 2048 ≤ i
  · refine (patch_out l i on w hi).mono ?_
    rintro e w' ⟨rfl, hbel⟩
    exact ⟨0, none, 0, rfl, ⟨fun _ => ⟨rfl, rfl⟩, fun k hk h => by omega⟩, hbel⟩
  · obtain ⟨k, rfl⟩ := Int.eq_ofNat_of_zero_le (show 0 ≤ i by omega)
    have hk : k < 2048 := by omega
    have hlen : k / 8 < (withB l (k : Int) on).length := by rw [withB_length, hl]; omega
    refine (patch_in l k on w hl hb hk _ (List.getElem?_eq_getElem hlen)).mono ?_
    rintro e w' ⟨g, rfl, hg, _, hbel⟩
    exact ⟨_, _, 1, rfl, ⟨fun h => absurd h hi, fun k' hk' _ => by
      obtain rfl : k = k' := by omega
      exact ⟨rfl, rfl, g, _, rfl, hg, List.getElem?_eq_getElem hlen⟩⟩, hbel⟩

set_option maxHeartbeats 2500000 in
set_option maxRecDepth 100000 in
theorem bits_core (l l2 : List Nat) (i : Int) (on h1 h2 : Bool) (w : World) (hl : l.length = 256) (hl2 : l2.length = 256)
    (CW : Hid (∀ w', Calls Try.prog 30 #[.agg (blk l), .int .i64 i, .bool on] w' fun e w2 => e = .returned (.agg (blk l2)) ∧ Below w'.heap.size w' w2))
    (CR : Hid (∀ A n c w', Sl w' V8 A n l → Calls Try.prog 43 #[.slice A n c, .int .i64 i, .bool on] w' fun e w2 => ∃ v, e = .returned v ∧ Own w2 w'.heap.size 5 V8 v l2 ∧ Below w'.heap.size w' w2))
    (CP : Hid (∀ w', Calls Try.prog 44 #[.agg (blk l), .int .i64 i, .bool on] w' fun e w2 => ∃ a A n, e = .returned (.agg #[.int .i64 a, .slice A n n]) ∧ patIs w2 l2 i a A n ∧ Below w'.heap.size w' w2))
    (CH : Hid (∀ w', Calls Try.prog 31 #[.agg (blk l), .int .i64 i] w' fun e w2 => e = .returned (.bool h1) ∧ w2 = w'.alloc (.cells (blk l) 41)))
    (CG : Hid (∀ A c w', Sl w' V8 A 256 l → Calls Try.prog 45 #[.slice A 256 c, .int .i64 i] w' fun e w2 => e = .returned (.bool h2) ∧ w' = w2))
    (hhh : (h1 == h2) = true) :
    Calls Try.prog 11 #[.agg (blk l), .int .i64 i, .bool on] w fun e w' => e = .returned (.bool true) ∧ Below w.heap.size w w' := by
  have hs : (blk l).size = 256 := by rw [blk_size]; exact hl
  have hs2 : (blk l2).size = 256 := by rw [blk_size]; exact hl2
  have hz : (blk zblk).size = 256 := by rw [blk_size]; exact zblk_length
  have hb0 := Box.new w 40 l
  have hb1 := hb0.alloc (.cells (blk zblk) 41)
  have hb2 : Box ((w.alloc (.cells (blk l) 40)).alloc (.cells (blk zblk) 41)) (w.heap.size + 1) 41 zblk := heap_alloc2_new w _ _
  have hc1 := hb1.far (k := w.heap.size + 1) (by omega) (blk l)
  have hc2 := hb2.row l
  have hbel := below_setRow (((Below.refl w.heap.size w).alloc (Nat.le_refl _) (.cells (blk l) 40)).alloc (by simp) (.cells (blk zblk) 41)) (g := w.heap.size + 1) (by omega) (blk l)
  have hb2' := Box.new (w.alloc (.cells (blk l) 40)) 41 zblk
  go_enter Try.func11, Try.ntmps11
  go_wp2_with (first
    | (with_reducible refine wpList_load rfl 40 _ rfl _ rfl 40 (blk l) 256 5 fullUnd fullSize hs hb0.out ?_)
    | (with_reducible refine wpList_allocA rfl 41 rfl _ blkZero ?_)
    | (with_reducible refine wpList_store rfl 41 _ _ rfl _ rfl _ rfl _ 41 256 blkSize hs hz (blk_one _) hb2'.out ?_))
  refine wp_loadA 41 _ rfl _ rfl 41 (blk l) 256 5 blkUnd blkSize hs (hb2'.row l).out ?_
  clear hb2'
  go_wp2_with fail
  generalize ((w.alloc (.cells (blk l) 40)).alloc (.cells (blk zblk) 41)).setRow (w.heap.size + 1) (blk l) = w1 at hc1 hc2 hbel ⊢
  clear hb0 hb1 hb2
  refine (CW.out _).mono ?_
  rintro e w2 ⟨rfl, hbel2⟩
  have hd1 := hc1.below hbel2 hc1.lt
  have hd2 := hc2.below hbel2 hc2.lt
  have hbel3 := hbel.trans (hbel2.mono hbel.size)
  clear hc1 hc2 hbel hbel2
  have hn := Box.new w2 41 zblk
  have hsz := hbel3.size
  have hlt1 := hd1.lt
  have hlt2 := hd2.lt
  have he1 := (hd1.alloc (.cells (blk zblk) 41)).far (k := w2.heap.size) (by omega) (blk l2)
  have he2 := (hd2.alloc (.cells (blk zblk) 41)).far (k := w2.heap.size) (by omega) (blk l2)
  have he3 := hn.row l2
  have hbel4 := below_setRow (hbel3.alloc hsz (.cells (blk zblk) 41)) (g := w2.heap.size) hsz (blk l2)
  go_wp2_with (first
    | (with_reducible refine wpList_allocA rfl 41 rfl _ blkZero ?_)
    | (with_reducible refine wpList_store rfl 41 _ _ rfl _ rfl _ rfl _ 41 256 blkSize hs2 hz (blk_one _) hn.out ?_))
  refine (CR.out _ _ _ _ (sl256 hl he1.out)).mono ?_
  rintro e w3 ⟨v3, rfl, hown3, hbel5⟩
  have hsz3 := he1.lt
  have f1 := he1.below hbel5 he1.lt
  have f2 := he2.below hbel5 he2.lt
  have f3 := he3.below hbel5 he3.lt
  have hbel6 := hbel4.trans (hbel5.mono hbel4.size)
  have hown3' := hown3.mono hbel4.size
  obtain ⟨A3, c3, rfl⟩ := hown3.slice
  clear he1 he2 he3 hbel3 hbel4 hbel5 hn hown3 hd1 hd2 hlt1 hlt2 hsz hsz3
  go_wp2_with (with_reducible refine wpList_load rfl 41 _ rfl _ rfl 41 (blk l) 256 5 blkUnd blkSize hs f2.out ?_)
  refine (CP.out _).mono ?_
  rintro e w4 ⟨pa, PA, pn, rfl, hpat, hbel7⟩
  have g1 := f1.below hbel7 f1.lt
  have g2 := f2.below hbel7 f2.lt
  have g3 := f3.below hbel7 f3.lt
  have gw := hown3'.below hbel7
  have hbel8 := hbel6.trans (hbel7.mono hbel6.size)
  clear f1 f2 f3 hown3' hbel6 hbel7
  have hu := blkUnd
  have hi256 : (Try.prog.info? 41).map (·.size) = some (blk l).toList.length := by rw [Array.length_toList, hs]; exact blkSize
  have hln : l2.length = 256 := hl2
  obtain ⟨gA, cA, hA⟩ := gw.slice_pos (by omega)
  obtain ⟨rfl, rfl⟩ : A3 = some ⟨gA, 0, none⟩ ∧ c3 = cA := by
    injection hA with e1 e2 e3
    exact ⟨e1, e3⟩
  clear hA
  have ht1 := g1.alloc (.cells #[.int .i64 pa, .slice PA pn pn] 75)
  have ht2 := g2.alloc (.cells #[.int .i64 pa, .slice PA pn pn] 75)
  have ht3 := g3.alloc (.cells #[.int .i64 pa, .slice PA pn pn] 75)
  have htw := gw.alloc (.cells #[.int .i64 pa, .slice PA pn pn] 75)
  have htb := hbel8.alloc hbel8.size (.cells #[.int .i64 pa, .slice PA pn pn] 75)
  have hp := heap_alloc_new w4 (.cells #[.int .i64 pa, .slice PA pn pn] 75)
  by_cases hi : i < 0 ∨ 2048 ≤ i
  · obtain ⟨rfl, rfl⟩ := hpat.1 hi
    clear hpat hp g1 g2 g3 gw hbel8
    rcases hi with hi | hi
    · go_wp2
      generalize w4.alloc (.cells #[.int .i64 0, .slice PA 0 0] 75) = w5 at ht1 ht2 ht3 htw htb ⊢
      refine wp_region_noPanic ?_
      refine wp_region_held_drew (S := fun w' => w'.rangeAt (w.heap.size + 1) 0 (blk l).toList) (by kernel_rfl) ?hb2 (fun hHeld => ?rest2)
      case hb2 =>
        exact ht2.range
      case' rest2 => skip
      refine' wpAnyH_take (i := 0) (v := _) rfl (by kernel_rfl) (by kernel_rfl) (by kernel_rfl) (fun _ _ _ h => h) (yieldsIf_load_mid (by rfl) _ _ rfl _ _ rfl _ _ ?hS3 ?hu3 ?hd3 ?hi3) (by assumption) ?rest3
      case hS3 =>
        intro w hSw
        try dsimp only at hSw
        try go_split_ands
        assumption
      case hu3 => exact hu
      case hd3 => rfl
      case hi3 => exact hi256
      case' rest3 => skip
      try simp only [List.getElem_toArray, List.getElem_cons_succ, List.getElem_cons_zero, Act.put, List.setIfInBounds_toArray, List.set_cons_zero, List.set_cons_succ]
      refine wpAnyH_take (i := 1) (v := ?v4) rfl (by kernel_rfl) (by kernel_rfl) (by kernel_rfl) (fun _ _ _ h => h) (Or.inl ⟨by rfl, ?hy4⟩) (by assumption) ?rest4
      case hy4 =>
        intro w hSw
        try dsimp only at hSw
        try go_split_ands
        go_simp
        try with_reducible rfl
      case' rest4 => skip
      try simp only [List.getElem_toArray, List.getElem_cons_succ, List.getElem_cons_zero, Act.put, List.setIfInBounds_toArray, List.set_cons_zero, List.set_cons_succ]
      refine wpAnyH_take (i := 3) (v := ?v5) rfl (by kernel_rfl) (by kernel_rfl) (by kernel_rfl) (fun _ _ _ h => h) (Or.inl ⟨by rfl, ?hy5⟩) (by assumption) ?rest5
      case hy5 =>
        intro w hSw
        try dsimp only at hSw
        try go_split_ands
        go_simp
        try with_reducible rfl
      case' rest5 => skip
      try simp only [List.getElem_toArray, List.getElem_cons_succ, List.getElem_cons_zero, Act.put, List.setIfInBounds_toArray, List.set_cons_zero, List.set_cons_succ]
      refine wpAnyH_take (i := 4) (v := ?v6) rfl (by kernel_rfl) (by kernel_rfl) (by kernel_rfl) (fun _ _ _ h => h) (Or.inl ⟨by rfl, ?hy6⟩) (by assumption) ?rest6
      case hy6 =>
        intro w hSw
        try dsimp only at hSw
        try go_split_ands
        go_simp
        try with_reducible rfl
      case' rest6 => skip
      try simp only [List.getElem_toArray, List.getElem_cons_succ, List.getElem_cons_zero, Act.put, List.setIfInBounds_toArray, List.set_cons_zero, List.set_cons_succ]
      refine wpAnyH_ready (rs := [2]) (by kernel_rfl) (by simp) ?_
      refine AllReadyH.cons rfl (fun K hK => ?_) AllReadyH.nil
      go_simp
      (refine (CH.out _).mono ?_; rintro e w6 ⟨rfl, hw6⟩; have ha1 := ht1.drew.alloc (.cells (blk l) 41); have ha2 := ht2.drew.alloc (.cells (blk l) 41); have ha3 := ht3.drew.alloc (.cells (blk l) 41); have haw := htw.drew.alloc (.cells (blk l) 41); have hbe := htb.drew.alloc htb.size (.cells (blk l) 41); rw [← hw6] at ha1 ha2 ha3 haw hbe; clear hw6)
      try go_wp2_with fail
      refine hK.out _ _ ?_ (fun hHeld2 => ?_)
      · exact ha2.range
      clear hK K hHeld
      have hHeld := hHeld2
      clear hHeld2
      try simp only [List.getElem_toArray, List.getElem_cons_succ, List.getElem_cons_zero, Act.put, List.setIfInBounds_toArray, List.set_cons_zero, List.set_cons_succ]
      refine wpAnyH_ready (rs := [5]) (by kernel_rfl) (by simp) ?_
      refine AllReadyH.cons rfl (fun K hK => ?_) AllReadyH.nil
      go_simp
      (refine (CG.out _ _ _ (sl256 hl ha1.out)).mono ?_; rintro e w7 ⟨rfl, rfl⟩)
      try go_wp2_with fail
      refine hK.out _ _ ?_ (fun hHeld2 => ?_)
      · exact ha2.range
      clear hK K hHeld
      have hHeld := hHeld2
      clear hHeld2
      try simp only [List.getElem_toArray, List.getElem_cons_succ, List.getElem_cons_zero, Act.put, List.setIfInBounds_toArray, List.set_cons_zero, List.set_cons_succ]
      refine wpAnyH_take (i := 6) (v := ?v9) rfl (by kernel_rfl) (by kernel_rfl) (by kernel_rfl) (fun _ _ _ h => h) (Or.inl ⟨by rfl, ?hy9⟩) (by assumption) ?rest9
      case hy9 =>
        intro w hSw
        try dsimp only at hSw
        try go_split_ands
        go_simp
        try with_reducible rfl
      case' rest9 => skip
      try simp only [List.getElem_toArray, List.getElem_cons_succ, List.getElem_cons_zero, Act.put, List.setIfInBounds_toArray, List.set_cons_zero, List.set_cons_succ]
      refine wpAnyH_take (i := 7) (v := ?v10) rfl (by kernel_rfl) (by kernel_rfl) (by kernel_rfl) (fun _ _ _ h => h) (Or.inl ⟨by rfl, ?hy10⟩) (by assumption) ?rest10
      case hy10 =>
        intro w hSw
        try dsimp only at hSw
        try go_split_ands
        go_simp
        try with_reducible rfl
      case' rest10 => skip
      try simp only [List.getElem_toArray, List.getElem_cons_succ, List.getElem_cons_zero, Act.put, List.setIfInBounds_toArray, List.set_cons_zero, List.set_cons_succ]
      refine wpAnyH_take (i := 8) (v := ?v11) rfl (by kernel_rfl) (by kernel_rfl) (by kernel_rfl) (fun _ _ _ h => h) (Or.inl ⟨by rfl, ?hy11⟩) (by assumption) ?rest11
      case hy11 =>
        intro w hSw
        try dsimp only at hSw
        try go_split_ands
        go_simp
        try with_reducible rfl
      case' rest11 => skip
      try simp only [List.getElem_toArray, List.getElem_cons_succ, List.getElem_cons_zero, Act.put, List.setIfInBounds_toArray, List.set_cons_zero, List.set_cons_succ]
      refine wpAnyH_take (i := 9) (v := ?v12) rfl (by kernel_rfl) (by kernel_rfl) (by kernel_rfl) (fun _ _ _ h => h) (Or.inl ⟨by rfl, ?hy12⟩) (by assumption) ?rest12
      case hy12 =>
        intro w hSw
        try dsimp only at hSw
        try go_split_ands
        go_simp
        try with_reducible rfl
      case' rest12 => skip
      try simp only [List.getElem_toArray, List.getElem_cons_succ, List.getElem_cons_zero, Act.put, List.setIfInBounds_toArray, List.set_cons_zero, List.set_cons_succ]
      refine wpAnyH_ready (rs := [10]) (by kernel_rfl) (by simp) ?_
      refine AllReadyH.cons rfl (fun K hK => ?_) AllReadyH.nil
      go_simp
      (have haS := haw.sl.2; rw [hl2] at haS; refine (same_any _ _ _ _ _ _ l2 l2 _ (sl256 hl2 ha3.out) haS).mono ?_; rw [decide_eq_true (rfl : l2 = l2)]; rintro e w8 ⟨rfl, q8, hw8⟩; have hk2 := ha2.drewN q8; have hkb := bdrewN hbe q8; rw [← hw8] at hk2 hkb; clear hw8)
      try go_wp2_with fail
      refine hK.out _ _ ?_ (fun hHeld2 => ?_)
      · exact hk2.range
      clear hK K hHeld
      have hHeld := hHeld2
      clear hHeld2
      try simp only [List.getElem_toArray, List.getElem_cons_succ, List.getElem_cons_zero, Act.put, List.setIfInBounds_toArray, List.set_cons_zero, List.set_cons_succ]
      refine wpAnyH_take (i := 11) (v := ?v14) rfl (by kernel_rfl) (by kernel_rfl) (by kernel_rfl) (fun _ _ _ h => h) (Or.inl ⟨by rfl, ?hy14⟩) (by assumption) ?rest14
      case hy14 =>
        intro w hSw
        try dsimp only at hSw
        try go_split_ands
        go_simp
        try with_reducible rfl
      case' rest14 => skip
      try simp only [List.getElem_toArray, List.getElem_cons_succ, List.getElem_cons_zero, Act.put, List.setIfInBounds_toArray, List.set_cons_zero, List.set_cons_succ]
      refine wpAnyH_take (i := 12) (v := ?v15) rfl (by kernel_rfl) (by kernel_rfl) (by kernel_rfl) (fun _ _ _ h => h) (Or.inl ⟨by rfl, ?hy15⟩) (by assumption) ?rest15
      case hy15 =>
        intro w hSw
        try dsimp only at hSw
        try go_split_ands
        go_simp
        try with_reducible rfl
      case' rest15 => skip
      try simp only [List.getElem_toArray, List.getElem_cons_succ, List.getElem_cons_zero, Act.put, List.setIfInBounds_toArray, List.set_cons_zero, List.set_cons_succ]
      refine wpAnyH_ready (rs := [13]) (by kernel_rfl) (by simp) ?_
      refine AllReadyH.cons rfl (fun K hK => ?_) AllReadyH.nil
      go_simp
      (refine (works_any _).mono ?_; rintro e w9 ⟨rfl, hbel15⟩)
      try go_wp2_with fail
      refine hK.out _ _ ?_ (fun hHeld2 => ?_)
      · exact (hk2.below hbel15 hk2.lt).range
      clear hK K hHeld
      have hHeld := hHeld2
      clear hHeld2
      try simp only [List.getElem_toArray, List.getElem_cons_succ, List.getElem_cons_zero, Act.put, List.setIfInBounds_toArray, List.set_cons_zero, List.set_cons_succ]
      refine wpAnyH_take (i := 14) (v := ?v17) rfl (by kernel_rfl) (by kernel_rfl) (by kernel_rfl) (fun _ _ _ h => h) (Or.inl ⟨by rfl, ?hy17⟩) (by assumption) ?rest17
      case hy17 =>
        intro w hSw
        try dsimp only at hSw
        try go_split_ands
        go_simp
        try with_reducible rfl
      case' rest17 => skip
      try simp only [List.getElem_toArray, List.getElem_cons_succ, List.getElem_cons_zero, Act.put, List.setIfInBounds_toArray, List.set_cons_zero, List.set_cons_succ]
      refine wpAnyH_take (i := 15) (v := ?v18) rfl (by kernel_rfl) (by kernel_rfl) (by kernel_rfl) (fun _ _ _ h => h) (Or.inl ⟨by rfl, ?hy18⟩) (by assumption) ?rest18
      case hy18 =>
        intro w hSw
        try dsimp only at hSw
        try go_split_ands
        go_simp
        try with_reducible rfl
      case' rest18 => skip
      try simp only [List.getElem_toArray, List.getElem_cons_succ, List.getElem_cons_zero, Act.put, List.setIfInBounds_toArray, List.set_cons_zero, List.set_cons_succ]
      refine wpAnyH_done (by kernel_rfl) ?_ _
      refine NoPanic.normal ?_
      go_wp2
      go_ret
      exact ⟨rfl, hkb.trans (hbel15.mono hkb.size)⟩
    · have hi0 : ¬ i < 0 := by omega
      go_wp2
      generalize w4.alloc (.cells #[.int .i64 0, .slice PA 0 0] 75) = w5 at ht1 ht2 ht3 htw htb ⊢
      refine wp_region_noPanic ?_
      refine wp_region_held_drew (S := fun w' => w'.rangeAt (w.heap.size + 1) 0 (blk l).toList) (by kernel_rfl) ?hb21 (fun hHeld => ?rest21)
      case hb21 =>
        exact ht2.range
      case' rest21 => skip
      refine' wpAnyH_take (i := 0) (v := _) rfl (by kernel_rfl) (by kernel_rfl) (by kernel_rfl) (fun _ _ _ h => h) (yieldsIf_load_mid (by rfl) _ _ rfl _ _ rfl _ _ ?hS22 ?hu22 ?hd22 ?hi22) (by assumption) ?rest22
      case hS22 =>
        intro w hSw
        try dsimp only at hSw
        try go_split_ands
        assumption
      case hu22 => exact hu
      case hd22 => rfl
      case hi22 => exact hi256
      case' rest22 => skip
      try simp only [List.getElem_toArray, List.getElem_cons_succ, List.getElem_cons_zero, Act.put, List.setIfInBounds_toArray, List.set_cons_zero, List.set_cons_succ]
      refine wpAnyH_take (i := 1) (v := ?v23) rfl (by kernel_rfl) (by kernel_rfl) (by kernel_rfl) (fun _ _ _ h => h) (Or.inl ⟨by rfl, ?hy23⟩) (by assumption) ?rest23
      case hy23 =>
        intro w hSw
        try dsimp only at hSw
        try go_split_ands
        go_simp
        try with_reducible rfl
      case' rest23 => skip
      try simp only [List.getElem_toArray, List.getElem_cons_succ, List.getElem_cons_zero, Act.put, List.setIfInBounds_toArray, List.set_cons_zero, List.set_cons_succ]
      refine wpAnyH_take (i := 3) (v := ?v24) rfl (by kernel_rfl) (by kernel_rfl) (by kernel_rfl) (fun _ _ _ h => h) (Or.inl ⟨by rfl, ?hy24⟩) (by assumption) ?rest24
      case hy24 =>
        intro w hSw
        try dsimp only at hSw
        try go_split_ands
        go_simp
        try with_reducible rfl
      case' rest24 => skip
      try simp only [List.getElem_toArray, List.getElem_cons_succ, List.getElem_cons_zero, Act.put, List.setIfInBounds_toArray, List.set_cons_zero, List.set_cons_succ]
      refine wpAnyH_take (i := 4) (v := ?v25) rfl (by kernel_rfl) (by kernel_rfl) (by kernel_rfl) (fun _ _ _ h => h) (Or.inl ⟨by rfl, ?hy25⟩) (by assumption) ?rest25
      case hy25 =>
        intro w hSw
        try dsimp only at hSw
        try go_split_ands
        go_simp
        try with_reducible rfl
      case' rest25 => skip
      try simp only [List.getElem_toArray, List.getElem_cons_succ, List.getElem_cons_zero, Act.put, List.setIfInBounds_toArray, List.set_cons_zero, List.set_cons_succ]
      refine wpAnyH_ready (rs := [2]) (by kernel_rfl) (by simp) ?_
      refine AllReadyH.cons rfl (fun K hK => ?_) AllReadyH.nil
      go_simp
      (refine (CH.out _).mono ?_; rintro e w6 ⟨rfl, hw6⟩; have ha1 := ht1.drew.alloc (.cells (blk l) 41); have ha2 := ht2.drew.alloc (.cells (blk l) 41); have ha3 := ht3.drew.alloc (.cells (blk l) 41); have haw := htw.drew.alloc (.cells (blk l) 41); have hbe := htb.drew.alloc htb.size (.cells (blk l) 41); rw [← hw6] at ha1 ha2 ha3 haw hbe; clear hw6)
      try go_wp2_with fail
      refine hK.out _ _ ?_ (fun hHeld2 => ?_)
      · exact ha2.range
      clear hK K hHeld
      have hHeld := hHeld2
      clear hHeld2
      try simp only [List.getElem_toArray, List.getElem_cons_succ, List.getElem_cons_zero, Act.put, List.setIfInBounds_toArray, List.set_cons_zero, List.set_cons_succ]
      refine wpAnyH_ready (rs := [5]) (by kernel_rfl) (by simp) ?_
      refine AllReadyH.cons rfl (fun K hK => ?_) AllReadyH.nil
      go_simp
      (refine (CG.out _ _ _ (sl256 hl ha1.out)).mono ?_; rintro e w7 ⟨rfl, rfl⟩)
      try go_wp2_with fail
      refine hK.out _ _ ?_ (fun hHeld2 => ?_)
      · exact ha2.range
      clear hK K hHeld
      have hHeld := hHeld2
      clear hHeld2
      try simp only [List.getElem_toArray, List.getElem_cons_succ, List.getElem_cons_zero, Act.put, List.setIfInBounds_toArray, List.set_cons_zero, List.set_cons_succ]
      refine wpAnyH_take (i := 6) (v := ?v28) rfl (by kernel_rfl) (by kernel_rfl) (by kernel_rfl) (fun _ _ _ h => h) (Or.inl ⟨by rfl, ?hy28⟩) (by assumption) ?rest28
      case hy28 =>
        intro w hSw
        try dsimp only at hSw
        try go_split_ands
        go_simp
        try with_reducible rfl
      case' rest28 => skip
      try simp only [List.getElem_toArray, List.getElem_cons_succ, List.getElem_cons_zero, Act.put, List.setIfInBounds_toArray, List.set_cons_zero, List.set_cons_succ]
      refine wpAnyH_take (i := 7) (v := ?v29) rfl (by kernel_rfl) (by kernel_rfl) (by kernel_rfl) (fun _ _ _ h => h) (Or.inl ⟨by rfl, ?hy29⟩) (by assumption) ?rest29
      case hy29 =>
        intro w hSw
        try dsimp only at hSw
        try go_split_ands
        go_simp
        try with_reducible rfl
      case' rest29 => skip
      try simp only [List.getElem_toArray, List.getElem_cons_succ, List.getElem_cons_zero, Act.put, List.setIfInBounds_toArray, List.set_cons_zero, List.set_cons_succ]
      refine wpAnyH_take (i := 8) (v := ?v30) rfl (by kernel_rfl) (by kernel_rfl) (by kernel_rfl) (fun _ _ _ h => h) (Or.inl ⟨by rfl, ?hy30⟩) (by assumption) ?rest30
      case hy30 =>
        intro w hSw
        try dsimp only at hSw
        try go_split_ands
        go_simp
        try with_reducible rfl
      case' rest30 => skip
      try simp only [List.getElem_toArray, List.getElem_cons_succ, List.getElem_cons_zero, Act.put, List.setIfInBounds_toArray, List.set_cons_zero, List.set_cons_succ]
      refine wpAnyH_take (i := 9) (v := ?v31) rfl (by kernel_rfl) (by kernel_rfl) (by kernel_rfl) (fun _ _ _ h => h) (Or.inl ⟨by rfl, ?hy31⟩) (by assumption) ?rest31
      case hy31 =>
        intro w hSw
        try dsimp only at hSw
        try go_split_ands
        go_simp
        try with_reducible rfl
      case' rest31 => skip
      try simp only [List.getElem_toArray, List.getElem_cons_succ, List.getElem_cons_zero, Act.put, List.setIfInBounds_toArray, List.set_cons_zero, List.set_cons_succ]
      refine wpAnyH_ready (rs := [10]) (by kernel_rfl) (by simp) ?_
      refine AllReadyH.cons rfl (fun K hK => ?_) AllReadyH.nil
      go_simp
      (have haS := haw.sl.2; rw [hl2] at haS; refine (same_any _ _ _ _ _ _ l2 l2 _ (sl256 hl2 ha3.out) haS).mono ?_; rw [decide_eq_true (rfl : l2 = l2)]; rintro e w8 ⟨rfl, q8, hw8⟩; have hk2 := ha2.drewN q8; have hkb := bdrewN hbe q8; rw [← hw8] at hk2 hkb; clear hw8)
      try go_wp2_with fail
      refine hK.out _ _ ?_ (fun hHeld2 => ?_)
      · exact hk2.range
      clear hK K hHeld
      have hHeld := hHeld2
      clear hHeld2
      try simp only [List.getElem_toArray, List.getElem_cons_succ, List.getElem_cons_zero, Act.put, List.setIfInBounds_toArray, List.set_cons_zero, List.set_cons_succ]
      refine wpAnyH_take (i := 11) (v := ?v33) rfl (by kernel_rfl) (by kernel_rfl) (by kernel_rfl) (fun _ _ _ h => h) (Or.inl ⟨by rfl, ?hy33⟩) (by assumption) ?rest33
      case hy33 =>
        intro w hSw
        try dsimp only at hSw
        try go_split_ands
        go_simp
        try with_reducible rfl
      case' rest33 => skip
      try simp only [List.getElem_toArray, List.getElem_cons_succ, List.getElem_cons_zero, Act.put, List.setIfInBounds_toArray, List.set_cons_zero, List.set_cons_succ]
      refine wpAnyH_take (i := 12) (v := ?v34) rfl (by kernel_rfl) (by kernel_rfl) (by kernel_rfl) (fun _ _ _ h => h) (Or.inl ⟨by rfl, ?hy34⟩) (by assumption) ?rest34
      case hy34 =>
        intro w hSw
        try dsimp only at hSw
        try go_split_ands
        go_simp
        try with_reducible rfl
      case' rest34 => skip
      try simp only [List.getElem_toArray, List.getElem_cons_succ, List.getElem_cons_zero, Act.put, List.setIfInBounds_toArray, List.set_cons_zero, List.set_cons_succ]
      refine wpAnyH_ready (rs := [13]) (by kernel_rfl) (by simp) ?_
      refine AllReadyH.cons rfl (fun K hK => ?_) AllReadyH.nil
      go_simp
      (refine (works_any _).mono ?_; rintro e w9 ⟨rfl, hbel15⟩)
      try go_wp2_with fail
      refine hK.out _ _ ?_ (fun hHeld2 => ?_)
      · exact (hk2.below hbel15 hk2.lt).range
      clear hK K hHeld
      have hHeld := hHeld2
      clear hHeld2
      try simp only [List.getElem_toArray, List.getElem_cons_succ, List.getElem_cons_zero, Act.put, List.setIfInBounds_toArray, List.set_cons_zero, List.set_cons_succ]
      refine wpAnyH_take (i := 14) (v := ?v36) rfl (by kernel_rfl) (by kernel_rfl) (by kernel_rfl) (fun _ _ _ h => h) (Or.inl ⟨by rfl, ?hy36⟩) (by assumption) ?rest36
      case hy36 =>
        intro w hSw
        try dsimp only at hSw
        try go_split_ands
        go_simp
        try with_reducible rfl
      case' rest36 => skip
      try simp only [List.getElem_toArray, List.getElem_cons_succ, List.getElem_cons_zero, Act.put, List.setIfInBounds_toArray, List.set_cons_zero, List.set_cons_succ]
      refine wpAnyH_take (i := 15) (v := ?v37) rfl (by kernel_rfl) (by kernel_rfl) (by kernel_rfl) (fun _ _ _ h => h) (Or.inl ⟨by rfl, ?hy37⟩) (by assumption) ?rest37
      case hy37 =>
        intro w hSw
        try dsimp only at hSw
        try go_split_ands
        go_simp
        try with_reducible rfl
      case' rest37 => skip
      try simp only [List.getElem_toArray, List.getElem_cons_succ, List.getElem_cons_zero, Act.put, List.setIfInBounds_toArray, List.set_cons_zero, List.set_cons_succ]
      refine wpAnyH_done (by kernel_rfl) ?_ _
      refine NoPanic.normal ?_
      go_wp2
      go_ret
      exact ⟨rfl, hkb.trans (hbel15.mono hkb.size)⟩
  · obtain ⟨k, rfl⟩ := Int.eq_ofNat_of_zero_le (show 0 ≤ i by omega)
    have hk : k < 2048 := by omega
    have hpat2 := hpat.2 k rfl hk
    obtain ⟨q, hq⟩ : ∃ q, k / 8 = q := ⟨_, rfl⟩
    have hq2 : (k : Int) / 8 = (q : Int) := by omega
    rw [hq] at hpat2
    obtain ⟨rfl, rfl, g, x, rfl, hg, hx⟩ := hpat2
    clear hpat hi
    have hgl : g < w4.heap.size := (Array.getElem?_eq_some_iff.1 hg).1
    have hg5 := (Below.heap_alloc w4 (.cells #[.int .i64 (q : Int), .slice (some ⟨g, 0, none⟩) 1 1] 75) _ hgl).trans hg
    have hk8 : q < l2.length := by omega
    have hc2 := htw.cell (q) hk8
    rw [show l2[q] = x from by rw [List.getElem?_eq_getElem hk8] at hx; exact Option.some.inj hx] at hc2
    have hc0 := row_cell hp 0 _ rfl
    have hc1 := row_cell hp 1 _ rfl
    have hcg := row_cell hg5 0 _ rfl
    clear hg hg5 hp g1 g2 g3 gw hbel8 hgl hx hk8
    go_wp2
    obtain ⟨p, hpz⟩ : ∃ p, w4.heap.size = p := ⟨_, rfl⟩
    rw [hpz] at hc0 hc1 ⊢
    generalize w4.alloc (.cells #[.int .i64 (q : Int), .slice (some ⟨g, 0, none⟩) 1 1] 75) = w5 at ht1 ht2 ht3 htw htb hc0 hc1 hc2 hcg ⊢
    have hwq : IntKind.i64.wrap (q : Int) = (q : Int) := wrap_small _ (by omega) (by omega)
    have hqq : ((q : Int) != (q : Int)) = false := by simp
    have hxx : ((x : Int) != (x : Int)) = false := by simp
    have hq256 : q < 256 := by omega
    have hd0 : w5.cell? ⟨p, 0, none⟩ = some (.int .i64 (q : Int)) := hc0
    have hd1 : w5.cell? ⟨p, 1, none⟩ = some (.slice (some ⟨g, 0, none⟩) 1 1) := hc1
    have hd2 : w5.cell? ⟨gA, q, none⟩ = some (.int .u8 (x : Int)) := hc2
    have hd3 : w5.cell? ⟨g, 0, none⟩ = some (.int .u8 (x : Int)) := hcg
    clear hc0 hc1 hc2 hcg hpz hq
    go_quiet (fail)
    replace ht1 := ht1.drewN nq
    replace ht2 := ht2.drewN nq
    replace ht3 := ht3.drewN nq
    replace htw := htw.drewN nq
    replace htb := bdrewN htb nq
    clear hd0 hd1 hd2 hd3 hwq hqq hxx
    go_wp2
    generalize w5.drewN nq = w6 at ht1 ht2 ht3 htw htb ⊢
    refine wp_region_noPanic ?_
    refine wp_region_held_drew (S := fun w' => w'.rangeAt (w.heap.size + 1) 0 (blk l).toList) (by kernel_rfl) ?hb40 (fun hHeld => ?rest40)
    case hb40 =>
      exact ht2.range
    case' rest40 => skip
    refine' wpAnyH_take (i := 0) (v := _) rfl (by kernel_rfl) (by kernel_rfl) (by kernel_rfl) (fun _ _ _ h => h) (yieldsIf_load_mid (by rfl) _ _ rfl _ _ rfl _ _ ?hS41 ?hu41 ?hd41 ?hi41) (by assumption) ?rest41
    case hS41 =>
      intro w hSw
      try dsimp only at hSw
      try go_split_ands
      assumption
    case hu41 => exact hu
    case hd41 => rfl
    case hi41 => exact hi256
    case' rest41 => skip
    try simp only [List.getElem_toArray, List.getElem_cons_succ, List.getElem_cons_zero, Act.put, List.setIfInBounds_toArray, List.set_cons_zero, List.set_cons_succ]
    refine wpAnyH_take (i := 1) (v := ?v42) rfl (by kernel_rfl) (by kernel_rfl) (by kernel_rfl) (fun _ _ _ h => h) (Or.inl ⟨by rfl, ?hy42⟩) (by assumption) ?rest42
    case hy42 =>
      intro w hSw
      try dsimp only at hSw
      try go_split_ands
      go_simp
      try with_reducible rfl
    case' rest42 => skip
    try simp only [List.getElem_toArray, List.getElem_cons_succ, List.getElem_cons_zero, Act.put, List.setIfInBounds_toArray, List.set_cons_zero, List.set_cons_succ]
    refine wpAnyH_take (i := 3) (v := ?v43) rfl (by kernel_rfl) (by kernel_rfl) (by kernel_rfl) (fun _ _ _ h => h) (Or.inl ⟨by rfl, ?hy43⟩) (by assumption) ?rest43
    case hy43 =>
      intro w hSw
      try dsimp only at hSw
      try go_split_ands
      go_simp
      try with_reducible rfl
    case' rest43 => skip
    try simp only [List.getElem_toArray, List.getElem_cons_succ, List.getElem_cons_zero, Act.put, List.setIfInBounds_toArray, List.set_cons_zero, List.set_cons_succ]
    refine wpAnyH_take (i := 4) (v := ?v44) rfl (by kernel_rfl) (by kernel_rfl) (by kernel_rfl) (fun _ _ _ h => h) (Or.inl ⟨by rfl, ?hy44⟩) (by assumption) ?rest44
    case hy44 =>
      intro w hSw
      try dsimp only at hSw
      try go_split_ands
      go_simp
      try with_reducible rfl
    case' rest44 => skip
    try simp only [List.getElem_toArray, List.getElem_cons_succ, List.getElem_cons_zero, Act.put, List.setIfInBounds_toArray, List.set_cons_zero, List.set_cons_succ]
    refine wpAnyH_ready (rs := [2]) (by kernel_rfl) (by simp) ?_
    refine AllReadyH.cons rfl (fun K hK => ?_) AllReadyH.nil
    go_simp
    (refine (CH.out _).mono ?_; rintro e w6 ⟨rfl, hw6⟩; have ha1 := ht1.drew.alloc (.cells (blk l) 41); have ha2 := ht2.drew.alloc (.cells (blk l) 41); have ha3 := ht3.drew.alloc (.cells (blk l) 41); have haw := htw.drew.alloc (.cells (blk l) 41); have hbe := htb.drew.alloc htb.size (.cells (blk l) 41); rw [← hw6] at ha1 ha2 ha3 haw hbe; clear hw6)
    try go_wp2_with fail
    refine hK.out _ _ ?_ (fun hHeld2 => ?_)
    · exact ha2.range
    clear hK K hHeld
    have hHeld := hHeld2
    clear hHeld2
    try simp only [List.getElem_toArray, List.getElem_cons_succ, List.getElem_cons_zero, Act.put, List.setIfInBounds_toArray, List.set_cons_zero, List.set_cons_succ]
    refine wpAnyH_ready (rs := [5]) (by kernel_rfl) (by simp) ?_
    refine AllReadyH.cons rfl (fun K hK => ?_) AllReadyH.nil
    go_simp
    (refine (CG.out _ _ _ (sl256 hl ha1.out)).mono ?_; rintro e w7 ⟨rfl, rfl⟩)
    try go_wp2_with fail
    refine hK.out _ _ ?_ (fun hHeld2 => ?_)
    · exact ha2.range
    clear hK K hHeld
    have hHeld := hHeld2
    clear hHeld2
    try simp only [List.getElem_toArray, List.getElem_cons_succ, List.getElem_cons_zero, Act.put, List.setIfInBounds_toArray, List.set_cons_zero, List.set_cons_succ]
    refine wpAnyH_take (i := 6) (v := ?v47) rfl (by kernel_rfl) (by kernel_rfl) (by kernel_rfl) (fun _ _ _ h => h) (Or.inl ⟨by rfl, ?hy47⟩) (by assumption) ?rest47
    case hy47 =>
      intro w hSw
      try dsimp only at hSw
      try go_split_ands
      go_simp
      try with_reducible rfl
    case' rest47 => skip
    try simp only [List.getElem_toArray, List.getElem_cons_succ, List.getElem_cons_zero, Act.put, List.setIfInBounds_toArray, List.set_cons_zero, List.set_cons_succ]
    refine wpAnyH_take (i := 7) (v := ?v48) rfl (by kernel_rfl) (by kernel_rfl) (by kernel_rfl) (fun _ _ _ h => h) (Or.inl ⟨by rfl, ?hy48⟩) (by assumption) ?rest48
    case hy48 =>
      intro w hSw
      try dsimp only at hSw
      try go_split_ands
      go_simp
      try with_reducible rfl
    case' rest48 => skip
    try simp only [List.getElem_toArray, List.getElem_cons_succ, List.getElem_cons_zero, Act.put, List.setIfInBounds_toArray, List.set_cons_zero, List.set_cons_succ]
    refine wpAnyH_take (i := 8) (v := ?v49) rfl (by kernel_rfl) (by kernel_rfl) (by kernel_rfl) (fun _ _ _ h => h) (Or.inl ⟨by rfl, ?hy49⟩) (by assumption) ?rest49
    case hy49 =>
      intro w hSw
      try dsimp only at hSw
      try go_split_ands
      go_simp
      try with_reducible rfl
    case' rest49 => skip
    try simp only [List.getElem_toArray, List.getElem_cons_succ, List.getElem_cons_zero, Act.put, List.setIfInBounds_toArray, List.set_cons_zero, List.set_cons_succ]
    refine wpAnyH_take (i := 9) (v := ?v50) rfl (by kernel_rfl) (by kernel_rfl) (by kernel_rfl) (fun _ _ _ h => h) (Or.inl ⟨by rfl, ?hy50⟩) (by assumption) ?rest50
    case hy50 =>
      intro w hSw
      try dsimp only at hSw
      try go_split_ands
      go_simp
      try with_reducible rfl
    case' rest50 => skip
    try simp only [List.getElem_toArray, List.getElem_cons_succ, List.getElem_cons_zero, Act.put, List.setIfInBounds_toArray, List.set_cons_zero, List.set_cons_succ]
    refine wpAnyH_ready (rs := [10]) (by kernel_rfl) (by simp) ?_
    refine AllReadyH.cons rfl (fun K hK => ?_) AllReadyH.nil
    go_simp
    (have haS := haw.sl.2; rw [hl2] at haS; refine (same_any _ _ _ _ _ _ l2 l2 _ (sl256 hl2 ha3.out) haS).mono ?_; rw [decide_eq_true (rfl : l2 = l2)]; rintro e w8 ⟨rfl, q8, hw8⟩; have hk2 := ha2.drewN q8; have hkb := bdrewN hbe q8; rw [← hw8] at hk2 hkb; clear hw8)
    try go_wp2_with fail
    refine hK.out _ _ ?_ (fun hHeld2 => ?_)
    · exact hk2.range
    clear hK K hHeld
    have hHeld := hHeld2
    clear hHeld2
    try simp only [List.getElem_toArray, List.getElem_cons_succ, List.getElem_cons_zero, Act.put, List.setIfInBounds_toArray, List.set_cons_zero, List.set_cons_succ]
    refine wpAnyH_take (i := 11) (v := ?v52) rfl (by kernel_rfl) (by kernel_rfl) (by kernel_rfl) (fun _ _ _ h => h) (Or.inl ⟨by rfl, ?hy52⟩) (by assumption) ?rest52
    case hy52 =>
      intro w hSw
      try dsimp only at hSw
      try go_split_ands
      go_simp
      try with_reducible rfl
    case' rest52 => skip
    try simp only [List.getElem_toArray, List.getElem_cons_succ, List.getElem_cons_zero, Act.put, List.setIfInBounds_toArray, List.set_cons_zero, List.set_cons_succ]
    refine wpAnyH_take (i := 12) (v := ?v53) rfl (by kernel_rfl) (by kernel_rfl) (by kernel_rfl) (fun _ _ _ h => h) (Or.inl ⟨by rfl, ?hy53⟩) (by assumption) ?rest53
    case hy53 =>
      intro w hSw
      try dsimp only at hSw
      try go_split_ands
      go_simp
      try with_reducible rfl
    case' rest53 => skip
    try simp only [List.getElem_toArray, List.getElem_cons_succ, List.getElem_cons_zero, Act.put, List.setIfInBounds_toArray, List.set_cons_zero, List.set_cons_succ]
    refine wpAnyH_ready (rs := [13]) (by kernel_rfl) (by simp) ?_
    refine AllReadyH.cons rfl (fun K hK => ?_) AllReadyH.nil
    go_simp
    (refine (works_any _).mono ?_; rintro e w9 ⟨rfl, hbel15⟩)
    try go_wp2_with fail
    refine hK.out _ _ ?_ (fun hHeld2 => ?_)
    · exact (hk2.below hbel15 hk2.lt).range
    clear hK K hHeld
    have hHeld := hHeld2
    clear hHeld2
    try simp only [List.getElem_toArray, List.getElem_cons_succ, List.getElem_cons_zero, Act.put, List.setIfInBounds_toArray, List.set_cons_zero, List.set_cons_succ]
    refine wpAnyH_take (i := 14) (v := ?v55) rfl (by kernel_rfl) (by kernel_rfl) (by kernel_rfl) (fun _ _ _ h => h) (Or.inl ⟨by rfl, ?hy55⟩) (by assumption) ?rest55
    case hy55 =>
      intro w hSw
      try dsimp only at hSw
      try go_split_ands
      go_simp
      try with_reducible rfl
    case' rest55 => skip
    try simp only [List.getElem_toArray, List.getElem_cons_succ, List.getElem_cons_zero, Act.put, List.setIfInBounds_toArray, List.set_cons_zero, List.set_cons_succ]
    refine wpAnyH_take (i := 15) (v := ?v56) rfl (by kernel_rfl) (by kernel_rfl) (by kernel_rfl) (fun _ _ _ h => h) (Or.inl ⟨by rfl, ?hy56⟩) (by assumption) ?rest56
    case hy56 =>
      intro w hSw
      try dsimp only at hSw
      try go_split_ands
      go_simp
      try with_reducible rfl
    case' rest56 => skip
    try simp only [List.getElem_toArray, List.getElem_cons_succ, List.getElem_cons_zero, Act.put, List.setIfInBounds_toArray, List.set_cons_zero, List.set_cons_succ]
    refine wpAnyH_done (by kernel_rfl) ?_ _
    refine NoPanic.normal ?_
    go_wp2
    go_ret
    exact ⟨rfl, hkb.trans (hbel15.mono hkb.size)⟩

theorem bits_walk (l : List Nat) (i : Int) (on : Bool) (w : World) (hl : l.length = 256) (hb : ∀ x ∈ l, x < 256) (hi : (Lit.int .i64 i).wf = true) :
    Calls Try.prog 11 #[.agg (blk l), .int .i64 i, .bool on] w fun e w' => e = .returned (.bool true) ∧ Below w.heap.size w w' := by
  refine bits_core l (withB l i on) i on (hasB l i) (hasB l i) w hl (by rw [withB_length, hl]) (Lib.hid fun w' => with_any l i on w' hl hb) (Lib.hid fun A n c w' h => ?_) (Lib.hid fun w' => patch_any l i on w' hl hb) (Lib.hid fun w' => has_any l i w' hl hb) (Lib.hid fun A c w' h => ?_) (by simp)
  · have := rwith_any A n c l i on w' h hb hl
    rw [with_eq l i on hl hb] at this
    exact this
  · have := rhas_any A 256 c l i w' h hb (by omega)
    rw [has_eq l i hl] at this
    exact this
end Go.Proofs.Ytgcmgohknocfnaa.Chart
