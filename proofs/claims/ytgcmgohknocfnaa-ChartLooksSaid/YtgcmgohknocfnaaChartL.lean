/- The walk of the statement ChartLooks. -/
import Derived.Test.YtgcmgohknocfnaaChartP
import Derived.Deep.RegionHeld3
namespace Go.Proofs.Ytgcmgohknocfnaa.Chart
open Go.RowKit Go.Proofs.Ytgcmgohknocfnaa.Mem Go.Proofs.Ytgcmgohknocfnaa.Open Go.Proofs.Ytgcmgohknocfnaa.Bits Go.Proofs.Ytgcmgohknocfnaa.RefD Go.Proofs.Ytgcmgohknocfnaa.Same
set_option linter.unusedVariables false
set_option linter.unusedSimpArgs false

/-- The bits of a block, by a name. -/
theorem bits_named (l : List Nat) (hl : l.length = 256) : ∃ L : List Bool, bitsL l = L ∧ L.length = 2048 ∧ ∀ j : Nat, j < 2048 → L[j]? = some (hasB l (j : Int)) := by
  refine ⟨_, rfl, by rw [bitsL_length, hl], fun j hj => ?_⟩
  rw [bitsL_get l j (by omega), hasB_bit l j hj]

set_option maxHeartbeats 1000000 in
set_option maxRecDepth 100000 in
theorem rset_any (A : Option Addr) (m c : Nat) (l : List Nat) (n : Int) (w : World) (hx : Sl w V8 A m l) (hl : l.length = 256) (hb : ∀ x ∈ l, x < 256) :
    Calls Try.prog 49 #[.slice A m c, .int .i64 n] w fun e w' => ∃ v, e = .returned v ∧ Own w' w.heap.size 3 (Value.int .i64) v (setK l (upTo n)) ∧ Below w.heap.size w w' := by
  have hm := hx.1
  have HC : Hid (∀ w' : World, Sl w' V8 A m l → Calls Try.prog 59 #[.slice A m c] w' fun e w2 => ∃ v, e = .returned v ∧ Own w2 w'.heap.size 4 Value.bool v (bitsL l) ∧ Below w'.heap.size w' w2) :=
    fun w' h' => bits_any A m c l w' h' hb (by omega)
  obtain ⟨L, hL, hLn, hLg⟩ := bits_named l hl
  rw [hL] at HC
  clear hL
  have HG := Lib.hid hLg
  have hL1 : L.length ≤ 2048 := by omega
  have hL2 : 2048 ≤ L.length := by omega
  clear hLg hLn
  have hU : upTo n ≤ 2048 := Nat.min_le_right _ _
  have HK : Hid (∀ k : Nat, k < upTo n ↔ (k : Int) < n ∧ k < 2048) := by intro k; unfold upTo; omega
  obtain ⟨N, hN⟩ : ∃ N, upTo n = N := ⟨_, rfl⟩
  rw [hN] at hU HK ⊢
  clear hN
  go_enter Try.func49, Try.ntmps49
  go_wp2_with fail
  refine (HC.out _ hx).mono ?_
  rintro e w1 ⟨v, rfl, hown1, hbel1⟩
  obtain ⟨g, c', rfl⟩ := hown1.slice_pos (by omega)
  have hbs := hown1.base
  have hsz1 := hbel1.size
  go_wp2
  go_loopw [5, 7] (fun v i wr => ∃ (u : Value) (k : Nat), u = v ∧ k ≤ N ∧ i = .int .i64 k ∧ Own wr w1.heap.size 3 (Value.int .i64) u (setK l k) ∧ Below w1.heap.size w1 wr) (fun _ i _ => N - (intOf i).toNat)
  case atStart => exact ⟨_, 0, rfl, by omega, rfl, Own.nil _ _ _ _, Below.refl _ _⟩
  case round =>
    obtain ⟨u, k, rfl, hk, rfl, hown, hbel⟩ := hrel
    have hB := hbel.size
    by_cases hlt : k < N
    · obtain ⟨hkn, hk8⟩ := (HK.out k).1 hlt
      have hkL : k < L.length := by omega
      have hcell := (hown1.below hbel).cell k hkL
      have hLk : L[k] = hasB l (k : Int) := by
        have := HG.out k hk8
        rw [List.getElem?_eq_getElem hkL] at this
        exact Option.some.inj this
      rw [hLk] at hcell
      have hlen := setK_len l k
      clear hLk
      cases hh : hasB l (k : Int) with
      | true =>
        rw [hh] at hcell
        have HS : Hid (setK l (k + 1) = setK l k ++ [(k : Int)]) := setK_yes l k hh
        have hc1 : (wr.alloc (.cells #[.int .i64 (k : Int)] 3)).cell? ⟨wr.heap.size, 0, none⟩ = some (.int .i64 (k : Int)) := by
          rw [cell_of_row _ _ _ _ _ _ (heap_alloc_new wr _)]; rfl
        clear hh
        go_wp2_with (at_builtin; refine wpList_app1 rfl _ _ 39 rfl w1.heap.size 3 (.int .i64 0) 8 (Value.int .i64) Try.underlying39 intInfo rfl u (setK l k) (k : Int) rfl _ wr.heap.size rfl (hown.alloc _) hc1 rfl (by omega) (by omega) (by simp; omega) ?_; intro v1 w2 hown2 hbel2 hg2)
        go_roundw
        case rel => exact ⟨_, k + 1, rfl, by omega, by go_num, by rw [HS.out]; exact hown2, (hbel.alloc hB _).trans hbel2⟩
        case measure => simp [intOf]; omega
      | false =>
        rw [hh] at hcell
        have HS : Hid (setK l (k + 1) = setK l k) := setK_no l k hh
        clear hh
        go_wp2
        go_roundw
        case rel => exact ⟨_, k + 1, rfl, by omega, by go_num, by rw [HS.out]; exact hown, hbel⟩
        case measure => simp [intOf]; omega
    · obtain rfl : k = N := by omega
      have hnk : ¬ ((k : Int) < n ∧ k < 2048) := fun h => hlt ((HK.out k).2 h)
      by_cases hkn : (k : Int) < n
      · have hk8 : ¬ (k < L.length) := by omega
        clear hnk
        go_wp2
        go_ret
        exact ⟨u, rfl, hown.mono hsz1, hbel1.trans (hbel.mono hsz1)⟩
      · clear hnk
        go_wp2
        go_ret
        exact ⟨u, rfl, hown.mono hsz1, hbel1.trans (hbel.mono hsz1)⟩

set_option maxHeartbeats 1000000 in
set_option maxRecDepth 100000 in
theorem rfirst_any (A : Option Addr) (m c : Nat) (l : List Nat) (f n : Int) (w : World) (hx : Sl w V8 A m l) (hl : l.length = 256) (hb : ∀ x ∈ l, x < 256) :
    Calls Try.prog 47 #[.slice A m c, .int .i64 f, .int .i64 n] w fun e w' => e = .returned (firstV (firstO l f n)) ∧ Below w.heap.size w w' := by
  have hm := hx.1
  have HC : Hid (∀ w' : World, Sl w' V8 A m l → Calls Try.prog 59 #[.slice A m c] w' fun e w2 => ∃ v, e = .returned v ∧ Own w2 w'.heap.size 4 Value.bool v (bitsL l) ∧ Below w'.heap.size w' w2) :=
    fun w' h' => bits_any A m c l w' h' hb (by omega)
  obtain ⟨L, hL, hLn, hLg⟩ := bits_named l hl
  rw [hL] at HC
  clear hL
  have HG := Lib.hid hLg
  have hL1 : L.length ≤ 2048 := by omega
  have hL2 : 2048 ≤ L.length := by omega
  clear hLg hLn
  have hU : upTo n ≤ 2048 := Nat.min_le_right _ _
  have HK : Hid (∀ k : Nat, k < upTo n ↔ (k : Int) < n ∧ k < 2048) := by intro k; unfold upTo; omega
  have HS : Hid (∀ k : Nat, k < upTo n → freeB l f k = true → (∀ j, j < k → freeB l f j = false) → firstO l f n = some k) := fun k => firstO_some
  have HN : Hid ((∀ j, j < upTo n → freeB l f j = false) → firstO l f n = none) := firstO_none
  obtain ⟨N, hN⟩ : ∃ N, upTo n = N := ⟨_, rfl⟩
  rw [hN] at hU HK HS HN
  clear hN
  go_enter Try.func47, Try.ntmps47
  go_wp2_with fail
  refine (HC.out _ hx).mono ?_
  rintro e w1 ⟨v, rfl, hown1, hbel1⟩
  obtain ⟨g, c', rfl⟩ := hown1.slice_pos (by omega)
  have hsz1 := hbel1.size
  go_wp2
  go_loop [9] (fun i => ∃ k : Nat, k ≤ N ∧ i = .int .i64 k ∧ Hid (∀ j : Nat, j < k → freeB l f j = false)) (fun i => N - (intOf i).toNat)
  case atStart => exact ⟨0, by omega, rfl, fun j hj => by omega⟩
  case round =>
    obtain ⟨k, hk, rfl, hno⟩ := hrel
    by_cases hlt : k < N
    · obtain ⟨hkn, hk8⟩ := (HK.out k).1 hlt
      have hkL : k < L.length := by omega
      have hcell := hown1.cell k hkL
      have hLk : L[k] = hasB l (k : Int) := by
        have := HG.out k hk8
        rw [List.getElem?_eq_getElem hkL] at this
        exact Option.some.inj this
      rw [hLk] at hcell
      clear hLk
      by_cases hf : f ≤ (k : Int)
      · cases hh : hasB l (k : Int) with
        | true =>
          rw [hh] at hcell
          have hno' : Hid (∀ j : Nat, j < k + 1 → freeB l f j = false) := free_step hno.out (by unfold freeB; rw [hh]; simp)
          clear hh
          go_wp2
          go_round
          case rel => exact ⟨k + 1, by omega, by go_num, hno'⟩
          case measure => simp [intOf]; omega
        | false =>
          rw [hh] at hcell
          have hfin : Hid (firstO l f n = some k) := HS.out k hlt (by unfold freeB; rw [hh, decide_eq_true hf]; rfl) hno.out
          clear hh
          go_wp2
          go_ret2
          exact ⟨(ret_first hfin.out).symm, hbel1⟩
      · have hno' : Hid (∀ j : Nat, j < k + 1 → freeB l f j = false) := free_step hno.out (by unfold freeB; rw [decide_eq_false hf]; rfl)
        go_wp2
        go_round
        case rel => exact ⟨k + 1, by omega, by go_num, hno'⟩
        case measure => simp [intOf]; omega
    · have hfin : Hid (firstO l f n = none) := HN.out (fun j hj => hno.out j (by omega))
      have hnk : ¬ ((k : Int) < n ∧ k < 2048) := fun h => hlt ((HK.out k).2 h)
      by_cases hkn : (k : Int) < n
      · have hk8 : ¬ (k < L.length) := by omega
        clear hnk
        go_wp2
        go_ret2
        exact ⟨(ret_first hfin.out).symm, hbel1⟩
      · clear hnk
        go_wp2
        go_ret2
        exact ⟨(ret_first hfin.out).symm, hbel1⟩

theorem firstV_shape (o : Option Nat) : ∃ (r : Nat) (ok : Bool), firstV o = .tuple #[.int .i64 (r : Int), .bool ok] := by
  cases o with
  | none => exact ⟨0, _, rfl⟩
  | some k => exact ⟨_, _, rfl⟩
theorem arrUnd : Try.prog.underlying 40 = some (.array 256 5) := by kernel_rfl
theorem arrSize : (Try.prog.info? 40).map (·.size) = some 256 := by kernel_rfl

set_option maxHeartbeats 1500000 in
set_option maxRecDepth 100000 in
theorem looks_core (l : List Nat) (f n r1 r2 c1 : Int) (ok ok2 : Bool) (S : List Int) (w : World) (hl : l.length = 256)
    (CF : Hid (∀ w', Calls Try.prog 46 #[.agg (blk l), .int .i64 f, .int .i64 n] w' fun e w2 => e = .returned (.tuple #[.int .i64 r1, .bool ok]) ∧ Below w'.heap.size w' w2))
    (CR : Hid (∀ A m c w', Sl w' V8 A m l → Calls Try.prog 47 #[.slice A m c, .int .i64 f, .int .i64 n] w' fun e w2 => e = .returned (.tuple #[.int .i64 r2, .bool ok2]) ∧ Below w'.heap.size w' w2))
    (CC : Hid (∀ w', Calls Try.prog 48 #[.agg (blk l), .int .i64 n] w' fun e w2 => e = .returned (.int .i64 c1) ∧ Below w'.heap.size w' w2))
    (CS : Hid (∀ A m c w', Sl w' V8 A m l → Calls Try.prog 49 #[.slice A m c, .int .i64 n] w' fun e w2 => ∃ v, e = .returned v ∧ Own w2 w'.heap.size 3 (Value.int .i64) v S ∧ Below w'.heap.size w' w2))
    (CT : Hid (∀ w', Calls Try.prog 51 #[.agg (blk l), .int .i64 n] w' fun e w2 => ∃ v, e = .returned v ∧ Own w2 w'.heap.size 3 (Value.int .i64) v S ∧ Below w'.heap.size w' w2))
    (hrr : (r1 == r2) = true) (hok : (ok == ok2) = true) (hcc : (c1 == (S.length : Int)) = true) :
    Calls Try.prog 12 #[.agg (blk l), .int .i64 f, .int .i64 n] w fun e w' => e = .returned (.bool true) ∧ Below w.heap.size w w' := by
  have hs : (blk l).size = 256 := by rw [blk_size]; exact hl
  have hz : (blk zblk).size = 256 := by rw [blk_size]; exact zblk_length
  have hb0 := Box.new w 40 l
  have hb1 := hb0.alloc (.cells (blk zblk) 41)
  have hb2 : Box ((w.alloc (.cells (blk l) 40)).alloc (.cells (blk zblk) 41)) (w.heap.size + 1) 41 zblk := heap_alloc2_new w _ _
  have hc1 := hb1.far (k := w.heap.size + 1) (by omega) (blk l)
  have hc2 := hb2.row l
  have hbel := below_setRow (((Below.refl w.heap.size w).alloc (Nat.le_refl _) (.cells (blk l) 40)).alloc (by simp) (.cells (blk zblk) 41)) (g := w.heap.size + 1) (by omega) (blk l)
  have hb2' := Box.new (w.alloc (.cells (blk l) 40)) 41 zblk
  go_enter Try.func12, Try.ntmps12
  go_wp2_with (first
    | (with_reducible refine wpList_load rfl 40 _ rfl _ rfl 40 (blk l) 256 5 arrUnd arrSize hs hb0.out ?_)
    | (with_reducible refine wpList_allocA rfl 41 rfl _ blkZero ?_)
    | (with_reducible refine wpList_store rfl 41 _ _ rfl _ rfl _ rfl _ 41 256 blkSize hs hz (blk_one _) hb2'.out ?_))
  refine wp_loadA 41 _ rfl _ rfl 41 (blk l) 256 5 blkUnd blkSize hs (hb2'.row l).out ?_
  clear hb2'
  go_wp2_with fail
  generalize ((w.alloc (.cells (blk l) 40)).alloc (.cells (blk zblk) 41)).setRow (w.heap.size + 1) (blk l) = w1 at hc1 hc2 hbel ⊢
  clear hb0 hb1 hb2
  refine (CF.out _).mono ?_
  rintro e w2 ⟨rfl, hbel2⟩
  have hd1 := hc1.below hbel2 hc1.lt
  have hd2 := hc2.below hbel2 hc2.lt
  have hbel3 := hbel.trans (hbel2.mono hbel.size)
  clear hc1 hc2 hbel hbel2
  go_wp2_with fail
  refine (CR.out _ _ _ _ (sl256 hl hd1.out)).mono ?_
  rintro e w3 ⟨rfl, hbel4⟩
  have he1 := hd1.below hbel4 hd1.lt
  have he2 := hd2.below hbel4 hd2.lt
  have hbel5 := hbel3.trans (hbel4.mono hbel3.size)
  clear hd1 hd2 hbel3 hbel4
  go_wp2
  have hu := blkUnd
  have hi : (Try.prog.info? 41).map (·.size) = some (blk l).toList.length := by rw [Array.length_toList, hs]; exact blkSize
  refine wp_region_noPanic ?_
  refine wp_region_held_drew (S := fun w' => w'.rangeAt (w.heap.size + 1) 0 (blk l).toList) (by kernel_rfl) ?hb2 (fun hHeld => ?rest2)
  case hb2 =>
    exact Box.range (by exact he2.drew)
  case' rest2 => skip
  refine' wpAnyH_take (i := 0) (v := _) rfl (by kernel_rfl) (by kernel_rfl) (by kernel_rfl) (fun _ _ _ h => h) (yieldsIf_load_mid (by rfl) _ _ rfl _ _ rfl _ _ ?hS3 ?hu3 ?hd3 ?hi3) (by assumption) ?rest3
  case hS3 =>
    intro w hSw
    try dsimp only at hSw
    try go_split_ands
    assumption
  case hu3 => exact hu
  case hd3 => rfl
  case hi3 => exact hi
  case' rest3 => skip
  try simp only [List.getElem_toArray, List.getElem_cons_succ, List.getElem_cons_zero, Act.put, List.setIfInBounds_toArray, List.set_cons_zero, List.set_cons_succ]
  refine wpAnyH_take (i := 1) (v := ?v4) rfl (by kernel_rfl) (by kernel_rfl) (by kernel_rfl) (fun _ _ _ h => h) (Or.inl ⟨by rfl, ?hy4⟩) (by assumption) ?rest4
  case hy4 =>
    intro w hSw
    try dsimp only at hSw
    try go_split_ands
    go_simp
    try with_reducible rfl
  case' rest4 => skip
  try simp only [List.getElem_toArray, List.getElem_cons_succ, List.getElem_cons_zero, Act.put, List.setIfInBounds_toArray, List.set_cons_zero, List.set_cons_succ]
  refine wpAnyH_take (i := 3) (v := ?v5) rfl (by kernel_rfl) (by kernel_rfl) (by kernel_rfl) (fun _ _ _ h => h) (Or.inl ⟨by rfl, ?hy5⟩) (by assumption) ?rest5
  case hy5 =>
    intro w hSw
    try dsimp only at hSw
    try go_split_ands
    go_simp
    try with_reducible rfl
  case' rest5 => skip
  try simp only [List.getElem_toArray, List.getElem_cons_succ, List.getElem_cons_zero, Act.put, List.setIfInBounds_toArray, List.set_cons_zero, List.set_cons_succ]
  refine wpAnyH_take (i := 4) (v := ?v6) rfl (by kernel_rfl) (by kernel_rfl) (by kernel_rfl) (fun _ _ _ h => h) (Or.inl ⟨by rfl, ?hy6⟩) (by assumption) ?rest6
  case hy6 =>
    intro w hSw
    try dsimp only at hSw
    try go_split_ands
    go_simp
    try with_reducible rfl
  case' rest6 => skip
  try simp only [List.getElem_toArray, List.getElem_cons_succ, List.getElem_cons_zero, Act.put, List.setIfInBounds_toArray, List.set_cons_zero, List.set_cons_succ]
  refine wpAnyH_ready (rs := [2]) (by kernel_rfl) (by simp) ?_
  refine AllReadyH.cons rfl (fun K hK => ?_) AllReadyH.nil
  go_simp
  (refine (CC.out _).mono ?_; rintro e w4 ⟨rfl, hbel6⟩; have f1 := he1.drew.below hbel6 he1.lt; have f2 := he2.drew.below hbel6 he2.lt; have hbel7 := hbel5.drew.trans (hbel6.mono hbel5.size); clear he1 he2 hbel5 hbel6)
  try go_wp2_with fail
  refine hK.out _ _ ?_ (fun hHeld2 => ?_)
  · exact f2.range
  clear hK K hHeld
  have hHeld := hHeld2
  clear hHeld2
  try simp only [List.getElem_toArray, List.getElem_cons_succ, List.getElem_cons_zero, Act.put, List.setIfInBounds_toArray, List.set_cons_zero, List.set_cons_succ]
  refine wpAnyH_ready (rs := [5]) (by kernel_rfl) (by simp) ?_
  refine AllReadyH.cons rfl (fun K hK => ?_) AllReadyH.nil
  go_simp
  (refine (CS.out _ _ _ _ (sl256 hl f1.out)).mono ?_; rintro e w5 ⟨v5, rfl, hown5, hbel8⟩; obtain ⟨A5, c5, rfl⟩ := hown5.slice; have g1 := f1.below hbel8 f1.lt; have g2 := f2.below hbel8 f2.lt; have hbel9 := hbel7.trans (hbel8.mono hbel7.size); clear f1 f2 hbel7 hbel8 hown5)
  try go_wp2_with fail
  refine hK.out _ _ ?_ (fun hHeld2 => ?_)
  · exact g2.range
  clear hK K hHeld
  have hHeld := hHeld2
  clear hHeld2
  try simp only [List.getElem_toArray, List.getElem_cons_succ, List.getElem_cons_zero, Act.put, List.setIfInBounds_toArray, List.set_cons_zero, List.set_cons_succ]
  refine wpAnyH_take (i := 6) (v := ?v9) rfl (by kernel_rfl) (by kernel_rfl) (by kernel_rfl) (fun _ _ _ h => h) (Or.inl ⟨by rfl, ?hy9⟩) (by assumption) ?rest9
  case hy9 =>
    intro w hSw
    try dsimp only at hSw
    try go_split_ands
    go_simp
    try with_reducible rfl
  case' rest9 => skip
  try simp only [List.getElem_toArray, List.getElem_cons_succ, List.getElem_cons_zero, Act.put, List.setIfInBounds_toArray, List.set_cons_zero, List.set_cons_succ]
  refine wpAnyH_take (i := 7) (v := ?v10) rfl (by kernel_rfl) (by kernel_rfl) (by kernel_rfl) (fun _ _ _ h => h) (Or.inl ⟨by rfl, ?hy10⟩) (by assumption) ?rest10
  case hy10 =>
    intro w hSw
    try dsimp only at hSw
    try go_split_ands
    go_simp
    try with_reducible rfl
  case' rest10 => skip
  try simp only [List.getElem_toArray, List.getElem_cons_succ, List.getElem_cons_zero, Act.put, List.setIfInBounds_toArray, List.set_cons_zero, List.set_cons_succ]
  refine wpAnyH_take (i := 8) (v := ?v11) rfl (by kernel_rfl) (by kernel_rfl) (by kernel_rfl) (fun _ _ _ h => h) (Or.inl ⟨by rfl, ?hy11⟩) (by assumption) ?rest11
  case hy11 =>
    intro w hSw
    try dsimp only at hSw
    try go_split_ands
    go_simp
    try with_reducible rfl
  case' rest11 => skip
  try simp only [List.getElem_toArray, List.getElem_cons_succ, List.getElem_cons_zero, Act.put, List.setIfInBounds_toArray, List.set_cons_zero, List.set_cons_succ]
  refine' wpAnyH_take (i := 9) (v := _) rfl (by kernel_rfl) (by kernel_rfl) (by kernel_rfl) (fun _ _ _ h => h) (yieldsIf_load_mid (by rfl) _ _ rfl _ _ rfl _ _ ?hS12 ?hu12 ?hd12 ?hi12) (by assumption) ?rest12
  case hS12 =>
    intro w hSw
    try dsimp only at hSw
    try go_split_ands
    assumption
  case hu12 => exact hu
  case hd12 => rfl
  case hi12 => exact hi
  case' rest12 => skip
  try simp only [List.getElem_toArray, List.getElem_cons_succ, List.getElem_cons_zero, Act.put, List.setIfInBounds_toArray, List.set_cons_zero, List.set_cons_succ]
  refine wpAnyH_take (i := 10) (v := ?v13) rfl (by kernel_rfl) (by kernel_rfl) (by kernel_rfl) (fun _ _ _ h => h) (Or.inl ⟨by rfl, ?hy13⟩) (by assumption) ?rest13
  case hy13 =>
    intro w hSw
    try dsimp only at hSw
    try go_split_ands
    go_simp
    try with_reducible rfl
  case' rest13 => skip
  try simp only [List.getElem_toArray, List.getElem_cons_succ, List.getElem_cons_zero, Act.put, List.setIfInBounds_toArray, List.set_cons_zero, List.set_cons_succ]
  refine wpAnyH_take (i := 12) (v := ?v14) rfl (by kernel_rfl) (by kernel_rfl) (by kernel_rfl) (fun _ _ _ h => h) (Or.inl ⟨by rfl, ?hy14⟩) (by assumption) ?rest14
  case hy14 =>
    intro w hSw
    try dsimp only at hSw
    try go_split_ands
    go_simp
    try with_reducible rfl
  case' rest14 => skip
  try simp only [List.getElem_toArray, List.getElem_cons_succ, List.getElem_cons_zero, Act.put, List.setIfInBounds_toArray, List.set_cons_zero, List.set_cons_succ]
  refine wpAnyH_take (i := 13) (v := ?v15) rfl (by kernel_rfl) (by kernel_rfl) (by kernel_rfl) (fun _ _ _ h => h) (Or.inl ⟨by rfl, ?hy15⟩) (by assumption) ?rest15
  case hy15 =>
    intro w hSw
    try dsimp only at hSw
    try go_split_ands
    go_simp
    try with_reducible rfl
  case' rest15 => skip
  try simp only [List.getElem_toArray, List.getElem_cons_succ, List.getElem_cons_zero, Act.put, List.setIfInBounds_toArray, List.set_cons_zero, List.set_cons_succ]
  refine wpAnyH_ready (rs := [11]) (by kernel_rfl) (by simp) ?_
  refine AllReadyH.cons rfl (fun K hK => ?_) AllReadyH.nil
  go_simp
  (refine (CT.out _).mono ?_; rintro e w6 ⟨v6, rfl, hown6, hbel10⟩; obtain ⟨A6, c6, rfl⟩ := hown6.slice; have i1 := g1.below hbel10 g1.lt; have i2 := g2.below hbel10 g2.lt; have hbel11 := hbel9.trans (hbel10.mono hbel9.size); clear g1 g2 hbel9 hbel10)
  try go_wp2_with fail
  refine hK.out _ _ ?_ (fun hHeld2 => ?_)
  · exact i2.range
  clear hK K hHeld
  have hHeld := hHeld2
  clear hHeld2
  try simp only [List.getElem_toArray, List.getElem_cons_succ, List.getElem_cons_zero, Act.put, List.setIfInBounds_toArray, List.set_cons_zero, List.set_cons_succ]
  refine wpAnyH_ready (rs := [14]) (by kernel_rfl) (by simp) ?_
  refine AllReadyH.cons rfl (fun K hK => ?_) AllReadyH.nil
  go_simp
  (refine (CS.out _ _ _ _ (sl256 hl i1.out)).mono ?_; rintro e w7 ⟨v7, rfl, hown7, hbel12⟩; obtain ⟨A7, c7, rfl⟩ := hown7.slice; have hown8 := hown6.below hbel12; have j2 := i2.below hbel12 i2.lt; have hbel13 := hbel11.trans (hbel12.mono hbel11.size); clear i1 i2 hbel11 hbel12 hown6)
  try go_wp2_with fail
  refine hK.out _ _ ?_ (fun hHeld2 => ?_)
  · exact j2.range
  clear hK K hHeld
  have hHeld := hHeld2
  clear hHeld2
  try simp only [List.getElem_toArray, List.getElem_cons_succ, List.getElem_cons_zero, Act.put, List.setIfInBounds_toArray, List.set_cons_zero, List.set_cons_succ]
  refine wpAnyH_ready (rs := [15]) (by kernel_rfl) (by simp) ?_
  refine AllReadyH.cons rfl (fun K hK => ?_) AllReadyH.nil
  go_simp
  (refine (ints_any _ _ _ _ _ _ S S _ hown8.sl.2 hown7.sl.2).mono ?_; rw [decide_eq_true (rfl : S = S)]; rintro e w8 ⟨rfl, q8, rfl⟩; have j3 := j2.drewN q8; have hbel14 := bdrewN hbel13 q8; clear hown8 hown7 j2 hbel13)
  try go_wp2_with fail
  refine hK.out _ _ ?_ (fun hHeld2 => ?_)
  · exact j3.range
  clear hK K hHeld
  have hHeld := hHeld2
  clear hHeld2
  try simp only [List.getElem_toArray, List.getElem_cons_succ, List.getElem_cons_zero, Act.put, List.setIfInBounds_toArray, List.set_cons_zero, List.set_cons_succ]
  refine wpAnyH_take (i := 16) (v := ?v19) rfl (by kernel_rfl) (by kernel_rfl) (by kernel_rfl) (fun _ _ _ h => h) (Or.inl ⟨by rfl, ?hy19⟩) (by assumption) ?rest19
  case hy19 =>
    intro w hSw
    try dsimp only at hSw
    try go_split_ands
    go_simp
    try with_reducible rfl
  case' rest19 => skip
  try simp only [List.getElem_toArray, List.getElem_cons_succ, List.getElem_cons_zero, Act.put, List.setIfInBounds_toArray, List.set_cons_zero, List.set_cons_succ]
  refine wpAnyH_take (i := 17) (v := ?v20) rfl (by kernel_rfl) (by kernel_rfl) (by kernel_rfl) (fun _ _ _ h => h) (Or.inl ⟨by rfl, ?hy20⟩) (by assumption) ?rest20
  case hy20 =>
    intro w hSw
    try dsimp only at hSw
    try go_split_ands
    go_simp
    try with_reducible rfl
  case' rest20 => skip
  try simp only [List.getElem_toArray, List.getElem_cons_succ, List.getElem_cons_zero, Act.put, List.setIfInBounds_toArray, List.set_cons_zero, List.set_cons_succ]
  refine wpAnyH_take (i := 18) (v := ?v21) rfl (by kernel_rfl) (by kernel_rfl) (by kernel_rfl) (fun _ _ _ h => h) (Or.inl ⟨by rfl, ?hy21⟩) (by assumption) ?rest21
  case hy21 =>
    intro w hSw
    try dsimp only at hSw
    try go_split_ands
    go_simp
    try with_reducible rfl
  case' rest21 => skip
  try simp only [List.getElem_toArray, List.getElem_cons_succ, List.getElem_cons_zero, Act.put, List.setIfInBounds_toArray, List.set_cons_zero, List.set_cons_succ]
  refine wpAnyH_take (i := 19) (v := ?v22) rfl (by kernel_rfl) (by kernel_rfl) (by kernel_rfl) (fun _ _ _ h => h) (Or.inl ⟨by rfl, ?hy22⟩) (by assumption) ?rest22
  case hy22 =>
    intro w hSw
    try dsimp only at hSw
    try go_split_ands
    go_simp
    try with_reducible rfl
  case' rest22 => skip
  try simp only [List.getElem_toArray, List.getElem_cons_succ, List.getElem_cons_zero, Act.put, List.setIfInBounds_toArray, List.set_cons_zero, List.set_cons_succ]
  refine wpAnyH_take (i := 20) (v := ?v23) rfl (by kernel_rfl) (by kernel_rfl) (by kernel_rfl) (fun _ _ _ h => h) (Or.inl ⟨by rfl, ?hy23⟩) (by assumption) ?rest23
  case hy23 =>
    intro w hSw
    try dsimp only at hSw
    try go_split_ands
    go_simp
    try with_reducible rfl
  case' rest23 => skip
  try simp only [List.getElem_toArray, List.getElem_cons_succ, List.getElem_cons_zero, Act.put, List.setIfInBounds_toArray, List.set_cons_zero, List.set_cons_succ]
  refine wpAnyH_take (i := 21) (v := ?v24) rfl (by kernel_rfl) (by kernel_rfl) (by kernel_rfl) (fun _ _ _ h => h) (Or.inl ⟨by rfl, ?hy24⟩) (by assumption) ?rest24
  case hy24 =>
    intro w hSw
    try dsimp only at hSw
    try go_split_ands
    go_simp
    try with_reducible rfl
  case' rest24 => skip
  try simp only [List.getElem_toArray, List.getElem_cons_succ, List.getElem_cons_zero, Act.put, List.setIfInBounds_toArray, List.set_cons_zero, List.set_cons_succ]
  refine wpAnyH_take (i := 22) (v := ?v25) rfl (by kernel_rfl) (by kernel_rfl) (by kernel_rfl) (fun _ _ _ h => h) (Or.inl ⟨by rfl, ?hy25⟩) (by assumption) ?rest25
  case hy25 =>
    intro w hSw
    try dsimp only at hSw
    try go_split_ands
    go_simp
    try with_reducible rfl
  case' rest25 => skip
  try simp only [List.getElem_toArray, List.getElem_cons_succ, List.getElem_cons_zero, Act.put, List.setIfInBounds_toArray, List.set_cons_zero, List.set_cons_succ]
  refine wpAnyH_take (i := 23) (v := ?v26) rfl (by kernel_rfl) (by kernel_rfl) (by kernel_rfl) (fun _ _ _ h => h) (Or.inl ⟨by rfl, ?hy26⟩) (by assumption) ?rest26
  case hy26 =>
    intro w hSw
    try dsimp only at hSw
    try go_split_ands
    go_simp
    try with_reducible rfl
  case' rest26 => skip
  try simp only [List.getElem_toArray, List.getElem_cons_succ, List.getElem_cons_zero, Act.put, List.setIfInBounds_toArray, List.set_cons_zero, List.set_cons_succ]
  refine wpAnyH_take (i := 24) (v := ?v27) rfl (by kernel_rfl) (by kernel_rfl) (by kernel_rfl) (fun _ _ _ h => h) (Or.inl ⟨by rfl, ?hy27⟩) (by assumption) ?rest27
  case hy27 =>
    intro w hSw
    try dsimp only at hSw
    try go_split_ands
    go_simp
    try with_reducible rfl
  case' rest27 => skip
  try simp only [List.getElem_toArray, List.getElem_cons_succ, List.getElem_cons_zero, Act.put, List.setIfInBounds_toArray, List.set_cons_zero, List.set_cons_succ]
  refine wpAnyH_take (i := 25) (v := ?v28) rfl (by kernel_rfl) (by kernel_rfl) (by kernel_rfl) (fun _ _ _ h => h) (Or.inl ⟨by rfl, ?hy28⟩) (by assumption) ?rest28
  case hy28 =>
    intro w hSw
    try dsimp only at hSw
    try go_split_ands
    go_simp
    try with_reducible rfl
  case' rest28 => skip
  try simp only [List.getElem_toArray, List.getElem_cons_succ, List.getElem_cons_zero, Act.put, List.setIfInBounds_toArray, List.set_cons_zero, List.set_cons_succ]
  refine wpAnyH_take (i := 26) (v := ?v29) rfl (by kernel_rfl) (by kernel_rfl) (by kernel_rfl) (fun _ _ _ h => h) (Or.inl ⟨by rfl, ?hy29⟩) (by assumption) ?rest29
  case hy29 =>
    intro w hSw
    try dsimp only at hSw
    try go_split_ands
    go_simp
    try with_reducible rfl
  case' rest29 => skip
  try simp only [List.getElem_toArray, List.getElem_cons_succ, List.getElem_cons_zero, Act.put, List.setIfInBounds_toArray, List.set_cons_zero, List.set_cons_succ]
  refine wpAnyH_take (i := 27) (v := ?v30) rfl (by kernel_rfl) (by kernel_rfl) (by kernel_rfl) (fun _ _ _ h => h) (Or.inl ⟨by rfl, ?hy30⟩) (by assumption) ?rest30
  case hy30 =>
    intro w hSw
    try dsimp only at hSw
    try go_split_ands
    go_simp
    try with_reducible rfl
  case' rest30 => skip
  try simp only [List.getElem_toArray, List.getElem_cons_succ, List.getElem_cons_zero, Act.put, List.setIfInBounds_toArray, List.set_cons_zero, List.set_cons_succ]
  refine wpAnyH_ready (rs := [28]) (by kernel_rfl) (by simp) ?_
  refine AllReadyH.cons rfl (fun K hK => ?_) AllReadyH.nil
  go_simp
  (refine (works_any _).mono ?_; rintro e w9 ⟨rfl, hbel15⟩; have k2 := j3.below hbel15 j3.lt; have hbel16 := hbel14.trans (hbel15.mono hbel14.size))
  try go_wp2_with fail
  refine hK.out _ _ ?_ (fun hHeld2 => ?_)
  · exact k2.range
  clear hK K hHeld
  have hHeld := hHeld2
  clear hHeld2
  try simp only [List.getElem_toArray, List.getElem_cons_succ, List.getElem_cons_zero, Act.put, List.setIfInBounds_toArray, List.set_cons_zero, List.set_cons_succ]
  refine wpAnyH_take (i := 29) (v := ?v32) rfl (by kernel_rfl) (by kernel_rfl) (by kernel_rfl) (fun _ _ _ h => h) (Or.inl ⟨by rfl, ?hy32⟩) (by assumption) ?rest32
  case hy32 =>
    intro w hSw
    try dsimp only at hSw
    try go_split_ands
    go_simp
    try with_reducible rfl
  case' rest32 => skip
  try simp only [List.getElem_toArray, List.getElem_cons_succ, List.getElem_cons_zero, Act.put, List.setIfInBounds_toArray, List.set_cons_zero, List.set_cons_succ]
  refine wpAnyH_take (i := 30) (v := ?v33) rfl (by kernel_rfl) (by kernel_rfl) (by kernel_rfl) (fun _ _ _ h => h) (Or.inl ⟨by rfl, ?hy33⟩) (by assumption) ?rest33
  case hy33 =>
    intro w hSw
    try dsimp only at hSw
    try go_split_ands
    go_simp
    try with_reducible rfl
  case' rest33 => skip
  try simp only [List.getElem_toArray, List.getElem_cons_succ, List.getElem_cons_zero, Act.put, List.setIfInBounds_toArray, List.set_cons_zero, List.set_cons_succ]
  refine wpAnyH_done (by kernel_rfl) ?_ _
  refine NoPanic.normal ?_
  go_wp2
  go_ret
  exact ⟨rfl, hbel16⟩

theorem looks_walk (l : List Nat) (f n : Int) (w : World) (hl : l.length = 256) (hb : ∀ x ∈ l, x < 256) (hf : (Lit.int .i64 f).wf = true) (hn : (Lit.int .i64 n).wf = true) :
    Calls Try.prog 12 #[.agg (blk l), .int .i64 f, .int .i64 n] w fun e w' => e = .returned (.bool true) ∧ Below w.heap.size w w' := by
  have hf' : f ≤ 9223372036854775807 := by
    simp [Lit.wf, IntKind.min, IntKind.max, IntKind.signed, IntKind.bits] at hf
    omega
  obtain ⟨r, ok, hr⟩ := firstV_shape (firstO l f n)
  refine looks_core l f n r r ((setK l (upTo n)).length : Int) ok ok (setK l (upTo n)) w hl (Lib.hid fun w' => ?_) (Lib.hid fun A m c w' h => ?_) (Lib.hid fun w' => count_any l n w' hl hb) (Lib.hid fun A m c w' h => rset_any A m c l n w' h hl hb) (Lib.hid fun w' => set_any l n w' hl hb) (by simp) (by simp) (by simp)
  · have := first_any l f n w' hl hb hf'
    rw [hr] at this
    exact this
  · have := rfirst_any A m c l f n w' h hl hb
    rw [hr] at this
    exact this
end Go.Proofs.Ytgcmgohknocfnaa.Chart
