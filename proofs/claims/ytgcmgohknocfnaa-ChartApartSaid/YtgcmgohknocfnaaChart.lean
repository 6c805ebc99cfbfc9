/- Contracts of the functions on a block's bits (package chart). No statement is proved here. -/
import Derived.Test.YtgcmgohknocfnaaProg
import Derived.Test.YtgcmgohknocfnaaMem
import Derived.WalkKit
import Derived.WalkSpells
import Derived.WalkLawsBesides
import Derived.Laws.BitsAllLaws
import Derived.LoopTactic
import Derived.Deep.QuietTactic
import Derived.BigQuiet
import Derived.KernelRfl
namespace Go.Proofs.Ytgcmgohknocfnaa.Chart
open Go.RowKit Go.Proofs.Ytgcmgohknocfnaa.Mem
set_option linter.unusedVariables false
set_option linter.unusedSimpArgs false

theorem ret_int {k : IntKind} {a b : Int} (h : a = b) : Ending.returned (.int k a) = .returned (.int k b) := by rw [h]
theorem ret_bool {a b : Bool} (h : a = b) : Ending.returned (.bool a) = .returned (.bool b) := by rw [h]

/-! ### the block's type -/
theorem blkUnd : Try.prog.underlying 41 = some (.array 256 5) := by kernel_rfl
/-- A block of zeros. -/
def zblk : List Nat := List.replicate 256 0
theorem zblk_length : zblk.length = 256 := by unfold zblk; rw [List.length_replicate]
theorem zblk_byte : ∀ x ∈ zblk, x < 256 := by unfold zblk; intro x hx; rw [List.mem_replicate] at hx; omega
theorem blkInfo : (Try.prog.info? 41).map (fun i => (i.zero, i.size)) = some (some (.agg (blk zblk)), 256) := by kernel_rfl
theorem blkZero : ∀ w, (zeroValue 41).run Try.prog w = .ok (.agg (blk zblk)) w := (zero_of_info blkInfo).1
theorem blkSize : (Try.prog.info? 41).map (·.size) = some 256 := (zero_of_info blkInfo).2

/-! ### chart.where -/
def inB (i : Int) : Bool := decide (0 ≤ i) && decide (i < 2048)
theorem ret_ibb {j k : IntKind} {a b c d : Int} {e : Bool} (h : a = b) (h' : c = d) : Ending.returned (.tuple #[.int j a, .int k c, .bool e]) = .returned (.tuple #[.int j b, .int k d, .bool e]) := by rw [h, h']
theorem where_in (k q m : Nat) (hk : k < 2048) (hq : k / 8 = q) (hm : 2 ^ (k % 8) = m) (w : World) :
    Calls Try.prog 57 #[.int .i64 k] w fun e w' => e = .returned (.tuple #[.int .i64 q, .int .u8 m, .bool true]) ∧ w = w' := by
  have h8 : k % 8 < 8 := Nat.mod_lt _ (by decide)
  have p2 : 2 ^ (k % 8) ≤ 128 := Nat.pow_le_pow_right (n := 2) (by decide) (show k % 8 ≤ 7 by omega)
  have p3 : (2 : Int) ^ (k % 8) ≤ 128 := by have : ((2 ^ (k % 8) : Nat) : Int) = (2 : Int) ^ (k % 8) := by simp
                                            omega
  have p1 : (0 : Int) ≤ (2 : Int) ^ (k % 8) := Int.pow_nonneg (by decide)
  have HQ : Hid (k / 8 = q) := hq
  have HM : Hid (2 ^ (k % 8) = m) := hm
  clear hq hm
  go_enter Try.func57, Try.ntmps57
  go_wp2
  go_ret3
  exact ⟨ret_ibb (by rw [← HQ.out]; rfl) (by rw [← HM.out]; simp), rfl⟩
theorem where_out (i : Int) (hi : i < 0 ∨ 2048 ≤ i) (w : World) :
    Calls Try.prog 57 #[.int .i64 i] w fun e w' => e = .returned (.tuple #[.int .i64 0, .int .u8 0, .bool false]) ∧ w = w' := by
  by_cases h : i < 0
  · go_enter Try.func57, Try.ntmps57
    go_wp2
    go_ret3
    exact ⟨rfl, rfl⟩
  · have h2 : 2048 ≤ i := by omega
    go_enter Try.func57, Try.ntmps57
    go_wp2
    go_ret3
    exact ⟨rfl, rfl⟩

/-! ### chart.Has -/
/-- Is a bit of some bytes set? -/
def hasB (l : List Nat) (i : Int) : Bool := if 0 ≤ i then if i < 2048 then (l.getD (i.toNat / 8) 0).testBit (i.toNat % 8) else false else false
theorem testBit_and (x j : Nat) (hx : x < 256) (hj : j < 8) : (bits .and .u8 (x : Int) ((2 ^ j : Nat) : Int) != 0) = x.testBit j := by
  have p2 : 2 ^ j ≤ 128 := Nat.pow_le_pow_right (n := 2) (by decide) (show j ≤ 7 by omega)
  rw [u8_and_nat x (2 ^ j) hx (by omega), nat_bit, Nat.testBit_eq_decide_div_mod_eq]
  have hp := Nat.one_le_two_pow (n := j)
  rcases Nat.mod_two_eq_zero_or_one (x / 2 ^ j) with e | e
  · rw [e]; simp
  · rw [e, Nat.one_mul]
    have : (((2 ^ j : Nat) : Int) != 0) = true := by rw [bne_iff_ne]; omega
    rw [this]; rfl
set_option maxHeartbeats 400000 in
theorem has_any (l : List Nat) (i : Int) (w : World) (hl : l.length = 256) (hb : ∀ x ∈ l, x < 256) :
    Calls Try.prog 31 #[.agg (blk l), .int .i64 i] w fun e w' => e = .returned (.bool (hasB l i)) ∧ w' = w.alloc (.cells (blk l) 41) := by
  by_cases hi : i < 0 ∨ 2048 ≤ i
  · go_enter Try.func31, Try.ntmps31
    go_wp2_with (go_at_call 57; refine (where_out i hi _).mono ?_; rintro e w' ⟨rfl, rfl⟩)
    go_ret
    exact ⟨ret_bool (by unfold hasB; rcases hi with h | h; rw [if_neg (by omega)]; rw [if_pos (by omega), if_neg (by omega)]), rfl⟩
  · obtain ⟨k, rfl⟩ := Int.eq_ofNat_of_zero_le (show 0 ≤ i by omega)
    have hk : k < 2048 := by omega
    have hq : k / 8 < l.length := by omega
    obtain ⟨x, hx⟩ : ∃ x, l[k / 8] = x := ⟨_, rfl⟩
    obtain ⟨q, hq'⟩ : ∃ q, k / 8 = q := ⟨_, rfl⟩
    obtain ⟨m, hm'⟩ : ∃ m, 2 ^ (k % 8) = m := ⟨_, rfl⟩
    have HT : Hid ((bits .and .u8 (x : Int) (m : Int) != 0) = hasB l k) := by
      show _ = _
      rw [← hx, ← hm', testBit_and _ _ (hb _ (List.getElem_mem hq)) (Nat.mod_lt _ (by decide))]
      unfold hasB
      rw [if_pos (by omega), if_pos (by omega), Int.toNat_natCast, List.getD_eq_getElem?_getD, List.getElem?_eq_getElem hq]
      rfl
    have hc : (w.alloc (.cells (blk l) 41)).cell? ⟨w.heap.size, q, none⟩ = some (.int .u8 (x : Int)) := by
      rw [cell_of_row _ _ _ _ _ _ (heap_alloc_new w _), ← hq', blk_get l _ hq, hx]
    have HW := where_in k q m hk hq' hm'
    have hq2 : q < 256 := by omega
    clear hq' hm' hx
    go_enter Try.func31, Try.ntmps31
    go_wp2_with (go_at_call 57; refine (HW _).mono ?_; rintro e w' ⟨rfl, rfl⟩)
    go_ret
    exact ⟨ret_bool HT.out, rfl⟩

/-! ### chart.With -/
/-- Some bytes with one bit set, or not. -/
def withB (l : List Nat) (i : Int) (on : Bool) : List Nat :=
  if 0 ≤ i then if i < 2048 then l.set (i.toNat / 8) (if on then l.getD (i.toNat / 8) 0 ||| 2 ^ (i.toNat % 8) else l.getD (i.toNat / 8) 0 &&& (255 - 2 ^ (i.toNat % 8))) else l else l
theorem withB_length (l : List Nat) (i : Int) (on : Bool) : (withB l i on).length = l.length := by
  unfold withB; split <;> try split
  all_goals simp
theorem withB_byte (l : List Nat) (i : Int) (on : Bool) (hb : ∀ x ∈ l, x < 256) : ∀ x ∈ withB l i on, x < 256 := by
  intro x hx
  unfold withB at hx
  split at hx
  · split at hx
    · rcases List.mem_or_eq_of_mem_set hx with h | h
      · exact hb x h
      · have h8 : i.toNat % 8 < 8 := Nat.mod_lt _ (by decide)
        have p2 : 2 ^ (i.toNat % 8) ≤ 128 := Nat.pow_le_pow_right (n := 2) (by decide) (show i.toNat % 8 ≤ 7 by omega)
        have hg : l.getD (i.toNat / 8) 0 < 256 := by
          rw [List.getD_eq_getElem?_getD]
          by_cases hq : i.toNat / 8 < l.length
          · rw [List.getElem?_eq_getElem hq]; exact hb _ (List.getElem_mem hq)
          · rw [List.getElem?_eq_none (by omega)]; decide
        rw [h]
        split
        · exact Nat.or_lt_two_pow (n := 8) hg (by omega)
        · exact Nat.lt_of_le_of_lt Nat.and_le_left hg
    · exact hb x hx
  · exact hb x hx
set_option maxHeartbeats 400000 in
theorem with_out (l : List Nat) (i : Int) (on : Bool) (w : World) (hl : l.length = 256) (hi : i < 0 ∨ 2048 ≤ i) :
    Calls Try.prog 30 #[.agg (blk l), .int .i64 i, .bool on] w fun e w' => e = .returned (.agg (blk l)) ∧ Below w.heap.size w w' := by
  have hg1 : ((w.alloc (.cells (blk l) 41)).alloc (.cells (blk zblk) 41)).heap[w.heap.size]? = some (.cells (blk l) 41 (0, 0)) := heap_alloc2_old w _ _
  have hg2 : ((w.alloc (.cells (blk l) 41)).alloc (.cells (blk zblk) 41)).heap[w.heap.size + 1]? = some (.cells (blk zblk) 41 (0, 0)) := heap_alloc2_new w _ _
  have hs : (blk l).size = 256 := by rw [blk_size]; exact hl
  have hz : (blk zblk).size = 256 := by rw [blk_size]; exact zblk_length
  go_enter Try.func30, Try.ntmps30
  go_wp2_with (first
    | (with_reducible refine wpList_allocA rfl 41 rfl _ blkZero ?_)
    | (go_at_call 57; refine (where_out i hi _).mono ?_; rintro e w' ⟨rfl, rfl⟩)
    | (with_reducible refine wpList_load rfl 41 _ rfl _ rfl 41 (blk l) 256 5 blkUnd blkSize hs hg1 ?_)
    | (with_reducible refine wpList_store rfl 41 _ _ rfl _ rfl (blk l) rfl (blk zblk) 41 256 blkSize hs hz (blk_one _) hg2 ?_))
  exact bodyPost_ret (v := .agg (blk l)) (results_cell_row rfl _ _ (w.heap.size + 1) 41 (blk l) (0, 0) _ rfl (setRow_heap _ _ _ _ _ _ hg2) blkUnd rfl (by rw [hs]; exact blkSize)) rfl
    ⟨rfl, below_setRow (((Below.refl _ _).alloc (Nat.le_refl _) _).alloc (by simp) _) (by omega) _⟩

theorem wp_world (w : World) (l z : List Nat) (T : TypeId) : ((w.alloc (.cells (blk l) T)).alloc (.cells (blk z) T)).heap[w.heap.size]? = some (.cells (blk l) T (0, 0)) ∧ ((w.alloc (.cells (blk l) T)).alloc (.cells (blk z) T)).heap[w.heap.size + 1]? = some (.cells (blk z) T (0, 0)) :=
  ⟨heap_alloc2_old w _ _, heap_alloc2_new w _ _⟩
theorem set_world {W : World} {g g' q n : Nat} {l z : List Nat} {T : TypeId} (h : W.heap[g]? = some (.cells (blk l) T (0, 0))) (h' : W.heap[g']? = some (.cells (blk z) T (0, 0))) (hne : g' ≠ g) :
    (W.setCell ⟨g, q, none⟩ (.int .u8 (n : Int))).heap[g]? = some (.cells (blk (l.set q n)) T (0, 0)) ∧ (W.setCell ⟨g, q, none⟩ (.int .u8 (n : Int))).heap[g']? = some (.cells (blk z) T (0, 0)) := by
  refine ⟨?_, ?_⟩
  · rw [← blk_set]; exact heap_setCell_same _ _ _ _ _ _ h
  · rw [heap_setCell_other _ _ _ _ hne]; exact h'
set_option maxHeartbeats 400000 in
theorem with_in (l : List Nat) (k : Nat) (on : Bool) (w : World) (hl : l.length = 256) (hb : ∀ x ∈ l, x < 256) (hk : k < 2048) :
    Calls Try.prog 30 #[.agg (blk l), .int .i64 k, .bool on] w fun e w' => e = .returned (.agg (blk (withB l k on))) ∧ Below w.heap.size w w' := by
  have hz : (blk zblk).size = 256 := by rw [blk_size]; exact zblk_length
  have hq : k / 8 < l.length := by omega
  have h8 : k % 8 < 8 := Nat.mod_lt _ (by decide)
  have p2 : 2 ^ (k % 8) ≤ 128 := Nat.pow_le_pow_right (n := 2) (by decide) (show k % 8 ≤ 7 by omega)
  obtain ⟨x, hx⟩ : ∃ x, l[k / 8] = x := ⟨_, rfl⟩
  have hxb : x < 256 := by rw [← hx]; exact hb _ (List.getElem_mem hq)
  have hor : Hid (withB l k true = l.set (k / 8) (x ||| 2 ^ (k % 8))) := by
    show _ = _
    unfold withB
    rw [if_pos (by omega), if_pos (by omega), Int.toNat_natCast, List.getD_eq_getElem?_getD, List.getElem?_eq_getElem hq, hx]
    rfl
  have han : Hid (withB l k false = l.set (k / 8) (x &&& (255 - 2 ^ (k % 8)))) := by
    show _ = _
    unfold withB
    rw [if_pos (by omega), if_pos (by omega), Int.toNat_natCast, List.getD_eq_getElem?_getD, List.getElem?_eq_getElem hq, hx]
    rfl
  obtain ⟨q, hq'⟩ : ∃ q, k / 8 = q := ⟨_, rfl⟩
  obtain ⟨m, hm'⟩ : ∃ m, 2 ^ (k % 8) = m := ⟨_, rfl⟩
  have hc : ((w.alloc (.cells (blk l) 41)).alloc (.cells (blk zblk) 41)).cell? ⟨w.heap.size, q, none⟩ = some (.int .u8 (x : Int)) := by
    rw [cell_of_row _ _ _ _ _ _ (heap_alloc2_old w _ _), ← hq', blk_get l _ hq, hx]
  have hf : ((w.alloc (.cells (blk l) 41)).alloc (.cells (blk zblk) 41)).frozen? ⟨w.heap.size, q, none⟩ = false := frozen_of_row _ _ _ _ _ (heap_alloc2_old w _ _)
  have HW := where_in k q m hk hq' hm'
  have hq2 : q < 256 := by omega
  rw [hq', hm'] at hor han
  rw [hm'] at p2
  clear hq' hm' hx hq
  obtain ⟨hg1, hg2⟩ := wp_world w l zblk 41
  cases on with
  | true =>
    have hv : bits .or .u8 (x : Int) (m : Int) = ((x ||| m : Nat) : Int) := u8_or_nat x m hxb (by omega)
    obtain ⟨hs1, hs2⟩ := wp_world w (l.set q (x ||| m)) zblk 41
    have hset := blk_set l q (x ||| m)
    generalize x ||| m = y at hv hs1 hs2 hor hset
    have hs : (blk (l.set q y)).size = 256 := by rw [blk_size, List.length_set]; exact hl
    go_enter Try.func30, Try.ntmps30
    go_wp2_with (first
      | (with_reducible refine wpList_allocA rfl 41 rfl _ blkZero ?_)
      | (go_at_call 57; refine (HW _).mono ?_; rintro e w' ⟨rfl, rfl⟩)
      | (with_reducible refine wpList_load rfl 41 _ rfl _ rfl 41 (blk (l.set q y)) 256 5 blkUnd blkSize hs hs1 ?_)
      | (with_reducible refine wpList_store rfl 41 _ _ rfl _ rfl (blk (l.set q y)) rfl (blk zblk) 41 256 blkSize hs hz (blk_one _) hs2 ?_))
    rw [hor.out]
    exact bodyPost_ret (v := .agg (blk (l.set q y))) (results_cell_row rfl _ _ (w.heap.size + 1) 41 (blk (l.set q y)) (0, 0) _ rfl (setRow_heap _ _ _ _ _ _ hs2) blkUnd rfl (by rw [hs]; exact blkSize)) rfl
      ⟨rfl, below_setRow (((Below.refl _ _).alloc (Nat.le_refl _) _).alloc (by simp) _) (by omega) _⟩
  | false =>
    have hv : bits .andNot .u8 (x : Int) (m : Int) = ((x &&& (255 - m) : Nat) : Int) := u8_andNot_nat x m hxb (by omega)
    obtain ⟨hs1, hs2⟩ := wp_world w (l.set q (x &&& (255 - m))) zblk 41
    have hset := blk_set l q (x &&& (255 - m))
    generalize x &&& (255 - m) = y at hv hs1 hs2 han hset
    have hs : (blk (l.set q y)).size = 256 := by rw [blk_size, List.length_set]; exact hl
    go_enter Try.func30, Try.ntmps30
    go_wp2_with (first
      | (with_reducible refine wpList_allocA rfl 41 rfl _ blkZero ?_)
      | (go_at_call 57; refine (HW _).mono ?_; rintro e w' ⟨rfl, rfl⟩)
      | (with_reducible refine wpList_load rfl 41 _ rfl _ rfl 41 (blk (l.set q y)) 256 5 blkUnd blkSize hs hs1 ?_)
      | (with_reducible refine wpList_store rfl 41 _ _ rfl _ rfl (blk (l.set q y)) rfl (blk zblk) 41 256 blkSize hs hz (blk_one _) hs2 ?_))
    rw [han.out]
    exact bodyPost_ret (v := .agg (blk (l.set q y))) (results_cell_row rfl _ _ (w.heap.size + 1) 41 (blk (l.set q y)) (0, 0) _ rfl (setRow_heap _ _ _ _ _ _ hs2) blkUnd rfl (by rw [hs]; exact blkSize)) rfl
      ⟨rfl, below_setRow (((Below.refl _ _).alloc (Nat.le_refl _) _).alloc (by simp) _) (by omega) _⟩
theorem with_any (l : List Nat) (i : Int) (on : Bool) (w : World) (hl : l.length = 256) (hb : ∀ x ∈ l, x < 256) :
    Calls Try.prog 30 #[.agg (blk l), .int .i64 i, .bool on] w fun e w' => e = .returned (.agg (blk (withB l i on))) ∧ Below w.heap.size w w' := by
  by_cases hi : i < 0 ∨ 2048 ≤ i
  · have e : withB l i on = l := by
      unfold withB
      rcases hi with h | h
      · rw [if_neg (by omega)]
      · rw [if_pos (by omega), if_neg (by omega)]
    rw [e]
    exact with_out l i on w hl hi
  · obtain ⟨k, rfl⟩ := Int.eq_ofNat_of_zero_le (show 0 ≤ i by omega)
    exact with_in l k on w hl hb (by omega)

/-! ### chart.Set, chart.Count -/
theorem intInfo : (Try.prog.info? 3).map (fun i => (i.zero, i.size, i.bytes)) = some (some (.int .i64 0), 1, 8) := by kernel_rfl
/-- Which of the first so many bits are set. -/
def setK (l : List Nat) (k : Nat) : List Int := ((List.range k).filter fun i : Nat => hasB l (i : Int)).map fun i : Nat => (i : Int)
theorem setK_len (l : List Nat) (k : Nat) : (setK l k).length ≤ k := by
  unfold setK
  rw [List.length_map]
  have := List.length_filter_le (fun i : Nat => hasB l (i : Int)) (List.range k)
  rw [List.length_range] at this
  exact this
theorem setK_yes (l : List Nat) (k : Nat) (h : hasB l (k : Int) = true) : setK l (k + 1) = setK l k ++ [(k : Int)] := by
  unfold setK
  rw [List.range_succ, List.filter_append, List.map_append]
  simp [List.filter_cons, h]
theorem setK_no (l : List Nat) (k : Nat) (h : hasB l (k : Int) = false) : setK l (k + 1) = setK l k := by
  unfold setK
  rw [List.range_succ, List.filter_append, List.map_append]
  simp [List.filter_cons, h]
/-- So many bits are looked at. -/
def upTo (n : Int) : Nat := min n.toNat 2048
set_option maxHeartbeats 1000000 in
set_option maxRecDepth 100000 in
theorem set_any (l : List Nat) (n : Int) (w : World) (hl : l.length = 256) (hb : ∀ x ∈ l, x < 256) :
    Calls Try.prog 51 #[.agg (blk l), .int .i64 n] w fun e w' => ∃ v, e = .returned v ∧ Own w' w.heap.size 3 (Value.int .i64) v (setK l (upTo n)) ∧ Below w.heap.size w w' := by
  have hU : upTo n ≤ 2048 := Nat.min_le_right _ _
  have hcs : (n ≤ 0 ∧ upTo n ≤ 0) ∨ (0 < n ∧ n ≤ 2048 ∧ n = (upTo n : Int)) ∨ (2048 < n ∧ 2048 ≤ upTo n) := by unfold upTo; omega
  have hs : (blk l).size = 256 := by rw [blk_size]; exact hl
  obtain ⟨N, hN⟩ : ∃ N, upTo n = N := ⟨_, rfl⟩
  rw [hN] at hU hcs ⊢
  clear hN
  rcases hcs with ⟨h1, h2⟩ | ⟨h1, h2, rfl⟩ | ⟨h1, h2⟩
  all_goals
    go_enter Try.func51, Try.ntmps51
    go_wp2
    go_loopw [5, 10] (fun v i wr => ∃ (u : Value) (k : Nat), u = v ∧ k ≤ N ∧ i = .int .i64 k ∧ Own wr (w.heap.size + 1) 3 (Value.int .i64) u (setK l k) ∧ Box wr w.heap.size 41 l ∧ Below w.heap.size w wr) (fun _ i _ => N - (intOf i).toNat)
    case atStart => exact ⟨_, 0, rfl, by omega, rfl, Own.nil _ _ _ _, Box.new _ _ _, (Below.refl _ _).alloc (Nat.le_refl _) _⟩
    case round =>
      obtain ⟨u, k, rfl, hk, rfl, hown, hbox, hbel⟩ := hrel
      by_cases hlt : k < N
      · first
        | (exfalso; omega)
        | (have hlen := setK_len l k
           have hsz := hbox.lt
           have hB := hbel.size
           cases hh : hasB l (k : Int) with
           | true =>
             have HS : Hid (setK l (k + 1) = setK l k ++ [(k : Int)]) := setK_yes l k hh
             have hc1 : ((wr.alloc (.cells (blk l) 41)).alloc (.cells #[.int .i64 (k : Int)] 3)).cell? ⟨wr.heap.size + 1, 0, none⟩ = some (.int .i64 (k : Int)) := by
               rw [cell_of_row _ _ _ _ _ _ (heap_alloc2_new wr _ _)]; rfl
             go_wp2_with (first
               | (with_reducible refine wpList_load rfl 41 _ rfl _ rfl 41 (blk l) 256 5 blkUnd blkSize hs hbox.out ?_)
               | (go_at_call 31; refine (has_any l _ _ hl hb).mono ?_; rw [hh]; rintro e w' ⟨rfl, rfl⟩)
               | (at_builtin; refine wpList_app1 rfl _ _ 39 rfl (w.heap.size + 1) 3 (.int .i64 0) 8 (Value.int .i64) Try.underlying39 intInfo rfl u (setK l k) (k : Int) rfl _ (wr.heap.size + 1) rfl ((hown.alloc _).alloc _) hc1 rfl (by omega) (by omega) (by simp; omega) ?_; intro v1 w1 hown1 hbel1 hg1))
             go_roundw
             case rel =>
               refine ⟨_, k + 1, rfl, by omega, by go_num, by rw [HS.out]; exact hown1, ((hbox.alloc _).alloc _).below hbel1 (by omega), ?_⟩
               exact ((hbel.alloc hB _).alloc (by simp; omega) _).trans (hbel1.mono (by omega))
             case measure => simp [intOf]; omega
           | false =>
             have HS : Hid (setK l (k + 1) = setK l k) := setK_no l k hh
             go_wp2_with (first
               | (with_reducible refine wpList_load rfl 41 _ rfl _ rfl 41 (blk l) 256 5 blkUnd blkSize hs hbox.out ?_)
               | (go_at_call 31; refine (has_any l _ _ hl hb).mono ?_; rw [hh]; rintro e w' ⟨rfl, rfl⟩))
             go_roundw
             case rel => exact ⟨_, k + 1, rfl, by omega, by go_num, by rw [HS.out]; exact hown.alloc _, hbox.alloc _, hbel.alloc hB _⟩
             case measure => simp [intOf]; omega)
      · obtain rfl : k = N := by omega
        go_wp2
        go_ret
        exact ⟨u, rfl, hown.mono (by omega), hbel⟩
theorem count_any (l : List Nat) (n : Int) (w : World) (hl : l.length = 256) (hb : ∀ x ∈ l, x < 256) :
    Calls Try.prog 48 #[.agg (blk l), .int .i64 n] w fun e w' => e = .returned (.int .i64 ((setK l (upTo n)).length : Nat)) ∧ Below w.heap.size w w' := by
  have hs : (blk l).size = 256 := by rw [blk_size]; exact hl
  have hbox := (Box.new w 41 l).out
  go_enter Try.func48, Try.ntmps48
  go_wp2_with (first
    | (with_reducible refine wpList_load rfl 41 _ rfl _ rfl 41 (blk l) 256 5 blkUnd blkSize hs hbox ?_)
    | (go_at_call 51; refine (set_any l n _ hl hb).mono ?_; rintro e w1 ⟨v, rfl, hown, hbel⟩; obtain ⟨A, c, rfl⟩ := hown.slice))
  go_ret
  exact ⟨rfl, ((Below.refl _ _).alloc (Nat.le_refl _) _).trans (hbel.mono (by simp))⟩

/-! ### chart.First -/
/-- From a place on, below an end: is a bit not set? -/
def freeB (l : List Nat) (f : Int) (i : Nat) : Bool := decide (f ≤ (i : Int)) && !hasB l (i : Int)
/-- The first bit from a place on, below an end, that is not set. -/
def firstO (l : List Nat) (f n : Int) : Option Nat := (List.range (upTo n)).find? (freeB l f)
def firstV (o : Option Nat) : Value := match o with
  | some k => .tuple #[.int .i64 (k : Int), .bool true]
  | none => .tuple #[.int .i64 0, .bool false]
theorem firstO_some {l : List Nat} {f n : Int} {k : Nat} (hk : k < upTo n) (h : freeB l f k = true) (hno : ∀ j, j < k → freeB l f j = false) : firstO l f n = some k := by
  unfold firstO
  rw [List.find?_range_eq_some]
  exact ⟨h, List.mem_range.2 hk, fun j hj => by rw [hno j hj]; rfl⟩
theorem firstO_none {l : List Nat} {f n : Int} (hno : ∀ j, j < upTo n → freeB l f j = false) : firstO l f n = none := by
  unfold firstO
  rw [List.find?_range_eq_none]
  exact fun j hj => by rw [hno j hj]; rfl
theorem ret_first {o o' : Option Nat} (h : o = o') : Ending.returned (firstV o) = .returned (firstV o') := by rw [h]
theorem free_step {l : List Nat} {f : Int} {k : Nat} (h : ∀ j, j < k → freeB l f j = false) (hk : freeB l f k = false) : ∀ j, j < k + 1 → freeB l f j = false := by
  intro j hj
  by_cases e : j = k
  · rw [e]; exact hk
  · exact h j (by omega)
set_option maxHeartbeats 1000000 in
set_option maxRecDepth 100000 in
theorem first_core (l : List Nat) (f F n : Int) (w : World) (hl : l.length = 256) (hb : ∀ x ∈ l, x < 256) (hf : f ≤ 9223372036854775807) (hFf : Hid (F = f)) :
    Calls Try.prog 46 #[.agg (blk l), .int .i64 f, .int .i64 n] w fun e w' => e = .returned (firstV (firstO l F n)) ∧ Below w.heap.size w w' := by
  have hU : upTo n ≤ 2048 := Nat.min_le_right _ _
  have hcs : ∀ k : Nat, k < upTo n ↔ (k : Int) < n ∧ k < 2048 := by intro k; unfold upTo; omega
  have HS : Hid (∀ k : Nat, k < upTo n → freeB l F k = true → (∀ j, j < k → freeB l F j = false) → firstO l F n = some k) := fun k => firstO_some
  have HN : Hid ((∀ j, j < upTo n → freeB l F j = false) → firstO l F n = none) := firstO_none
  have hs : (blk l).size = 256 := by rw [blk_size]; exact hl
  obtain ⟨N, hN⟩ : ∃ N, upTo n = N := ⟨_, rfl⟩
  rw [hN] at hU hcs HS HN
  clear hN
  obtain ⟨s, hs0, hs1, hs2, hs3⟩ : ∃ s : Nat, (f ≤ 0 → s = 0) ∧ (0 < f → f = (s : Int)) ∧ (∀ j : Nat, j < s → freeB l F j = false) ∧ F ≤ s := by
    have hFf := hFf.out
    refine ⟨f.toNat, by omega, by omega, fun j hj => ?_, by omega⟩
    unfold freeB
    rw [decide_eq_false (by omega)]
    rfl
  have HC : Hid (∀ k : Nat, k < N ↔ (k : Int) < n ∧ k < 2048) := hcs
  have H2 : Hid (∀ j : Nat, j < s → freeB l F j = false) := hs2
  clear hcs hs2
  have hcase : (f ≤ 0 ∧ s = 0) ∨ (0 < f ∧ f = (s : Int)) := by omega
  clear hs0 hs1 hFf
  rcases hcase with ⟨hf0, rfl⟩ | ⟨hf0, rfl⟩
  all_goals
    go_enter Try.func46, Try.ntmps46
    go_wp2
    go_loopw [8] (fun i wr => ∃ k : Nat, (k ≤ N ∨ Hid (∀ j : Nat, j < k → freeB l F j = false)) ∧ i = .int .i64 k ∧ Hid (∀ j : Nat, j < k → freeB l F j = false) ∧ F ≤ k ∧ Box wr w.heap.size 41 l ∧ Below w.heap.size w wr) (fun i _ => N - (intOf i).toNat)
    case atStart => exact ⟨_, .inr H2, rfl, H2, hs3, Box.new _ _ _, (Below.refl _ _).alloc (Nat.le_refl _) _⟩
    case round =>
      obtain ⟨k, _, rfl, hno, hfk, hbox, hbel⟩ := hrel
      have hB := hbel.size
      have hsz := hbox.lt
      by_cases hlt : k < N
      · obtain ⟨hkn, hk8⟩ := (HC.out k).1 hlt
        have hfree : freeB l F k = !hasB l (k : Int) := by unfold freeB; rw [decide_eq_true hfk]; rfl
        cases hh : hasB l (k : Int) with
        | true =>
          have hno' : Hid (∀ j : Nat, j < k + 1 → freeB l F j = false) := free_step hno.out (by rw [hfree, hh]; rfl)
          clear hfree
          by_cases hn8 : n ≤ 2048
          all_goals
            go_wp2_with (first
              | (with_reducible refine wpList_load rfl 41 _ rfl _ rfl 41 (blk l) 256 5 blkUnd blkSize hs hbox.out ?_)
              | (go_at_call 31; refine (has_any l _ _ hl hb).mono ?_; rw [hh]; rintro e w' ⟨rfl, rfl⟩))
            go_roundw
            case rel => exact ⟨k + 1, .inl (by omega), by go_num, hno', by omega, hbox.alloc _, hbel.alloc hB _⟩
            case measure => simp [intOf]; omega
        | false =>
          have hfin : Hid (firstO l F n = some k) := HS.out k hlt (by rw [hfree, hh]; rfl) hno.out
          clear hfree
          by_cases hn8 : n ≤ 2048
          all_goals
            go_wp2_with (first
              | (with_reducible refine wpList_load rfl 41 _ rfl _ rfl 41 (blk l) 256 5 blkUnd blkSize hs hbox.out ?_)
              | (go_at_call 31; refine (has_any l _ _ hl hb).mono ?_; rw [hh]; rintro e w' ⟨rfl, rfl⟩))
            go_ret2
            exact ⟨(ret_first hfin.out).symm, hbel.alloc hB _⟩
      · have hfin : Hid (firstO l F n = none) := HN.out (fun j hj => hno.out j (by omega))
        have hnk : ¬ ((k : Int) < n ∧ k < 2048) := fun h => hlt ((HC.out k).2 h)
        by_cases hn8 : n ≤ 2048
        · have hnk' : ¬ ((k : Int) < n) := by omega
          clear hnk
          go_wp2
          go_ret2
          exact ⟨(ret_first hfin.out).symm, hbel⟩
        · have hnk' : ¬ (k < 2048) := by omega
          clear hnk
          go_wp2
          go_ret2
          exact ⟨(ret_first hfin.out).symm, hbel⟩
theorem first_any (l : List Nat) (f n : Int) (w : World) (hl : l.length = 256) (hb : ∀ x ∈ l, x < 256) (hf : f ≤ 9223372036854775807) :
    Calls Try.prog 46 #[.agg (blk l), .int .i64 f, .int .i64 n] w fun e w' => e = .returned (firstV (firstO l f n)) ∧ Below w.heap.size w w' :=
  first_core l f f n w hl hb hf rfl
end Go.Proofs.Ytgcmgohknocfnaa.Chart
