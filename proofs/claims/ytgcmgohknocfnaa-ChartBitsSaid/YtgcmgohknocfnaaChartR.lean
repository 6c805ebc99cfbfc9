/- chart.Patch: what it answers. -/
import Derived.Test.YtgcmgohknocfnaaChartP
namespace Go.Proofs.Ytgcmgohknocfnaa.Chart
open Go.RowKit Go.Proofs.Ytgcmgohknocfnaa.Mem Go.Proofs.Ytgcmgohknocfnaa.Open Go.Proofs.Ytgcmgohknocfnaa.Bits Go.Proofs.Ytgcmgohknocfnaa.RefD Go.Proofs.Ytgcmgohknocfnaa.Same
set_option linter.unusedVariables false
set_option linter.unusedSimpArgs false

theorem patSize : (Try.prog.info? 75).map (·.size) = some 2 := by kernel_rfl
/-- An empty patch. -/
abbrev pat0 : Value := .agg #[.int .i64 0, .slice none 0 0]
set_option maxHeartbeats 1000000 in
set_option maxRecDepth 100000 in
theorem patch_out (l : List Nat) (i : Int) (on : Bool) (w : World) (hi : i < 0 ∨ 2048 ≤ i) :
    Calls Try.prog 44 #[.agg (blk l), .int .i64 i, .bool on] w fun e w' => e = .returned pat0 ∧ Below w.heap.size w w' := by
  go_enter Try.func44, Try.ntmps44
  go_wp2_with (go_at_call 57; refine (where_out i hi _).mono ?_; rintro e w' ⟨rfl, rfl⟩)
  have hh : ((w.alloc (.cells (blk l) 41)).alloc (.cells #[.int .i64 0, .slice none 0 0] 75)).heap[w.heap.size + 1]? = some (.cells #[.int .i64 0, .slice none 0 0] 75 (0, 0)) := heap_alloc2_new w _ _
  have hbel := (((Below.refl w.heap.size w).alloc (Nat.le_refl _) (.cells (blk l) 41)).alloc (by simp) (.cells #[.int .i64 0, .slice none 0 0] 75))
  exact bodyPost_ret (v := pat0) (results_cell_row rfl _ _ (w.heap.size + 1) 75 #[.int .i64 0, .slice none 0 0] (0, 0) _ rfl hh Try.underlying75 rfl patSize) rfl ⟨rfl, hbel⟩
theorem row_cell {w : World} {g : Nat} {cs : Array Value} {T : TypeId} (h : w.heap[g]? = some (.cells cs T (0, 0))) (i : Nat) (v : Value) (hv : cs[i]? = some v) : w.cell? ⟨g, i, none⟩ = some v := by
  rw [cell_of_row _ _ _ _ _ _ h, hv]
set_option maxHeartbeats 1000000 in
set_option maxRecDepth 100000 in
theorem patch_in (l : List Nat) (k : Nat) (on : Bool) (w : World) (hl : l.length = 256) (hb : ∀ x ∈ l, x < 256) (hk : k < 2048) (x : Nat) (hx : (withB l (k : Int) on)[k / 8]? = some x) :
    Calls Try.prog 44 #[.agg (blk l), .int .i64 k, .bool on] w fun e w' => ∃ g, e = .returned (.agg #[.int .i64 ((k / 8 : Nat) : Int), .slice (some ⟨g, 0, none⟩) 1 1]) ∧ w'.heap[g]? = some (.cells #[.int .u8 (x : Int)] 5 (0, 0)) ∧ w.heap.size ≤ g ∧ Below w.heap.size w w' := by
  have hs : (blk l).size = 256 := by rw [blk_size]; exact hl
  have CW := Lib.hid (fun w' => with_any l (k : Int) on w' hl hb)
  have hl2 : (withB l (k : Int) on).length = 256 := by rw [withB_length]; exact hl
  generalize withB l (k : Int) on = l2 at hx CW hl2
  have hs2 : (blk l2).size = 256 := by rw [blk_size]; exact hl2
  obtain ⟨q, hq⟩ : ∃ q, k / 8 = q := ⟨_, rfl⟩
  obtain ⟨m, hm⟩ : ∃ m, 2 ^ (k % 8) = m := ⟨_, rfl⟩
  have HW := where_in k q m hk hq hm
  have hq2 : q < 256 := by omega
  rw [hq] at hx ⊢
  clear hq hm
  have hxq : (blk l2)[q]? = some (.int .u8 (x : Int)) := by rw [blk_get l2 q (by omega)]; rw [List.getElem?_eq_getElem (by omega)] at hx; rw [show l2[q] = x from Option.some.inj hx]
  clear hx
  have hb0 := (Box.new w 41 l).alloc (.cells #[.int .i64 0, .slice none 0 0] 75)
  have hp0 : ((w.alloc (.cells (blk l) 41)).alloc (.cells #[.int .i64 0, .slice none 0 0] 75)).heap[w.heap.size + 1]? = some (.cells #[.int .i64 0, .slice none 0 0] 75 (0, 0)) := heap_alloc2_new w _ _
  have hbel := (((Below.refl w.heap.size w).alloc (Nat.le_refl _) (.cells (blk l) 41)).alloc (by simp) (.cells #[.int .i64 0, .slice none 0 0] 75))
  have hlt : w.heap.size + 1 < ((w.alloc (.cells (blk l) 41)).alloc (.cells #[.int .i64 0, .slice none 0 0] 75)).heap.size := by simp
  go_enter Try.func44, Try.ntmps44
  go_wp2_with (first
    | (go_at_call 57; refine (HW _).mono ?_; rintro e w' ⟨rfl, rfl⟩)
    | (with_reducible refine wpList_load rfl 41 _ rfl _ rfl 41 (blk l) 256 5 blkUnd blkSize hs hb0.out ?_))
  generalize (w.alloc (.cells (blk l) 41)).alloc (.cells #[.int .i64 0, .slice none 0 0] 75) = w1 at hb0 hp0 hbel hlt ⊢
  refine (CW.out _).mono ?_
  rintro e w2 ⟨rfl, hbel2⟩
  have hb2 := hb0.below hbel2 hb0.lt
  have hp2 := (hbel2.block _ hlt).trans hp0
  have hlt2 := Nat.lt_of_lt_of_le hlt hbel2.size
  have hbel3 := hbel.trans (hbel2.mono hbel.size)
  clear hb0 hp0 hbel hlt hbel2
  have hb3 := hb2.row l2
  have hp3 : (w2.setRow w.heap.size (blk l2)).heap[w.heap.size + 1]? = _ := (setRow_other w2 w.heap.size _ _ (by omega)).trans hp2
  have hbel4 := below_setRow hbel3 (Nat.le_refl _) (blk l2)
  have hcq : (w2.setRow w.heap.size (blk l2)).cell? ⟨w.heap.size, q, none⟩ = some (.int .u8 (x : Int)) := row_cell hb3.out q _ hxq
  have hz3 : w.heap.size + 1 < (w2.setRow w.heap.size (blk l2)).heap.size := (Array.getElem?_eq_some_iff.1 hp3).1
  have hp4 := (Below.heap_alloc (w2.setRow w.heap.size (blk l2)) (.cells #[.int .u8 (x : Int)] 5) _ hz3).trans hp3
  have hg4 := heap_alloc_new (w2.setRow w.heap.size (blk l2)) (.cells #[.int .u8 (x : Int)] 5)
  have hbel5 := hbel4.alloc (Nat.le_of_lt (Nat.lt_of_succ_lt hz3)) (.cells #[.int .u8 (x : Int)] 5)
  have hone : (#[.int .i64 (q : Int), .slice (some ⟨w2.heap.size, 0, none⟩) 1 1] : Array Value).all (·.oneCell') = true := by simp [Value.oneCell']
  have hsz : (w2.setRow w.heap.size (blk l2)).heap.size = w2.heap.size := by simp
  rw [hsz] at hg4
  go_wp2_with (first
    | (with_reducible refine wpList_store rfl 41 _ _ rfl _ rfl (blk l2) rfl (blk l) 41 256 blkSize hs2 hs (blk_one _) hb2.out ?_)
    | (with_reducible refine wpList_store rfl 75 _ _ rfl _ rfl #[.int .i64 (q : Int), .slice (some ⟨w2.heap.size, 0, none⟩) 1 1] rfl #[.int .i64 0, .slice none 0 0] 75 2 patSize rfl rfl hone hp4 ?_))
  exact bodyPost_ret (v := .agg #[.int .i64 (q : Int), .slice (some ⟨w2.heap.size, 0, none⟩) 1 1]) (results_cell_row rfl _ _ (w.heap.size + 1) 75 _ (0, 0) _ rfl (setRow_heap _ _ _ _ _ _ hp4) Try.underlying75 rfl patSize) rfl
    ⟨_, rfl, (setRow_other _ _ _ _ (by omega)).trans hg4, by omega, below_setRow hbel5 (by omega) _⟩
end Go.Proofs.Ytgcmgohknocfnaa.Chart
