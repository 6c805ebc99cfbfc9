/- A device that is nil; a device of given blocks. No statement is proved here. -/
import Derived.Test.YtechlhmmgabikaaDk11
import Derived.Test.YtechlhmmgabikaaDk8
namespace Go.Proofs.Ytechlhmmgabikaa.Dk
open Go.RowKit Go.Proofs.Ytechlhmmgabikaa.Mem Go.Proofs.Ytechlhmmgabikaa.Open Go.Proofs.Ytechlhmmgabikaa.Kind Go.Proofs.Ytechlhmmgabikaa.Blk Go.Proofs.Ytechlhmmgabikaa.App
set_option linter.unusedVariables false
set_option linter.unusedSimpArgs false
theorem may_nil (no : Int) (w : World) : Calls Try.prog 49 #[.pointer none, .int .i64 no] w fun e w' => e = .returned (.int .i64 1) ∧ w' = w := by
  go_enter Try.func49, Try.ntmps49
  go_wp2
  go_ret
  exact ⟨rfl, rfl⟩
theorem down_nil (w : World) : Calls Try.prog 20 #[.pointer none] w fun e w' => e = .returned (.bool true) ∧ w' = w := by
  go_enter Try.func20, Try.ntmps20
  go_wp2
  go_ret
  exact ⟨rfl, rfl⟩
theorem size_nil (w : World) : Calls Try.prog 23 #[.pointer none] w fun e w' => e = .returned (.int .i64 0) ∧ w' = w := by
  go_enter Try.func23, Try.ntmps23
  go_wp2
  go_ret
  exact ⟨rfl, rfl⟩
theorem writes_nil (w : World) : Calls Try.prog 16 #[.pointer none] w fun e w' => e = .returned (.int .i64 0) ∧ w' = w := by
  go_enter Try.func16, Try.ntmps16
  go_wp2
  go_ret
  exact ⟨rfl, rfl⟩
theorem reads_nil (w : World) : Calls Try.prog 17 #[.pointer none] w fun e w' => e = .returned (.int .i64 0) ∧ w' = w := by
  go_enter Try.func17, Try.ntmps17
  go_wp2
  go_ret
  exact ⟨rfl, rfl⟩
theorem image_nil (w : World) : Calls Try.prog 19 #[.pointer none] w fun e w' => e = .returned (.slice none 0 0) ∧ w' = w := by
  go_enter Try.func19, Try.ntmps19
  go_wp2
  go_ret
  exact ⟨rfl, rfl⟩
theorem fuse_nil (no : Int) (w : World) : Calls Try.prog 18 #[.pointer none, .int .i64 no] w fun e w' => e = .returned (.tuple #[]) ∧ w' = w := by
  go_enter Try.func18, Try.ntmps18
  go_wp2
  exact bodyPost_end (results_none rfl _ _ _) rfl ⟨rfl, rfl⟩
theorem up_nil (w : World) : Calls Try.prog 25 #[.pointer none] w fun e w' => e = .returned (.tuple #[]) ∧ w' = w := by
  go_enter Try.func25, Try.ntmps25
  go_wp2
  exact bodyPost_end (results_none rfl _ _ _) rfl ⟨rfl, rfl⟩
set_option maxHeartbeats 1000000 in
set_option maxRecDepth 100000 in
theorem read_nil (no : Int) (w : World) :
    Calls Try.prog 14 #[.pointer none, .int .i64 no] w fun e w' => e = .returned (.tuple #[.agg (blk zblk), .int .i64 1]) ∧ Below w.heap.size w w' := by
  have CM := Lib.hid (fun w' => may_nil no w')
  go_enter_defers Try.func14, Try.ntmps14
  go_wp2_with (with_reducible refine wpList_allocA rfl 30 rfl _ blkZero ?_)
  have P0 : Row ((w.alloc (.cells #[.pointer none] 24)).alloc (.cells (blk zblk) 30)) w.heap.size 24 #[.pointer none] := heap_alloc2_old w _ _
  have p0 : ((w.alloc (.cells #[.pointer none] 24)).alloc (.cells (blk zblk) 30)).cell? ⟨w.heap.size, 0, none⟩ = some (.pointer none) := P0.cell 0 rfl
  have b1 := heap_alloc2_new w (.cells #[.pointer none] 24) (.cells (blk zblk) 30)
  have hb : Below w.heap.size w ((w.alloc (.cells #[.pointer none] 24)).alloc (.cells (blk zblk) 30)) := ((Below.refl _ _).alloc (Nat.le_refl _) _).alloc (by simp) _
  generalize (w.alloc (.cells #[.pointer none] 24)).alloc (.cells (blk zblk) 30) = w2 at *
  refine (CM.out w2).mono ?_
  rintro e w3 ⟨rfl, hw3⟩
  subst w3
  have hz : (blk zblk).size = 256 := zblk_size
  go_wp2_with (first
    | (with_reducible refine wpList_load rfl 30 _ rfl _ rfl 30 (blk zblk) 256 5 blkUnd blkSize hz b1 ?_)
    | (with_reducible refine wpList_store rfl 30 _ _ rfl _ rfl (blk zblk) rfl (blk zblk) 30 256 blkSize hz hz (blk_one _) b1 ?_))
  have hb3 := below_setRow hb (by omega : w.heap.size ≤ w.heap.size + 1) (blk zblk)
  exact ⟨_, results_cell_tmp rfl _ _ (w.heap.size + 1) 30 (blk zblk) (0, 0) _ rfl (setRow_heap _ _ _ _ _ _ b1) blkUnd rfl (by rw [hz]; exact blkSize), rfl, hb3⟩
set_option maxHeartbeats 1000000 in
set_option maxRecDepth 100000 in
theorem write_nil (no : Int) (x : Nat) (w : World) :
    Calls Try.prog 26 #[.pointer none, .int .i64 no, .agg (blk (full x))] w fun e w' => e = .returned (.int .i64 1) ∧ Below w.heap.size w w' := by
  have CM := Lib.hid (fun w' => may_nil no w')
  go_enter_defers Try.func26, Try.ntmps26
  go_wp2_with fail
  have Pe : Row (((w.alloc (.cells #[.pointer none] 24)).alloc (.cells (blk (full x)) 30)).alloc (.cells #[.int .i64 0] 33)) (w.heap.size + 1 + 1) 33 #[.int .i64 0] := by
    have := Row.new ((w.alloc (.cells #[.pointer none] 24)).alloc (.cells (blk (full x)) 30)) 33 #[.int .i64 0]
    rwa [show ((w.alloc (.cells #[.pointer none] 24)).alloc (.cells (blk (full x)) 30)).heap.size = w.heap.size + 1 + 1 from by simp] at this
  have hb : Below w.heap.size w (((w.alloc (.cells #[.pointer none] 24)).alloc (.cells (blk (full x)) 30)).alloc (.cells #[.int .i64 0] 33)) := (((Below.refl _ _).alloc (Nat.le_refl _) _).alloc (by simp) _).alloc (by simp; omega) _
  generalize ((w.alloc (.cells #[.pointer none] 24)).alloc (.cells (blk (full x)) 30)).alloc (.cells #[.int .i64 0] 33) = w3 at *
  refine (CM.out w3).mono ?_
  rintro e w4 ⟨rfl, hw4⟩
  subst w4
  have c1 := Pe.cell 0 rfl
  have f1 := Pe.frozen 0
  have hb2 := hb.setCell (p := ⟨w.heap.size + 1 + 1, 0, none⟩) (by show w.heap.size ≤ w.heap.size + 1 + 1; omega) (.int .i64 1)
  have HB2 := Lib.hid hb2
  have PE := Lib.hid (Pe.put 0 (.int .i64 1))
  clear Pe hb hb2
  go_wp2_with fail
  have hb4 := HB2.out.setCell (p := ⟨w.heap.size + 1 + 1, 0, none⟩) (by show w.heap.size ≤ w.heap.size + 1 + 1; omega) (.int .i64 1)
  exact ⟨_, results_cell_int rfl _ _ (w.heap.size + 1 + 1) (.int .i64 1) rfl ((PE.out.put 0 (.int .i64 1)).cell 0 rfl) Try.underlying33, rfl, hb4⟩
theorem from_no (A : Option Addr) (n c : Nat) (hn : n < 16 ∨ 512 < n) (w : World) : Calls Try.prog 24 #[.slice A n c] w fun e w' => e = .returned (.tuple #[.pointer none, .int .i64 1]) ∧ w' = w := by
  rcases hn with hn | hn
  · go_enter Try.func24, Try.ntmps24
    go_wp2
    go_ret2
    exact ⟨rfl, rfl⟩
  · go_enter Try.func24, Try.ntmps24
    go_wp2
    go_ret2
    exact ⟨rfl, rfl⟩
set_option maxHeartbeats 1000000 in
theorem from_any (g c : Nat) (bs : List Nat) (w : World) (hd : Bks w g bs) (h0 : 16 ≤ bs.length) (h1 : bs.length ≤ 512) :
    Calls Try.prog 24 #[.slice (some ⟨g, 0, none⟩) bs.length c] w fun e w' => ∃ d, e = .returned (.tuple #[.pointer (some ⟨d, 0, none⟩), .int .i64 0]) ∧ ∃ g' c', Dev w' d g' ⟨bs, 0, false, false, 0, 0, c'⟩ ∧ w.heap.size ≤ d ∧ w.heap.size ≤ g' ∧ Below w.heap.size w w' := by
  have hgsz := hd.2.2
  have hb1 : Below w.heap.size w (w.alloc (.cells #[] 30)) := (Below.refl _ _).alloc (Nat.le_refl _) _
  have hd1 := hd.keep (hb1.block g hgsz) hb1.size
  have ho := ownK_empty (E := 30) (w := w) kBlk (Nat.le_refl w.heap.size)
  have hys : Rw kBlk (w.alloc (.cells #[] 30)) (fun b => some b ≠ (Value.slice (some ⟨w.heap.size, 0, none⟩) 0 0).ownBlock ∧ b < (w.alloc (.cells #[] 30)).heap.size) (some ⟨g, 0, none⟩) bs.length bs :=
    hd1.rw_ ⟨by simp [Value.ownBlock]; omega, hd1.2.2⟩ (by omega)
  clear hd hd1
  go_enter Try.func24, Try.ntmps24
  go_wp2_with (at_builtin; go_loud (refine wpList_appKs (k := kBlk) rfl _ _ 41 rfl (.agg (blk zblk)) 256 Try.underlying41 blkInfo3 zblk_size (by decide) rfl g 0 c rfl ho hys (by simp; omega) (by simp; omega) (by simp) ?_); intro v2 w2 hown2 hg2 hat2; rw [List.nil_append] at hown2; obtain ⟨g', c', rfl, q1, q2, q3, q4⟩ := own_bks hown2 (by omega); clear ho hys hat2)
  have hb2 : Below w.heap.size w w2 := hb1.grown hg2 (by simp) (fun q hq => by
    replace hq : some w.heap.size = some q := hq
    injection hq with hq
    omega)
  have hgl := q3.2.2
  go_ret2
  refine ⟨w2.heap.size, rfl, g', c', ⟨Row.new _ _ _, q3.keep (Below.heap_alloc _ _ _ hgl) (by simp), by omega⟩, hb2.size, q4, hb2.alloc hb2.size _⟩
end Go.Proofs.Ytechlhmmgabikaa.Dk
