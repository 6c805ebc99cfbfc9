/- A device in memory; Full. No statement is proved here. -/
import Derived.Test.YtechlhmmgabikaaApp
import Derived.Test.YtechlhmmgabikaaBlk
import Derived.Deep.MidRow
import Derived.Deep.DeepCutAuto
import Derived.Deep.CutBlock
import Derived.Defers
namespace Go.Proofs.Ytechlhmmgabikaa.Dk
open Go.RowKit Go.Proofs.Ytechlhmmgabikaa.Mem Go.Proofs.Ytechlhmmgabikaa.Open Go.Proofs.Ytechlhmmgabikaa.Kind Go.Proofs.Ytechlhmmgabikaa.Blk
set_option linter.unusedVariables false
set_option linter.unusedSimpArgs false
/-- A block that has a byte all over. -/
abbrev full (x : Nat) : List Nat := List.replicate 256 x
/-- The first ones have it. -/
def some_ (x k : Nat) : List Nat := List.replicate k x ++ List.replicate (256 - k) 0
theorem some_len (x k : Nat) (hk : k ≤ 256) : (some_ x k).length = 256 := by unfold some_; simp; omega
theorem some_zero (x : Nat) : some_ x 0 = zblk := by unfold some_ zblk; rw [List.replicate_zero, List.nil_append]
theorem some_all (x : Nat) : some_ x 256 = full x := by unfold some_; rw [Nat.sub_self, List.replicate_zero, List.append_nil]
theorem some_next (x k : Nat) (hk : k < 256) : (some_ x k).set k x = some_ x (k + 1) := by
  unfold some_
  have h1 : (List.replicate k x).length = k := by simp
  rw [List.set_append_right _ _ (by omega), h1, Nat.sub_self, show 256 - k = (256 - (k + 1)) + 1 from by omega, List.replicate_succ, List.set_cons_zero, List.replicate_succ', List.append_assoc]
  rfl
theorem set_box {W : World} {g g' : Nat} {l z : List Nat} {T : TypeId} (h' : Box W g T z) (h : Box W g' T l) (hne : g ≠ g') (q n : Nat) :
    Box (W.setCell ⟨g', q, none⟩ (.int .u8 (n : Int))) g' T (l.set q n) ∧ Box (W.setCell ⟨g', q, none⟩ (.int .u8 (n : Int))) g T z := by
  refine ⟨?_, ?_⟩
  · show _ = _
    rw [← blk_set]; exact heap_setCell_same _ _ _ _ _ _ h
  · show _ = _
    rw [heap_setCell_other _ _ _ _ hne]; exact h'
set_option maxHeartbeats 1000000 in
set_option maxRecDepth 100000 in
theorem full_any (x : Nat) (hx : x < 256) (w : World) :
    Calls Try.prog 15 #[.int .u8 x] w fun e w' => e = .returned (.agg (blk (full x))) ∧ Below w.heap.size w w' := by
  have hfl : (full x).length = 256 := List.length_replicate
  go_enter Try.func15, Try.ntmps15
  go_wp2_with (with_reducible refine wpList_allocA rfl 30 rfl _ blkZero ?_)
  have b1 := heap_alloc2_old w (.cells (blk zblk) 30) (.cells (blk zblk) 30)
  have b2 := heap_alloc2_new w (.cells (blk zblk) 30) (.cells (blk zblk) 30)
  have hb0 : Below w.heap.size w ((w.alloc (.cells (blk zblk) 30)).alloc (.cells (blk zblk) 30)) := ((Below.refl _ _).alloc (Nat.le_refl _) _).alloc (by simp) _
  generalize (w.alloc (.cells (blk zblk) 30)).alloc (.cells (blk zblk) 30) = w0 at *
  go_loopw [4] (fun a wr => ∃ k : Nat, k ≤ 256 ∧ a = .int .i64 k ∧ Box wr w.heap.size 30 zblk ∧ Box wr (w.heap.size + 1) 30 (some_ x k) ∧ Below w.heap.size w wr) (fun a _ => 256 - (intOf a).toNat)
  case atStart => exact ⟨0, by omega, rfl, b1, by rw [some_zero]; exact b2, hb0⟩
  case round =>
    obtain ⟨k, hk, rfl, q1, q2, hb⟩ := hrel
    clear b1 b2 hb0
    by_cases hlt : k < 256
    · have hsl := some_len x k hk
      have hc := q2.cell k (by omega)
      have hf := q2.frozen k
      have hsn := some_next x k hlt
      have Q2 : Hid (Box (wr.setCell ⟨w.heap.size + 1, k, none⟩ (.int .u8 (x : Int))) (w.heap.size + 1) 30 (some_ x (k + 1))) := Lib.hid (by
        have := (set_box q1 q2 (by omega) k x).1
        rwa [hsn] at this)
      have Q1 : Hid (Box (wr.setCell ⟨w.heap.size + 1, k, none⟩ (.int .u8 (x : Int))) w.heap.size 30 zblk) := Lib.hid (set_box q1 q2 (by omega) k x).2
      have HB := Lib.hid (hb.setCell (p := ⟨w.heap.size + 1, k, none⟩) (by show w.heap.size ≤ w.heap.size + 1; omega) (.int .u8 (x : Int)))
      obtain ⟨u, hu⟩ : ∃ u, wr.cell? ⟨w.heap.size + 1, k, none⟩ = some u := ⟨_, hc⟩
      clear hc hsl hsn q1 q2 hb
      go_wp2
      go_roundw
      case rel => exact ⟨k + 1, by omega, by go_num, Q1.out, Q2.out, HB.out⟩
      case measure => simp [intOf]; omega
    · obtain rfl : k = 256 := by omega
      rw [some_all] at q2
      have hs : (blk (full x)).size = 256 := by rw [blk_size]; exact hfl
      have hz : (blk zblk).size = 256 := zblk_size
      have p1 := q1.out
      have p2 := q2.out
      go_wp2_with (first
        | (with_reducible refine wpList_load rfl 30 _ rfl _ rfl 30 (blk (full x)) 256 5 blkUnd blkSize hs p2 ?_)
        | (with_reducible refine wpList_store rfl 30 _ _ rfl _ rfl (blk (full x)) rfl (blk zblk) 30 256 blkSize hs hz (blk_one _) p1 ?_))
      exact bodyPost_ret (v := .agg (blk (full x))) (results_cell_row rfl _ _ w.heap.size 30 (blk (full x)) (0, 0) _ rfl (setRow_heap _ _ _ _ _ _ q1) blkUnd rfl (by rw [hs]; exact blkSize)) rfl
        ⟨rfl, below_setRow hb (Nat.le_refl _) _⟩
end Go.Proofs.Ytechlhmmgabikaa.Dk
