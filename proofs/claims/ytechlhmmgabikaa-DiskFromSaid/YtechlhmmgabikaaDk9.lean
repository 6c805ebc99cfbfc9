/- A step that writes. No statement is proved here. -/
import Derived.Test.YtechlhmmgabikaaDk8
namespace Go.Proofs.Ytechlhmmgabikaa.Dk
open Go.RowKit Go.Proofs.Ytechlhmmgabikaa.Mem Go.Proofs.Ytechlhmmgabikaa.Open Go.Proofs.Ytechlhmmgabikaa.Kind Go.Proofs.Ytechlhmmgabikaa.Blk
set_option linter.unusedVariables false
set_option linter.unusedSimpArgs false
theorem Dev.row {w : World} {d g k : Nat} {s : Dv} (h : Dev w d g s) (h1 : k ≠ d) (h2 : k ≠ g) (cs : Array Value) : Dev (w.setRow k cs) d g s :=
  ⟨h.1.far (fun e => h1 e.symm) cs, h.2.1.keep (setRow_other w k g cs (fun e => h2 e.symm)) (by simp [World.setRow]), h.2.2⟩
theorem Asd.row {d g k : Nat} {a w : World} (h : Asd d g a w) (hk : a.heap.size ≤ k) (cs : Array Value) : Asd d g a (w.setRow k cs) :=
  ⟨h.os, h.tape, h.output, by simpa [World.setRow] using h.size, fun j h1 h2 h3 => (setRow_other w k j cs (by omega)).trans (h.block j h1 h2 h3)⟩
abbrev stC (k no : Int) (b : Nat) : Array Value := #[.int .i64 k, .int .i64 no, .int .u8 b]
set_option maxHeartbeats 1000000 in
set_option maxRecDepth 100000 in
theorem do_write (d g : Nat) (s : Dv) (no : Int) (x : Nat) (w : World) (hd : Dev w d g s) (hs : Ok s) (hx : x < 256) :
    Calls Try.prog 13 #[.pointer (some ⟨d, 0, none⟩), .agg (stC 1 no x)] w fun e w' => e = .returned (.tuple #[.agg (blk zblk), .int .i64 (wrE s no)]) ∧ Dev w' d g (wrS s no x) ∧ Asd d g w w' := by
  have CW := Lib.hid (fun w' h => write_any d g s no x w' h hs)
  have HD := Lib.hid (fun w' h => hd.keep (w' := w') h)
  go_enter Try.func13, Try.ntmps13
  go_wp2_with (with_reducible refine wpList_allocA rfl 30 rfl _ blkZero ?_)
  have P : Row (((w.alloc (.cells (stC 1 no x) 28)).alloc (.cells (blk zblk) 30)).alloc (.cells (blk zblk) 30)) w.heap.size 28 (stC 1 no x) := ((Row.new _ _ _).alloc _).alloc _
  have b1 : Row (((w.alloc (.cells (stC 1 no x) 28)).alloc (.cells (blk zblk) 30)).alloc (.cells (blk zblk) 30)) (w.heap.size + 1) 30 (blk zblk) := by
    have := (Row.new (w.alloc (.cells (stC 1 no x) 28)) 30 (blk zblk)).alloc (.cells (blk zblk) 30)
    rwa [show (w.alloc (.cells (stC 1 no x) 28)).heap.size = w.heap.size + 1 from by simp] at this
  have b2 : Row (((w.alloc (.cells (stC 1 no x) 28)).alloc (.cells (blk zblk) 30)).alloc (.cells (blk zblk) 30)) (w.heap.size + 1 + 1) 30 (blk zblk) := by
    have := Row.new ((w.alloc (.cells (stC 1 no x) 28)).alloc (.cells (blk zblk) 30)) 30 (blk zblk)
    rwa [show ((w.alloc (.cells (stC 1 no x) 28)).alloc (.cells (blk zblk) 30)).heap.size = w.heap.size + 1 + 1 from by simp] at this
  have hb : Below w.heap.size w (((w.alloc (.cells (stC 1 no x) 28)).alloc (.cells (blk zblk) 30)).alloc (.cells (blk zblk) 30)) := (((Below.refl _ _).alloc (Nat.le_refl _) _).alloc (by simp) _).alloc (by simp; omega) _
  have hdsz : d < w.heap.size := hd.1.lt
  have hgsz : g < w.heap.size := hd.2.1.2.2
  generalize ((w.alloc (.cells (stC 1 no x) 28)).alloc (.cells (blk zblk) 30)).alloc (.cells (blk zblk) 30) = w3 at *
  have hd3 := HD.out w3 hb
  have Pd := P.drew
  have c1 : w3.drew.cell? ⟨w.heap.size, 1, none⟩ = some (.int .i64 no) := Pd.cell 1 rfl
  have c2 : w3.drew.cell? ⟨w.heap.size, 2, none⟩ = some (.int .u8 x) := Pd.cell 2 rfl
  have B1 := Lib.hid b1
  have B2 := Lib.hid b2
  have HP := Lib.hid Pd
  have HD3 := Lib.hid hd3
  have HB := Lib.hid hb
  clear P b1 b2 hd hd3 Pd hb HD hs
  go_region_with (first
    | (refine (full_any x hx _).mono ?_; rintro e wa ⟨rfl, hba⟩; have k1 : wa.cell? ⟨w.heap.size, 1, none⟩ = some (.int .i64 no) := (HP.out.below hba).cell 1 rfl; have k2 : wa.cell? ⟨w.heap.size, 2, none⟩ = some (.int .u8 x) := (HP.out.below hba).cell 2 rfl; have HBA := Lib.hid hba; clear hba)
    | (refine (CW.out _ (HD3.out.keep ((Below.refl _ _).drew.trans HBA.out))).mono ?_; rintro e wb ⟨rfl, dvb, ab⟩; have DVB := Lib.hid dvb; have AB := Lib.hid ab; clear dvb ab))
  all_goals
    have l1 : w.heap.size + 1 < w3.drew.heap.size := B1.out.lt
    have l2 : w.heap.size + 1 + 1 < w3.drew.heap.size := B2.out.lt
    have p1 : wb.heap[w.heap.size + 1]? = some (.cells (blk zblk) 30 (0, 0)) := (AB.out.block _ (Nat.lt_of_lt_of_le l1 HBA.out.size) (by omega) (by omega)).trans ((HBA.out.block _ l1).trans B1.out)
    have p2 : wb.heap[w.heap.size + 1 + 1]? = some (.cells (blk zblk) 30 (0, 0)) := (AB.out.block _ (Nat.lt_of_lt_of_le l2 HBA.out.size) (by omega) (by omega)).trans ((HBA.out.block _ l2).trans B2.out)
    have hz : (blk zblk).size = 256 := zblk_size
    have dvf := DVB.out.row (k := w.heap.size + 1) (by omega) (by omega) (blk zblk)
    have adf := ((Asd.of (d := d) (g := g) (HB.out.trans (((Below.refl w3.heap.size w3).drew.trans HBA.out).mono HB.out.size))).trans AB.out).row (k := w.heap.size + 1) (by omega) (blk zblk)
    have DF := Lib.hid dvf
    have AF := Lib.hid adf
    clear dvf adf l1 l2 c1 c2 k1 k2 HP HD3 B1 B2 DVB AB HBA
    go_wp2_with (first
      | (with_reducible refine wpList_load rfl 30 _ rfl _ rfl 30 (blk zblk) 256 5 blkUnd blkSize hz p2 ?_)
      | (with_reducible refine wpList_store rfl 30 _ _ rfl _ rfl (blk zblk) rfl (blk zblk) 30 256 blkSize hz hz (blk_one _) p1 ?_))
    exact bodyPost_ret (results_cell_tmp rfl _ _ (w.heap.size + 1) 30 (blk zblk) (0, 0) _ rfl (setRow_heap _ _ _ _ _ _ p1) blkUnd rfl (by rw [hz]; exact blkSize)) rfl ⟨rfl, DF.out, AF.out⟩
end Go.Proofs.Ytechlhmmgabikaa.Dk
