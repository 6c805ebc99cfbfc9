/- Steps of a device: reads, fuses, power. No statement is proved here. -/
import Derived.Test.YtechlhmmgabikaaDk15
namespace Go.Proofs.Ytechlhmmgabikaa.Dk
open Go.RowKit Go.Proofs.Ytechlhmmgabikaa.Mem Go.Proofs.Ytechlhmmgabikaa.Open Go.Proofs.Ytechlhmmgabikaa.Kind Go.Proofs.Ytechlhmmgabikaa.Blk
set_option linter.unusedVariables false
set_option linter.unusedSimpArgs false
set_option maxHeartbeats 2000000 in
set_option maxRecDepth 100000 in
theorem do_read (d g : Nat) (s : Dv) (no : Int) (x : Nat) (w : World) (hd : Dev w d g s) (hs : Ok s) :
    Calls Try.prog 13 #[.pointer (some ⟨d, 0, none⟩), .agg (stC 0 no x)] w fun e w' => e = .returned (.tuple #[.agg (blk (full (rdV s no))), .int .i64 (mayE s no)]) ∧ Dev w' d g (rdS s no) ∧ Asd d g w w' := by
  have CW := Lib.hid (fun w' h => read_any d g s no w' h hs)
  have HD := Lib.hid (fun w' h => hd.keep (w' := w') h)
  have hfl : (full (rdV s no)).length = 256 := List.length_replicate
  generalize rdV s no = vv at *
  generalize mayE s no = ee at *
  go_enter Try.func13, Try.ntmps13
  go_wp2_with (with_reducible refine wpList_allocA rfl 30 rfl _ blkZero ?_)
  have P : Row (((w.alloc (.cells (stC 0 no x) 28)).alloc (.cells (blk zblk) 30)).alloc (.cells (blk zblk) 30)) w.heap.size 28 (stC 0 no x) := ((Row.new _ _ _).alloc _).alloc _
  have b1 : Row (((w.alloc (.cells (stC 0 no x) 28)).alloc (.cells (blk zblk) 30)).alloc (.cells (blk zblk) 30)) (w.heap.size + 1) 30 (blk zblk) := by
    have := (Row.new (w.alloc (.cells (stC 0 no x) 28)) 30 (blk zblk)).alloc (.cells (blk zblk) 30)
    rwa [show (w.alloc (.cells (stC 0 no x) 28)).heap.size = w.heap.size + 1 from by simp] at this
  have b2 : Row (((w.alloc (.cells (stC 0 no x) 28)).alloc (.cells (blk zblk) 30)).alloc (.cells (blk zblk) 30)) (w.heap.size + 1 + 1) 30 (blk zblk) := by
    have := Row.new ((w.alloc (.cells (stC 0 no x) 28)).alloc (.cells (blk zblk) 30)) 30 (blk zblk)
    rwa [show ((w.alloc (.cells (stC 0 no x) 28)).alloc (.cells (blk zblk) 30)).heap.size = w.heap.size + 1 + 1 from by simp] at this
  have hb : Below w.heap.size w (((w.alloc (.cells (stC 0 no x) 28)).alloc (.cells (blk zblk) 30)).alloc (.cells (blk zblk) 30)) := (((Below.refl _ _).alloc (Nat.le_refl _) _).alloc (by simp) _).alloc (by simp; omega) _
  have hdsz : d < w.heap.size := hd.1.lt
  have hgsz : g < w.heap.size := hd.2.1.2.2
  generalize ((w.alloc (.cells (stC 0 no x) 28)).alloc (.cells (blk zblk) 30)).alloc (.cells (blk zblk) 30) = w3 at *
  have hd3 := HD.out w3 hb
  have c0 : w3.cell? ⟨w.heap.size, 0, none⟩ = some (.int .i64 0) := P.cell 0 rfl
  have c1 : w3.cell? ⟨w.heap.size, 1, none⟩ = some (.int .i64 no) := P.cell 1 rfl
  have hz : (blk zblk).size = 256 := zblk_size
  have hz2 : (blk (full vv)).size = 256 := by rw [blk_size]; exact hfl
  have l1 : w.heap.size + 1 < w3.heap.size := Row.lt b1
  have l2 : w.heap.size + 1 + 1 < w3.heap.size := Row.lt b2
  have B1 := Lib.hid b1
  have B2 := Lib.hid b2
  have HP := Lib.hid P
  have HB := Lib.hid hb
  clear b1 b2 P hb HD hs hd
  go_wp2_with fail
  refine (CW.out w3 hd3).mono ?_
  rintro e wb ⟨rfl, dvb, ab⟩
  have p1 : Row wb (w.heap.size + 1) 30 (blk zblk) := ab.kept B1.out (by omega) (by omega)
  have p2 : Row wb (w.heap.size + 1 + 1) 30 (blk zblk) := ab.kept B2.out (by omega) (by omega)
  have p1s := p1.far (k := w.heap.size + 1 + 1) (by omega) (blk (full vv))
  have p2s := p2.set (blk (full vv))
  have q1 : (wb.setRow (w.heap.size + 1 + 1) (blk (full vv))).heap[w.heap.size + 1]? = some (.cells (blk zblk) 30 (0, 0)) := p1s
  have q2 : (wb.setRow (w.heap.size + 1 + 1) (blk (full vv))).heap[w.heap.size + 1 + 1]? = some (.cells (blk (full vv)) 30 (0, 0)) := p2s
  have q0 : wb.heap[w.heap.size + 1 + 1]? = some (.cells (blk zblk) 30 (0, 0)) := p2
  have DF := Lib.hid ((dvb.row (k := w.heap.size + 1 + 1) (by omega) (by omega) (blk (full vv))).row (k := w.heap.size + 1) (by omega) (by omega) (blk (full vv)))
  have AF := Lib.hid ((((Asd.of (d := d) (g := g) HB.out).trans ab).row (k := w.heap.size + 1 + 1) (by omega) (blk (full vv))).row (k := w.heap.size + 1) (by omega) (blk (full vv)))
  clear dvb ab p1 p2 p1s p2s HB HP B1 B2 CW hd3
  go_wp2_with (first
    | (with_reducible refine wpList_load rfl 30 _ rfl _ rfl 30 (blk (full vv)) 256 5 blkUnd blkSize hz2 q2 ?_)
    | (with_reducible refine wpList_store rfl 30 _ _ rfl (w.heap.size + 1 + 1) rfl (blk (full vv)) rfl (blk zblk) 30 256 blkSize hz2 hz (blk_one _) q0 ?_)
    | (with_reducible refine wpList_store rfl 30 _ _ rfl (w.heap.size + 1) rfl (blk (full vv)) rfl (blk zblk) 30 256 blkSize hz2 hz (blk_one _) q1 ?_))
  exact bodyPost_ret (results_cell_tmp rfl _ _ (w.heap.size + 1) 30 (blk (full vv)) (0, 0) _ rfl (setRow_heap _ _ _ _ _ _ q1) blkUnd rfl (by rw [hz2]; exact blkSize)) rfl ⟨rfl, DF.out, AF.out⟩
set_option maxHeartbeats 2000000 in
set_option maxRecDepth 100000 in
theorem do_fuse (d g : Nat) (s : Dv) (no : Int) (x : Nat) (w : World) (hd : Dev w d g s) (hs : Ok s) :
    Calls Try.prog 13 #[.pointer (some ⟨d, 0, none⟩), .agg (stC 2 no x)] w fun e w' => e = .returned (.tuple #[.agg (blk (zblk)), .int .i64 0]) ∧ Dev w' d g (fuS s no) ∧ Asd d g w w' := by
  have CW := Lib.hid (fun w' h => fuse_any d g s no w' h)
  have HD := Lib.hid (fun w' h => hd.keep (w' := w') h)
  go_enter Try.func13, Try.ntmps13
  go_wp2_with (with_reducible refine wpList_allocA rfl 30 rfl _ blkZero ?_)
  have P : Row (((w.alloc (.cells (stC 2 no x) 28)).alloc (.cells (blk zblk) 30)).alloc (.cells (blk zblk) 30)) w.heap.size 28 (stC 2 no x) := ((Row.new _ _ _).alloc _).alloc _
  have b1 : Row (((w.alloc (.cells (stC 2 no x) 28)).alloc (.cells (blk zblk) 30)).alloc (.cells (blk zblk) 30)) (w.heap.size + 1) 30 (blk zblk) := by
    have := (Row.new (w.alloc (.cells (stC 2 no x) 28)) 30 (blk zblk)).alloc (.cells (blk zblk) 30)
    rwa [show (w.alloc (.cells (stC 2 no x) 28)).heap.size = w.heap.size + 1 from by simp] at this
  have b2 : Row (((w.alloc (.cells (stC 2 no x) 28)).alloc (.cells (blk zblk) 30)).alloc (.cells (blk zblk) 30)) (w.heap.size + 1 + 1) 30 (blk zblk) := by
    have := Row.new ((w.alloc (.cells (stC 2 no x) 28)).alloc (.cells (blk zblk) 30)) 30 (blk zblk)
    rwa [show ((w.alloc (.cells (stC 2 no x) 28)).alloc (.cells (blk zblk) 30)).heap.size = w.heap.size + 1 + 1 from by simp] at this
  have hb : Below w.heap.size w (((w.alloc (.cells (stC 2 no x) 28)).alloc (.cells (blk zblk) 30)).alloc (.cells (blk zblk) 30)) := (((Below.refl _ _).alloc (Nat.le_refl _) _).alloc (by simp) _).alloc (by simp; omega) _
  have hdsz : d < w.heap.size := hd.1.lt
  have hgsz : g < w.heap.size := hd.2.1.2.2
  generalize ((w.alloc (.cells (stC 2 no x) 28)).alloc (.cells (blk zblk) 30)).alloc (.cells (blk zblk) 30) = w3 at *
  have hd3 := HD.out w3 hb
  have c0 : w3.cell? ⟨w.heap.size, 0, none⟩ = some (.int .i64 2) := P.cell 0 rfl
  have c1 : w3.cell? ⟨w.heap.size, 1, none⟩ = some (.int .i64 no) := P.cell 1 rfl
  have hz : (blk zblk).size = 256 := zblk_size
  have l1 : w.heap.size + 1 < w3.heap.size := Row.lt b1
  have l2 : w.heap.size + 1 + 1 < w3.heap.size := Row.lt b2
  have B1 := Lib.hid b1
  have B2 := Lib.hid b2
  have HP := Lib.hid P
  have HB := Lib.hid hb
  clear b1 b2 P hb HD hs hd
  go_wp2_with fail
  refine (CW.out w3 hd3).mono ?_
  rintro e wb ⟨rfl, dvb, ab⟩
  have q1 : wb.heap[w.heap.size + 1]? = some (.cells (blk zblk) 30 (0, 0)) := ab.kept B1.out (by omega) (by omega)
  have q2 : wb.heap[w.heap.size + 1 + 1]? = some (.cells (blk zblk) 30 (0, 0)) := ab.kept B2.out (by omega) (by omega)
  have DF := Lib.hid (dvb.row (k := w.heap.size + 1) (by omega) (by omega) (blk zblk))
  have AF := Lib.hid (((Asd.of (d := d) (g := g) HB.out).trans ab).row (k := w.heap.size + 1) (by omega) (blk zblk))
  clear dvb ab HB HP B1 B2 CW hd3
  go_wp2_with (first
    | (with_reducible refine wpList_load rfl 30 _ rfl _ rfl 30 (blk zblk) 256 5 blkUnd blkSize hz q2 ?_)
    | (with_reducible refine wpList_store rfl 30 _ _ rfl (w.heap.size + 1) rfl (blk zblk) rfl (blk zblk) 30 256 blkSize hz hz (blk_one _) q1 ?_))
  exact bodyPost_ret (results_cell_tmp rfl _ _ (w.heap.size + 1) 30 (blk zblk) (0, 0) _ rfl (setRow_heap _ _ _ _ _ _ q1) blkUnd rfl (by rw [hz]; exact blkSize)) rfl ⟨rfl, DF.out, AF.out⟩
set_option maxHeartbeats 2000000 in
set_option maxRecDepth 100000 in
theorem do_up (d g : Nat) (s : Dv) (no : Int) (x : Nat) (w : World) (hd : Dev w d g s) (hs : Ok s) :
    Calls Try.prog 13 #[.pointer (some ⟨d, 0, none⟩), .agg (stC 3 no x)] w fun e w' => e = .returned (.tuple #[.agg (blk (zblk)), .int .i64 0]) ∧ Dev w' d g ({ s with fuse := 0, lit := false, off := false }) ∧ Asd d g w w' := by
  have CW := Lib.hid (fun w' h => up_any d g s w' h)
  have HD := Lib.hid (fun w' h => hd.keep (w' := w') h)
  go_enter Try.func13, Try.ntmps13
  go_wp2_with (with_reducible refine wpList_allocA rfl 30 rfl _ blkZero ?_)
  have P : Row (((w.alloc (.cells (stC 3 no x) 28)).alloc (.cells (blk zblk) 30)).alloc (.cells (blk zblk) 30)) w.heap.size 28 (stC 3 no x) := ((Row.new _ _ _).alloc _).alloc _
  have b1 : Row (((w.alloc (.cells (stC 3 no x) 28)).alloc (.cells (blk zblk) 30)).alloc (.cells (blk zblk) 30)) (w.heap.size + 1) 30 (blk zblk) := by
    have := (Row.new (w.alloc (.cells (stC 3 no x) 28)) 30 (blk zblk)).alloc (.cells (blk zblk) 30)
    rwa [show (w.alloc (.cells (stC 3 no x) 28)).heap.size = w.heap.size + 1 from by simp] at this
  have b2 : Row (((w.alloc (.cells (stC 3 no x) 28)).alloc (.cells (blk zblk) 30)).alloc (.cells (blk zblk) 30)) (w.heap.size + 1 + 1) 30 (blk zblk) := by
    have := Row.new ((w.alloc (.cells (stC 3 no x) 28)).alloc (.cells (blk zblk) 30)) 30 (blk zblk)
    rwa [show ((w.alloc (.cells (stC 3 no x) 28)).alloc (.cells (blk zblk) 30)).heap.size = w.heap.size + 1 + 1 from by simp] at this
  have hb : Below w.heap.size w (((w.alloc (.cells (stC 3 no x) 28)).alloc (.cells (blk zblk) 30)).alloc (.cells (blk zblk) 30)) := (((Below.refl _ _).alloc (Nat.le_refl _) _).alloc (by simp) _).alloc (by simp; omega) _
  have hdsz : d < w.heap.size := hd.1.lt
  have hgsz : g < w.heap.size := hd.2.1.2.2
  generalize ((w.alloc (.cells (stC 3 no x) 28)).alloc (.cells (blk zblk) 30)).alloc (.cells (blk zblk) 30) = w3 at *
  have hd3 := HD.out w3 hb
  have c0 : w3.cell? ⟨w.heap.size, 0, none⟩ = some (.int .i64 3) := P.cell 0 rfl
  have c1 : w3.cell? ⟨w.heap.size, 1, none⟩ = some (.int .i64 no) := P.cell 1 rfl
  have hz : (blk zblk).size = 256 := zblk_size
  have l1 : w.heap.size + 1 < w3.heap.size := Row.lt b1
  have l2 : w.heap.size + 1 + 1 < w3.heap.size := Row.lt b2
  have B1 := Lib.hid b1
  have B2 := Lib.hid b2
  have HP := Lib.hid P
  have HB := Lib.hid hb
  clear b1 b2 P hb HD hs hd
  go_wp2_with fail
  refine (CW.out w3 hd3).mono ?_
  rintro e wb ⟨rfl, dvb, ab⟩
  have q1 : wb.heap[w.heap.size + 1]? = some (.cells (blk zblk) 30 (0, 0)) := ab.kept B1.out (by omega) (by omega)
  have q2 : wb.heap[w.heap.size + 1 + 1]? = some (.cells (blk zblk) 30 (0, 0)) := ab.kept B2.out (by omega) (by omega)
  have DF := Lib.hid (dvb.row (k := w.heap.size + 1) (by omega) (by omega) (blk zblk))
  have AF := Lib.hid (((Asd.of (d := d) (g := g) HB.out).trans ab).row (k := w.heap.size + 1) (by omega) (blk zblk))
  clear dvb ab HB HP B1 B2 CW hd3
  go_wp2_with (first
    | (with_reducible refine wpList_load rfl 30 _ rfl _ rfl 30 (blk zblk) 256 5 blkUnd blkSize hz q2 ?_)
    | (with_reducible refine wpList_store rfl 30 _ _ rfl (w.heap.size + 1) rfl (blk zblk) rfl (blk zblk) 30 256 blkSize hz hz (blk_one _) q1 ?_))
  exact bodyPost_ret (results_cell_tmp rfl _ _ (w.heap.size + 1) 30 (blk zblk) (0, 0) _ rfl (setRow_heap _ _ _ _ _ _ q1) blkUnd rfl (by rw [hz]; exact blkSize)) rfl ⟨rfl, DF.out, AF.out⟩
end Go.Proofs.Ytechlhmmgabikaa.Dk
