/- The examples of chapter 8. No statement is proved here. -/
import Derived.Test.YtechlhmmgabikaaDk7
namespace Go.Proofs.Ytechlhmmgabikaa.Dk
open Go.RowKit Go.Proofs.Ytechlhmmgabikaa.Mem Go.Proofs.Ytechlhmmgabikaa.Open Go.Proofs.Ytechlhmmgabikaa.Kind Go.Proofs.Ytechlhmmgabikaa.Blk
set_option linter.unusedVariables false
set_option linter.unusedSimpArgs false
def sB : Dv := ⟨List.replicate 16 0, 1, true, false, 0, 0, 16⟩
def sC : Dv := ⟨(List.replicate 16 0).set 3 7, 0, true, false, 1, 0, 16⟩
def sD : Dv := ⟨(List.replicate 16 0).set 3 7, 0, true, true, 1, 0, 16⟩
theorem zfull : blk (full 0) = blk zblk := rfl
set_option maxHeartbeats 1000000 in
set_option maxRecDepth 100000 in
theorem works_any (w : World) :
    Calls Try.prog 11 #[] w fun e w' => e = .returned (.bool true) ∧ Below w.heap.size w w' := by
  have CF := Lib.hid (fun d g w' h => fuse_any d g (fresh 16) 1 w' h)
  rw [show fuS (fresh 16) 1 = sB from rfl] at CF
  have C1 := Lib.hid (fun d g w' h => write_any d g sB 3 7 w' h (by unfold Ok sB; simp))
  rw [show wrS sB 3 7 = sC from rfl, show wrE sB 3 = 0 from rfl] at C1
  have C2 := Lib.hid (fun d g w' h => write_any d g sC 4 8 w' h (by unfold Ok sC; simp))
  rw [show wrS sC 4 8 = sD from rfl, show wrE sC 4 = 12 from rfl] at C2
  have C3 := Lib.hid (fun d g w' h => read_any d g sD 3 w' h (by unfold Ok sD; simp))
  rw [show rdS sD 3 = sD from rfl, show rdV sD 3 = 0 from rfl, show mayE sD 3 = 12 from rfl, zfull] at C3
  have C4 := Lib.hid (fun d g w' h => down_any d g sD w' h)
  have C5 := Lib.hid (fun d g w' h => writes_any d g sD w' h)
  have C6 := Lib.hid (fun d g w' h => size_any d g sD w' h)
  rw [show sD.off = true from rfl] at C4
  rw [show sD.wr = 1 from rfl] at C5
  rw [show sD.bs.length = 16 from rfl] at C6
  go_enter Try.func11, Try.ntmps11
  go_wp2_with fail
  refine (new_any 16 16 (.inl ⟨by omega, rfl⟩) w).mono ?_
  rintro e w1 ⟨d, rfl, g, hd, hd1, hg1, hb1⟩
  go_wp2_with fail
  refine (CF.out d g w1 hd).mono ?_
  rintro e w2 ⟨rfl, hd2, ha2⟩
  have hb2 := Asd.below hb1 ha2 hd1 hg1 (Nat.le_refl _)
  clear hd ha2 hb1
  go_wp2_with fail
  refine (full_any 7 (by decide) w2).mono ?_
  rintro e w3 ⟨rfl, hb3⟩
  have hd3 := hd2.keep hb3
  have hb3' := hb2.trans (hb3.mono hb2.size)
  clear hd2 hb2 hb3
  go_wp2_with fail
  refine (C1.out d g w3 hd3).mono ?_
  rintro e w4 ⟨rfl, hd4, ha4⟩
  have hb4 := Asd.below hb3' ha4 hd1 hg1 (Nat.le_refl _)
  clear hd3 ha4 hb3'
  go_wp2_with fail
  refine (full_any 8 (by decide) w4).mono ?_
  rintro e w5 ⟨rfl, hb5⟩
  have hd5 := hd4.keep hb5
  have hb5' := hb4.trans (hb5.mono hb4.size)
  clear hd4 hb4 hb5
  go_wp2_with fail
  refine (C2.out d g w5 hd5).mono ?_
  rintro e w6 ⟨rfl, hd6, ha6⟩
  have hb6 := Asd.below hb5' ha6 hd1 hg1 (Nat.le_refl _)
  clear hd5 ha6 hb5'
  go_wp2_with fail
  refine (C3.out d g w6 hd6).mono ?_
  rintro e w7 ⟨rfl, hd7, ha7⟩
  have hb7 := Asd.below hb6 ha7 hd1 hg1 (Nat.le_refl _)
  clear hd6 ha7 hb6
  have b1 := heap_alloc_new w7 (.cells (blk zblk) 30)
  have hz : (blk zblk).size = 256 := zblk_size
  go_wp2_with (first
    | (with_reducible refine wpList_allocA rfl 30 rfl _ blkZero ?_)
    | (with_reducible refine wpList_store rfl 30 _ _ rfl _ rfl (blk zblk) rfl (blk zblk) 30 256 blkSize hz hz (blk_one _) b1 ?_))
  have hb8 := below_setRow ((Below.refl w7.heap.size w7).alloc (Nat.le_refl _) (.cells (blk zblk) 30)) (Nat.le_refl _) (blk zblk)
  have hd8 := hd7.keep hb8
  have hb9 := hb7.trans (hb8.mono hb7.size)
  clear hd7 hb7 hb8 b1
  generalize (w7.alloc (.cells (blk zblk) 30)).setRow w7.heap.size (blk zblk) = w8 at *
  refine (C4.out d g w8 hd8).mono ?_
  rintro e w9 ⟨rfl, hw9⟩
  subst w9
  go_wp2_with fail
  refine (C5.out d g w8 hd8).mono ?_
  rintro e w9 ⟨rfl, hw9⟩
  subst w9
  go_wp2_with fail
  refine (C6.out d g w8 hd8).mono ?_
  rintro e w9 ⟨rfl, hw9⟩
  subst w9
  go_wp2
  go_ret
  exact ⟨rfl, hb9⟩
end Go.Proofs.Ytechlhmmgabikaa.Dk
