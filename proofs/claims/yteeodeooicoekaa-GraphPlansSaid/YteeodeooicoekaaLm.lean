/- The example of chapter 10. No statement is proved here. -/
import Derived.Test.YteeodeooicoekaaLb
import Derived.Test.YteeodeooicoekaaLh
import Derived.Test.YteeodeooicoekaaR9
namespace Go.Proofs.Yteeodeooicoekaa.Rd
open Go.RowKit Go.Proofs.Yteeodeooicoekaa.Mem Go.Proofs.Yteeodeooicoekaa.Open Go.Proofs.Yteeodeooicoekaa.Kind Go.Proofs.Yteeodeooicoekaa.Blk Go.Proofs.Yteeodeooicoekaa.App Go.Proofs.Yteeodeooicoekaa.Pat Go.Proofs.Yteeodeooicoekaa.Same
set_option linter.unusedVariables false
set_option linter.unusedSimpArgs false
def exM : List Chg := [⟨1, 5, 0, [9], []⟩, ⟨2, 6, 0, [9], [1]⟩]
def z9 : List Nat := 9 :: List.replicate 255 0
theorem z9_length : z9.length = 256 := by decide +kernel
theorem exM1 : readyS exM 6 = [] := by decide
theorem exM2 : readyS exM 5 = [1] := by decide
theorem exM3 : imgF zblk exM 6 = zblk := by decide +kernel
theorem exM4 : imgF zblk exM 5 = z9 := by decide +kernel
theorem exM5 : viewF zblk exM 6 = z9 := by decide +kernel
theorem exM6 : heldF exM 6 = [2] := by decide
theorem run_index_blk {L : List Nat} {k : Nat} {x : Nat} (hk : k < 256) (h : L[k]? = some x) (w : World) : (Instr.index 26 (.agg (blk L)) (.int .i64 (k : Int))).run Try.prog w = .ok (.int .u8 (x : Int)) w := by
  have h2 : (blk L)[k]? = some (.int .u8 (x : Int)) := by
    obtain ⟨hi, e⟩ := List.getElem?_eq_some_iff.1 h
    rw [blk_get L k hi, e]
  unfold Instr.index
  simp [asIntOf, run_underlying blkUnd, sizeOf]
  rw [if_pos hk, show k * Try.t5.size = k from Nat.mul_one k]
  have ha : ∀ w, (isAgg 5).run Try.prog w = .ok false w := fun w => by kernel_rfl
  unfold part
  simp [ha, h2]
def exMW (w : World) : World := (((w.alloc (.cells #[.int .u8 9] 5)).alloc (.cells #[.int .i64 0, .slice (some ⟨w.heap.size, 0, none⟩) 1 1] 60)).alloc (.cells #[.int .i64 1] 3)).alloc (.cells #[.int .i64 1, .int .i64 5, .int .i64 0, .slice (some ⟨w.heap.size, 0, none⟩) 1 1, .slice none 0 0, .int .i64 2, .int .i64 6, .int .i64 0, .slice (some ⟨w.heap.size, 0, none⟩) 1 1, .slice (some ⟨w.heap.size + 1 + 1, 0, none⟩) 1 1] 62)
theorem exMW_facts (w : World) : Chs (exMW w) (some ⟨w.heap.size + 1 + 1 + 1, 0, none⟩) exM ∧ Below w.heap.size w (exMW w) := by
  have r0 : Row (exMW w) w.heap.size 5 (blk [9]) := (((rowAt 5 (blk [9]) rfl).alloc _).alloc _).alloc _
  have r2 : Row (exMW w) (w.heap.size + 1 + 1) 3 (nums [1]) := (rowAt 3 (nums [1]) (by simp)).alloc _
  have r4 : Row (exMW w) (w.heap.size + 1 + 1 + 1) 62 _ := rowAt 62 _ (by simp)
  have b0 : By (exMW w) (some ⟨w.heap.size, 0, none⟩) [9] := by_row r0 (by simp) (by decide)
  have i2 : Is (exMW w) (some ⟨w.heap.size + 1 + 1, 0, none⟩) [1] := is_row r2 (fun x hx => by simp at hx; subst hx; rfl) (by decide)
  refine ⟨chs_row r4 (by decide) fun i x hx => ?_, ?_⟩
  · match i, hx with
    | 0, hx =>
      simp [exM] at hx
      subst hx
      exact ⟨some ⟨w.heap.size, 0, none⟩, 1, none, 0, kChg_mk ⟨rfl, rfl, rfl⟩ (by decide) (by decide) (fun h => by first | rfl | cases h) b0 (by decide) (by decide) (fun h => by first | rfl | cases h) is_nil, fun j v hv => by
        match j, hv with
        | 0, hv | 1, hv | 2, hv | 3, hv | 4, hv => simpa using hv
        | n + 5, hv => simp at hv⟩
    | 1, hx =>
      simp [exM] at hx
      subst hx
      exact ⟨some ⟨w.heap.size, 0, none⟩, 1, some ⟨w.heap.size + 1 + 1, 0, none⟩, 1, kChg_mk ⟨rfl, rfl, rfl⟩ (by decide) (by decide) (fun h => by first | rfl | cases h) b0 (by decide) (by decide) (fun h => by first | rfl | cases h) i2, fun j v hv => by
        match j, hv with
        | 0, hv | 1, hv | 2, hv | 3, hv | 4, hv => simpa using hv
        | n + 5, hv => simp at hv⟩
    | n + 2, hx => simp [exM] at hx
  · exact ((((Below.refl _ _).alloc (Nat.le_refl _) _).alloc (by simp) _).alloc (by simp; omega) _).alloc (by simp; omega) _
set_option maxHeartbeats 2000000 in
set_option maxRecDepth 100000 in
theorem works10 (w : World) :
    Calls Try.prog 13 #[] w fun e w' => e = .returned (.bool true) ∧ Below w.heap.size w w' := by
  obtain ⟨hx, hb⟩ := exMW_facts w
  have sm : Small exM := by intro x hx; simp [exM] at hx; rcases hx with rfl | rfl <;> simp
  have C1 : Hid (∀ w', Chs w' (some ⟨w.heap.size + 1 + 1 + 1, 0, none⟩) exM → Calls Try.prog 25 #[.agg (blk zblk), .slice (some ⟨w.heap.size + 1 + 1 + 1, 0, none⟩) 2 2, .int .i64 6] w' fun r w'' => ∃ v, r = .returned (.tuple #[.agg (blk zblk), v]) ∧ Ns w'' w'.heap.size v [] ∧ Below w'.heap.size w' w'') := Lib.hid fun w' h => by have := Image_any (some ⟨w.heap.size + 1 + 1 + 1, 0, none⟩) 2 exM 6 zblk w' h zblk_length (by decide) (by decide) (by decide) sm; rw [exM1, exM3] at this; exact this
  have C2 : Hid (∀ w', Chs w' (some ⟨w.heap.size + 1 + 1 + 1, 0, none⟩) exM → Calls Try.prog 25 #[.agg (blk zblk), .slice (some ⟨w.heap.size + 1 + 1 + 1, 0, none⟩) 2 2, .int .i64 5] w' fun r w'' => ∃ v, r = .returned (.tuple #[.agg (blk z9), v]) ∧ Ns w'' w'.heap.size v [1] ∧ Below w'.heap.size w' w'') := Lib.hid fun w' h => by have := Image_any (some ⟨w.heap.size + 1 + 1 + 1, 0, none⟩) 2 exM 5 zblk w' h zblk_length (by decide) (by decide) (by decide) sm; rw [exM2, exM4] at this; exact this
  have C3 : Hid (∀ w', Chs w' (some ⟨w.heap.size + 1 + 1 + 1, 0, none⟩) exM → Calls Try.prog 23 #[.agg (blk zblk), .slice (some ⟨w.heap.size + 1 + 1 + 1, 0, none⟩) 2 2, .int .i64 6] w' fun r w'' => r = .returned (.agg (blk z9)) ∧ Below w'.heap.size w' w'') := Lib.hid fun w' h => by have := View_any (some ⟨w.heap.size + 1 + 1 + 1, 0, none⟩) 2 exM 6 zblk w' h zblk_length (by decide); rw [exM5] at this; exact this
  have C4 : Hid (∀ w', Chs w' (some ⟨w.heap.size + 1 + 1 + 1, 0, none⟩) exM → Calls Try.prog 24 #[.slice (some ⟨w.heap.size + 1 + 1 + 1, 0, none⟩) 2 2, .int .i64 6] w' fun r w'' => ∃ v, r = .returned v ∧ Ns w'' w'.heap.size v [2] ∧ Below w'.heap.size w' w'') := Lib.hid fun w' h => by have := Held_any (some ⟨w.heap.size + 1 + 1 + 1, 0, none⟩) 2 exM 6 w' h (by decide) (by decide) (by decide) sm; rw [exM6] at this; exact this
  have HX := Lib.hid hx
  have HB := Lib.hid hb
  have hzs : (blk zblk).size = 256 := zblk_size
  have hns : (blk z9).size = 256 := by rw [blk_size]; exact z9_length
  have heq : ∀ w, (Op.equalIn 10000 26 (.agg (blk zblk)) (.agg (blk zblk))).run Try.prog w = .ok true w := fun w => by rw [run_eq_blk _ _ zblk_length zblk_length, decide_eq_true rfl]
  clear hx hb
  unfold exMW at *
  have hzv := blkZero
  have hix : ∀ w, (Instr.index 26 (.agg (blk z9)) (.int .i64 0)).run Try.prog w = .ok (.int .u8 9) w := fun w => run_index_blk (k := 0) (x := 9) (by decide) rfl w
  go_enter Try.func13, Try.ntmps13
  go_wp2_with fail
  generalize (((w.alloc (.cells #[.int .u8 9] 5)).alloc (.cells #[.int .i64 0, .slice (some ⟨w.heap.size, 0, none⟩) 1 1] 60)).alloc (.cells #[.int .i64 1] 3)).alloc (.cells #[.int .i64 1, .int .i64 5, .int .i64 0, .slice (some ⟨w.heap.size, 0, none⟩) 1 1, .slice none 0 0, .int .i64 2, .int .i64 6, .int .i64 0, .slice (some ⟨w.heap.size, 0, none⟩) 1 1, .slice (some ⟨w.heap.size + 1 + 1, 0, none⟩) 1 1] 62) = W at *
  refine (C1.out W HX.out).mono ?_
  rintro e w1 ⟨v1, rfl, hown1, hb1⟩
  obtain ⟨A1, c1, rfl⟩ := hown1.slice
  obtain ⟨⟨r3, b3, z3⟩⟩ : Nonempty (_ ∧ _ ∧ _) := ⟨boxed w1 26 (blk zblk) (blk zblk)⟩
  have R3 : Row (w1.alloc (.cells (blk zblk) 26)) w1.heap.size 26 (blk zblk) := Row.new _ _ _
  have hb3 := hb1.trans (b3.mono hb1.size)
  have HX3 := Lib.hid (HX.out.below hb3)
  have HB3 := Lib.hid (HB.out.trans (hb3.mono HB.out.size))
  have HR3 := Lib.hid r3
  clear hown1 hb1 b3 r3 z3 hb3 C1 HX HB
  go_wp2_with (first
    | (with_reducible refine wpList_allocA rfl 26 rfl _ blkZero ?_)
    | (with_reducible refine wpList_storeRow rfl 26 _ _ rfl w1.heap.size rfl (blk zblk) rfl (blk zblk) 26 256 blkSize hzs zblk_size (blk_one _) R3 ?_))
  refine (C2.out _ HX3.out).mono ?_
  rintro e w4 ⟨v4, rfl, hown4, hb4⟩
  obtain ⟨A4, c4, rfl⟩ := hown4.slice
  have HR3 := Lib.hid (HR3.out.below hb4)
  have HB4 := Lib.hid (HB3.out.trans (hb4.mono HB3.out.size))
  have HX4 := Lib.hid (HX3.out.below hb4)
  clear hb4 HX3 HB3 R3 C2
  obtain ⟨⟨r5, b5, z5⟩⟩ : Nonempty (_ ∧ _ ∧ _) := ⟨boxed w4 26 (blk zblk) (blk z9)⟩
  have R5 : Row (w4.alloc (.cells (blk zblk) 26)) w4.heap.size 26 (blk zblk) := Row.new _ _ _
  have HR3 := Lib.hid (HR3.out.below b5)
  have HR5 := Lib.hid r5
  have HB5 := Lib.hid (HB4.out.trans (b5.mono HB4.out.size))
  have HX5 := Lib.hid (HX4.out.below b5)
  have HO5 := Lib.hid (hown4.below b5)
  clear r5 b5 z5 HB4 HX4 hown4
  go_wp2_with (first
    | (with_reducible refine wpList_allocA rfl 26 rfl _ blkZero ?_)
    | (with_reducible refine wpList_storeRow rfl 26 _ _ rfl w4.heap.size rfl (blk z9) rfl (blk zblk) 26 256 blkSize hns zblk_size (blk_one _) R5 ?_)
    | (with_reducible refine wpList_load rfl 26 _ rfl _ rfl 26 (blk zblk) 256 5 blkUnd blkSize hzs HR3.out.out ?_))
  refine (C3.out _ HX5.out).mono ?_
  rintro e w6 ⟨rfl, hb6⟩
  have HB6 := Lib.hid (HB5.out.trans (hb6.mono HB5.out.size))
  have HX6 := Lib.hid (HX5.out.below hb6)
  have HO6 := HO5.out.below hb6
  have e5 : w6.cell? ⟨w4.heap.size, 0, none⟩ = some (.int .u8 9) := (HR5.out.below hb6).cell 0 rfl
  have hl3 : Sl (w6.alloc (.cells #[.int .i64 1] 3)) V64 (some ⟨w6.heap.size, 0, none⟩) 1 [1] := sl_block (Row.new w6 3 #[.int .i64 1]) rfl (by decide)
  have hs1 : Sl (w6.alloc (.cells #[.int .i64 1] 3)) V64 A4 1 [1] := (HO6.alloc _).sl.2
  have I1 := Lib.hid (ints_any A4 (some ⟨w6.heap.size, 0, none⟩) 1 1 c4 1 [1] [1] _ hs1 hl3)
  have hb7 := (Below.refl w6.heap.size w6).alloc (Nat.le_refl _) (.cells #[.int .i64 1] 3)
  have HB7 := Lib.hid (HB6.out.trans (hb7.mono HB6.out.size))
  have HX7 := Lib.hid (HX6.out.below hb7)
  clear hb6 HB5 HX5 HO5 hl3 hs1 HO6 hb7 HB6 HX6 C3 R5
  go_wp2_with fail
  refine I1.out.mono ?_
  rintro e w8 ⟨rfl, q8, rfl⟩
  have hb8 := bdrewN (Below.refl (w6.alloc (.cells #[.int .i64 1] 3)).heap.size (w6.alloc (.cells #[.int .i64 1] 3))) q8
  have HX8 := Lib.hid (HX7.out.below hb8)
  have HB8 := Lib.hid (HB7.out.trans (hb8.mono HB7.out.size))
  clear hb8 HX7 HB7 I1 e5 HR5 HR3
  go_wp2_with fail
  generalize (w6.alloc (.cells #[.int .i64 1] 3)).drewN q8 = w9 at *
  refine (C4.out w9 HX8.out).mono ?_
  rintro e w10 ⟨v10, rfl, hown10, hb10⟩
  obtain ⟨A10, c10, rfl⟩ := hown10.slice
  have hl4 : Sl (w10.alloc (.cells #[.int .i64 2] 3)) V64 (some ⟨w10.heap.size, 0, none⟩) 1 [2] := sl_block (Row.new w10 3 #[.int .i64 2]) rfl (by decide)
  have hs4 : Sl (w10.alloc (.cells #[.int .i64 2] 3)) V64 A10 1 [2] := (hown10.alloc _).sl.2
  have hb10' := hb10.alloc hb10.size (.cells #[.int .i64 2] 3)
  have I2 := Lib.hid (ints_any A10 (some ⟨w10.heap.size, 0, none⟩) 1 1 c10 1 [2] [2] _ hs4 hl4)
  have HB10 := Lib.hid (HB8.out.trans (hb10'.mono HB8.out.size))
  clear hown10 hl4 hs4 hb10' hb10 C4 HX8 HB8
  go_wp2_with fail
  refine I2.out.mono ?_
  rintro e w11 ⟨rfl, q11, rfl⟩
  have hb11 := bdrewN (Below.refl (w10.alloc (.cells #[.int .i64 2] 3)).heap.size (w10.alloc (.cells #[.int .i64 2] 3))) q11
  have HB11 := Lib.hid (HB10.out.trans (hb11.mono HB10.out.size))
  clear hb11 HB10 I2
  go_wp2
  go_ret
  exact ⟨rfl, HB11.out⟩
end Go.Proofs.Yteeodeooicoekaa.Rd
