/- Laws and contracts of several chapters, laid in one text. No statement is proved here. -/
import Derived.Test.YteeodeooicoekaaPatD
import Derived.Test.YteeodeooicoekaaLb
import Derived.Test.YteeodeooicoekaaLe
/- Nothing leads from a block to itself. No statement is proved here. -/
namespace Go.Proofs.Yteeodeooicoekaa.Pat
set_option linter.unusedVariables false
set_option linter.unusedSimpArgs false
theorem diffK_same (a : List Nat) : ∀ k, diffK a a k = [] := by
  intro k
  induction k with
  | zero => rfl
  | succ k ih =>
    have h : neqB a a k = false := by unfold neqB; simp
    rw [diffK, h, ih]
    rfl
theorem diffL_same (a : List Nat) : diffL a a = [] := diffK_same a 256
end Go.Proofs.Yteeodeooicoekaa.Pat

/- What leads from what is seen of a block to what it is written as: the contract of roll.Back. No statement is proved here. -/
namespace Go.Proofs.Yteeodeooicoekaa.Rd
open Go.RowKit Go.Proofs.Yteeodeooicoekaa.Mem Go.Proofs.Yteeodeooicoekaa.Open Go.Proofs.Yteeodeooicoekaa.Kind Go.Proofs.Yteeodeooicoekaa.Blk Go.Proofs.Yteeodeooicoekaa.App Go.Proofs.Yteeodeooicoekaa.Pat
set_option linter.unusedVariables false
set_option linter.unusedSimpArgs false
set_option maxHeartbeats 4000000 in
set_option maxRecDepth 100000 in
theorem Back_any (A : Option Addr) (c : Nat) (xs : List Chg) (bl : Int) (B : List Nat) (w : World) (hx : Chs w A xs) (hB : B.length = 256) (hBB : ∀ x ∈ imgF B xs bl, x < 256) (hcap : xs.length ≤ c) (hcm : c ≤ M63) (hn : xs.length ≤ 1000) (hs : Small xs) :
    Calls Try.prog 30 #[.agg (blk B), .slice A xs.length c, .int .i64 bl] w fun r w' => ∃ v, r = .returned v ∧ OwnK kPat w' w.heap.size 60 v (diffL (viewF B xs bl) (imgF B xs bl)) ∧ Below w.heap.size w w' := by
  have hBs : (blk B).size = 256 := by rw [blk_size]; exact hB
  have r0 : Row (w.alloc (.cells (blk B) 26)) w.heap.size 26 (blk B) := Row.new _ _ _
  have hb0 := bb0 w (.cells (blk B) 26)
  have CI0 := Image_any A c xs bl B _ (hx.below hb0) hB hcap hcm hn hs
  have hIl : (imgF B xs bl).length = 256 := (imgF_len _ _ _).trans hB
  have hVl : (viewF B xs bl).length = 256 := (viewF_len _ _ _).trans hB
  have CV0 := fun w' h => View_any A c xs bl B w' h hB hn
  generalize imgF B xs bl = I at *
  generalize viewF B xs bl = V at *
  have hIs : (blk I).size = 256 := by rw [blk_size]; exact hIl
  have hVs : (blk V).size = 256 := by rw [blk_size]; exact hVl
  have CI := Lib.hid CI0
  have CV := Lib.hid CV0
  have HR0 := Lib.hid r0
  have HB0 := Lib.hid hb0
  clear CI0 CV0 r0 hb0
  go_enter Try.func30, Try.ntmps30
  go_wp2_with (with_reducible refine wpList_load rfl 26 _ rfl _ rfl 26 (blk B) 256 5 blkUnd blkSize hBs HR0.out.out ?_)
  refine CI.out.mono ?_
  rintro e w2 ⟨v2, rfl, hown2, hb2⟩
  obtain ⟨A2, c2, rfl⟩ := hown2.slice
  obtain ⟨⟨r7, b7, z7⟩⟩ : Nonempty (_ ∧ _ ∧ _) := ⟨boxed w2 26 (blk zblk) (blk I)⟩
  have R0 : Row (w2.alloc (.cells (blk zblk) 26)) w2.heap.size 26 (blk zblk) := Row.new _ _ _
  have HB7 := Lib.hid (HB0.out.trans ((hb2.trans (b7.mono hb2.size)).mono HB0.out.size))
  have HR3 := Lib.hid ((HR0.out.below hb2).below b7)
  have HR7 := Lib.hid r7
  have CV := Lib.hid (CV.out _ (hx.below HB7.out))
  clear hown2 hb2 r7 b7 z7 CI
  go_wp2_with (first
    | (with_reducible refine wpList_allocA rfl 26 rfl _ blkZero ?_)
    | (with_reducible refine wpList_storeRow rfl 26 _ _ rfl w2.heap.size rfl (blk I) rfl (blk zblk) 26 256 blkSize hIs zblk_size (blk_one _) R0 ?_)
    | (with_reducible refine wpList_load rfl 26 _ rfl _ rfl 26 (blk B) 256 5 blkUnd blkSize hBs HR3.out.out ?_))
  refine CV.out.mono ?_
  rintro e w3 ⟨rfl, hb3⟩
  have HR7 := Lib.hid (HR7.out.below hb3)
  have HB7 := Lib.hid (HB7.out.trans (hb3.mono HB7.out.size))
  obtain ⟨⟨r9, b9, z9⟩⟩ : Nonempty (_ ∧ _ ∧ _) := ⟨boxed w3 26 (blk zblk) (blk V)⟩
  have R9 : Row (w3.alloc (.cells (blk zblk) 26)) w3.heap.size 26 (blk zblk) := Row.new _ _ _
  have HI := Lib.hid (HR7.out.below b9)
  have HV := Lib.hid r9
  have HB9 := Lib.hid (HB7.out.trans (b9.mono HB7.out.size))
  clear hb3 r9 b9 z9 CV R0 HR7
  by_cases hIV : I = V
  · have heq : ∀ w, (Op.equalIn 10000 26 (.agg (blk I)) (.agg (blk V))).run Try.prog w = .ok true w := fun w => by rw [run_eq_blk _ _ hIl hVl, decide_eq_true hIV]
    have HD : Hid (diffL V I = []) := Lib.hid (by rw [hIV]; exact diffL_same _)
    clear hIV
    go_wp2_with (first
      | (with_reducible refine wpList_allocA rfl 26 rfl _ blkZero ?_)
      | (with_reducible refine wpList_storeRow rfl 26 _ _ rfl w3.heap.size rfl (blk V) rfl (blk zblk) 26 256 blkSize hVs zblk_size (blk_one _) R9 ?_)
      | (with_reducible refine wpList_load rfl 26 _ rfl _ rfl 26 (blk I) 256 5 blkUnd blkSize hIs HI.out.out ?_)
      | (with_reducible refine wpList_load rfl 26 _ rfl _ rfl 26 (blk V) 256 5 blkUnd blkSize hVs HV.out.out ?_))
    go_ret
    exact ⟨_, rfl, by rw [HD.out]; exact OwnK.nil _ _ _ _, HB9.out⟩
  · have heq : ∀ w, (Op.equalIn 10000 26 (.agg (blk I)) (.agg (blk V))).run Try.prog w = .ok false w := fun w => by rw [run_eq_blk _ _ hIl hVl, decide_eq_false hIV]
    clear hIV
    go_wp2_with (first
      | (with_reducible refine wpList_allocA rfl 26 rfl _ blkZero ?_)
      | (with_reducible refine wpList_storeRow rfl 26 _ _ rfl w3.heap.size rfl (blk V) rfl (blk zblk) 26 256 blkSize hVs zblk_size (blk_one _) R9 ?_)
      | (with_reducible refine wpList_load rfl 26 _ rfl _ rfl 26 (blk I) 256 5 blkUnd blkSize hIs HI.out.out ?_)
      | (with_reducible refine wpList_load rfl 26 _ rfl _ rfl 26 (blk V) 256 5 blkUnd blkSize hVs HV.out.out ?_))
    refine (diff_any V I _ hVl hIl hBB).mono ?_
    rintro e w5 ⟨v5, rfl, ho5, hb5⟩
    have HO := Lib.hid (ho5.mono HB9.out.size)
    clear ho5
    go_wp2
    go_ret
    exact ⟨_, rfl, HO.out, HB9.out.trans (hb5.mono HB9.out.size)⟩
end Go.Proofs.Yteeodeooicoekaa.Rd

