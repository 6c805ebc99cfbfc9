/- CacheNils. -/
import Derived.Test.YtdhgkabbepbgpaaCw
namespace Go.Proofs.Ytdhgkabbepbgpaa.Cb
open Go.RowKit Go.Proofs.Ytdhgkabbepbgpaa.Mem Go.Proofs.Ytdhgkabbepbgpaa.Open Go.Proofs.Ytdhgkabbepbgpaa.Kind Go.Proofs.Ytdhgkabbepbgpaa.Blk Go.Proofs.Ytdhgkabbepbgpaa.App Go.Proofs.Ytdhgkabbepbgpaa.Pat Go.Proofs.Ytdhgkabbepbgpaa.Rd
open Go.Proofs.Ytdhgkabbepbgpaa.Db (Dv Dev Asd)
set_option linter.unusedVariables false
set_option linter.unusedSimpArgs false
theorem pE_one (s : St) (no : Int) : pE s no 0 [1] [] = kE s no := by
  unfold pE
  rw [if_neg (by decide), if_neg (by unfold neL neF; simp)]
theorem kE_t0 (no : Int) : kE t0 no = if 0 ≤ no ∧ no < 16 then 0 else 2 := by
  have h : kE t0 no = Db.mayE (Db.fresh 16) no := if_neg (by show ¬ (false = true); simp)
  rw [h]
  unfold Db.mayE
  have h2 : (Db.fresh 16).off = false := rfl
  have h3 : (Db.fresh 16).bs.length = 16 := List.length_replicate
  rw [h2, if_neg (by simp), h3]
  by_cases hq : 0 ≤ no ∧ no < 16
  · rw [if_pos hq, if_neg (by omega)]
  · rw [if_neg hq, if_pos (by omega)]
theorem by1 : Bytes [1] := by unfold Bytes; intro x hx; simp at hx; omega
set_option maxHeartbeats 4000000 in
set_option maxRecDepth 100000 in
theorem nils_walk (no id : Int) (w : World) (hno : (Lit.int .i64 no).wf = true) (hid : (Lit.int .i64 id).wf = true) :
    Calls Try.prog 5 #[.int .i64 no, .int .i64 id] w fun e w' => e = .returned (.bool true) ∧ Below w.heap.size w w' := by
  have hz : (blk zblk).size = 256 := zblk_size
  obtain ⟨w1, hw1⟩ : ∃ w1, w1 = (w.alloc (.cells #[.int .u8 1] 5)).alloc (.cells #[.int .i64 0, .slice (some ⟨w.heap.size, 0, none⟩) 1 1] 42) := ⟨_, rfl⟩
  have b1 : Below w.heap.size w w1 := by rw [hw1]; exact ((Below.refl _ _).alloc (Nat.le_refl _) _).alloc (by simp) _
  have RD : Row w1 w.heap.size 5 (blk [1]) := by rw [hw1]; exact (Row.new w 5 (blk [1])).alloc _
  have RP : Row w1 (w.heap.size + 1) 42 #[.int .i64 0, .slice (some ⟨w.heap.size, 0, none⟩) 1 1] := by
    rw [hw1]
    have := Row.new (w.alloc (.cells #[.int .u8 1] 5)) 42 #[.int .i64 0, .slice (some ⟨w.heap.size, 0, none⟩) 1 1]
    rwa [show (w.alloc (.cells #[.int .u8 1] 5)).heap.size = w.heap.size + 1 from by simp] at this
  have HW1 := Lib.hid hw1
  have HB1 := Lib.hid b1
  have hRP := RP
  clear hw1 b1 RP
  go_enter Try.func5, Try.ntmps5
  go_wp2_with fail
  rw [← HW1.out]
  refine (Get_nil no w1).mono ?_
  rintro e w2 ⟨rfl, hb2⟩
  have R0 : Row (w2.alloc (.cells (blk zblk) 38)) w2.heap.size 38 (blk zblk) := Row.new _ _ _
  obtain ⟨⟨r3, b3, z3⟩⟩ : Nonempty (_ ∧ _ ∧ _) := ⟨boxed w2 38 (blk zblk) (blk zblk)⟩
  have b3' := hb2.trans (b3.mono hb2.size)
  have RP := hRP.below b3'
  have k0 := RP.cell 0 rfl
  have k1 : World.cell? _ ⟨w.heap.size + 1, 0 + 1, none⟩ = some (.slice (some ⟨w.heap.size, 0, none⟩) 1 1) := RP.cell 1 rfl
  have HRP3 := Lib.hid RP
  have HRD3 := Lib.hid (RD.below b3')
  have HB3 := Lib.hid (HB1.out.trans (b3'.mono HB1.out.size))
  clear r3 b3 z3 b3' RP hb2 hRP RD
  go_wp2_with (first
    | (with_reducible refine wpList_allocA rfl 38 rfl _ blkZero ?_)
    | (with_reducible refine wpList_storeRow rfl 38 _ _ rfl w2.heap.size rfl (blk zblk) rfl (blk zblk) 38 256 blkSize hz hz (blk_one _) R0 ?_))
  refine (Put_nil no 0 _ 1 1 _ _).mono ?_
  rintro e w4 ⟨rfl, hb4⟩
  have hb4' := (bb0 _ (.cells #[.int .i64 id] 3)).trans (hb4.mono (by simp))
  have HRP4 := Lib.hid (HRP3.out.below hb4')
  have HRD4 := Lib.hid (HRD3.out.below hb4')
  have HB4 := Lib.hid (HB3.out.trans (hb4'.mono HB3.out.size))
  clear hb4 hb4' HRP3 HRD3 k0 k1 R0
  go_wp2_with fail
  refine (Flush_nil no w4).mono ?_
  rintro e w5 ⟨rfl, rfl⟩
  go_wp2_with fail
  refine (Upto_nil id _).mono ?_
  rintro e w5 ⟨rfl, rfl⟩
  go_wp2_with fail
  refine (Sync_nil _).mono ?_
  rintro e w5 ⟨rfl, rfl⟩
  go_wp2_with fail
  refine (Done_nil id _).mono ?_
  rintro e w5 ⟨rfl, rfl⟩
  go_wp2_with fail
  refine (Left_nil _).mono ?_
  rintro e w5 ⟨rfl, rfl⟩
  go_wp2_with fail
  refine (Dirty_nil _).mono ?_
  rintro e w5 ⟨rfl, rfl⟩
  go_wp2_with fail
  refine (Last_nil _).mono ?_
  rintro e w5 ⟨rfl, rfl⟩
  go_wp2_with fail
  refine (New_nil _).mono ?_
  rintro e w5 ⟨rfl, rfl⟩
  go_wp2_with fail
  refine (Db.new_any 16 16 (.inl ⟨by omega, rfl⟩) _).mono ?_
  rintro e w6 ⟨d, rfl, g, hd, hd1, hg1, hb6⟩
  have HRP6 := Lib.hid (HRP4.out.below hb6)
  have HRD6 := Lib.hid (HRD4.out.below hb6)
  have HB6 := Lib.hid (HB4.out.trans (hb6.mono HB4.out.size))
  have hs4 := HB4.out.size
  have hs6 := hb6.size
  go_wp2_with fail
  refine (New_any d g _ w6 hd).mono ?_
  rintro e w7 ⟨c, b, rfl, hc7, hc1, hb1, hb7⟩
  have HRP7 := Lib.hid (HRP6.out.below hb7)
  have HRD7 := Lib.hid (HRD6.out.below hb7)
  have HB7 := Lib.hid (HB6.out.trans (hb7.mono HB6.out.size))
  have hs7 := hb7.size
  have hrl := HRP4.out.lt
  obtain ⟨N, hN⟩ : ∃ N : Nat → Prop, N = fun j => j < w7.heap.size := ⟨_, rfl⟩
  rw [← hN] at hc7
  have HBD : Hid (Bd w.heap.size c d g b N) := Lib.hid ⟨by omega, by omega, by omega, by omega, fun k hk => by rw [hN]; show k < w7.heap.size; omega⟩
  have FD : Far N c d g b w.heap.size := ⟨by rw [hN]; show _ < w7.heap.size; omega, by omega, by omega, by omega, by omega⟩
  have FP : Far N c d g b (w.heap.size + 1) := ⟨by rw [hN]; show _ < w7.heap.size; omega, by omega, by omega, by omega, by omega⟩
  have CG := Lib.hid (Get_any no hno c d g b N _ t0 w7 hc7 i0)
  rw [kE_t0] at CG
  have HKE := Lib.hid (kE_t0 no)
  clear hd hd1 hg1 hb6 hc7 hc1 hb1 hb7 HRP4 HRD4 HRP6 HRD6 hs4 hs6 hs7 hrl hN
  go_wp2_with fail
  refine CG.out.mono ?_
  rintro e w8 ⟨rfl, hc8, ht8⟩
  have HB8 := Lib.hid (Tn.bel HB7.out ht8 HBD.out)
  have RP8 := ht8.row FP HRP7.out
  have RD8 := ht8.row FD HRD7.out
  have hVl : (gV t0 no).length = 256 := by
    unfold gV
    split
    · exact zblk_length
    · rw [laidF_len]; exact getD_mem _ _ i0.each
  generalize gV t0 no = V at *
  have hVs : (blk V).size = 256 := by rw [blk_size]; exact hVl
  have R0 : Row (w8.alloc (.cells (blk zblk) 38)) w8.heap.size 38 (blk zblk) := Row.new _ _ _
  obtain ⟨⟨r9, b9, z9⟩⟩ : Nonempty (_ ∧ _ ∧ _) := ⟨boxed w8 38 (blk zblk) (blk V)⟩
  have RP9 := RP8.below b9
  have k0 := RP9.cell 0 rfl
  have k1 : World.cell? _ ⟨w.heap.size + 1, 0 + 1, none⟩ = some (.slice (some ⟨w.heap.size, 0, none⟩) 1 1) := RP9.cell 1 rfl
  have P9 := Put_row no hno w.heap.size [1] by1 (by simp) none 0 [] c d g b N _ (kS t0 no) _ (hc8.below b9) (kS_inv i0 no (by have : t0.dv.rd = 0 := (by kernel_rfl); omega)) (RD8.below b9) FD is_nil (by simp)
  rw [pE_one] at P9
  have HP9 := Lib.hid P9
  have HB9 := Lib.hid (HB8.out.trans (b9.mono HB8.out.size))
  have HI9 : Hid (Inv (pS (kS t0 no) no 0 [1] [])) := Lib.hid (pS_inv (kS_inv i0 no (by have : t0.dv.rd = 0 := (by kernel_rfl); omega)) by1 (by simp) (by simp) (by have := (kS_rd t0 no).1; have : t0.dv.rd = 0 := (by kernel_rfl); omega) (by rw [kS_last]; show (0 : Int) < 1000; decide))
  clear hc8 ht8 RP8 RD8 r9 b9 z9 RP9 P9 CG HRP7 HRD7 hVl
  by_cases hq : 0 ≤ no ∧ no < 16
  · rw [if_pos hq] at HKE
    have hk1 : kE (kS t0 no) no = 0 := if_pos (kS_K HKE.out)
    have hL : (pS (kS t0 no) no 0 [1] []).last = 1 := by
      unfold pS
      rw [if_pos (by rw [pE_one]; exact hk1)]
      show (kS t0 no).last + 1 = 1
      rw [kS_last]; rfl
    rw [hk1] at HP9
    have HL := Lib.hid hL
    obtain ⟨hq1, hq2⟩ := hq
    rw [if_pos ⟨hq1, hq2⟩]
    clear hk1 hL
    go_wp2_with (first
      | (with_reducible refine wpList_allocA rfl 38 rfl _ blkZero ?_)
      | (with_reducible refine wpList_storeRow rfl 38 _ _ rfl w8.heap.size rfl (blk V) rfl (blk zblk) 38 256 blkSize hVs hz (blk_one _) R0 ?_))
    refine HP9.out.mono ?_
    rintro e w10 ⟨v10, rfl, hc10, ht10⟩
    have HB10 := Lib.hid (Tn.bel HB9.out ht10 HBD.out)
    have CL := Last_any c d g b N v10 _ w10 hc10
    rw [HL.out] at CL
    have HCL := Lib.hid CL
    clear hc10 ht10 CL HP9 k0 k1 R0
    go_wp2_with fail
    refine HCL.out.mono ?_
    rintro e w11 ⟨rfl, rfl⟩
    go_wp2_with fail
    refine (works12 _).mono ?_
    rintro e w12 ⟨rfl, hb12⟩
    go_wp2
    go_ret
    exact ⟨rfl, HB10.out.trans (hb12.mono HB10.out.size)⟩
  · rw [if_neg hq] at HKE
    have hs : kS t0 no = t0 := kE_kS (by rw [HKE.out]; decide)
    have hS : pS t0 no 0 [1] [] = t0 := by
      unfold pS
      rw [if_neg (by rw [pE_one, HKE.out]; decide)]
    rw [hs, hS, HKE.out] at HP9
    have hF : flE t0 no = 0 := if_neg (fun e => by have := e.1; cases this)
    have HF := Lib.hid hF
    rw [if_neg hq]
    have hq2 : no < 0 ∨ 0 ≤ no ∧ 16 ≤ no := by omega
    clear hs hS hF hq HI9
    rcases hq2 with h1 | ⟨h1, h2⟩
    all_goals
      go_wp2_with (first
        | (with_reducible refine wpList_allocA rfl 38 rfl _ blkZero ?_)
        | (with_reducible refine wpList_storeRow rfl 38 _ _ rfl w8.heap.size rfl (blk V) rfl (blk zblk) 38 256 blkSize hVs hz (blk_one _) R0 ?_))
      refine HP9.out.mono ?_
      rintro e w10 ⟨v10, rfl, hc10, ht10⟩
      have HB10 := Lib.hid (Tn.bel HB9.out ht10 HBD.out)
      have CL := Last_any c d g b N v10 _ w10 hc10
      rw [show t0.last = 0 from rfl] at CL
      have CF := Flush_any no hno c d g b N v10 t0 w10 hc10 i0
      rw [HF.out] at CF
      have HCL := Lib.hid CL
      have HCF := Lib.hid CF
      clear hc10 ht10 CL CF HP9 k0 k1 R0
      go_wp2_with fail
      refine HCL.out.mono ?_
      rintro e w11 ⟨rfl, rfl⟩
      go_wp2_with fail
      refine HCF.out.mono ?_
      rintro e w12 ⟨v12, rfl, hc12, ht12⟩
      have HB12 := Lib.hid (Tn.bel HB10.out ht12 HBD.out)
      clear hc12 ht12 HCL HCF
      go_wp2_with fail
      refine (works12 _).mono ?_
      rintro e w13 ⟨rfl, hb13⟩
      go_wp2
      go_ret
      exact ⟨rfl, HB12.out.trans (hb13.mono HB12.out.size)⟩
end Go.Proofs.Ytdhgkabbepbgpaa.Cb
