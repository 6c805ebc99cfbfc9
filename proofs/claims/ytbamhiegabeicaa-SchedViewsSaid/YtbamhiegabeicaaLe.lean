/- What a block is written as: the contract of roll.Image. No statement is proved here. -/
import Derived.Test.YtbamhiegabeicaaLb
import Derived.Test.YtbamhiegabeicaaSw
import Derived.Test.YtbamhiegabeicaaLo
namespace Go.Proofs.Ytbamhiegabeicaa.Rd
open Go.RowKit Go.Proofs.Ytbamhiegabeicaa.Mem Go.Proofs.Ytbamhiegabeicaa.Open Go.Proofs.Ytbamhiegabeicaa.Kind Go.Proofs.Ytbamhiegabeicaa.Blk Go.Proofs.Ytbamhiegabeicaa.App Go.Proofs.Ytbamhiegabeicaa.Pat
set_option linter.unusedVariables false
set_option linter.unusedSimpArgs false
theorem goneF_one (ids : List Int) : (fun n => goneF ids (fun _ => 0) n == 1) = fun n => decide (n ∈ ids) := by
  funext n
  rw [goneF_eq]
  by_cases h : n ∈ ids
  · rw [if_pos h, decide_eq_true h]; rfl
  · rw [if_neg h, decide_eq_false h]; rfl
theorem ready_wf2 {w : World} {A : Option Addr} {xs : List Chg} (h : Chs w A xs) (b : Int) : ∀ n ∈ readyS xs b, WfI n := by
  intro n hn
  obtain ⟨i, hi, rfl, _⟩ := ready_mem hn
  obtain ⟨g, o, rfl, hg⟩ := ch_form h (by omega)
  obtain ⟨A1, c1, A2, c2, hat⟩ := ch_at h i hi
  exact hat.ok.1
theorem ready_len2 (xs : List Chg) (b : Int) : (readyS xs b).length ≤ xs.length := by
  unfold readyS
  split
  · exact rdy_len xs b _
  · simp
set_option maxHeartbeats 4000000 in
set_option maxRecDepth 100000 in
theorem Image_any (A : Option Addr) (c : Nat) (xs : List Chg) (bl : Int) (B : List Nat) (w : World) (hx : Chs w A xs) (hB : B.length = 256) (hcap : xs.length ≤ c) (hcm : c ≤ M63) (hn : xs.length ≤ 1000) (hs : Small xs) :
    Calls Try.prog 66 #[.agg (blk B), .slice A xs.length c, .int .i64 bl] w fun r w' => ∃ v, r = .returned (.tuple #[.agg (blk (imgF B xs bl)), v]) ∧ Ns w' w.heap.size v (readyS xs bl) ∧ Below w.heap.size w w' := by
  have hBs : (blk B).size = 256 := by rw [blk_size]; exact hB
  have hmm := @run_makeMap Try.prog
  have hmk := hmf
  obtain ⟨hr1, hr2, hbel⟩ := two_rows w 42 42 (blk B) (blk zblk)
  have CR := Lib.hid (Ready_any A c xs bl _ (hx.below hbel) hcap hcm hn hs)
  have hwf := ready_wf2 hx bl
  have hrl := ready_len2 xs bl
  have HR1 := Lib.hid hr1
  have HR2 := Lib.hid hr2
  have HB := Lib.hid hbel
  have HS : Hid (imgF B xs bl = laidF bl (fun n => decide (n ∈ readyS xs bl)) B xs) := Lib.hid rfl
  clear hr1 hr2 hbel
  go_enter Try.func66, Try.ntmps66
  go_wp2_with (with_reducible refine wpList_allocA rfl 42 rfl _ blkZero ?_)
  refine CR.out.mono ?_
  rintro e w2 ⟨v2, rfl, hown2, hb2⟩
  obtain ⟨A2, c2, rfl, _, _, _, hi⟩ := own_is hown2 hwf
  have HO := Lib.hid hown2
  have HB0 := Lib.hid HB.out.size
  have HR1 := Lib.hid (HR1.out.below hb2)
  have HR2 := Lib.hid (HR2.out.below hb2)
  have HB := Lib.hid (HB.out.trans (hb2.mono HB.out.size))
  clear hown2 hb2 CR
  obtain ⟨ids, hids⟩ : ∃ ids, readyS xs bl = ids := ⟨_, rfl⟩
  rw [hids] at hi HO HS hwf hrl ⊢
  have HID := Lib.hid hids
  clear hids
  have hl : ids.length ≤ 9223372036854775807 := hi.2.1
  have HM1 := Lib.hid ((Mp.made w2).alloc (.cells #[.map (some w2.heap.size)] 93))
  have HQ1 := Lib.hid (rowAt (w := w2.alloc (.map #[] 0)) (g := w2.heap.size + 1) 93 #[.map (some w2.heap.size)] (by simp))
  have HB1 := Lib.hid ((bb0 w2 (.map #[] 0)).alloc (by simp) (.cells #[.map (some w2.heap.size)] 93))
  go_wp2_with fail
  go_loopw [18] (fun i wr => ∃ (k : Nat) (g : Int → Int), k ≤ ids.length ∧ i = .int .i64 k ∧ Hid ((goneF ids fun _ => 0) = goneF (ids.drop k) g) ∧ Mp wr w2.heap.size k g ∧ Row wr (w2.heap.size + 1) 93 #[.map (some w2.heap.size)] ∧ Below w2.heap.size w2 wr) (fun i _ => ids.length - (intOf i).toNat)
  case atStart => exact ⟨0, _, by omega, rfl, Lib.hid rfl, HM1.out, HQ1.out, HB1.out⟩
  case round =>
    obtain ⟨k, g, hk, rfl, hv, hm, hq, hbr⟩ := hrel
    have k0 : wr.cell? ⟨w2.heap.size + 1, 0, none⟩ = some (.map (some w2.heap.size)) := hq.cell 0 rfl
    by_cases hlt : k < ids.length
    · obtain ⟨g2, o2, rfl, hg2, hc0⟩ := is_at hi k hlt
      have hc := (hbr.cell (p := ⟨g2, o2 + k, none⟩) hg2).trans hc0
      have hv := hv.out
      rw [drop_at hlt] at hv
      have hwx := hwf _ (List.getElem_mem hlt)
      generalize ids[k] = n at *
      have HV : Hid ((goneF ids fun _ => 0) = goneF (ids.drop (k + 1)) (upd g n 1)) := Lib.hid hv
      have HQ := Lib.hid hq
      have HBr := Lib.hid hbr
      have hle := hbr.size
      clear hv hq hbr hc0
      go_wp2_with (at_mapUpdate; go_loud (refine wpList_mapPut rfl _ _ _ rfl rfl hm (by omega) n 1 rfl rfl hwx rfl ?_); intro w3 hm3 hg3)
      have HQ3 := Lib.hid (gb_row hg3 HQ.out (by intro e; injection e with e; omega))
      have HB3 := Lib.hid (HBr.out.grown hg3 hle (fun q hq => by injection hq with hq; omega))
      clear hg3
      go_roundw
      case rel => exact ⟨k + 1, _, by omega, by go_num, HV, hm3, HQ3.out, HB3.out⟩
      case measure => simp [intOf]; omega
    · obtain rfl : k = ids.length := by omega
      have hv := hv.out
      rw [drop_end] at hv
      have hg : (goneF ids fun _ => 0) = g := hv
      have C0 := laid_img (.pointer (some ⟨w2.heap.size + 1, 0, none⟩)) (fun n => g n == 1) (fun w' => w'.cell? ⟨w2.heap.size + 1, 0, none⟩ = some (.map (some w2.heap.size)) ∧ Mp w' w2.heap.size ids.length g) (fun w1 w2 h h2 => ⟨(h2.cell (World.block_lt_of_cell? _ _ h.1)).trans h.1, h.2.below h2⟩)
        (fun w' n h hok => im1_any n (w2.heap.size + 1) w2.heap.size ids.length g w' h.1 h.2 hok) A c xs bl B wr ⟨k0, hm⟩ (hx.below (HB.out.trans (hbr.mono HB.out.size))) hB hn
      rw [← hg, goneF_one, ← HS.out] at C0
      have C := Lib.hid C0
      have HR1 := Lib.hid (HR1.out.below hbr)
      have HR2 := Lib.hid (HR2.out.below hbr)
      have HO := Lib.hid (HO.out.below hbr)
      have HBB := Lib.hid (HB.out.trans (hbr.mono HB.out.size))
      have hVl : (imgF B xs bl).length = 256 := (imgF_len _ _ _).trans hB
      obtain ⟨V, hVe⟩ : ∃ V, imgF B xs bl = V := ⟨_, rfl⟩
      rw [hVe] at C hVl
      have HVE := Lib.hid hVe
      have hVs : (blk V).size = 256 := by rw [blk_size]; exact hVl
      clear hv hg hm hq hbr k0 C0 hVe
      go_wp2_with (with_reducible refine wpList_load rfl 42 _ rfl _ rfl 42 (blk B) 256 5 blkUnd blkSize hBs HR1.out.out ?_)
      refine C.out.mono ?_
      rintro e w5 ⟨rfl, hb5⟩
      have R2 := HR2.out.below hb5
      have HO := Lib.hid (HO.out.below hb5)
      have HBB := Lib.hid (HBB.out.trans (hb5.mono HBB.out.size))
      clear hb5 C
      go_wp2_with (with_reducible refine wpList_storeRow rfl 42 _ _ rfl (w.heap.size + 1) rfl (blk V) rfl (blk zblk) 42 256 blkSize hVs zblk_size (blk_one _) R2 ?_)
      exact bodyPost_ret (v := .tuple #[.agg (blk V), .slice A2 ids.length c2]) (results_cell_tmp (p := 6) (t2 := 7) rfl _ _ (w.heap.size + 1) 42 (blk V) (0, 0) _ rfl (R2.set _) blkUnd rfl (by rw [hVs]; exact blkSize)) rfl
        ⟨.slice A2 ids.length c2, by rw [HVE.out], by rw [HID.out]; exact (own_grown HO.out (grown_setRow _ (w.heap.size + 1) (blk V)) (fun q hq e => by injection e with e; have := (Own.lt HO.out q hq).1; simp at this; omega)).mono HB0.out, below_setRow HBB.out (by omega) _⟩
end Go.Proofs.Ytbamhiegabeicaa.Rd

