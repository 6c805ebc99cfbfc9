/- What is written, what is left, what is done: the contract of roll.Write. No statement is proved here. -/
import Derived.Test.YtbamhiegabeicaaLe
namespace Go.Proofs.Ytbamhiegabeicaa.Rd
open Go.RowKit Go.Proofs.Ytbamhiegabeicaa.Mem Go.Proofs.Ytbamhiegabeicaa.Open Go.Proofs.Ytbamhiegabeicaa.Kind Go.Proofs.Ytbamhiegabeicaa.Blk Go.Proofs.Ytbamhiegabeicaa.App Go.Proofs.Ytbamhiegabeicaa.Pat
set_option linter.unusedVariables false
set_option linter.unusedSimpArgs false
theorem results_cell_2 {P : Program} {fn : Func} {p t2 t3 : Tmp} {ty : TypeId} (h : fn.results = #[.cell p ty, .tmp t2, .tmp t3]) (tmps : Array Value) (w : World) (g : Nat) (t : TypeId) (cs : Array Value) (fr : Nat × Nat) (d : TypeDesc)
    (hp : tmps.getD p undef = .pointer (some ⟨g, 0, none⟩)) (hg : w.heap[g]? = some (.cells cs t fr))
    (hu : P.underlying ty = some d) (hd : (match d with | .struct _ | .array _ _ => true | _ => false) = true) (hi : (P.info? ty).map (·.size) = some cs.size) :
    (results fn tmps).run P w = .ok (.tuple #[.agg cs, tmps.getD t2 undef, tmps.getD t3 undef]) w := by
  have hp' : tmps[p]?.getD undef = .pointer (some ⟨g, 0, none⟩) := by simpa using hp
  simp [results, h, hp', asAddr, run_loadVar_row w g t ty cs fr d hg hu hd hi]
set_option maxHeartbeats 4000000 in
set_option maxRecDepth 100000 in
theorem Write_any (A : Option Addr) (c : Nat) (xs : List Chg) (bl : Int) (B : List Nat) (w : World) (hx : Chs w A xs) (hB : B.length = 256) (hcap : xs.length ≤ c) (hcm : c ≤ M63) (hn : xs.length ≤ 1000) (hs : Small xs) :
    Calls Try.prog 44 #[.agg (blk B), .slice A xs.length c, .int .i64 bl] w fun r w' => ∃ v5 v6, r = .returned (.tuple #[.agg (blk (imgF B xs bl)), v5, v6]) ∧ OwnK (kF kChg w.heap.size) w' w.heap.size 71 v5 (woS xs (readyS xs bl)) ∧ Ns w' w.heap.size v6 (readyS xs bl) ∧ Below w.heap.size w w' := by
  have hBs : (blk B).size = 256 := by rw [blk_size]; exact hB
  obtain ⟨hr1, hr2, hbel⟩ := two_rows w 42 42 (blk B) (blk zblk)
  have CI0 := Image_any A c xs bl B _ (hx.below hbel) hB hcap hcm hn hs
  have hwf := ready_wf2 hx bl
  have hrl := ready_len2 xs bl
  have hVl : (imgF B xs bl).length = 256 := (imgF_len _ _ _).trans hB
  obtain ⟨V, hVe⟩ : ∃ V, imgF B xs bl = V := ⟨_, rfl⟩
  rw [hVe] at CI0 hVl ⊢
  have hVs : (blk V).size = 256 := by rw [blk_size]; exact hVl
  have hVL := blkSizeL V hVl
  have CI := Lib.hid CI0
  have HR1 := Lib.hid hr1
  have HR2 := Lib.hid hr2
  have HB := Lib.hid hbel
  clear hr1 hr2 hbel CI0 hVe
  obtain ⟨ids, hids⟩ : ∃ ids, readyS xs bl = ids := ⟨_, rfl⟩
  rw [hids] at CI hwf hrl ⊢
  clear hids
  go_enter Try.func44, Try.ntmps44
  go_wp2_with (first
    | (with_reducible refine wpList_allocA rfl 42 rfl _ blkZero ?_)
    | (with_reducible refine wpList_load rfl 42 _ rfl _ rfl 42 (blk B) 256 5 blkUnd blkSize hBs HR1.out.out ?_))
  refine CI.out.mono ?_
  rintro e w2 ⟨v2, rfl, hown2, hb2⟩
  obtain ⟨A2, c2, rfl, _, _, _, hi⟩ := own_is hown2 hwf
  obtain ⟨⟨r9, b9, z9⟩⟩ : Nonempty (_ ∧ _ ∧ _) := ⟨boxed w2 42 (blk zblk) (blk V)⟩
  have R0 : Row (w2.alloc (.cells (blk zblk) 42)) w2.heap.size 42 (blk zblk) := Row.new _ _ _
  obtain ⟨W, hW⟩ : ∃ W, W = (w2.alloc (.cells (blk zblk) 42)).setRow w2.heap.size (blk V) := ⟨_, rfl⟩
  rw [← hW] at r9 b9 z9
  have HW := Lib.hid hW
  clear hW
  have hBW := HB.out.trans ((hb2.trans (b9.mono hb2.size)).mono HB.out.size)
  have p9 := r9.drew
  have p6 := ((HR2.out.below hb2).below b9).drew
  have hiW := (hi.below b9).drew
  have hxW := (hx.below hBW).drew
  have HO := Lib.hid ((hown2.below b9).drew)
  have hlt6 : w.heap.size + 1 < w2.heap.size := by have := (HR2.out.below hb2).lt; exact this
  have HBW := Lib.hid hBW.drew
  have HZ : Hid (w.heap.size + 1 + 1 ≤ W.drew.heap.size) := Lib.hid (by have := z9; show _ ≤ W.heap.size; omega)
  clear hown2 hb2 CI b9 r9 hi hBW
  go_wp2_with (first
    | (with_reducible refine wpList_allocA rfl 42 rfl _ blkZero ?_)
    | (with_reducible refine wpList_storeRow rfl 42 _ _ rfl w2.heap.size rfl (blk V) rfl (blk zblk) 42 256 blkSize hVs zblk_size (blk_one _) R0 ?_))
  rw [← HW.out]
  refine wp_region_noPanic ?_
  refine wp_region_held_drew (S := fun w' => World.grownBy (W.drew) w' (some ((w.heap.size + 1)))) (by kernel_rfl) ?hb7 (fun hHeld => ?rest7)
  case hb7 =>
    exact Mem.gb_refl _ _
  case' rest7 => skip
  first
    | refine' wpAnyH_take (i := 0) (v := _) rfl (by kernel_rfl) (by kernel_rfl) (by kernel_rfl) (fun _ _ _ h => h) (yieldsIf_load_mid (by rfl) _ _ rfl _ _ rfl _ _ (fun w hSw => (Mem.gb_row hSw p9 (by intro e; injection e with e; omega)).range) blkUnd rfl hVL) (by assumption) ?rest8
    | refine wpAnyH_take (i := 0) (v := undef) rfl (by kernel_rfl) (by kernel_rfl) (by kernel_rfl) (fun _ _ _ h => h) (Or.inr ⟨by rfl, rfl⟩) (by assumption) ?rest8
  case' rest8 => skip
  try simp only [List.getElem_toArray, List.getElem_cons_succ, List.getElem_cons_zero, Act.put, List.setIfInBounds_toArray, List.set_cons_zero, List.set_cons_succ]
  refine Mem.tkY 1 ?v9 (hy := Or.inl ⟨by rfl, ?y9⟩) (hS := by assumption) (h := ?r9)
  case y9 => (intro w hSw; clear hSw; go_simp; try with_reducible rfl)
  case' r9 => skip
  refine Mem.tkY 2 ?v10 (hy := Or.inl ⟨by rfl, ?y10⟩) (hS := by assumption) (h := ?r10)
  case y10 => (intro w hSw; clear hSw; go_simp; try with_reducible rfl)
  case' r10 => skip
  refine Mem.tkY 4 ?v11 (hy := Or.inl ⟨by rfl, ?y11⟩) (hS := by assumption) (h := ?r11)
  case y11 => (intro w hSw; clear hSw; go_simp; try with_reducible rfl)
  case' r11 => skip
  try simp only [List.getElem_toArray, List.getElem_cons_succ, List.getElem_cons_zero, Act.put, List.setIfInBounds_toArray, List.set_cons_zero, List.set_cons_succ]
  refine wpAnyH_ready (rs := [3]) (by kernel_rfl) (by simp) ?_
  refine AllReadyH.cons rfl (fun K hK => ?_) AllReadyH.nil
  go_simp
  (refine (WithoutF_any A c xs A2 c2 ids _ hxW hiW hs hn (by omega)).mono ?_; rintro e wb ⟨v5, rfl, ho5, hbl⟩; have hSnew := Mem.gb_below hHeld hbl; replace p6 := p6.below hbl; replace HO := Lib.hid (HO.out.below hbl); have HO5 := Lib.hid ho5; have HBX := Lib.hid (HBW.out.trans (hbl.mono HBW.out.size)); clear ho5 hbl)
  try go_wp2_with fail
  refine hK.out _ _ ?_ (fun hHeld2 => ?_)
  · exact hSnew
  clear hK K hHeld hSnew
  have hHeld := hHeld2
  clear hHeld2
  try simp only [List.getElem_toArray, List.getElem_cons_succ, List.getElem_cons_zero, Act.put, List.setIfInBounds_toArray, List.set_cons_zero, List.set_cons_succ]
  refine wpAnyH_ready (rs := [5]) (by kernel_rfl) (by simp) ?_
  refine AllReadyH.cons rfl (fun K hK => ?_) AllReadyH.nil
  rw [if_pos (by rfl)]
  refine wp_storeRow _ _ _ (by rfl) (w.heap.size + 1) (by rfl) (blk V) (by rfl) (blk zblk) 42 256 blkSize hVs zblk_size (blk_one _) p6 ?_; have hSnew := Mem.gb_setRow hHeld (blk V)
  refine hK.out _ _ ?_ (fun hHeld2 => ?_)
  · exact hSnew
  clear hK K hHeld hSnew
  have hHeld := hHeld2
  clear hHeld2
  try simp only [List.getElem_toArray, List.getElem_cons_succ, List.getElem_cons_zero, Act.put, List.setIfInBounds_toArray, List.set_cons_zero, List.set_cons_succ]
  refine Mem.tkY 6 ?v12 (hy := Or.inl ⟨by rfl, ?y12⟩) (hS := by assumption) (h := ?r12)
  case y12 => (intro w hSw; clear hSw; go_simp; try with_reducible rfl)
  case' r12 => skip
  refine Mem.tkY 7 ?v13 (hy := Or.inl ⟨by rfl, ?y13⟩) (hS := by assumption) (h := ?r13)
  case y13 => (intro w hSw; clear hSw; go_simp; try with_reducible rfl)
  case' r13 => skip
  try simp only [List.getElem_toArray, List.getElem_cons_succ, List.getElem_cons_zero, Act.put, List.setIfInBounds_toArray, List.set_cons_zero, List.set_cons_succ]
  refine wpAnyH_done (by kernel_rfl) ?_ _
  refine NoPanic.normal ?_
  go_wp2_with fail
  exact bodyPost_ret (v := .tuple #[.agg (blk V), v5, .slice A2 ids.length c2]) (results_cell_2 (p := 6) (t2 := 7) (t3 := 8) rfl _ _ (w.heap.size + 1) 42 (blk V) (0, 0) _ rfl (p6.set _) blkUnd rfl (by rw [hVs]; exact blkSize)) rfl ⟨v5, .slice A2 ids.length c2, rfl, (kF_mono (Nat.le_trans HBW.out.size (by first | exact Nat.le_refl _ | exact hHeld.size | simp)) (kF_setRow HO5.out (w.heap.size + 1) (by have := HZ.out; omega) (blk V))).mono HBW.out.size, (own_grown HO.out (grown_setRow _ (w.heap.size + 1) (blk V)) (fun q hq e => by injection e with e; have := (Own.lt HO.out q hq).1; simp at this; omega)).mono HB.out.size, below_setRow HBX.out (by omega) _⟩
end Go.Proofs.Ytbamhiegabeicaa.Rd

