/- Laws and contracts of several chapters, laid in one text. No statement is proved here. -/
import Derived.Test.YtbamhiegabeicaaGreatSw
import Derived.Test.YtbamhiegabeicaaGreatRp
import Derived.Test.YtbamhiegabeicaaGreatLb
/- Laws and contracts of several chapters, laid in one text. No statement is proved here. -/
/- What is left behind a block that is written. Plain laws. No statement is proved here. -/
namespace Go.Proofs.YtbamhiegabeicaaGreat.Rd
set_option linter.unusedVariables false
set_option linter.unusedSimpArgs false
theorem rdy_sub {xs : List Chg} {b : Int} {i : Nat} : ∀ {k : Nat}, i ≤ k → ∀ n ∈ rdy xs b i, n ∈ rdy xs b k := by
  intro k
  induction k with
  | zero => intro h n hn; obtain rfl : i = 0 := by omega
            exact hn
  | succ k ih =>
    intro h n hn
    rcases Nat.lt_or_ge k i with h1 | h1
    · obtain rfl : i = k + 1 := by omega
      exact hn
    · have := ih h1 n hn
      rw [rdy]
      split
      · exact this
      · split
        · exact List.mem_append_left _ this
        · exact this
theorem rdy_sorted {xs : List Chg} (hs : (xs.map (·.id)).Pairwise (· < ·)) (b : Int) : ∀ k, k ≤ xs.length → (rdy xs b k).Pairwise (· < ·) := by
  intro k
  induction k with
  | zero => intro _; simp [rdy]
  | succ k ih =>
    intro hk
    have hk' : k < xs.length := by omega
    by_cases hc : xs[k].blk = b ∧ ∀ n ∈ waitK xs k xs[k], n ∈ rdy xs b k
    · rw [rdy_yes hk' hc.1 hc.2, List.pairwise_append]
      refine ⟨ih (by omega), List.pairwise_singleton _ _, fun m hm y hy => ?_⟩
      rw [List.mem_singleton] at hy
      subst hy
      obtain ⟨i, hi, hik, rfl, _⟩ := mem_rdy hm
      exact ids_get hs hk' hik
    · rw [rdy_no hk' hc]
      exact ih (by omega)
theorem mem_woS {xs : List Chg} {r : List Int} {x : Chg} : x ∈ woS xs r ↔ x ∈ xs ∧ x.id ∉ r := by
  unfold woS
  rw [List.mem_filter]
  simp
theorem may_wo {xs : List Chg} (h : mayF 0 xs = true) (r : List Int) : mayF 0 (woS xs r) = true := by
  obtain ⟨h1, h2, h3⟩ := mayF_iff.1 h
  exact mayF_iff.2 ⟨List.Pairwise.sublist (List.Sublist.map _ List.filter_sublist) h1, fun x hx => h2 x (mem_woS.1 hx).1, fun x hx => h3 x (mem_woS.1 hx).1⟩
theorem small_wo {xs : List Chg} (h : Small xs) (r : List Int) : Small (woS xs r) := fun x hx => h x (mem_woS.1 hx).1
theorem filter_two {α : Type} (p : α → Bool) : ∀ l : List α, (l.filter p).length + (l.filter fun x => !p x).length = l.length
  | [] => rfl
  | x :: l => by
    have := filter_two p l
    cases h : p x <;> simp [List.filter_cons, h] <;> omega
theorem ready_mem {xs : List Chg} {b n : Int} (hn : n ∈ readyS xs b) : ∃ i, ∃ hi : i < xs.length, xs[i].id = n ∧ xs[i].blk = b ∧ ∀ m ∈ waitK xs i xs[i], m ∈ readyS xs b := by
  unfold readyS at hn ⊢
  split at hn
  · rename_i hm
    obtain ⟨i, hi, h1, h2, h3, h4⟩ := mem_rdy hn
    exact ⟨i, hi, h2, h3, fun m hm' => by rw [if_pos hm]; exact rdy_sub (by omega) m (h4 m hm')⟩
  · simp at hn
theorem wo_len {xs : List Chg} (hm : mayF 0 xs = true) (b : Int) : (woS xs (readyS xs b)).length + (readyS xs b).length = xs.length := by
  have h1 := (mayF_iff.1 hm).1
  have hr : (xs.filter fun x => decide (x.id ∈ readyS xs b)).map (·.id) = readyS xs b := by
    refine sorted_ext (List.Pairwise.sublist (List.Sublist.map _ List.filter_sublist) h1) ?_ fun n => ?_
    · unfold readyS; rw [if_pos hm]; exact rdy_sorted h1 b _ (Nat.le_refl _)
    · constructor
      · intro h
        obtain ⟨x, hx, rfl⟩ := List.mem_map.1 h
        exact of_decide_eq_true (List.mem_filter.1 hx).2
      · intro h
        obtain ⟨i, hi, rfl, _⟩ := ready_mem h
        exact List.mem_map.2 ⟨xs[i], List.mem_filter.2 ⟨List.getElem_mem hi, decide_eq_true h⟩, rfl⟩
  have h2 := filter_two (fun x : Chg => decide (x.id ∈ readyS xs b)) xs
  have h3 : (readyS xs b).length = (xs.filter fun x => decide (x.id ∈ readyS xs b)).length := by
    have := congrArg List.length hr
    rw [List.length_map] at this
    exact this.symm
  unfold woS
  omega
end Go.Proofs.YtbamhiegabeicaaGreat.Rd

/- Laws and contracts of several chapters, laid in one text. No statement is proved here. -/
/- What a block is read as, and written as. Plain laws. No statement is proved here. -/
namespace Go.Proofs.YtbamhiegabeicaaGreat.Rd
open Go.Proofs.YtbamhiegabeicaaGreat.Pat
set_option linter.unusedVariables false
set_option linter.unusedSimpArgs false
def meet2 (x y : Chg) : Bool := meetB x.pa x.pd.length y.pa y.pd.length
def imgF (B : List Nat) (xs : List Chg) (b : Int) : List Nat := laidF b (fun n => decide (n ∈ readyS xs b)) B xs
theorem imgF_len (B : List Nat) (xs : List Chg) (b : Int) : (imgF B xs b).length = B.length := laidF_len _ _ _ _
/-- Those of a block that are held. -/
def heldF (xs : List Chg) (b : Int) : List Int := if mayF 0 xs = true then (xs.filter (inBlk b fun n => !decide (n ∈ readyS xs b))).map (·.id) else []
theorem woS_nil (xs : List Chg) : woS xs [] = xs := by unfold woS; simp
end Go.Proofs.YtbamhiegabeicaaGreat.Rd

/- The bytes of what is seen. Plain laws. No statement is proved here. -/
namespace Go.Proofs.YtbamhiegabeicaaGreat.Rd
open Go.RowKit Go.Proofs.YtbamhiegabeicaaGreat.Mem Go.Proofs.YtbamhiegabeicaaGreat.Kind Go.Proofs.YtbamhiegabeicaaGreat.Pat
set_option linter.unusedVariables false
set_option linter.unusedSimpArgs false
def Bytes (l : List Nat) : Prop := ∀ x ∈ l, x < 256
theorem lay1_bytes {B : List Nat} (hl : B.length = 256) (hB : Bytes B) {x : Chg} (hx : Bytes x.pd) : Bytes (lay1 B x) := by
  intro y hy
  obtain ⟨j, hj, rfl⟩ := List.mem_iff_getElem.1 hy
  have h := layL_get B x.pa x.pd hl j
  rw [show layL B x.pa x.pd = lay1 B x from rfl, List.getElem?_eq_getElem hj] at h
  split at h
  · injection h with h
    rw [h, List.getD_eq_getElem?_getD]
    cases hd : x.pd[j - x.pa.toNat]? with
    | none => simp
    | some z => exact hx z (List.mem_of_getElem? hd)
  · exact hB _ (List.mem_of_getElem? h.symm)
theorem laidF_bytes (b : Int) (is : Int → Bool) : ∀ (xs : List Chg) (B : List Nat), B.length = 256 → Bytes B → (∀ x ∈ xs, Bytes x.pd) → Bytes (laidF b is B xs)
  | [], B, _, h, _ => h
  | x :: r, B, hl, hB, hx => by
    rw [laidF]
    split
    · exact laidF_bytes b is r _ ((lay1_len B x).trans hl) (lay1_bytes hl hB (hx x List.mem_cons_self)) fun y hy => hx y (List.mem_cons_of_mem _ hy)
    · exact laidF_bytes b is r _ hl hB fun y hy => hx y (List.mem_cons_of_mem _ hy)
theorem imgF_bytes {xs : List Chg} {b : Int} {B : List Nat} (hl : B.length = 256) (hB : Bytes B) (hx : ∀ x ∈ xs, Bytes x.pd) : Bytes (imgF B xs b) := laidF_bytes _ _ _ _ hl hB hx
end Go.Proofs.YtbamhiegabeicaaGreat.Rd



/- What a block is written as: the contract of roll.Image. No statement is proved here. -/
namespace Go.Proofs.YtbamhiegabeicaaGreat.Rd
open Go.RowKit Go.Proofs.YtbamhiegabeicaaGreat.Mem Go.Proofs.YtbamhiegabeicaaGreat.Open Go.Proofs.YtbamhiegabeicaaGreat.Kind Go.Proofs.YtbamhiegabeicaaGreat.Blk Go.Proofs.YtbamhiegabeicaaGreat.App Go.Proofs.YtbamhiegabeicaaGreat.Pat
set_option linter.unusedVariables false
set_option linter.unusedSimpArgs false
theorem goneF_one (ids : List Int) : (fun n => goneF ids (fun _ => 0) n == 1) = fun n => decide (n ∈ ids) := by
  funext n
  rw [goneF_eq]
  by_cases h : n ∈ ids
  · rw [if_pos h, decide_eq_true h]; rfl
  · rw [if_neg h, decide_eq_false h]; rfl
theorem ready_wf2 {w : World} {A : Option Addr} {xs : List Chg} (h : Chs w A xs) (b : Int) : ∀ n ∈ readyS xs b, WfI n := by
  intro n hn
  obtain ⟨i, hi, rfl, _⟩ := ready_mem hn
  obtain ⟨g, o, rfl, hg⟩ := ch_form h (by omega)
  obtain ⟨A1, c1, A2, c2, hat⟩ := ch_at h i hi
  exact hat.ok.1
theorem ready_len2 (xs : List Chg) (b : Int) : (readyS xs b).length ≤ xs.length := by
  unfold readyS
  split
  · exact rdy_len xs b _
  · simp
set_option maxHeartbeats 4000000 in
set_option maxRecDepth 100000 in
theorem Image_any (A : Option Addr) (c : Nat) (xs : List Chg) (bl : Int) (B : List Nat) (w : World) (hx : Chs w A xs) (hB : B.length = 256) (hcap : xs.length ≤ c) (hcm : c ≤ M63) (hn : xs.length ≤ 1000) (hs : Small xs) :
    Calls Tryz.prog 76 #[.agg (blk B), .slice A xs.length c, .int .i64 bl] w fun r w' => ∃ v, r = .returned (.tuple #[.agg (blk (imgF B xs bl)), v]) ∧ Ns w' w.heap.size v (readyS xs bl) ∧ Below w.heap.size w w' := by
  have hBs : (blk B).size = 256 := by rw [blk_size]; exact hB
  have hmm := @run_makeMap Tryz.prog
  have hmk := hmf
  obtain ⟨hr1, hr2, hbel⟩ := two_rows w 78 78 (blk B) (blk zblk)
  have CR := Lib.hid (Ready_any A c xs bl _ (hx.below hbel) hcap hcm hn hs)
  have hwf := ready_wf2 hx bl
  have hrl := ready_len2 xs bl
  have HR1 := Lib.hid hr1
  have HR2 := Lib.hid hr2
  have HB := Lib.hid hbel
  have HS : Hid (imgF B xs bl = laidF bl (fun n => decide (n ∈ readyS xs bl)) B xs) := Lib.hid rfl
  clear hr1 hr2 hbel
  go_enter Tryz.func76, Tryz.ntmps76
  go_wp2_with (with_reducible refine wpList_allocA rfl 78 rfl _ blkZero ?_)
  refine CR.out.mono ?_
  rintro e w2 ⟨v2, rfl, hown2, hb2⟩
  obtain ⟨A2, c2, rfl, _, _, _, hi⟩ := own_is hown2 hwf
  have HO := Lib.hid hown2
  have HB0 := Lib.hid HB.out.size
  have HR1 := Lib.hid (HR1.out.below hb2)
  have HR2 := Lib.hid (HR2.out.below hb2)
  have HB := Lib.hid (HB.out.trans (hb2.mono HB.out.size))
  clear hown2 hb2 CR
  obtain ⟨ids, hids⟩ : ∃ ids, readyS xs bl = ids := ⟨_, rfl⟩
  rw [hids] at hi HO HS hwf hrl ⊢
  have HID := Lib.hid hids
  clear hids
  have hl : ids.length ≤ 9223372036854775807 := hi.2.1
  have HM1 := Lib.hid ((Mp.made w2).alloc (.cells #[.map (some w2.heap.size)] 116))
  have HQ1 := Lib.hid (rowAt (w := w2.alloc (.map #[] 0)) (g := w2.heap.size + 1) 116 #[.map (some w2.heap.size)] (by simp))
  have HB1 := Lib.hid ((bb0 w2 (.map #[] 0)).alloc (by simp) (.cells #[.map (some w2.heap.size)] 116))
  go_wp2_with fail
  go_loopw [18] (fun i wr => ∃ (k : Nat) (g : Int → Int), k ≤ ids.length ∧ i = .int .i64 k ∧ Hid ((goneF ids fun _ => 0) = goneF (ids.drop k) g) ∧ Mp wr w2.heap.size k g ∧ Row wr (w2.heap.size + 1) 116 #[.map (some w2.heap.size)] ∧ Below w2.heap.size w2 wr) (fun i _ => ids.length - (intOf i).toNat)
  case atStart => exact ⟨0, _, by omega, rfl, Lib.hid rfl, HM1.out, HQ1.out, HB1.out⟩
  case round =>
    obtain ⟨k, g, hk, rfl, hv, hm, hq, hbr⟩ := hrel
    have k0 : wr.cell? ⟨w2.heap.size + 1, 0, none⟩ = some (.map (some w2.heap.size)) := hq.cell 0 rfl
    by_cases hlt : k < ids.length
    · obtain ⟨g2, o2, rfl, hg2, hc0⟩ := is_at hi k hlt
      have hc := (hbr.cell (p := ⟨g2, o2 + k, none⟩) hg2).trans hc0
      have hv := hv.out
      rw [drop_at hlt] at hv
      have hwx := hwf _ (List.getElem_mem hlt)
      generalize ids[k] = n at *
      have HV : Hid ((goneF ids fun _ => 0) = goneF (ids.drop (k + 1)) (upd g n 1)) := Lib.hid hv
      have HQ := Lib.hid hq
      have HBr := Lib.hid hbr
      have hle := hbr.size
      clear hv hq hbr hc0
      go_wp2_with (at_mapUpdate; go_loud (refine wpList_mapPut rfl _ _ _ rfl rfl hm (by omega) n 1 rfl rfl hwx rfl ?_); intro w3 hm3 hg3)
      have HQ3 := Lib.hid (gb_row hg3 HQ.out (by intro e; injection e with e; omega))
      have HB3 := Lib.hid (HBr.out.grown hg3 hle (fun q hq => by injection hq with hq; omega))
      clear hg3
      go_roundw
      case rel => exact ⟨k + 1, _, by omega, by go_num, HV, hm3, HQ3.out, HB3.out⟩
      case measure => simp [intOf]; omega
    · obtain rfl : k = ids.length := by omega
      have hv := hv.out
      rw [drop_end] at hv
      have hg : (goneF ids fun _ => 0) = g := hv
      have C0 := laid_img (.pointer (some ⟨w2.heap.size + 1, 0, none⟩)) (fun n => g n == 1) (fun w' => w'.cell? ⟨w2.heap.size + 1, 0, none⟩ = some (.map (some w2.heap.size)) ∧ Mp w' w2.heap.size ids.length g) (fun w1 w2 h h2 => ⟨(h2.cell (World.block_lt_of_cell? _ _ h.1)).trans h.1, h.2.below h2⟩)
        (fun w' n h hok => im1_any n (w2.heap.size + 1) w2.heap.size ids.length g w' h.1 h.2 hok) A c xs bl B wr ⟨k0, hm⟩ (hx.below (HB.out.trans (hbr.mono HB.out.size))) hB hn
      rw [← hg, goneF_one, ← HS.out] at C0
      have C := Lib.hid C0
      have HR1 := Lib.hid (HR1.out.below hbr)
      have HR2 := Lib.hid (HR2.out.below hbr)
      have HO := Lib.hid (HO.out.below hbr)
      have HBB := Lib.hid (HB.out.trans (hbr.mono HB.out.size))
      have hVl : (imgF B xs bl).length = 256 := (imgF_len _ _ _).trans hB
      obtain ⟨V, hVe⟩ : ∃ V, imgF B xs bl = V := ⟨_, rfl⟩
      rw [hVe] at C hVl
      have HVE := Lib.hid hVe
      have hVs : (blk V).size = 256 := by rw [blk_size]; exact hVl
      clear hv hg hm hq hbr k0 C0 hVe
      go_wp2_with (with_reducible refine wpList_load rfl 78 _ rfl _ rfl 78 (blk B) 256 5 blkUnd blkSize hBs HR1.out.out ?_)
      refine C.out.mono ?_
      rintro e w5 ⟨rfl, hb5⟩
      have R2 := HR2.out.below hb5
      have HO := Lib.hid (HO.out.below hb5)
      have HBB := Lib.hid (HBB.out.trans (hb5.mono HBB.out.size))
      clear hb5 C
      go_wp2_with (with_reducible refine wpList_storeRow rfl 78 _ _ rfl (w.heap.size + 1) rfl (blk V) rfl (blk zblk) 78 256 blkSize hVs zblk_size (blk_one _) R2 ?_)
      exact bodyPost_ret (v := .tuple #[.agg (blk V), .slice A2 ids.length c2]) (results_cell_tmp (p := 6) (t2 := 7) rfl _ _ (w.heap.size + 1) 78 (blk V) (0, 0) _ rfl (R2.set _) blkUnd rfl (by rw [hVs]; exact blkSize)) rfl
        ⟨.slice A2 ids.length c2, by rw [HVE.out], by rw [HID.out]; exact (own_grown HO.out (grown_setRow _ (w.heap.size + 1) (blk V)) (fun q hq e => by injection e with e; have := (Own.lt HO.out q hq).1; simp at this; omega)).mono HB0.out, below_setRow HBB.out (by omega) _⟩
end Go.Proofs.YtbamhiegabeicaaGreat.Rd

/- What is written, what is left, what is done: the contract of roll.Write. No statement is proved here. -/
namespace Go.Proofs.YtbamhiegabeicaaGreat.Rd
open Go.RowKit Go.Proofs.YtbamhiegabeicaaGreat.Mem Go.Proofs.YtbamhiegabeicaaGreat.Open Go.Proofs.YtbamhiegabeicaaGreat.Kind Go.Proofs.YtbamhiegabeicaaGreat.Blk Go.Proofs.YtbamhiegabeicaaGreat.App Go.Proofs.YtbamhiegabeicaaGreat.Pat
set_option linter.unusedVariables false
set_option linter.unusedSimpArgs false
theorem results_cell_2 {P : Program} {fn : Func} {p t2 t3 : Tmp} {ty : TypeId} (h : fn.results = #[.cell p ty, .tmp t2, .tmp t3]) (tmps : Array Value) (w : World) (g : Nat) (t : TypeId) (cs : Array Value) (fr : Nat × Nat) (d : TypeDesc)
    (hp : tmps.getD p undef = .pointer (some ⟨g, 0, none⟩)) (hg : w.heap[g]? = some (.cells cs t fr))
    (hu : P.underlying ty = some d) (hd : (match d with | .struct _ | .array _ _ => true | _ => false) = true) (hi : (P.info? ty).map (·.size) = some cs.size) :
    (results fn tmps).run P w = .ok (.tuple #[.agg cs, tmps.getD t2 undef, tmps.getD t3 undef]) w := by
  have hp' : tmps[p]?.getD undef = .pointer (some ⟨g, 0, none⟩) := by simpa using hp
  simp [results, h, hp', asAddr, run_loadVar_row w g t ty cs fr d hg hu hd hi]
set_option maxHeartbeats 4000000 in
set_option maxRecDepth 100000 in
theorem Write_any (A : Option Addr) (c : Nat) (xs : List Chg) (bl : Int) (B : List Nat) (w : World) (hx : Chs w A xs) (hB : B.length = 256) (hcap : xs.length ≤ c) (hcm : c ≤ M63) (hn : xs.length ≤ 1000) (hs : Small xs) :
    Calls Tryz.prog 57 #[.agg (blk B), .slice A xs.length c, .int .i64 bl] w fun r w' => ∃ v5 v6, r = .returned (.tuple #[.agg (blk (imgF B xs bl)), v5, v6]) ∧ OwnK (kF kChg w.heap.size) w' w.heap.size 90 v5 (woS xs (readyS xs bl)) ∧ Ns w' w.heap.size v6 (readyS xs bl) ∧ Below w.heap.size w w' := by
  have hBs : (blk B).size = 256 := by rw [blk_size]; exact hB
  obtain ⟨hr1, hr2, hbel⟩ := two_rows w 78 78 (blk B) (blk zblk)
  have CI0 := Image_any A c xs bl B _ (hx.below hbel) hB hcap hcm hn hs
  have hwf := ready_wf2 hx bl
  have hrl := ready_len2 xs bl
  have hVl : (imgF B xs bl).length = 256 := (imgF_len _ _ _).trans hB
  obtain ⟨V, hVe⟩ : ∃ V, imgF B xs bl = V := ⟨_, rfl⟩
  rw [hVe] at CI0 hVl ⊢
  have hVs : (blk V).size = 256 := by rw [blk_size]; exact hVl
  have hVL := blkSizeL V hVl
  have CI := Lib.hid CI0
  have HR1 := Lib.hid hr1
  have HR2 := Lib.hid hr2
  have HB := Lib.hid hbel
  clear hr1 hr2 hbel CI0 hVe
  obtain ⟨ids, hids⟩ : ∃ ids, readyS xs bl = ids := ⟨_, rfl⟩
  rw [hids] at CI hwf hrl ⊢
  clear hids
  go_enter Tryz.func57, Tryz.ntmps57
  go_wp2_with (first
    | (with_reducible refine wpList_allocA rfl 78 rfl _ blkZero ?_)
    | (with_reducible refine wpList_load rfl 78 _ rfl _ rfl 78 (blk B) 256 5 blkUnd blkSize hBs HR1.out.out ?_))
  refine CI.out.mono ?_
  rintro e w2 ⟨v2, rfl, hown2, hb2⟩
  obtain ⟨A2, c2, rfl, _, _, _, hi⟩ := own_is hown2 hwf
  obtain ⟨⟨r9, b9, z9⟩⟩ : Nonempty (_ ∧ _ ∧ _) := ⟨boxed w2 78 (blk zblk) (blk V)⟩
  have R0 : Row (w2.alloc (.cells (blk zblk) 78)) w2.heap.size 78 (blk zblk) := Row.new _ _ _
  obtain ⟨W, hW⟩ : ∃ W, W = (w2.alloc (.cells (blk zblk) 78)).setRow w2.heap.size (blk V) := ⟨_, rfl⟩
  rw [← hW] at r9 b9 z9
  have HW := Lib.hid hW
  clear hW
  have hBW := HB.out.trans ((hb2.trans (b9.mono hb2.size)).mono HB.out.size)
  have p9 := r9.drew
  have p6 := ((HR2.out.below hb2).below b9).drew
  have hiW := (hi.below b9).drew
  have hxW := (hx.below hBW).drew
  have HO := Lib.hid ((hown2.below b9).drew)
  have hlt6 : w.heap.size + 1 < w2.heap.size := by have := (HR2.out.below hb2).lt; exact this
  have HBW := Lib.hid hBW.drew
  have HZ : Hid (w.heap.size + 1 + 1 ≤ W.drew.heap.size) := Lib.hid (by have := z9; show _ ≤ W.heap.size; omega)
  clear hown2 hb2 CI b9 r9 hi hBW
  go_wp2_with (first
    | (with_reducible refine wpList_allocA rfl 78 rfl _ blkZero ?_)
    | (with_reducible refine wpList_storeRow rfl 78 _ _ rfl w2.heap.size rfl (blk V) rfl (blk zblk) 78 256 blkSize hVs zblk_size (blk_one _) R0 ?_))
  rw [← HW.out]
  refine wp_region_noPanic ?_
  refine wp_region_held_drew (S := fun w' => World.grownBy (W.drew) w' (some ((w.heap.size + 1)))) (by kernel_rfl) ?hb7 (fun hHeld => ?rest7)
  case hb7 =>
    exact Mem.gb_refl _ _
  case' rest7 => skip
  first
    | refine' wpAnyH_take (i := 0) (v := _) rfl (by kernel_rfl) (by kernel_rfl) (by kernel_rfl) (fun _ _ _ h => h) (yieldsIf_load_mid (by rfl) _ _ rfl _ _ rfl _ _ (fun w hSw => (Mem.gb_row hSw p9 (by intro e; injection e with e; omega)).range) blkUnd rfl hVL) (by assumption) ?rest8
    | refine wpAnyH_take (i := 0) (v := undef) rfl (by kernel_rfl) (by kernel_rfl) (by kernel_rfl) (fun _ _ _ h => h) (Or.inr ⟨by rfl, rfl⟩) (by assumption) ?rest8
  case' rest8 => skip
  try simp only [Mem.pa, Mem.pb, Mem.pc, Act.put, Mem.pd, Mem.pe, Mem.pf]
  refine Mem.tkV 1 ?v9 ?y9 ?r9
  case y9 => (intro w hSw; clear hSw; go_simp; try with_reducible rfl)
  refine Mem.tkV 2 ?v10 ?y10 ?r10
  case y10 => (intro w hSw; clear hSw; go_simp; try with_reducible rfl)
  refine Mem.tkV 4 ?v11 ?y11 ?r11
  case y11 => (intro w hSw; clear hSw; go_simp; try with_reducible rfl)
  try simp only [Mem.pa, Mem.pb, Mem.pc, Act.put, Mem.pd, Mem.pe, Mem.pf]
  refine wpAnyH_ready (rs := [3]) (by kernel_rfl) (by simp) ?_
  refine AllReadyH.cons rfl (fun K hK => ?_) AllReadyH.nil
  go_simp
  (refine (WithoutF_any A c xs A2 c2 ids _ hxW hiW hs hn (by omega)).mono ?_; rintro e wb ⟨v5, rfl, ho5, hbl⟩; have hSnew := Mem.gb_below hHeld hbl; replace p6 := p6.below hbl; replace HO := Lib.hid (HO.out.below hbl); have HO5 := Lib.hid ho5; have HBX := Lib.hid (HBW.out.trans (hbl.mono HBW.out.size)); clear ho5 hbl)
  try go_wp2_with fail
  refine hK.out _ _ ?_ (fun hHeld2 => ?_)
  · exact hSnew
  clear hK K hHeld hSnew
  have hHeld := hHeld2
  clear hHeld2
  try simp only [Mem.pa, Mem.pb, Mem.pc, Act.put, Mem.pd, Mem.pe, Mem.pf]
  refine wpAnyH_ready (rs := [5]) (by kernel_rfl) (by simp) ?_
  refine AllReadyH.cons rfl (fun K hK => ?_) AllReadyH.nil
  rw [if_pos (by rfl)]
  refine wp_storeRow _ _ _ (by rfl) (w.heap.size + 1) (by rfl) (blk V) (by rfl) (blk zblk) 78 256 blkSize hVs zblk_size (blk_one _) p6 ?_; have hSnew := Mem.gb_setRow hHeld (blk V)
  refine hK.out _ _ ?_ (fun hHeld2 => ?_)
  · exact hSnew
  clear hK K hHeld hSnew
  have hHeld := hHeld2
  clear hHeld2
  try simp only [Mem.pa, Mem.pb, Mem.pc, Act.put, Mem.pd, Mem.pe, Mem.pf]
  refine Mem.tkV 6 ?v12 ?y12 ?r12
  case y12 => (intro w hSw; clear hSw; go_simp; try with_reducible rfl)
  refine Mem.tkV 7 ?v13 ?y13 ?r13
  case y13 => (intro w hSw; clear hSw; go_simp; try with_reducible rfl)
  try simp only [Mem.pa, Mem.pb, Mem.pc, Act.put, Mem.pd, Mem.pe, Mem.pf]
  refine wpAnyH_done (by kernel_rfl) ?_ _
  refine NoPanic.normal ?_
  go_wp2_with fail
  exact bodyPost_ret (v := .tuple #[.agg (blk V), v5, .slice A2 ids.length c2]) (results_cell_2 (p := 6) (t2 := 7) (t3 := 8) rfl _ _ (w.heap.size + 1) 78 (blk V) (0, 0) _ rfl (p6.set _) blkUnd rfl (by rw [hVs]; exact blkSize)) rfl ⟨v5, .slice A2 ids.length c2, rfl, (kF_mono (Nat.le_trans HBW.out.size (by first | exact Nat.le_refl _ | exact hHeld.size | simp)) (kF_setRow HO5.out (w.heap.size + 1) (by have := HZ.out; omega) (blk V))).mono HBW.out.size, (own_grown HO.out (grown_setRow _ (w.heap.size + 1) (blk V)) (fun q hq e => by injection e with e; have := (Own.lt HO.out q hq).1; simp at this; omega)).mono HB.out.size, below_setRow HBX.out (by omega) _⟩
end Go.Proofs.YtbamhiegabeicaaGreat.Rd


