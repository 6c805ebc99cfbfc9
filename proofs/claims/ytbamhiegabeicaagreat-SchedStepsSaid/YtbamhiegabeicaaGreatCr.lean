/- The document's Flush. No statement is proved here. -/
import Derived.Test.YtbamhiegabeicaaGreatCj
namespace Go.Proofs.YtbamhiegabeicaaGreat.Cb
open Go.RowKit Go.Proofs.YtbamhiegabeicaaGreat.Mem Go.Proofs.YtbamhiegabeicaaGreat.Open Go.Proofs.YtbamhiegabeicaaGreat.Kind Go.Proofs.YtbamhiegabeicaaGreat.Blk Go.Proofs.YtbamhiegabeicaaGreat.App Go.Proofs.YtbamhiegabeicaaGreat.Pat Go.Proofs.YtbamhiegabeicaaGreat.Rd
open Go.Proofs.YtbamhiegabeicaaGreat.Db (Dv Dev Asd Bks)
set_option linter.unusedVariables false
set_option linter.unusedSimpArgs false
/-- Bytes that are read do not lie where something else is. -/
theorem by_setCell {N : Nat → Prop} {w : World} {A : Option Addr} {n : Nat} {L : List Nat} (h : Rw kByte w (Out2 N w) A n L) (a : Addr) (u old : Value) (hold : w.cell? a = some old) (hne : ∀ x : Nat, old ≠ .int .u8 x) : Rw kByte (w.setCell a u) (Out2 N (w.setCell a u)) A n L := by
  have hsz : (w.setCell a u).heap.size = w.heap.size := by simp [World.setCell]
  refine ⟨h.1, h.2.1, ?_⟩
  rcases h.2.2 with h0 | ⟨g, o, hA, hg, hlt, hc⟩
  · exact .inl h0
  · refine .inr ⟨g, o, hA, ⟨by omega, hg.2⟩, by omega, fun i x hx => ?_⟩
    obtain ⟨cs, ⟨rfl, hb⟩, h2⟩ := hc i x hx
    refine ⟨_, ⟨rfl, hb⟩, fun j v hv => ?_⟩
    have h3 := h2 j v hv
    refine cell_set (fun e => ?_) h3
    rw [e, hold] at h3
    injection h3 with h3
    cases j with
    | succ j => simp at hv
    | zero =>
      simp at hv
      exact hne x (h3.trans hv.symm)
theorem slice_ne {A : Option Addr} {n c x : Nat} : (Value.slice A n c) ≠ .int .u8 (x : Int) := fun e => by cases e
/-- A slice laid anew among slices of bytes. -/
theorem base_put {N : Nat → Prop} {w : World} {g n i : Nat} {bs : List (List Nat)} {A' : Option Addr} {c' : Nat} {L : List Nat} (h : Rw (kSlice kByte) w (Out2 N w) (some ⟨g, 0, none⟩) n bs) (hi : i < bs.length) (hL : ByN N w A' L) (h1 : L.length ≤ c') (h2 : c' ≤ M63) (h3 : A' = none → c' = 0) :
    Rw (kSlice kByte) (w.setCell ⟨g, i, none⟩ (.slice A' L.length c')) (Out2 N (w.setCell ⟨g, i, none⟩ (.slice A' L.length c'))) (some ⟨g, 0, none⟩) n (bs.set i L) := by
  obtain ⟨u0, hc0, ⟨A0, c0, e0, _⟩⟩ := rw_cell1 rfl h hi
  rw [Nat.zero_add] at hc0
  injection e0 with e0
  subst e0
  have hsz : (w.setCell ⟨g, i, none⟩ (.slice A' L.length c')).heap.size = w.heap.size := by simp [World.setCell]
  have hg : g < w.heap.size := World.block_lt_of_cell? _ _ hc0
  have hgN : ¬ N g := by
    rcases h.2.2 with h0 | ⟨g', o', e, hg', _⟩
    · have := h.1; omega
    · injection e with e
      injection e with e1 e2
      rw [e1]
      exact hg'.2
  refine ⟨by rw [List.length_set]; exact h.1, h.2.1, .inr ⟨g, 0, rfl, ⟨by omega, hgN⟩, by omega, fun j x hx => ?_⟩⟩
  rw [List.getElem?_set] at hx
  by_cases hij : i = j
  · subst hij
    rw [if_pos rfl, if_pos hi] at hx
    injection hx with hx
    subst hx
    refine ⟨[.slice A' L.length c'], ⟨A', c', rfl, h1, h2, h3, by_setCell hL _ _ _ hc0 (fun x => slice_ne)⟩, fun q v hv => ?_⟩
    cases q with
    | succ q => simp at hv
    | zero =>
      simp at hv
      subst hv
      rw [show 0 + i * (kSlice kByte).sz + 0 = i from by show 0 + i * 1 + 0 = _; omega]
      exact World.cell?_setCell_same _ _ _ hc0
  · rw [if_neg hij] at hx
    obtain ⟨hj, rfl⟩ := List.getElem?_eq_some_iff.1 hx
    obtain ⟨v0, q1, ⟨A1, c1, e1, q2, q3, q4, q5⟩⟩ := rw_cell1 rfl h hj
    injection e1 with e1
    subst e1
    refine ⟨[.slice A1 bs[j].length c1], ⟨A1, c1, rfl, q2, q3, q4, by_setCell q5 _ _ _ hc0 (fun x => slice_ne)⟩, fun q v hv => ?_⟩
    cases q with
    | succ q => simp at hv
    | zero =>
      simp at hv
      subst hv
      rw [Nat.zero_add] at q1
      rw [show 0 + j * (kSlice kByte).sz + 0 = j from by show 0 + j * 1 + 0 = _; omega]
      exact cell_set (by intro e; injection e with e1 e2; omega) q1
theorem bytesInfo : (Tryz.prog.info? 44).map (fun i => (i.zero, i.size, i.bytes)) = some (some (.slice none 0 0), 1, 24) := by kernel_rfl
section
variable (AB : Option Addr) (cB : Nat) (AL : Option Addr) (cL : Nat) (AK : Option Addr) (cK : Nat) (last fu : Int) (off : Bool) (wr : Int) (xs : List Chg) (w : World)
set_option maxHeartbeats 1000000 in
set_option maxRecDepth 100000 in
theorem flush_no (no : Int) (hx : Chs w AL xs) (hn : xs.length ≤ 1000) (hr : readyS xs no = []) :
    Calls Tryz.prog 21 #[.agg (rcC AB cB AL xs.length cL AK cK last fu off wr), .int .i64 no] w fun e w' => e = .returned (.tuple #[.agg (rcC AB cB AL xs.length cL AK cK last fu off wr), .int .i64 0]) ∧ Below w.heap.size w w' := by
  have b2 := bb2 w (.cells (rcC AB cB AL xs.length cL AK cK last fu off wr) 32) (.cells rcZ 32)
  have R2 : Row ((w.alloc (.cells (rcC AB cB AL xs.length cL AK cK last fu off wr) 32)).alloc (.cells rcZ 32)) w.heap.size 32 (rcC AB cB AL xs.length cL AK cK last fu off wr) := (Row.new _ _ _).alloc _
  have R4 := row2 w (.cells (rcC AB cB AL xs.length cL AK cK last fu off wr) 32) 32 rcZ
  have C0 := RReady_any AL cL xs no _ (hx.below b2) hn
  rw [hr] at C0
  have C := Lib.hid C0
  have HR2 := Lib.hid R2
  have HR4 := Lib.hid R4
  have HB2 := Lib.hid b2
  clear C0 R2 R4 b2 hr
  go_enter Tryz.func21, Tryz.ntmps21
  go_wp2_with fail
  refine C.out.mono ?_
  rintro e w3 ⟨v3, rfl, ho3, hb3⟩
  obtain ⟨A3, c3, rfl, -⟩ := own_is ho3 (by intro x hx; cases hx)
  have r2 : Row w3 w.heap.size _ _ := HR2.out.below hb3
  have r4 : Row w3 (w.heap.size + 1) _ _ := HR4.out.below hb3
  have HR42 := Lib.hid r4
  have HB3 := Lib.hid (HB2.out.trans (hb3.mono HB2.out.size))
  clear ho3 hb3 r4 C HR2 HR4
  go_wp2_with (first
    | (with_reducible refine wpList_ldC rfl _ rfl _ rfl _ rfl r2 ?_)
    | (with_reducible refine wpList_storeRow rfl 32 _ _ rfl (w.heap.size + 1) rfl (rcC AB cB AL xs.length cL AK cK last fu off wr) rfl rcZ 32 7 rcSize rfl rfl (rcC_one _ _ _ _ _ _ _ _ _ _ _) HR42.out ?_))
  exact bodyPost_ret (v := .tuple #[.agg (rcC AB cB AL xs.length cL AK cK last fu off wr), .int .i64 0]) (Rd.results_cell_tmp (p := 4) (t2 := 5) rfl _ _ (w.heap.size + 1) 32 (rcC AB cB AL xs.length cL AK cK last fu off wr) (0, 0) _ rfl (HR42.out.set _) Tryz.underlying32 rfl rcSize) rfl
    ⟨rfl, below_setRow HB3.out (by omega) _⟩
set_option maxHeartbeats 1000000 in
set_option maxRecDepth 100000 in
theorem flush_cut (no : Int) (hx : Chs w AL xs) (hn : xs.length ≤ 1000) (hr : readyS xs no ≠ []) (ho : off = true ∨ (off = false ∧ fu = 0)) :
    Calls Tryz.prog 21 #[.agg (rcC AB cB AL xs.length cL AK cK last fu off wr), .int .i64 no] w fun e w' => e = .returned (.tuple #[.agg (rcC AB cB AL xs.length cL AK cK last fu true wr), .int .i64 12]) ∧ Below w.heap.size w w' := by
  have b2 := bb2 w (.cells (rcC AB cB AL xs.length cL AK cK last fu off wr) 32) (.cells rcZ 32)
  have R2 : Row ((w.alloc (.cells (rcC AB cB AL xs.length cL AK cK last fu off wr) 32)).alloc (.cells rcZ 32)) w.heap.size 32 (rcC AB cB AL xs.length cL AK cK last fu off wr) := (Row.new _ _ _).alloc _
  have R4 := row2 w (.cells (rcC AB cB AL xs.length cL AK cK last fu off wr) 32) 32 rcZ
  have hwf := ready_wf2 hx no
  have hl0 : ¬ (readyS xs no).length = 0 := fun e => hr (List.eq_nil_of_length_eq_zero e)
  have C0 := RReady_any AL cL xs no _ (hx.below b2) hn
  have hrl : (readyS xs no).length ≤ xs.length := ready_len2 xs no
  generalize readyS xs no = R at *
  have C := Lib.hid C0
  have HR2 := Lib.hid R2
  have HR4 := Lib.hid R4
  have HB2 := Lib.hid b2
  clear C0 R2 R4 b2 hr
  have hlb : ((R.length : Int) == 0) = false := by rw [beq_eq_false_iff_ne]; omega
  go_enter Tryz.func21, Tryz.ntmps21
  go_wp2_with fail
  refine C.out.mono ?_
  rintro e w3 ⟨v3, rfl, ho3, hb3⟩
  obtain ⟨A3, c3, rfl, -⟩ := own_is ho3 hwf
  have r2 : Row w3 w.heap.size _ _ := HR2.out.below hb3
  have r4 : Row w3 (w.heap.size + 1) _ _ := HR4.out.below hb3
  have k3 := r2.cell 3 rfl
  have k4 := r2.cell 4 rfl
  have f4 := r2.frozen 4
  have q2 : Row (w3.setCell ⟨w.heap.size, 4, none⟩ (.bool true)) w.heap.size 32 (rcC AB cB AL xs.length cL AK cK last fu true wr) := r2.put 4 (.bool true)
  have HR42 := Lib.hid (r4.farCell (a := ⟨w.heap.size, 4, none⟩) (by simp) (.bool true))
  have HB3 := Lib.hid ((HB2.out.trans (hb3.mono HB2.out.size)).setCell (p := ⟨w.heap.size, 4, none⟩) (Nat.le_refl w.heap.size) (.bool true))
  clear ho3 hb3 r4 C HR2 HR4 r2
  rcases ho with ho | ⟨ho, hf⟩
  · subst ho
    go_wp2_with (first
      | (with_reducible refine wpList_ldC rfl _ rfl _ rfl _ rfl q2 ?_)
      | (with_reducible refine wpList_storeRow rfl 32 _ _ rfl (w.heap.size + 1) rfl (rcC AB cB AL xs.length cL AK cK last fu true wr) rfl rcZ 32 7 rcSize rfl rfl (rcC_one _ _ _ _ _ _ _ _ _ _ _) HR42.out ?_))
    exact bodyPost_ret (v := .tuple #[.agg (rcC AB cB AL xs.length cL AK cK last fu true wr), .int .i64 12]) (Rd.results_cell_tmp (p := 4) (t2 := 5) rfl _ _ (w.heap.size + 1) 32 (rcC AB cB AL xs.length cL AK cK last fu true wr) (0, 0) _ rfl (HR42.out.set _) Tryz.underlying32 rfl rcSize) rfl
      ⟨rfl, below_setRow HB3.out (by omega) _⟩
  · subst ho hf
    go_wp2_with (first
      | (with_reducible refine wpList_ldC rfl _ rfl _ rfl _ rfl q2 ?_)
      | (with_reducible refine wpList_storeRow rfl 32 _ _ rfl (w.heap.size + 1) rfl (rcC AB cB AL xs.length cL AK cK last 0 true wr) rfl rcZ 32 7 rcSize rfl rfl (rcC_one _ _ _ _ _ _ _ _ _ _ _) HR42.out ?_))
    exact bodyPost_ret (v := .tuple #[.agg (rcC AB cB AL xs.length cL AK cK last 0 true wr), .int .i64 12]) (Rd.results_cell_tmp (p := 4) (t2 := 5) rfl _ _ (w.heap.size + 1) 32 (rcC AB cB AL xs.length cL AK cK last 0 true wr) (0, 0) _ rfl (HR42.out.set _) Tryz.underlying32 rfl rcSize) rfl
      ⟨rfl, below_setRow HB3.out (by omega) _⟩
set_option maxHeartbeats 4000000 in
set_option maxRecDepth 100000 in
theorem flush_ok (N : Nat → Prop) (hN : ∀ k, N k → k < w.heap.size) (gB oB : Nat) (no : Nat) (bs : List (List Nat)) (hno : no < 16) (hbl : bs.length = 16) (hbase : Rw (kSlice kByte) w (Out2 N w) (some ⟨gB, oB, none⟩) 16 bs) (hgB : gB < w.heap.size) (hl : ∀ x ∈ bs, x.length = 256) (hx : Rw kChg w (Out2 N w) AL xs.length xs) (hn : xs.length ≤ 1000) (hr : readyS xs no ≠ []) (hfu : fu ≠ 0) (hwr : 0 ≤ wr ∧ wr ≤ 1000000) (hfw : WfI fu) :
    Calls Tryz.prog 21 #[.agg (rcC (some ⟨gB, oB, none⟩) cB AL xs.length cL AK cK last fu false wr), .int .i64 (no : Int)] w fun e w' => ∃ AB' cB' AL' cL', e = .returned (.tuple #[.agg (rcC AB' cB' AL' (woS xs (readyS xs no)).length cL' AK cK last (if 0 < fu then fu - 1 else fu) false (wr + 1)), .int .i64 0]) ∧
      Rw (kSlice kByte) w' (Out2 N w') AB' 16 (bs.set no (imgF (bs.getD no zblk) xs no)) ∧ Rw kChg w' (Out2 N w') AL' (woS xs (readyS xs no)).length (woS xs (readyS xs no)) ∧ (AL' = none → cL' = 0) ∧ Below w.heap.size w w' := by
  have hnoz : (no : Int) < 16 := by omega
  have b2 := bb2 w (.cells (rcC (some ⟨gB, oB, none⟩) cB AL xs.length cL AK cK last fu false wr) 32) (.cells rcZ 32)
  have R2 : Row ((w.alloc (.cells (rcC (some ⟨gB, oB, none⟩) cB AL xs.length cL AK cK last fu false wr) 32)).alloc (.cells rcZ 32)) w.heap.size 32 (rcC (some ⟨gB, oB, none⟩) cB AL xs.length cL AK cK last fu false wr) := (Row.new _ _ _).alloc _
  have R4 := row2 w (.cells (rcC (some ⟨gB, oB, none⟩) cB AL xs.length cL AK cK last fu false wr) 32) 32 rcZ
  have hxc : Chs w AL xs := hx.mono fun b hb => hb.1
  have hwf := ready_wf2 hxc no
  have hl0 : ¬ (readyS xs no).length = 0 := fun e => hr (List.eq_nil_of_length_eq_zero e)
  have C0 := RReady_any AL cL xs no _ (hxc.below b2) hn
  have hrl : (readyS xs no).length ≤ xs.length := ready_len2 xs no
  have hwl : (woS xs (readyS xs no)).length ≤ xs.length := List.length_filter_le _ _
  have hB : bs.getD no zblk = bs[no] := by rw [List.getD_eq_getElem?_getD, List.getElem?_eq_getElem (by omega)]; rfl
  have hBl : bs[no].length = 256 := hl _ (List.getElem_mem _)
  rw [hB]
  have HIMG : Hid ((imgF bs[no] xs no).length = 256) := Lib.hid ((imgF_len _ _ _).trans hBl)
  obtain ⟨B, hBN⟩ : ∃ B, bs[no] = B := ⟨_, rfl⟩
  rw [hBN] at hBl HIMG ⊢
  have HBN := Lib.hid hBN
  obtain ⟨N2, hN2e⟩ : ∃ N2 : Nat → Prop, N2 = fun b => N b ∨ b = w.heap.size ∨ b = w.heap.size + 1 := ⟨_, rfl⟩
  have hN2 : ∀ k, N2 k → k < w.heap.size + 2 := fun k hk => by rw [hN2e] at hk; rcases hk with h | h | h; have := hN k h; omega; omega; omega
  have HN2 : Hid (∀ k, N k ∨ k = w.heap.size ∨ k = w.heap.size + 1 → N2 k) := Lib.hid (fun k hk => by rw [hN2e]; exact hk)
  have HN3 : Hid (∀ k, k < w.heap.size → ¬ N k → ¬ N2 k) := Lib.hid (fun k h1 h2 h3 => by rw [hN2e] at h3; rcases h3 with h | h | h; exact h2 h; omega; omega)
  have HWO : Hid (∀ w' A2 c2 ids, Rw (kN kChg N2) w' (All w') AL xs.length xs → Is w' A2 ids → Calls Tryz.prog 53 #[.slice AL xs.length cL, .slice A2 ids.length c2] w' fun r w'' => ∃ v, r = .returned v ∧ OwnK (kN kChg N2) w'' w'.heap.size 97 v (woS xs ids) ∧ Below w'.heap.size w' w'') := Lib.hid (fun w' A2 c2 ids h1 h2 => RWithoutN_any N2 AL cL xs A2 c2 ids w' h1 h2 hn)
  obtain ⟨R, hR⟩ : ∃ R, readyS xs no = R := ⟨_, rfl⟩
  rw [hR] at C0 hwf hl0 hrl hwl ⊢
  have C := Lib.hid C0
  have HR2 := Lib.hid R2
  have HR4 := Lib.hid R4
  have HB2 := Lib.hid b2
  have HX := Lib.hid hx
  have HBASE0 := Lib.hid hbase
  clear C0 R2 R4 b2 hr hx hbase hB hBN hR hl hxc hN2e hN
  have hlb : ((R.length : Int) == 0) = false := by rw [beq_eq_false_iff_ne]; omega
  have hfb : (fu == 0) = false := beq_eq_false_iff_ne.2 hfu
  obtain ⟨fu2, hfu2⟩ : ∃ fu2, (if 0 < fu then fu - 1 else fu) = fu2 := ⟨_, rfl⟩
  rw [hfu2]
  have HF2 := Lib.hid hfu2
  clear hfu2
  go_enter Tryz.func21, Tryz.ntmps21
  go_wp2_with fail
  refine C.out.mono ?_
  rintro e w3 ⟨v3, rfl, ho3, hb3⟩
  obtain ⟨A3, c3, rfl, -, -, -, hi3⟩ := own_isF ho3 hwf
  have r2 : Row w3 w.heap.size _ _ := HR2.out.below hb3
  have r4 : Row w3 (w.heap.size + 1) _ _ := HR4.out.below hb3
  have hB3 := HB2.out.trans (hb3.mono HB2.out.size)
  have hB20 : ((w.alloc (.cells (rcC (some ⟨gB, oB, none⟩) cB AL xs.length cL AK cK last fu false wr) 32)).alloc (.cells rcZ 32)).heap.size = w.heap.size + 1 + 1 := by simp
  rw [hB20] at hi3
  have hne3 : ¬ w.heap.size = w3.heap.size := by have := Row.lt r2; omega
  by_cases hpos : 0 < fu
  · have hfp : fu - 1 = fu2 := (if_pos hpos).symm.trans HF2.out
    have hwf1 : IntKind.i64.wrap (fu - 1) = fu - 1 := by rw [IntKind.wrap_i64]; have := (wf_iff _).1 hfw; omega
    have k3 := r2.cell 3 rfl
    have k4 := r2.cell 4 rfl
    have f3 := r2.frozen 3
    have k0 := r2.cell 0 rfl
    have hB4 := hB3.setCell (p := ⟨w.heap.size, 3, none⟩) (Nat.le_refl w.heap.size) (.int .i64 (fu - 1))
    have HXA0 := Lib.hid (Rw.out2 (N' := N2) HX.out (fun k h1 _ => hB4.block k h1) hB4.size HN3.out)
    have HBASE1 := Lib.hid (Rw.out2 (N' := N2) HBASE0.out (fun k h1 _ => hB4.block k h1) hB4.size HN3.out)
    have HIA0 : Hid (Is (w3.setCell ⟨w.heap.size, 3, none⟩ (.int .i64 (fu - 1))) A3 R) := Lib.hid ((Rw.stay (w := w3) (fun b hb => Below.heap_setCell _ _ _ _ (by have := hb.1; show b ≠ w.heap.size; omega)) hi3).mono (fun b hb => by have := hb.2; show b < _; simpa [World.setCell] using this))
    have HR2A0 : Hid (Row (w3.setCell ⟨w.heap.size, 3, none⟩ (.int .i64 (fu - 1))) w.heap.size 32 (rcC (some ⟨gB, oB, none⟩) cB AL xs.length cL AK cK last (fu - 1) false wr)) := Lib.hid (r2.put 3 _)
    have HR4A0 := Lib.hid (r4.farCell (a := ⟨w.heap.size, 3, none⟩) (by simp) (.int .i64 (fu - 1)))
    have HBA0 := Lib.hid hB4
    have HWS0 : Hid (w3.heap.size = (w3.setCell ⟨w.heap.size, 3, none⟩ (.int .i64 (fu - 1))).heap.size) := Lib.hid (by simp [World.setCell])
    obtain ⟨wa, hwa⟩ : ∃ wa, wa = w3.setCell ⟨w.heap.size, 3, none⟩ (.int .i64 (fu - 1)) := ⟨_, rfl⟩
    rw [← hwa] at HXA0 HBASE1 HIA0 HR2A0 HR4A0 HBA0 HWS0
    have HWA := Lib.hid hwa
    have HXA := HXA0
    have HBASE := HBASE1
    have HIA := HIA0
    have HR2A := HR2A0
    have HR4A := HR4A0
    have HBA := HBA0
    have HWS := HWS0
    have kk0 : ((w3.setCell ⟨w.heap.size, 3, none⟩ (.int .i64 (fu - 1))).alloc (.cells #[] 44)).cell? ⟨w.heap.size, 0, none⟩ = some (.slice (some ⟨gB, oB, none⟩) 16 cB) := by rw [← hwa]; exact (HR2A.out.alloc _).cell 0 rfl
    rw [hfp] at HR2A
    clear hwa hB4 hi3 hB3 hb3 r4 r2 ho3 HXA0 HBASE1 HIA0 HR2A0 HR4A0 HBA0 HWS0 C HR2 HR4 HB2 HX HBASE0 hB20 hfp HF2
    have hA0 : w.heap.size + 1 < wa.heap.size := by have := Row.lt HR4A.out; omega
    have hA1 : gB < wa.heap.size := by omega
    have HO3 := Lib.hid (ownK_empty (E := 44) (w := wa) (kN (kSlice kByte) N2) (Nat.le_refl wa.heap.size))
    have HBS3 : Hid (Rw (kN (kSlice kByte) N2) (wa.alloc (.cells #[] 44)) (fun b => some b ≠ (Value.slice (some ⟨wa.heap.size, 0, none⟩) 0 0).ownBlock ∧ b < (wa.alloc (.cells #[] 44)).heap.size) (some ⟨gB, oB, none⟩) bs.length bs) := Lib.hid (by
      rw [hbl]
      refine (Rw.stay (w := wa) (fun b hb => (bb0 wa (.cells #[] 44)).block b hb) (out2_kN HBASE.out)).mono fun b hb => ?_
      have hb : b < wa.heap.size := hb
      exact ⟨by simp [Value.ownBlock]; omega, by simp; omega⟩)
    obtain ⟨ub, hcb, ⟨Ai, ci, e1, q2, q3, q4, q5⟩⟩ := rw_cell1 rfl HBASE.out (i := no) (by omega)
    injection e1 with e1
    subst e1
    rw [HBN.out] at hcb q2 q5
    rw [hBl] at hcb q2
    have HCB := Lib.hid hcb
    have HA5 := Lib.hid q5
    obtain ⟨gs, hgs⟩ : ∃ gs, wa.heap.size = gs := ⟨_, rfl⟩
    have HGS := Lib.hid hgs
    rw [hgs] at HO3 HBS3 hA0 hA1
    have hgsw : w.heap.size + 1 < gs := hA0
    clear hcb q5 HBASE hgs
    go_wp2_with (at_builtin; go_loud (try rw [← HWA.out]); go_loud (try rw [HWS.out]); go_loud (rw [HGS.out]); go_loud (refine wpList_appR (k := kN (kSlice kByte) N2) (v := Value.slice (some ⟨gs, 0, none⟩) 0 0) rfl _ _ 28 rfl (.slice none 0 0) 24 Tryz.underlying28 bytesInfo rfl (show 0 < 1 by decide) rfl (some ⟨gB, oB, none⟩) cB (by rw [hbl]; rfl) HO3.out HBS3.out (fun h => by cases h) (by rw [hbl]; decide) (by rw [hbl]; decide) (by simp [HGS.out]) ?_); intro v7 w7 hown7 hg7 hat7; go_loud (rw [List.nil_append] at hown7); go_loud (obtain ⟨g7, c7, cur7, rfl, hB7, hh7⟩ := ownK_at hown7 (by rw [hbl]; omega)); go_loud (rw [hbl] at hown7 ⊢))
    have hrw70 := ownK_rwA hown7
    rw [hbl] at hrw70
    have hrw7 : Rw (kSlice kByte) w7 (Out2 N2 w7) (some ⟨g7, 0, none⟩) 16 bs := kN_out2 hrw70 (fun g' o' e n => by injection e with e; injection e with e1 e2; have := hN2 _ n; omega)
    clear hrw70
    have hb7 : Below gs wa w7 := by
      have := (((Below.refl _ wa).alloc (Nat.le_refl _) (.cells #[] 44)).mono (Nat.le_of_eq HGS.out.symm)).grown hg7 (by simp [HGS.out]) (fun q hq => by simp [Value.ownBlock] at hq; omega)
      exact this
    have hgs7 : gs ≤ w7.heap.size := by have := hb7.size; rw [HGS.out] at this; exact this
    have r2 : Row w7 w.heap.size _ _ := (hb7.block _ (by omega)).trans HR2A.out
    have r4 : Row w7 (w.heap.size + 1) _ _ := (hb7.block _ (by omega)).trans HR4A.out
    have hcbd : w7.drew.cell? ⟨gB, oB + no, none⟩ = some (.slice Ai 256 ci) := (hb7.cell (p := ⟨gB, oB + no, none⟩) hA1).trans HCB.out
    have hbw7 : Below wa.heap.size wa w7 := by rw [HGS.out]; exact hb7
    have HX7 : Hid (Chs w7 AL xs) := Lib.hid (Rw.below (HXA.out.mono fun b hb => hb.1) hbw7)
    have HA7 : Hid (ByN N2 w7 Ai B) := Lib.hid (ByN.below HA5.out hbw7)
    have r2d := r2.drew
    have HR4 := Lib.hid r4.drew
    have HR27 := Lib.hid r2.drew
    have HRW7 := Lib.hid (Rw.drew hrw7)
    have HH7 := Lib.hid hh7.drew
    have HBW7 := Lib.hid hb7.drew
    have hne2 : ¬ w.heap.size = g7 := by omega
    have hg7lt : g7 < w7.heap.size := hh7.lt
    clear hg7 hat7 hown7 hrw7 hh7 hb7 r2 r4 HO3 HBS3 hbw7 HCB HA5
    go_wp2_with fail
    refine wp_region_held_drew (S := Go.RowKit.Below (gs) (w7.drew)) (by kernel_rfl) ?hb52 (fun hHeld => ?rest52)
    case hb52 =>
      exact Go.RowKit.Below.refl _ _
    case' rest52 => skip
    have hCl := fun (wS : World) (hSw : Go.RowKit.Below (gs) (w7.drew) wS) => And.intro ((Mem.bl_row hSw r2d (by first | exact Mem.Row.lt r2d | omega | (simp <;> omega))).cell 0 rfl) <| And.intro ((Mem.bl_row hSw r2d (by first | exact Mem.Row.lt r2d | omega | (simp <;> omega))).cell 1 rfl) <| Mem.bl_cell hSw hcbd (by first | omega | (dsimp only; omega) | exact World.block_lt_of_cell? _ _ hcbd | (simp <;> omega))
    replace hCl := Go.Lib.hid hCl
    refine Mem.tkV 0 ?v53 ?y53 ?r53
    case y53 => (intro w hSw; clear hSw; go_simp; try with_reducible rfl)
    refine Mem.tkV 1 ?v54 ?y54 ?r54
    case y54 => (intro w hSw; clear hSw; go_simp; try with_reducible rfl)
    refine Mem.tkV 2 ?v55 ?y55 ?r55
    case y55 => (intro w hSw; clear hSw; go_simp; try with_reducible rfl)
    try simp only [Mem.pa, Mem.pb, Mem.pc, Act.put, Mem.pd, Mem.pe, Mem.pf]
    refine Mem.tkV 3 ?v56 ?y56 ?r56
    case y56 => (intro w hSw; obtain ⟨hT0, hT1, hT2⟩ := hCl.out w hSw; clear hSw; go_simp; try with_reducible rfl)
    refine Mem.tkV 4 ?v57 ?y57 ?r57
    case y57 => (intro w hSw; clear hSw; go_simp; try with_reducible rfl)
    refine Mem.tkV 5 ?v58 ?y58 ?r58
    case y58 => (intro w hSw; clear hSw; go_simp; try with_reducible rfl)
    try simp only [Mem.pa, Mem.pb, Mem.pc, Act.put, Mem.pd, Mem.pe, Mem.pf]
    refine Mem.tkV 6 ?v59 ?y59 ?r59
    case y59 => (intro w hSw; obtain ⟨hT0, hT1, hT2⟩ := hCl.out w hSw; clear hSw; go_simp; try with_reducible rfl)
    refine Mem.tkV 7 ?v60 ?y60 ?r60
    case y60 => (intro w hSw; clear hSw; go_simp; try with_reducible rfl)
    refine Mem.tkV 8 ?v61 ?y61 ?r61
    case y61 => (intro w hSw; obtain ⟨hT0, hT1, hT2⟩ := hCl.out w hSw; clear hSw; go_simp; try with_reducible rfl)
    try simp only [Mem.pa, Mem.pb, Mem.pc, Act.put, Mem.pd, Mem.pe, Mem.pf]
    refine Mem.tkV 9 ?v62 ?y62 ?r62
    case y62 => (intro w hSw; clear hSw; go_simp; try with_reducible rfl)
    try simp only [Mem.pa, Mem.pb, Mem.pc, Act.put, Mem.pd, Mem.pe, Mem.pf]
    refine wpAnyH_ready (rs := [10]) (by kernel_rfl) (by simp) ?_
    refine AllReadyH.cons rfl (fun K hK => ?_) AllReadyH.nil
    go_simp
    (refine (RImageN_any N2 AL cL xs no Ai ci B _ (HX7.out.below (Below.refl _ _).drew) hBl q2 q3 q4 (ByN.below HA7.out (Below.refl _ _).drew) (fun k hk => by have := hN2 k hk; show k < w7.heap.size; omega) hn).mono ?_; rintro e wi ⟨A9, c9, rfl, i1, i2, i3, hi9, hbl9⟩; have hSnew := Mem.bl_step hHeld hbl9 hgs7; have hr9 := HH7.out.below hbl9; have hw9 := Rw.out2 HRW7.out (fun k h1 _ => hbl9.block k h1) hbl9.size (fun _ _ h => h); obtain ⟨ug, hcg, -⟩ := rw_cell1 rfl hw9 (i := no) (by omega); rw [Nat.zero_add] at hcg; have hfg := hr9.frozen no; have HW9 := Lib.hid hw9; have HI9 := Lib.hid hi9; clear hi9 hw9 hr9 hbl9)
    try go_wp2_with fail
    refine hK.out _ _ ?_ (fun hHeld2 => ?_)
    · exact hSnew
    clear hK K hHeld hSnew
    have hHeld := hHeld2
    clear hHeld2
    try simp only [Mem.pa, Mem.pb, Mem.pc, Act.put, Mem.pd, Mem.pe, Mem.pf]
    refine Mem.tkV 11 ?v63 ?y63 ?r63
    case y63 => (intro w hSw; clear hSw; go_simp; try with_reducible rfl)
    try simp only [Mem.pa, Mem.pb, Mem.pc, Act.put, Mem.pd, Mem.pe, Mem.pf]
    refine wpAnyH_ready (rs := [12]) (by kernel_rfl) (by simp) ?_
    refine AllReadyH.cons rfl (fun K hK => ?_) AllReadyH.nil
    go_simp
    have hSnew := hHeld.setCell (p := ⟨g7, no, none⟩) hB7 (.slice A9 256 c9)
    try go_wp2_with fail
    refine hK.out _ _ ?_ (fun hHeld2 => ?_)
    · exact hSnew
    clear hK K hHeld hSnew
    have hHeld := hHeld2
    clear hHeld2
    try simp only [Mem.pa, Mem.pb, Mem.pc, Act.put, Mem.pd, Mem.pe, Mem.pf]
    refine wpAnyH_done (by kernel_rfl) ?_ _
    clear hCl
    have hbase := base_put HW9.out (i := no) (by omega) HI9.out (by rw [HIMG.out]; exact i1) i2 i3
    rw [HIMG.out] at hbase
    have hBj := HBW7.out.trans hHeld
    have hr2j : Row (wi.setCell ⟨g7, no, none⟩ (.slice A9 256 c9)) w.heap.size _ _ := (hHeld.block _ (by omega)).trans HR27.out
    have hr4j : Row (wi.setCell ⟨g7, no, none⟩ (.slice A9 256 c9)) (w.heap.size + 1) _ _ := (hHeld.block _ (by omega)).trans HR4.out
    clear hcg hfg hHeld HW9 HI9 r2d hcbd
    generalize wi.setCell ⟨g7, no, none⟩ (.slice A9 256 c9) = wj at hbase hBj hr2j hr4j ⊢
    have hBj2 : Below wa.heap.size wa wj := by rw [HGS.out]; exact hBj
    have hxj := out2_kN (Rw.out2 HXA.out (fun k h1 _ => hBj2.block k h1) hBj2.size (fun _ _ h => h))
    have hij := HIA.out.below hBj2
    have CW := Lib.hid (HWO.out wj A3 c3 R hxj hij)
    have HBASEj := Lib.hid hbase
    have HBJ := Lib.hid (HBA.out.trans (hBj2.mono HBA.out.size))
    have HR2J := Lib.hid hr2j
    have HR4J := Lib.hid hr4j
    have k1 := hr2j.cell 1 rfl
    clear hbase hBj hr2j hr4j hBj2 hxj hij HXA HIA HBA HWO HR2A HR4A HX7 HA7 HR4 HR27 HRW7 HH7 HBW7
    go_wp2_with fail
    refine CW.out.mono ?_
    rintro e wl ⟨vl, rfl, hrk, hbw⟩
    obtain ⟨A11, c11, rfl, l1, l2, l3, hLx⟩ := own_out2 hrk (fun k hk => by have := hN2 k hk; have := HBJ.out.size; have := Row.lt HR4J.out; omega)
    have hr2l : Row wl w.heap.size _ _ := HR2J.out.below hbw
    have hr4l : Row wl (w.heap.size + 1) _ _ := HR4J.out.below hbw
    have HBL := Lib.hid (HBJ.out.trans (hbw.mono HBJ.out.size))
    have HBASEL := Lib.hid (Rw.out2 HBASEj.out (fun k h1 _ => hbw.block k h1) hbw.size (fun _ _ h => h))
    have HLX := Lib.hid hLx
    clear hrk hbw hLx k1 CW HR2J HR4J HBJ HBASEj
    have k0 := hr2l.cell 0 rfl
    have f0 := hr2l.frozen 0
    have k1 := hr2l.cell 1 rfl
    have f1 := hr2l.frozen 1
    have k5 := hr2l.cell 5 rfl
    have f5 := hr2l.frozen 5
    have hwrap : IntKind.i64.wrap (wr + 1) = wr + 1 := by rw [IntKind.wrap_i64]; omega
    have q2 : Row (((wl.setCell ⟨w.heap.size, 0, none⟩ (.slice (some ⟨g7, 0, none⟩) 16 c7)).setCell ⟨w.heap.size, 1, none⟩ (.slice A11 (woS xs R).length c11)).setCell ⟨w.heap.size, 5, none⟩ (.int .i64 (wr + 1))) w.heap.size 32 (rcC (some ⟨g7, 0, none⟩) c7 A11 (woS xs R).length c11 AK cK last fu2 false (wr + 1)) := ((hr2l.put 0 _).put 1 _).put 5 _
    have hne4 : w.heap.size + 1 ≠ w.heap.size := by omega
    have HQ4 := Lib.hid (((hr4l.farCell (a := ⟨w.heap.size, 0, none⟩) hne4 (.slice (some ⟨g7, 0, none⟩) 16 c7)).farCell (a := ⟨w.heap.size, 1, none⟩) hne4 (.slice A11 (woS xs R).length c11)).farCell (a := ⟨w.heap.size, 5, none⟩) hne4 (.int .i64 (wr + 1)))
    have HB5 := Lib.hid (((HBL.out.setCell (p := ⟨w.heap.size, 0, none⟩) (Nat.le_refl w.heap.size) (.slice (some ⟨g7, 0, none⟩) 16 c7)).setCell (p := ⟨w.heap.size, 1, none⟩) (Nat.le_refl w.heap.size) (.slice A11 (woS xs R).length c11)).setCell (p := ⟨w.heap.size, 5, none⟩) (Nat.le_refl w.heap.size) (.int .i64 (wr + 1)))
    have HFIN : Hid (∀ cs : Array Value, ∀ b, b ≠ w.heap.size → b ≠ w.heap.size + 1 → ((((wl.setCell ⟨w.heap.size, 0, none⟩ (.slice (some ⟨g7, 0, none⟩) 16 c7)).setCell ⟨w.heap.size, 1, none⟩ (.slice A11 (woS xs R).length c11)).setCell ⟨w.heap.size, 5, none⟩ (.int .i64 (wr + 1))).setRow (w.heap.size + 1) cs).heap[b]? = wl.heap[b]?) := Lib.hid (fun cs b h1 h2 => (setRow_other _ _ _ _ h2).trans ((Below.heap_setCell _ _ _ _ h1).trans ((Below.heap_setCell _ _ _ _ h1).trans (Below.heap_setCell _ _ _ _ h1))))
    clear hr4l hr2l
    go_wp2_with (first
      | (with_reducible refine wpList_ldC rfl _ rfl _ rfl _ rfl q2 ?_)
      | (with_reducible refine wpList_storeRow rfl 32 _ _ rfl (w.heap.size + 1) rfl (rcC (some ⟨g7, 0, none⟩) c7 A11 (woS xs R).length c11 AK cK last fu2 false (wr + 1)) rfl rcZ 32 7 rcSize rfl rfl (rcC_one _ _ _ _ _ _ _ _ _ _ _) HQ4.out ?_))
    have hsz : ∀ (a b d : Addr) (u v x : Value) (r : Nat) (cs : Array Value), ((((wl.setCell a u).setCell b v).setCell d x).setRow r cs).heap.size = wl.heap.size := fun a b d u v x r cs => by simp [World.setCell]
    refine bodyPost_ret (v := .tuple #[.agg (rcC (some ⟨g7, 0, none⟩) c7 A11 (woS xs R).length c11 AK cK last fu2 false (wr + 1)), .int .i64 0]) (Rd.results_cell_tmp (p := 4) (t2 := 5) rfl _ _ (w.heap.size + 1) 32 (rcC (some ⟨g7, 0, none⟩) c7 A11 (woS xs R).length c11 AK cK last fu2 false (wr + 1)) (0, 0) _ rfl (HQ4.out.set _) Tryz.underlying32 rfl rcSize) rfl ?_
    have hz1 := Rw.out2 (N' := N) HBASEL.out (fun b _ h => HFIN.out (rcC (some ⟨g7, 0, none⟩) c7 A11 (woS xs R).length c11 AK cK last fu2 false (wr + 1)) b (fun e => h (HN2.out b (.inr (.inl e)))) (fun e => h (HN2.out b (.inr (.inr e))))) (by rw [hsz]; exact Nat.le_refl _) (fun b _ h e => h (HN2.out b (.inl e)))
    have hz2 := Rw.out2 (N' := N) HLX.out (fun b _ h => HFIN.out (rcC (some ⟨g7, 0, none⟩) c7 A11 (woS xs R).length c11 AK cK last fu2 false (wr + 1)) b (fun e => h (HN2.out b (.inr (.inl e)))) (fun e => h (HN2.out b (.inr (.inr e))))) (by rw [hsz]; exact Nat.le_refl _) (fun b _ h e => h (HN2.out b (.inl e)))
    first | exact ⟨some ⟨g7, 0, none⟩, c7, A11, c11, rfl, hz1, hz2, l3, below_setRow HB5.out (by omega) _⟩ | exact ⟨some ⟨g7, 0, none⟩, A11, ⟨c7, c11, rfl⟩, hz1, hz2, l3, below_setRow HB5.out (by omega) _⟩ | trace_state
  · have hfp : fu = fu2 := (if_neg hpos).symm.trans HF2.out
    have k3 := r2.cell 3 rfl
    have k4 := r2.cell 4 rfl
    have k0 := r2.cell 0 rfl
    obtain ⟨wa, hwa⟩ : ∃ wa, wa = w3 := ⟨_, rfl⟩
    subst hwa
    have HWA : Hid (wa = wa) := Lib.hid rfl
    have HWS : Hid (wa.heap.size = wa.heap.size) := Lib.hid rfl
    have HXA := Lib.hid (Rw.out2 (N' := N2) HX.out (fun k h1 _ => hB3.block k h1) hB3.size HN3.out)
    have HBASE := Lib.hid (Rw.out2 (N' := N2) HBASE0.out (fun k h1 _ => hB3.block k h1) hB3.size HN3.out)
    have HIA : Hid (Is wa A3 R) := Lib.hid (hi3.mono (fun b hb => hb.2))
    have HR2A := Lib.hid r2
    have HR4A := Lib.hid r4
    have HBA := Lib.hid hB3
    have kk0 : (wa.alloc (.cells #[] 44)).cell? ⟨w.heap.size, 0, none⟩ = some (.slice (some ⟨gB, oB, none⟩) 16 cB) := (HR2A.out.alloc _).cell 0 rfl
    rw [hfp] at HR2A
    clear hfp HF2 hi3 hB3 hb3 r4 r2 ho3 C HR2 HR4 HB2 HX HBASE0 hB20
    have hA0 : w.heap.size + 1 < wa.heap.size := by have := Row.lt HR4A.out; omega
    have hA1 : gB < wa.heap.size := by omega
    have HO3 := Lib.hid (ownK_empty (E := 44) (w := wa) (kN (kSlice kByte) N2) (Nat.le_refl wa.heap.size))
    have HBS3 : Hid (Rw (kN (kSlice kByte) N2) (wa.alloc (.cells #[] 44)) (fun b => some b ≠ (Value.slice (some ⟨wa.heap.size, 0, none⟩) 0 0).ownBlock ∧ b < (wa.alloc (.cells #[] 44)).heap.size) (some ⟨gB, oB, none⟩) bs.length bs) := Lib.hid (by
      rw [hbl]
      refine (Rw.stay (w := wa) (fun b hb => (bb0 wa (.cells #[] 44)).block b hb) (out2_kN HBASE.out)).mono fun b hb => ?_
      have hb : b < wa.heap.size := hb
      exact ⟨by simp [Value.ownBlock]; omega, by simp; omega⟩)
    obtain ⟨ub, hcb, ⟨Ai, ci, e1, q2, q3, q4, q5⟩⟩ := rw_cell1 rfl HBASE.out (i := no) (by omega)
    injection e1 with e1
    subst e1
    rw [HBN.out] at hcb q2 q5
    rw [hBl] at hcb q2
    have HCB := Lib.hid hcb
    have HA5 := Lib.hid q5
    obtain ⟨gs, hgs⟩ : ∃ gs, wa.heap.size = gs := ⟨_, rfl⟩
    have HGS := Lib.hid hgs
    rw [hgs] at HO3 HBS3 hA0 hA1
    have hgsw : w.heap.size + 1 < gs := hA0
    clear hcb q5 HBASE hgs
    go_wp2_with (at_builtin; go_loud (try rw [← HWA.out]); go_loud (try rw [HWS.out]); go_loud (rw [HGS.out]); go_loud (refine wpList_appR (k := kN (kSlice kByte) N2) (v := Value.slice (some ⟨gs, 0, none⟩) 0 0) rfl _ _ 28 rfl (.slice none 0 0) 24 Tryz.underlying28 bytesInfo rfl (show 0 < 1 by decide) rfl (some ⟨gB, oB, none⟩) cB (by rw [hbl]; rfl) HO3.out HBS3.out (fun h => by cases h) (by rw [hbl]; decide) (by rw [hbl]; decide) (by simp [HGS.out]) ?_); intro v7 w7 hown7 hg7 hat7; go_loud (rw [List.nil_append] at hown7); go_loud (obtain ⟨g7, c7, cur7, rfl, hB7, hh7⟩ := ownK_at hown7 (by rw [hbl]; omega)); go_loud (rw [hbl] at hown7 ⊢))
    have hrw70 := ownK_rwA hown7
    rw [hbl] at hrw70
    have hrw7 : Rw (kSlice kByte) w7 (Out2 N2 w7) (some ⟨g7, 0, none⟩) 16 bs := kN_out2 hrw70 (fun g' o' e n => by injection e with e; injection e with e1 e2; have := hN2 _ n; omega)
    clear hrw70
    have hb7 : Below gs wa w7 := by
      have := (((Below.refl _ wa).alloc (Nat.le_refl _) (.cells #[] 44)).mono (Nat.le_of_eq HGS.out.symm)).grown hg7 (by simp [HGS.out]) (fun q hq => by simp [Value.ownBlock] at hq; omega)
      exact this
    have hgs7 : gs ≤ w7.heap.size := by have := hb7.size; rw [HGS.out] at this; exact this
    have r2 : Row w7 w.heap.size _ _ := (hb7.block _ (by omega)).trans HR2A.out
    have r4 : Row w7 (w.heap.size + 1) _ _ := (hb7.block _ (by omega)).trans HR4A.out
    have hcbd : w7.drew.cell? ⟨gB, oB + no, none⟩ = some (.slice Ai 256 ci) := (hb7.cell (p := ⟨gB, oB + no, none⟩) hA1).trans HCB.out
    have hbw7 : Below wa.heap.size wa w7 := by rw [HGS.out]; exact hb7
    have HX7 : Hid (Chs w7 AL xs) := Lib.hid (Rw.below (HXA.out.mono fun b hb => hb.1) hbw7)
    have HA7 : Hid (ByN N2 w7 Ai B) := Lib.hid (ByN.below HA5.out hbw7)
    have r2d := r2.drew
    have HR4 := Lib.hid r4.drew
    have HR27 := Lib.hid r2.drew
    have HRW7 := Lib.hid (Rw.drew hrw7)
    have HH7 := Lib.hid hh7.drew
    have HBW7 := Lib.hid hb7.drew
    have hne2 : ¬ w.heap.size = g7 := by omega
    have hg7lt : g7 < w7.heap.size := hh7.lt
    clear hg7 hat7 hown7 hrw7 hh7 hb7 r2 r4 HO3 HBS3 hbw7 HCB HA5
    go_wp2_with fail
    refine wp_region_held_drew (S := Go.RowKit.Below (gs) (w7.drew)) (by kernel_rfl) ?hb115 (fun hHeld => ?rest115)
    case hb115 =>
      exact Go.RowKit.Below.refl _ _
    case' rest115 => skip
    have hCl := fun (wS : World) (hSw : Go.RowKit.Below (gs) (w7.drew) wS) => And.intro ((Mem.bl_row hSw r2d (by first | exact Mem.Row.lt r2d | omega | (simp <;> omega))).cell 0 rfl) <| And.intro ((Mem.bl_row hSw r2d (by first | exact Mem.Row.lt r2d | omega | (simp <;> omega))).cell 1 rfl) <| Mem.bl_cell hSw hcbd (by first | omega | (dsimp only; omega) | exact World.block_lt_of_cell? _ _ hcbd | (simp <;> omega))
    replace hCl := Go.Lib.hid hCl
    refine Mem.tkV 0 ?v116 ?y116 ?r116
    case y116 => (intro w hSw; clear hSw; go_simp; try with_reducible rfl)
    refine Mem.tkV 1 ?v117 ?y117 ?r117
    case y117 => (intro w hSw; clear hSw; go_simp; try with_reducible rfl)
    refine Mem.tkV 2 ?v118 ?y118 ?r118
    case y118 => (intro w hSw; clear hSw; go_simp; try with_reducible rfl)
    try simp only [Mem.pa, Mem.pb, Mem.pc, Act.put, Mem.pd, Mem.pe, Mem.pf]
    refine Mem.tkV 3 ?v119 ?y119 ?r119
    case y119 => (intro w hSw; obtain ⟨hT0, hT1, hT2⟩ := hCl.out w hSw; clear hSw; go_simp; try with_reducible rfl)
    refine Mem.tkV 4 ?v120 ?y120 ?r120
    case y120 => (intro w hSw; clear hSw; go_simp; try with_reducible rfl)
    refine Mem.tkV 5 ?v121 ?y121 ?r121
    case y121 => (intro w hSw; clear hSw; go_simp; try with_reducible rfl)
    try simp only [Mem.pa, Mem.pb, Mem.pc, Act.put, Mem.pd, Mem.pe, Mem.pf]
    refine Mem.tkV 6 ?v122 ?y122 ?r122
    case y122 => (intro w hSw; obtain ⟨hT0, hT1, hT2⟩ := hCl.out w hSw; clear hSw; go_simp; try with_reducible rfl)
    refine Mem.tkV 7 ?v123 ?y123 ?r123
    case y123 => (intro w hSw; clear hSw; go_simp; try with_reducible rfl)
    refine Mem.tkV 8 ?v124 ?y124 ?r124
    case y124 => (intro w hSw; obtain ⟨hT0, hT1, hT2⟩ := hCl.out w hSw; clear hSw; go_simp; try with_reducible rfl)
    try simp only [Mem.pa, Mem.pb, Mem.pc, Act.put, Mem.pd, Mem.pe, Mem.pf]
    refine Mem.tkV 9 ?v125 ?y125 ?r125
    case y125 => (intro w hSw; clear hSw; go_simp; try with_reducible rfl)
    try simp only [Mem.pa, Mem.pb, Mem.pc, Act.put, Mem.pd, Mem.pe, Mem.pf]
    refine wpAnyH_ready (rs := [10]) (by kernel_rfl) (by simp) ?_
    refine AllReadyH.cons rfl (fun K hK => ?_) AllReadyH.nil
    go_simp
    (refine (RImageN_any N2 AL cL xs no Ai ci B _ (HX7.out.below (Below.refl _ _).drew) hBl q2 q3 q4 (ByN.below HA7.out (Below.refl _ _).drew) (fun k hk => by have := hN2 k hk; show k < w7.heap.size; omega) hn).mono ?_; rintro e wi ⟨A9, c9, rfl, i1, i2, i3, hi9, hbl9⟩; have hSnew := Mem.bl_step hHeld hbl9 hgs7; have hr9 := HH7.out.below hbl9; have hw9 := Rw.out2 HRW7.out (fun k h1 _ => hbl9.block k h1) hbl9.size (fun _ _ h => h); obtain ⟨ug, hcg, -⟩ := rw_cell1 rfl hw9 (i := no) (by omega); rw [Nat.zero_add] at hcg; have hfg := hr9.frozen no; have HW9 := Lib.hid hw9; have HI9 := Lib.hid hi9; clear hi9 hw9 hr9 hbl9)
    try go_wp2_with fail
    refine hK.out _ _ ?_ (fun hHeld2 => ?_)
    · exact hSnew
    clear hK K hHeld hSnew
    have hHeld := hHeld2
    clear hHeld2
    try simp only [Mem.pa, Mem.pb, Mem.pc, Act.put, Mem.pd, Mem.pe, Mem.pf]
    refine Mem.tkV 11 ?v126 ?y126 ?r126
    case y126 => (intro w hSw; clear hSw; go_simp; try with_reducible rfl)
    try simp only [Mem.pa, Mem.pb, Mem.pc, Act.put, Mem.pd, Mem.pe, Mem.pf]
    refine wpAnyH_ready (rs := [12]) (by kernel_rfl) (by simp) ?_
    refine AllReadyH.cons rfl (fun K hK => ?_) AllReadyH.nil
    go_simp
    have hSnew := hHeld.setCell (p := ⟨g7, no, none⟩) hB7 (.slice A9 256 c9)
    try go_wp2_with fail
    refine hK.out _ _ ?_ (fun hHeld2 => ?_)
    · exact hSnew
    clear hK K hHeld hSnew
    have hHeld := hHeld2
    clear hHeld2
    try simp only [Mem.pa, Mem.pb, Mem.pc, Act.put, Mem.pd, Mem.pe, Mem.pf]
    refine wpAnyH_done (by kernel_rfl) ?_ _
    clear hCl
    have hbase := base_put HW9.out (i := no) (by omega) HI9.out (by rw [HIMG.out]; exact i1) i2 i3
    rw [HIMG.out] at hbase
    have hBj := HBW7.out.trans hHeld
    have hr2j : Row (wi.setCell ⟨g7, no, none⟩ (.slice A9 256 c9)) w.heap.size _ _ := (hHeld.block _ (by omega)).trans HR27.out
    have hr4j : Row (wi.setCell ⟨g7, no, none⟩ (.slice A9 256 c9)) (w.heap.size + 1) _ _ := (hHeld.block _ (by omega)).trans HR4.out
    clear hcg hfg hHeld HW9 HI9 r2d hcbd
    generalize wi.setCell ⟨g7, no, none⟩ (.slice A9 256 c9) = wj at hbase hBj hr2j hr4j ⊢
    have hBj2 : Below wa.heap.size wa wj := by rw [HGS.out]; exact hBj
    have hxj := out2_kN (Rw.out2 HXA.out (fun k h1 _ => hBj2.block k h1) hBj2.size (fun _ _ h => h))
    have hij := HIA.out.below hBj2
    have CW := Lib.hid (HWO.out wj A3 c3 R hxj hij)
    have HBASEj := Lib.hid hbase
    have HBJ := Lib.hid (HBA.out.trans (hBj2.mono HBA.out.size))
    have HR2J := Lib.hid hr2j
    have HR4J := Lib.hid hr4j
    have k1 := hr2j.cell 1 rfl
    clear hbase hBj hr2j hr4j hBj2 hxj hij HXA HIA HBA HWO HR2A HR4A HX7 HA7 HR4 HR27 HRW7 HH7 HBW7
    go_wp2_with fail
    refine CW.out.mono ?_
    rintro e wl ⟨vl, rfl, hrk, hbw⟩
    obtain ⟨A11, c11, rfl, l1, l2, l3, hLx⟩ := own_out2 hrk (fun k hk => by have := hN2 k hk; have := HBJ.out.size; have := Row.lt HR4J.out; omega)
    have hr2l : Row wl w.heap.size _ _ := HR2J.out.below hbw
    have hr4l : Row wl (w.heap.size + 1) _ _ := HR4J.out.below hbw
    have HBL := Lib.hid (HBJ.out.trans (hbw.mono HBJ.out.size))
    have HBASEL := Lib.hid (Rw.out2 HBASEj.out (fun k h1 _ => hbw.block k h1) hbw.size (fun _ _ h => h))
    have HLX := Lib.hid hLx
    clear hrk hbw hLx k1 CW HR2J HR4J HBJ HBASEj
    have k0 := hr2l.cell 0 rfl
    have f0 := hr2l.frozen 0
    have k1 := hr2l.cell 1 rfl
    have f1 := hr2l.frozen 1
    have k5 := hr2l.cell 5 rfl
    have f5 := hr2l.frozen 5
    have hwrap : IntKind.i64.wrap (wr + 1) = wr + 1 := by rw [IntKind.wrap_i64]; omega
    have q2 : Row (((wl.setCell ⟨w.heap.size, 0, none⟩ (.slice (some ⟨g7, 0, none⟩) 16 c7)).setCell ⟨w.heap.size, 1, none⟩ (.slice A11 (woS xs R).length c11)).setCell ⟨w.heap.size, 5, none⟩ (.int .i64 (wr + 1))) w.heap.size 32 (rcC (some ⟨g7, 0, none⟩) c7 A11 (woS xs R).length c11 AK cK last fu2 false (wr + 1)) := ((hr2l.put 0 _).put 1 _).put 5 _
    have hne4 : w.heap.size + 1 ≠ w.heap.size := by omega
    have HQ4 := Lib.hid (((hr4l.farCell (a := ⟨w.heap.size, 0, none⟩) hne4 (.slice (some ⟨g7, 0, none⟩) 16 c7)).farCell (a := ⟨w.heap.size, 1, none⟩) hne4 (.slice A11 (woS xs R).length c11)).farCell (a := ⟨w.heap.size, 5, none⟩) hne4 (.int .i64 (wr + 1)))
    have HB5 := Lib.hid (((HBL.out.setCell (p := ⟨w.heap.size, 0, none⟩) (Nat.le_refl w.heap.size) (.slice (some ⟨g7, 0, none⟩) 16 c7)).setCell (p := ⟨w.heap.size, 1, none⟩) (Nat.le_refl w.heap.size) (.slice A11 (woS xs R).length c11)).setCell (p := ⟨w.heap.size, 5, none⟩) (Nat.le_refl w.heap.size) (.int .i64 (wr + 1)))
    have HFIN : Hid (∀ cs : Array Value, ∀ b, b ≠ w.heap.size → b ≠ w.heap.size + 1 → ((((wl.setCell ⟨w.heap.size, 0, none⟩ (.slice (some ⟨g7, 0, none⟩) 16 c7)).setCell ⟨w.heap.size, 1, none⟩ (.slice A11 (woS xs R).length c11)).setCell ⟨w.heap.size, 5, none⟩ (.int .i64 (wr + 1))).setRow (w.heap.size + 1) cs).heap[b]? = wl.heap[b]?) := Lib.hid (fun cs b h1 h2 => (setRow_other _ _ _ _ h2).trans ((Below.heap_setCell _ _ _ _ h1).trans ((Below.heap_setCell _ _ _ _ h1).trans (Below.heap_setCell _ _ _ _ h1))))
    clear hr4l hr2l
    go_wp2_with (first
      | (with_reducible refine wpList_ldC rfl _ rfl _ rfl _ rfl q2 ?_)
      | (with_reducible refine wpList_storeRow rfl 32 _ _ rfl (w.heap.size + 1) rfl (rcC (some ⟨g7, 0, none⟩) c7 A11 (woS xs R).length c11 AK cK last fu2 false (wr + 1)) rfl rcZ 32 7 rcSize rfl rfl (rcC_one _ _ _ _ _ _ _ _ _ _ _) HQ4.out ?_))
    have hsz : ∀ (a b d : Addr) (u v x : Value) (r : Nat) (cs : Array Value), ((((wl.setCell a u).setCell b v).setCell d x).setRow r cs).heap.size = wl.heap.size := fun a b d u v x r cs => by simp [World.setCell]
    refine bodyPost_ret (v := .tuple #[.agg (rcC (some ⟨g7, 0, none⟩) c7 A11 (woS xs R).length c11 AK cK last fu2 false (wr + 1)), .int .i64 0]) (Rd.results_cell_tmp (p := 4) (t2 := 5) rfl _ _ (w.heap.size + 1) 32 (rcC (some ⟨g7, 0, none⟩) c7 A11 (woS xs R).length c11 AK cK last fu2 false (wr + 1)) (0, 0) _ rfl (HQ4.out.set _) Tryz.underlying32 rfl rcSize) rfl ?_
    have hz1 := Rw.out2 (N' := N) HBASEL.out (fun b _ h => HFIN.out (rcC (some ⟨g7, 0, none⟩) c7 A11 (woS xs R).length c11 AK cK last fu2 false (wr + 1)) b (fun e => h (HN2.out b (.inr (.inl e)))) (fun e => h (HN2.out b (.inr (.inr e))))) (by rw [hsz]; exact Nat.le_refl _) (fun b _ h e => h (HN2.out b (.inl e)))
    have hz2 := Rw.out2 (N' := N) HLX.out (fun b _ h => HFIN.out (rcC (some ⟨g7, 0, none⟩) c7 A11 (woS xs R).length c11 AK cK last fu2 false (wr + 1)) b (fun e => h (HN2.out b (.inr (.inl e)))) (fun e => h (HN2.out b (.inr (.inr e))))) (by rw [hsz]; exact Nat.le_refl _) (fun b _ h e => h (HN2.out b (.inl e)))
    first | exact ⟨some ⟨g7, 0, none⟩, c7, A11, c11, rfl, hz1, hz2, l3, below_setRow HB5.out (by omega) _⟩ | exact ⟨some ⟨g7, 0, none⟩, A11, ⟨c7, c11, rfl⟩, hz1, hz2, l3, below_setRow HB5.out (by omega) _⟩ | trace_state
end
end Go.Proofs.YtbamhiegabeicaaGreat.Cb

