/- The document's device: Go, writes. No statement is proved here. -/
import Derived.Test.YtechlhmmgabikaaDk14
namespace Go.Proofs.Ytechlhmmgabikaa.Dk
open Go.RowKit Go.Proofs.Ytechlhmmgabikaa.Mem Go.Proofs.Ytechlhmmgabikaa.Open Go.Proofs.Ytechlhmmgabikaa.Kind Go.Proofs.Ytechlhmmgabikaa.Blk Go.Proofs.Ytechlhmmgabikaa.App
set_option linter.unusedVariables false
set_option linter.unusedSimpArgs false
theorem V8_one (y : Nat) : (V8 y).oneCell' = true := rfl
theorem mid_row2 (w : World) (p r : Obj) (T : TypeId) (q : Array Value) : Row (((w.alloc p).alloc (.cells q T)).alloc r) (w.heap.size + 1) T q := by
  have h := (Row.new (w.alloc p) T q).alloc r
  rwa [show (w.alloc p).heap.size = w.heap.size + 1 from by simp] at h
set_option maxHeartbeats 2000000 in
set_option maxRecDepth 100000 in
theorem go_w1 (wr rd : Int) (b : Nat) (w : World) (A : Option Addr) (c : Nat) (bs : List Nat) (hd : By w A bs) (hc : A = none → c = 0) (hn : bs.length ≤ 1000) (hr : 0 ≤ wr ∧ wr ≤ 1000000) (i : Nat) (h : i < bs.length) (hb : b < 256) :
    Calls Try.prog 22 #[.agg (rC A bs.length c (-1) false wr rd), .agg (stC 1 i b)] w fun e w' => ∃ g3 c3, e = .returned (.tuple #[.agg (rC (some ⟨g3, 0, none⟩) bs.length c3 ((-1)) false (wr + 1) rd), .int .u8 0, .int .i64 0]) ∧ By w' (some ⟨g3, 0, none⟩) (bs.set i b) ∧ Below w.heap.size w w' ∧ w.heap.size ≤ g3 := by
  obtain ⟨hr0, hr1⟩ := hr
  have hby0 := hd.lt_byte
  obtain ⟨W, hW⟩ : ∃ W, W = ((w.alloc (.cells #[.slice A bs.length c, .int .i64 (-1), .bool false, .int .i64 wr, .int .i64 rd] 46)).alloc (.cells #[.int .i64 1, .int .i64 i, .int .u8 b] 28)).alloc (.cells #[.slice none 0 0, .int .i64 0, .bool false, .int .i64 0, .int .i64 0] 46) := ⟨_, rfl⟩
  have hbW : Below w.heap.size w W := by rw [hW]; exact bel3 _ _ _ _
  have hsW : W.heap.size = w.heap.size + 1 + 1 + 1 := by rw [hW]; simp
  have r1 : Row W w.heap.size 46 #[.slice A bs.length c, .int .i64 (-1), .bool false, .int .i64 wr, .int .i64 rd] := by rw [hW]; exact ((Row.new _ _ _).alloc _).alloc _
  have r2 : Row W (w.heap.size + 1) 28 #[.int .i64 1, .int .i64 i, .int .u8 b] := by rw [hW]; exact mid_row2 _ _ _ _ _
  have r3 : Row W (w.heap.size + 1 + 1) 46 #[.slice none 0 0, .int .i64 0, .bool false, .int .i64 0, .int .i64 0] := by rw [hW]; exact last_row _ _ _ _ _
  have ho0 : Own (W.alloc (.cells #[] 5)) (w.heap.size + 1 + 1 + 1) 5 V8 (.slice (some ⟨w.heap.size + 1 + 1 + 1, 0, none⟩) 0 0) [] := by
    have h := own_empty (α := Nat) (w := W) (B := w.heap.size + 1 + 1 + 1) (E := 5) (V := V8) (by omega)
    rwa [hsW] at h
  have hsl : Sl (W.alloc (.cells #[] 5)) V8 A bs.length bs := ((hd.below hbW).below ((Below.refl _ _).alloc (Nat.le_refl _) _)).sl_byte
  have hbA := hbW.alloc hbW.size (.cells #[] 5)
  have hzA : (W.alloc (.cells #[] 5)).heap.size = w.heap.size + 1 + 1 + 1 + 1 := by simp; omega
  have hBle : w.heap.size + 1 + 1 + 1 ≤ (W.alloc (.cells #[] 5)).heap.size := by rw [hzA]; omega
  have hBl2 : w.heap.size ≤ (W.alloc (.cells #[] 5)).heap.size := by rw [hzA]; omega
  have hq1 : (([] : List Nat).length + bs.length) * 1 ≤ 140737488355328 := by simp; omega
  have hq2 : ([] : List Nat).length + bs.length ≤ 9223372036854775807 := by simp; omega
  have r1 := r1.alloc (.cells #[] 5)
  have r2 := r2.alloc (.cells #[] 5)
  have r3 := r3.alloc (.cells #[] 5)
  have hne : ∀ j, j < w.heap.size + 1 + 1 + 1 → some j ≠ (Value.slice (some ⟨w.heap.size + 1 + 1 + 1, 0, none⟩) 0 0).ownBlock := fun j hj e => by
    have e2 : j = w.heap.size + 1 + 1 + 1 := by injection e
    omega
  have hne2 : ∀ k, (Value.slice (some ⟨w.heap.size + 1 + 1 + 1, 0, none⟩) 0 0).ownBlock = some k → w.heap.size ≤ k := fun k e => by
    have e2 : w.heap.size + 1 + 1 + 1 = k := by injection e
    omega
  subst hW
  clear hd
  go_enter Try.func22, Try.ntmps22
  go_wp2_with (first | (at_builtin; (refine wpList_app rfl _ _ 44 rfl (V8 0) 1 Try.underlying44 u8Info rfl rfl rfl ho0 hsl hc V8_one hq1 hq2 hBle ?_; intro v3 w3 hown3 hg3 hat3; rw [List.nil_append] at hown3; obtain ⟨g3, c3, rfl⟩ := hown3.slice_pos (by omega); (have q1 := gb_row hg3 r1 (hne _ (by omega))); (have q2 := gb_row hg3 r2 (hne _ (by omega))); (have q3 := gb_row hg3 r3 (hne _ (by omega))); (have hb3 := hbA.grown hg3 hBl2 hne2); (have hbase := hown3.base); (have oc := hown3.cell i h); (have off := hown3.frozen i); (have OST := Lib.hid (hown3.stored i b)); (have n1 : ¬ g3 = w.heap.size := by omega); (have n2 : ¬ w.heap.size = g3 := by omega); (have n3 : ¬ w.heap.size + 1 + 1 = g3 := by omega); (have n4 : ¬ g3 = w.heap.size + 1 + 1 := by omega); (have a0 := q1.cell 0 rfl); (have a1 := q1.cell 1 rfl); (have a2 := q1.cell 2 rfl); (have a3 := q1.cell 3 rfl); (have a4 := q1.cell 4 rfl); (have f0 := q1.frozen 0); (have f3 := q1.frozen 3); (have b1 := q2.cell 1 rfl); (have b2 := q2.cell 2 rfl); (have Q1 := Lib.hid q1); (have Q3 := Lib.hid q3); (have HB3 := Lib.hid hb3); (have q5 : Row (((w3.setCell ⟨g3, i, none⟩ (.int .u8 (b : Int))).setCell ⟨w.heap.size, 0, none⟩ (.slice (some ⟨g3, 0, none⟩) bs.length c3)).setCell ⟨w.heap.size, 3, none⟩ (.int .i64 (wr + 1))) (w.heap.size + 1 + 1) 46 #[.slice none 0 0, .int .i64 0, .bool false, .int .i64 0, .int .i64 0] := ((q3.farCell (a := ⟨g3, i, none⟩) (by show w.heap.size + 1 + 1 ≠ g3; omega) _).farCell (a := ⟨w.heap.size, 0, none⟩) (by show w.heap.size + 1 + 1 ≠ w.heap.size; omega) _).farCell (a := ⟨w.heap.size, 3, none⟩) (by show w.heap.size + 1 + 1 ≠ w.heap.size; omega) _); clear r1 r2 r3 hg3 hown3 hat3 ho0 hsl hbA hbW q1 q2 q3 hb3)) | (with_reducible refine wpList_storeRow rfl 46 _ _ rfl (w.heap.size + 1 + 1) rfl (rC (some ⟨g3, 0, none⟩) bs.length c3 ((-1)) false (wr + 1) rd) rfl #[.slice none 0 0, .int .i64 0, .bool false, .int .i64 0, .int .i64 0] 46 5 rSize rfl rfl (rC_one _ _ _ _ _ _ _) q5 ?_))
  have hbs : ∀ x ∈ bs.set i b, x < 256 := fun x hx => (List.mem_or_eq_of_mem_set hx).elim (hby0 x) (fun e => by rw [e]; exact hb)
  obtain ⟨A5, c5, hv5, _, _, _, hby⟩ := own_byF OST.out hbs
  injection hv5 with e1 e2 e3
  subst e1
  refine bodyPost_ret (results_cell_tmp2 rfl _ _ (w.heap.size + 1 + 1) 46 _ (0, 0) _ rfl (q5.set _) Try.underlying46 rfl rSize) rfl ⟨g3, c3, rfl, ?_, ?_, by omega⟩
  · refine (hby.stay fun k hk => ?_).mono fun k hk => ?_
    · rw [setRow_other _ _ _ _ (by omega), Below.heap_setCell _ _ _ _ (by show k ≠ w.heap.size; omega), Below.heap_setCell _ _ _ _ (by show k ≠ w.heap.size; omega)]
      rfl
    · have := hk.2
      simpa [World.setCell] using this
  · exact below_setRow (((HB3.out.setCell (p := ⟨g3, i, none⟩) (by show w.heap.size ≤ g3; omega) _).setCell (p := ⟨w.heap.size, 0, none⟩) (Nat.le_refl _) _).setCell (p := ⟨w.heap.size, 3, none⟩) (Nat.le_refl _) _) (by omega) _
set_option maxHeartbeats 2000000 in
set_option maxRecDepth 100000 in
theorem go_w2 (wr rd : Int) (b : Nat) (w : World) (A : Option Addr) (c : Nat) (bs : List Nat) (hd : By w A bs) (hc : A = none → c = 0) (hn : bs.length ≤ 1000) (hr : 0 ≤ wr ∧ wr ≤ 1000000) (i : Nat) (h : i < bs.length) (hb : b < 256) (fu : Int) (hf : 0 < fu ∧ fu ≤ 9223372036854775807) :
    Calls Try.prog 22 #[.agg (rC A bs.length c (fu) false wr rd), .agg (stC 1 i b)] w fun e w' => ∃ g3 c3, e = .returned (.tuple #[.agg (rC (some ⟨g3, 0, none⟩) bs.length c3 ((fu - 1)) false (wr + 1) rd), .int .u8 0, .int .i64 0]) ∧ By w' (some ⟨g3, 0, none⟩) (bs.set i b) ∧ Below w.heap.size w w' ∧ w.heap.size ≤ g3 := by
  obtain ⟨hr0, hr1⟩ := hr
  have hby0 := hd.lt_byte
  obtain ⟨W, hW⟩ : ∃ W, W = ((w.alloc (.cells #[.slice A bs.length c, .int .i64 (fu - 1), .bool false, .int .i64 wr, .int .i64 rd] 46)).alloc (.cells #[.int .i64 1, .int .i64 i, .int .u8 b] 28)).alloc (.cells #[.slice none 0 0, .int .i64 0, .bool false, .int .i64 0, .int .i64 0] 46) := ⟨_, rfl⟩
  have hbW : Below w.heap.size w W := by rw [hW]; exact bel3 _ _ _ _
  have hsW : W.heap.size = w.heap.size + 1 + 1 + 1 := by rw [hW]; simp
  have r1 : Row W w.heap.size 46 #[.slice A bs.length c, .int .i64 (fu - 1), .bool false, .int .i64 wr, .int .i64 rd] := by rw [hW]; exact ((Row.new _ _ _).alloc _).alloc _
  have r2 : Row W (w.heap.size + 1) 28 #[.int .i64 1, .int .i64 i, .int .u8 b] := by rw [hW]; exact mid_row2 _ _ _ _ _
  have r3 : Row W (w.heap.size + 1 + 1) 46 #[.slice none 0 0, .int .i64 0, .bool false, .int .i64 0, .int .i64 0] := by rw [hW]; exact last_row _ _ _ _ _
  have ho0 : Own (W.alloc (.cells #[] 5)) (w.heap.size + 1 + 1 + 1) 5 V8 (.slice (some ⟨w.heap.size + 1 + 1 + 1, 0, none⟩) 0 0) [] := by
    have h := own_empty (α := Nat) (w := W) (B := w.heap.size + 1 + 1 + 1) (E := 5) (V := V8) (by omega)
    rwa [hsW] at h
  have hsl : Sl (W.alloc (.cells #[] 5)) V8 A bs.length bs := ((hd.below hbW).below ((Below.refl _ _).alloc (Nat.le_refl _) _)).sl_byte
  have hbA := hbW.alloc hbW.size (.cells #[] 5)
  have hzA : (W.alloc (.cells #[] 5)).heap.size = w.heap.size + 1 + 1 + 1 + 1 := by simp; omega
  have hBle : w.heap.size + 1 + 1 + 1 ≤ (W.alloc (.cells #[] 5)).heap.size := by rw [hzA]; omega
  have hBl2 : w.heap.size ≤ (W.alloc (.cells #[] 5)).heap.size := by rw [hzA]; omega
  have hq1 : (([] : List Nat).length + bs.length) * 1 ≤ 140737488355328 := by simp; omega
  have hq2 : ([] : List Nat).length + bs.length ≤ 9223372036854775807 := by simp; omega
  have r1 := r1.alloc (.cells #[] 5)
  have r2 := r2.alloc (.cells #[] 5)
  have r3 := r3.alloc (.cells #[] 5)
  have hne : ∀ j, j < w.heap.size + 1 + 1 + 1 → some j ≠ (Value.slice (some ⟨w.heap.size + 1 + 1 + 1, 0, none⟩) 0 0).ownBlock := fun j hj e => by
    have e2 : j = w.heap.size + 1 + 1 + 1 := by injection e
    omega
  have hne2 : ∀ k, (Value.slice (some ⟨w.heap.size + 1 + 1 + 1, 0, none⟩) 0 0).ownBlock = some k → w.heap.size ≤ k := fun k e => by
    have e2 : w.heap.size + 1 + 1 + 1 = k := by injection e
    omega
  subst hW
  clear hd
  go_enter Try.func22, Try.ntmps22
  go_wp2_with (first | (at_builtin; (refine wpList_app rfl _ _ 44 rfl (V8 0) 1 Try.underlying44 u8Info rfl rfl rfl ho0 hsl hc V8_one hq1 hq2 hBle ?_; intro v3 w3 hown3 hg3 hat3; rw [List.nil_append] at hown3; obtain ⟨g3, c3, rfl⟩ := hown3.slice_pos (by omega); (have q1 := gb_row hg3 r1 (hne _ (by omega))); (have q2 := gb_row hg3 r2 (hne _ (by omega))); (have q3 := gb_row hg3 r3 (hne _ (by omega))); (have hb3 := hbA.grown hg3 hBl2 hne2); (have hbase := hown3.base); (have oc := hown3.cell i h); (have off := hown3.frozen i); (have OST := Lib.hid (hown3.stored i b)); (have n1 : ¬ g3 = w.heap.size := by omega); (have n2 : ¬ w.heap.size = g3 := by omega); (have n3 : ¬ w.heap.size + 1 + 1 = g3 := by omega); (have n4 : ¬ g3 = w.heap.size + 1 + 1 := by omega); (have a0 := q1.cell 0 rfl); (have a1 := q1.cell 1 rfl); (have a2 := q1.cell 2 rfl); (have a3 := q1.cell 3 rfl); (have a4 := q1.cell 4 rfl); (have f0 := q1.frozen 0); (have f3 := q1.frozen 3); (have b1 := q2.cell 1 rfl); (have b2 := q2.cell 2 rfl); (have Q1 := Lib.hid q1); (have Q3 := Lib.hid q3); (have HB3 := Lib.hid hb3); (have q5 : Row (((w3.setCell ⟨g3, i, none⟩ (.int .u8 (b : Int))).setCell ⟨w.heap.size, 0, none⟩ (.slice (some ⟨g3, 0, none⟩) bs.length c3)).setCell ⟨w.heap.size, 3, none⟩ (.int .i64 (wr + 1))) (w.heap.size + 1 + 1) 46 #[.slice none 0 0, .int .i64 0, .bool false, .int .i64 0, .int .i64 0] := ((q3.farCell (a := ⟨g3, i, none⟩) (by show w.heap.size + 1 + 1 ≠ g3; omega) _).farCell (a := ⟨w.heap.size, 0, none⟩) (by show w.heap.size + 1 + 1 ≠ w.heap.size; omega) _).farCell (a := ⟨w.heap.size, 3, none⟩) (by show w.heap.size + 1 + 1 ≠ w.heap.size; omega) _); clear r1 r2 r3 hg3 hown3 hat3 ho0 hsl hbA hbW q1 q2 q3 hb3)) | (with_reducible refine wpList_storeRow rfl 46 _ _ rfl (w.heap.size + 1 + 1) rfl (rC (some ⟨g3, 0, none⟩) bs.length c3 ((fu - 1)) false (wr + 1) rd) rfl #[.slice none 0 0, .int .i64 0, .bool false, .int .i64 0, .int .i64 0] 46 5 rSize rfl rfl (rC_one _ _ _ _ _ _ _) q5 ?_))
  have hbs : ∀ x ∈ bs.set i b, x < 256 := fun x hx => (List.mem_or_eq_of_mem_set hx).elim (hby0 x) (fun e => by rw [e]; exact hb)
  obtain ⟨A5, c5, hv5, _, _, _, hby⟩ := own_byF OST.out hbs
  injection hv5 with e1 e2 e3
  subst e1
  refine bodyPost_ret (results_cell_tmp2 rfl _ _ (w.heap.size + 1 + 1) 46 _ (0, 0) _ rfl (q5.set _) Try.underlying46 rfl rSize) rfl ⟨g3, c3, rfl, ?_, ?_, by omega⟩
  · refine (hby.stay fun k hk => ?_).mono fun k hk => ?_
    · rw [setRow_other _ _ _ _ (by omega), Below.heap_setCell _ _ _ _ (by show k ≠ w.heap.size; omega), Below.heap_setCell _ _ _ _ (by show k ≠ w.heap.size; omega)]
      rfl
    · have := hk.2
      simpa [World.setCell] using this
  · exact below_setRow (((HB3.out.setCell (p := ⟨g3, i, none⟩) (by show w.heap.size ≤ g3; omega) _).setCell (p := ⟨w.heap.size, 0, none⟩) (Nat.le_refl _) _).setCell (p := ⟨w.heap.size, 3, none⟩) (Nat.le_refl _) _) (by omega) _
end Go.Proofs.Ytechlhmmgabikaa.Dk
