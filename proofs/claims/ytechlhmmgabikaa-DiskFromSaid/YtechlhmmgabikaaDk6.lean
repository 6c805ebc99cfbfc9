/- Contracts of Write, on. No statement is proved here. -/
import Derived.Test.YtechlhmmgabikaaDk5
namespace Go.Proofs.Ytechlhmmgabikaa.Dk
open Go.RowKit Go.Proofs.Ytechlhmmgabikaa.Mem Go.Proofs.Ytechlhmmgabikaa.Open Go.Proofs.Ytechlhmmgabikaa.Kind Go.Proofs.Ytechlhmmgabikaa.Blk
set_option linter.unusedVariables false
set_option linter.unusedSimpArgs false
theorem Dev.far {w : World} {d g k : Nat} {s : Dv} (h : Dev w d g s) (h1 : k ≠ d) (h2 : k ≠ g) (o : Nat) (v : Value) : Dev (w.setCell ⟨k, o, none⟩ v) d g s :=
  ⟨h.1.farCell (a := ⟨k, o, none⟩) (fun e => h1 e.symm) v, h.2.1.keep (Below.heap_setCell w ⟨k, o, none⟩ v g (fun e => h2 e.symm)) (by simp [World.setCell]), h.2.2⟩
theorem Dev.at_ {w : World} {d g : Nat} {s : Dv} (h : Dev w d g s) (i : Nat) (v : Value) : Row (w.setCell ⟨d, i, none⟩ v) d 89 ((dvC s g).setIfInBounds i v) ∧ Bks (w.setCell ⟨d, i, none⟩ v) g s.bs :=
  ⟨h.1.put i v, h.2.1.keep (Below.heap_setCell w ⟨d, i, none⟩ v g (fun e => h.2.2 e.symm)) (by simp [World.setCell])⟩
theorem dev_off {w : World} {d g : Nat} {s : Dv} (h : Dev w d g s) (b : Bool) : Dev (w.setCell ⟨d, 3, none⟩ (.bool b)) d g { s with off := b } := ⟨(h.at_ 3 _).1, (h.at_ 3 _).2, h.2.2⟩
theorem dev_fuse {w : World} {d g : Nat} {s : Dv} (h : Dev w d g s) (f : Int) : Dev (w.setCell ⟨d, 1, none⟩ (.int .i64 f)) d g { s with fuse := f } := ⟨(h.at_ 1 _).1, (h.at_ 1 _).2, h.2.2⟩
theorem dev_wr {w : World} {d g : Nat} {s : Dv} (h : Dev w d g s) (f : Int) : Dev (w.setCell ⟨d, 4, none⟩ (.int .i64 f)) d g { s with wr := f } := ⟨(h.at_ 4 _).1, (h.at_ 4 _).2, h.2.2⟩
theorem dev_blk {w : World} {d g i x : Nat} {s : Dv} (h : Dev w d g s) (hi : i < s.bs.length) : Dev (w.setCells g (i * 256) (blk (full x)).toList) d g { s with bs := s.bs.set i x } := by
  refine ⟨?_, h.2.1.store hi, h.2.2⟩
  show _ = some (Obj.cells #[.slice _ (s.bs.set i x).length s.cap, _, _, _, _, _] _ _)
  rw [List.length_set]
  exact (setCells_heap g _ _ w d h.2.2).trans h.1.out
theorem Asd.new {d g k : Nat} {a w : World} (h : Asd d g a w) (hk : a.heap.size ≤ k) (o : Nat) (v : Value) : Asd d g a (w.setCell ⟨k, o, none⟩ v) :=
  ⟨h.os, h.tape, h.output, by simpa [World.setCell] using h.size, fun j h1 h2 h3 => (Below.heap_setCell w ⟨k, o, none⟩ v j (by show j ≠ k; omega)).trans (h.block j h1 h2 h3)⟩
set_option maxHeartbeats 1000000 in
set_option maxRecDepth 100000 in
theorem write_cut (d g : Nat) (s : Dv) (i x : Nat) (w : World) (hd : Dev w d g s) (hl : s.bs.length ≤ 1000) (hi : i < s.bs.length) (ho : s.off = false) (hlit : s.lit = true) (hfu : s.fuse = 0) :
    Calls Try.prog 26 #[.pointer (some ⟨d, 0, none⟩), .int .i64 i, .agg (blk (full x))] w fun e w' => e = .returned (.int .i64 12) ∧ Dev w' d g { s with off := true } ∧ Asd d g w w' := by
  have hm : mayE s i = 0 := by unfold mayE; rw [ho, if_neg (by simp), if_neg (by omega)]
  have CM := Lib.hid (fun w' h => may_any d g s i w' h hl)
  have HD := Lib.hid (fun w' h => hd.keep (w' := w') h)
  rw [hm] at CM
  clear hm
  have hmf : ∀ (fn : Fn) (first cap : Array Value) (w : World), (Instr.makeFunc fn first cap).run Try.prog w = .ok (.func fn first cap) w := fun _ _ _ _ => rfl
  have hdsz : d < w.heap.size := hd.1.lt
  have hgsz : g < w.heap.size := hd.2.1.2.2
  go_enter_defers Try.func26, Try.ntmps26
  go_wp2_with fail
  have Pp : Row (((w.alloc (.cells #[.pointer (some ⟨d, 0, none⟩)] 24)).alloc (.cells (blk (full x)) 30)).alloc (.cells #[.int .i64 0] 33)) w.heap.size 24 #[.pointer (some ⟨d, 0, none⟩)] := ((Row.new _ _ _).alloc _).alloc _
  have Pb : Row (((w.alloc (.cells #[.pointer (some ⟨d, 0, none⟩)] 24)).alloc (.cells (blk (full x)) 30)).alloc (.cells #[.int .i64 0] 33)) (w.heap.size + 1) 30 (blk (full x)) := by
    have := (Row.new (w.alloc (.cells #[.pointer (some ⟨d, 0, none⟩)] 24)) 30 (blk (full x))).alloc (.cells #[.int .i64 0] 33)
    rwa [show (w.alloc (.cells #[.pointer (some ⟨d, 0, none⟩)] 24)).heap.size = w.heap.size + 1 from by simp] at this
  have Pe : Row (((w.alloc (.cells #[.pointer (some ⟨d, 0, none⟩)] 24)).alloc (.cells (blk (full x)) 30)).alloc (.cells #[.int .i64 0] 33)) (w.heap.size + 1 + 1) 33 #[.int .i64 0] := by
    have := Row.new ((w.alloc (.cells #[.pointer (some ⟨d, 0, none⟩)] 24)).alloc (.cells (blk (full x)) 30)) 33 #[.int .i64 0]
    rwa [show ((w.alloc (.cells #[.pointer (some ⟨d, 0, none⟩)] 24)).alloc (.cells (blk (full x)) 30)).heap.size = w.heap.size + 1 + 1 from by simp] at this
  have hb : Below w.heap.size w (((w.alloc (.cells #[.pointer (some ⟨d, 0, none⟩)] 24)).alloc (.cells (blk (full x)) 30)).alloc (.cells #[.int .i64 0] 33)) := (((Below.refl _ _).alloc (Nat.le_refl _) _).alloc (by simp) _).alloc (by simp; omega) _
  generalize ((w.alloc (.cells #[.pointer (some ⟨d, 0, none⟩)] 24)).alloc (.cells (blk (full x)) 30)).alloc (.cells #[.int .i64 0] 33) = w3 at *
  have hd3 := HD.out w3 hb
  refine (CM.out w3 hd3).mono ?_
  rintro e w4 ⟨rfl, hw4⟩
  subst w4
  obtain ⟨pe, hpe⟩ : ∃ pe, w.heap.size + 1 + 1 = pe := ⟨_, rfl⟩
  obtain ⟨pp, hpp⟩ : ∃ pp, w.heap.size = pp := ⟨_, rfl⟩
  have n1 : ¬ d = pe := by omega
  have n2 : ¬ pe = d := by omega
  have n3 : ¬ d = pp := by omega
  have n4 : ¬ pp = d := by omega
  have n5 : ¬ pe = pp := by omega
  have n6 : ¬ pp = pe := by omega
  have n7 : ¬ pe = g := by omega
  have n8 : pp ≤ pe := by omega
  have c1 := Pe.cell 0 rfl
  have f1 := Pe.frozen 0
  have cp := Pp.cell 0 rfl
  obtain ⟨e0, e1, e2, e3, e4, e5⟩ := dev_cells hd3
  have fz := hd3.1.frozen 3
  rw [hlit] at e2
  rw [hfu] at e1
  have HB := Lib.hid (Asd.of (d := d) (g := g) hb)
  have HD3 := Lib.hid hd3
  have HPE := Lib.hid Pe
  rw [hpe] at c1 f1 ⊢
  have hpp2 := hpp
  rw [hpp] at cp ⊢
  clear hd Pp Pb Pe hb hd3 CM HD
  go_wp2_with fail
  have q1 := ((HPE.out.put 0 (.int .i64 0)).farCell (a := ⟨d, 3, none⟩) (by show _ ≠ d; omega) (.bool true)).put 0 (.int .i64 12)
  rw [hpe] at q1
  have dv := ((dev_off (HD3.out.far n2 n7 0 (.int .i64 0)) true).far n2 n7 0 (.int .i64 12))
  have ad5 := (((HB.out.new (show w.heap.size ≤ pe by omega) 0 (.int .i64 0)).cell 3 (.bool true)).new (show w.heap.size ≤ pe by omega) 0 (.int .i64 12))
  generalize ((w3.setCell ⟨pe, 0, none⟩ (.int .i64 0)).setCell ⟨d, 3, none⟩ (.bool true)).setCell ⟨pe, 0, none⟩ (.int .i64 12) = w5 at *
  refine leaves_cons (f := 51) (args := #[.pointer (some ⟨pe, 0, none⟩), .pointer (some ⟨pp, 0, none⟩)]) (by simp) (by simp [go_sem]) ?_
  refine (wr1_no d pp pe 12 .returning w5 (q1.cell 0 rfl) rfl).mono ?_
  rintro e u' w6 ⟨rfl, rfl, rfl⟩
  exact ⟨_, results_cell_int rfl _ _ pe (.int .i64 12) rfl (q1.cell 0 rfl) Try.underlying33, rfl, dv, ad5⟩
set_option maxHeartbeats 1000000 in
set_option maxRecDepth 100000 in
theorem write_lit (d g : Nat) (s : Dv) (i x : Nat) (w : World) (hd : Dev w d g s) (hl : s.bs.length ≤ 1000) (hi : i < s.bs.length) (ho : s.off = false) (hlit : s.lit = true) (hfu : 0 < s.fuse ∧ s.fuse ≤ 9223372036854775807) (hw : 0 ≤ s.wr ∧ s.wr ≤ 1000000) :
    Calls Try.prog 26 #[.pointer (some ⟨d, 0, none⟩), .int .i64 i, .agg (blk (full x))] w fun e w' => e = .returned (.int .i64 0) ∧ Dev w' d g { s with bs := s.bs.set i x, fuse := s.fuse - 1, wr := s.wr + 1 } ∧ Asd d g w w' := by
  have hm : mayE s i = 0 := by unfold mayE; rw [ho, if_neg (by simp), if_neg (by omega)]
  have CM := Lib.hid (fun w' h => may_any d g s i w' h hl)
  have HD := Lib.hid (fun w' h => hd.keep (w' := w') h)
  rw [hm] at CM
  clear hm
  have hmf : ∀ (fn : Fn) (first cap : Array Value) (w : World), (Instr.makeFunc fn first cap).run Try.prog w = .ok (.func fn first cap) w := fun _ _ _ _ => rfl
  have hdsz : d < w.heap.size := hd.1.lt
  have hgsz : g < w.heap.size := hd.2.1.2.2
  go_enter_defers Try.func26, Try.ntmps26
  go_wp2_with fail
  have Pp : Row (((w.alloc (.cells #[.pointer (some ⟨d, 0, none⟩)] 24)).alloc (.cells (blk (full x)) 30)).alloc (.cells #[.int .i64 0] 33)) w.heap.size 24 #[.pointer (some ⟨d, 0, none⟩)] := ((Row.new _ _ _).alloc _).alloc _
  have Pb : Row (((w.alloc (.cells #[.pointer (some ⟨d, 0, none⟩)] 24)).alloc (.cells (blk (full x)) 30)).alloc (.cells #[.int .i64 0] 33)) (w.heap.size + 1) 30 (blk (full x)) := by
    have := (Row.new (w.alloc (.cells #[.pointer (some ⟨d, 0, none⟩)] 24)) 30 (blk (full x))).alloc (.cells #[.int .i64 0] 33)
    rwa [show (w.alloc (.cells #[.pointer (some ⟨d, 0, none⟩)] 24)).heap.size = w.heap.size + 1 from by simp] at this
  have Pe : Row (((w.alloc (.cells #[.pointer (some ⟨d, 0, none⟩)] 24)).alloc (.cells (blk (full x)) 30)).alloc (.cells #[.int .i64 0] 33)) (w.heap.size + 1 + 1) 33 #[.int .i64 0] := by
    have := Row.new ((w.alloc (.cells #[.pointer (some ⟨d, 0, none⟩)] 24)).alloc (.cells (blk (full x)) 30)) 33 #[.int .i64 0]
    rwa [show ((w.alloc (.cells #[.pointer (some ⟨d, 0, none⟩)] 24)).alloc (.cells (blk (full x)) 30)).heap.size = w.heap.size + 1 + 1 from by simp] at this
  have hb : Below w.heap.size w (((w.alloc (.cells #[.pointer (some ⟨d, 0, none⟩)] 24)).alloc (.cells (blk (full x)) 30)).alloc (.cells #[.int .i64 0] 33)) := (((Below.refl _ _).alloc (Nat.le_refl _) _).alloc (by simp) _).alloc (by simp; omega) _
  generalize ((w.alloc (.cells #[.pointer (some ⟨d, 0, none⟩)] 24)).alloc (.cells (blk (full x)) 30)).alloc (.cells #[.int .i64 0] 33) = w3 at *
  have hd3 := HD.out w3 hb
  refine (CM.out w3 hd3).mono ?_
  rintro e w4 ⟨rfl, hw4⟩
  subst w4
  obtain ⟨pe, hpe⟩ : ∃ pe, w.heap.size + 1 + 1 = pe := ⟨_, rfl⟩
  obtain ⟨pp, hpp⟩ : ∃ pp, w.heap.size = pp := ⟨_, rfl⟩
  have n1 : ¬ d = pe := by omega
  have n2 : ¬ pe = d := by omega
  have n3 : ¬ d = pp := by omega
  have n4 : ¬ pp = d := by omega
  have n5 : ¬ pe = pp := by omega
  have n6 : ¬ pp = pe := by omega
  have n7 : ¬ pe = g := by omega
  have n8 : pp ≤ pe := by omega
  have c1 := Pe.cell 0 rfl
  have f1 := Pe.frozen 0
  have cp := Pp.cell 0 rfl
  obtain ⟨e0, e1, e2, e3, e4, e5⟩ := dev_cells hd3
  have fz := hd3.1.frozen 3
  rw [hlit] at e2
  have hne : (s.fuse == 0) = false := by rw [beq_eq_false_iff_ne]; omega
  obtain ⟨hfu1, hfu2⟩ := hfu
  have fz1 := hd3.1.frozen 1
  have HB := Lib.hid (Asd.of (d := d) (g := g) hb)
  have HD3 := Lib.hid hd3
  have HPE := Lib.hid Pe
  have HPB := Lib.hid Pb
  have HPP := Lib.hid Pp
  rw [hpe] at c1 f1 ⊢
  rw [hpp] at cp ⊢
  clear hd Pp Pb Pe hb hd3 CM HD
  go_wp2_with fail
  have qe := (HPE.out.put 0 (.int .i64 0)).farCell (a := ⟨d, 1, none⟩) (by show _ ≠ d; omega) (.int .i64 (s.fuse - 1))
  have qb := (HPB.out.farCell (a := ⟨w.heap.size + 1 + 1, 0, none⟩) (by show _ ≠ w.heap.size + 1 + 1; omega) (.int .i64 0)).farCell (a := ⟨d, 1, none⟩) (by show _ ≠ d; omega) (.int .i64 (s.fuse - 1))
  have qp := (HPP.out.farCell (a := ⟨w.heap.size + 1 + 1, 0, none⟩) (by show _ ≠ w.heap.size + 1 + 1; omega) (.int .i64 0)).farCell (a := ⟨d, 1, none⟩) (by show _ ≠ d; omega) (.int .i64 (s.fuse - 1))
  rw [hpe] at qe qb qp
  rw [hpp] at qp qb
  have dv := (dev_fuse (HD3.out.far n2 n7 0 (.int .i64 0)) (s.fuse - 1))
  have ad5 := ((HB.out.new (show w.heap.size ≤ pe by omega) 0 (.int .i64 0)).cell 1 (.int .i64 (s.fuse - 1)))
  generalize ((w3.setCell ⟨pe, 0, none⟩ (.int .i64 0)).setCell ⟨d, 1, none⟩ (.int .i64 (s.fuse - 1))) = wq at *
  have hgx : ¬ g = pe := by omega
  have hgp : ¬ g = pp := by omega
  have hgb : ¬ g = pp + 1 := by omega
  have hgd : ¬ g = d := fun e => dv.2.2 e.symm
  have dr : Row wq.drew d 89 #[.slice (some ⟨g, 0, none⟩) s.bs.length s.cap, .int .i64 (s.fuse - 1), .bool s.lit, .bool s.off, .int .i64 s.wr, .int .i64 s.rd] := dv.1.drew
  have qpd := qp.drew
  have qbd := qb.drew
  have hix : (Try.prog.info? 30).map (·.size) = some (blk (full x)).toList.length := by rw [full_len]; exact blkSize
  have hix2 : (Try.prog.info? 30).map (·.size) = some (blk (full x)).size := by rw [blk_size, List.length_replicate]; exact blkSize
  have hth : wq.drew.there g (i * 256) (blk (full x)).size := fun j hj => by
    rw [blk_size, List.length_replicate] at hj
    have h := dv.2.1.2.1 (i * 256 + j) (by
      have : (i + 1) * 256 ≤ s.bs.length * 256 := Nat.mul_le_mul_right _ hi
      show i * 256 + j < s.bs.length * 256
      omega)
    rwa [Nat.zero_add] at h
  refine wp_region_noPanic ?_
  refine wp_region_held_drew (S := fun w' => World.grownBy (wq.drew) w' (some (g))) (by kernel_rfl) ?hb3 (fun hHeld => ?rest3)
  case hb3 =>
    exact Mem.gb_refl _ _
  case' rest3 => skip
  refine wpAnyH_take (i := 0) (v := ?v4) rfl (by kernel_rfl) (by kernel_rfl) (by kernel_rfl) (fun _ _ _ h => h) (Or.inl ⟨by rfl, ?y4⟩) (by assumption) ?rest4
  case y4 => (intro w hSw; have hT0 := (Mem.gb_row hSw qpd (by intro e; injection e with e; omega)).cell 0 rfl; have hT1 := (Mem.gb_row hSw dr (by intro e; injection e with e; omega)).cell 0 rfl; clear hSw; go_simp; try with_reducible rfl)
  case' rest4 => skip
  try simp only [List.getElem_toArray, List.getElem_cons_succ, List.getElem_cons_zero, Act.put, List.setIfInBounds_toArray, List.set_cons_zero, List.set_cons_succ]
  refine wpAnyH_take (i := 1) (v := ?v5) rfl (by kernel_rfl) (by kernel_rfl) (by kernel_rfl) (fun _ _ _ h => h) (Or.inl ⟨by rfl, ?y5⟩) (by assumption) ?rest5
  case y5 => (intro w hSw; have hT0 := (Mem.gb_row hSw qpd (by intro e; injection e with e; omega)).cell 0 rfl; have hT1 := (Mem.gb_row hSw dr (by intro e; injection e with e; omega)).cell 0 rfl; clear hSw; go_simp; try with_reducible rfl)
  case' rest5 => skip
  try simp only [List.getElem_toArray, List.getElem_cons_succ, List.getElem_cons_zero, Act.put, List.setIfInBounds_toArray, List.set_cons_zero, List.set_cons_succ]
  refine wpAnyH_take (i := 2) (v := ?v6) rfl (by kernel_rfl) (by kernel_rfl) (by kernel_rfl) (fun _ _ _ h => h) (Or.inl ⟨by rfl, ?y6⟩) (by assumption) ?rest6
  case y6 => (intro w hSw; have hT0 := (Mem.gb_row hSw qpd (by intro e; injection e with e; omega)).cell 0 rfl; have hT1 := (Mem.gb_row hSw dr (by intro e; injection e with e; omega)).cell 0 rfl; clear hSw; go_simp; try with_reducible rfl)
  case' rest6 => skip
  try simp only [List.getElem_toArray, List.getElem_cons_succ, List.getElem_cons_zero, Act.put, List.setIfInBounds_toArray, List.set_cons_zero, List.set_cons_succ]
  refine wpAnyH_take (i := 3) (v := ?v7) rfl (by kernel_rfl) (by kernel_rfl) (by kernel_rfl) (fun _ _ _ h => h) (Or.inl ⟨by rfl, ?y7⟩) (by assumption) ?rest7
  case y7 => (intro w hSw; have hT0 := (Mem.gb_row hSw qpd (by intro e; injection e with e; omega)).cell 0 rfl; have hT1 := (Mem.gb_row hSw dr (by intro e; injection e with e; omega)).cell 0 rfl; clear hSw; go_simp; try with_reducible rfl)
  case' rest7 => skip
  try simp only [List.getElem_toArray, List.getElem_cons_succ, List.getElem_cons_zero, Act.put, List.setIfInBounds_toArray, List.set_cons_zero, List.set_cons_succ]
  refine wpAnyH_take (i := 4) (v := ?v8) rfl (by kernel_rfl) (by kernel_rfl) (by kernel_rfl) (fun _ _ _ h => h) (Or.inl ⟨by rfl, ?y8⟩) (by assumption) ?rest8
  case y8 => (intro w hSw; have hT0 := (Mem.gb_row hSw qpd (by intro e; injection e with e; omega)).cell 0 rfl; have hT1 := (Mem.gb_row hSw dr (by intro e; injection e with e; omega)).cell 0 rfl; clear hSw; go_simp; try with_reducible rfl)
  case' rest8 => skip
  try simp only [List.getElem_toArray, List.getElem_cons_succ, List.getElem_cons_zero, Act.put, List.setIfInBounds_toArray, List.set_cons_zero, List.set_cons_succ]
  first
    | refine' wpAnyH_take (i := 5) (v := _) rfl (by kernel_rfl) (by kernel_rfl) (by kernel_rfl) (fun _ _ _ h => h) (yieldsIf_load_mid (by rfl) _ _ rfl _ _ rfl _ _ (fun w hSw => (Mem.gb_row hSw qbd (by intro e; injection e with e; omega)).range) blkUnd rfl hix) (by assumption) ?rest9
    | refine wpAnyH_take (i := 5) (v := undef) rfl (by kernel_rfl) (by kernel_rfl) (by kernel_rfl) (fun _ _ _ h => h) (Or.inr ⟨by rfl, rfl⟩) (by assumption) ?rest9
  case' rest9 => skip
  try simp only [List.getElem_toArray, List.getElem_cons_succ, List.getElem_cons_zero, Act.put, List.setIfInBounds_toArray, List.set_cons_zero, List.set_cons_succ]
  refine wpAnyH_take (i := 6) (v := ?v10) rfl (by kernel_rfl) (by kernel_rfl) (by kernel_rfl) (fun _ _ _ h => h) (Or.inl ⟨by rfl, ?y10⟩) (by assumption) ?rest10
  case y10 => (intro w hSw; have hT0 := (Mem.gb_row hSw qpd (by intro e; injection e with e; omega)).cell 0 rfl; have hT1 := (Mem.gb_row hSw dr (by intro e; injection e with e; omega)).cell 0 rfl; clear hSw; go_simp; try with_reducible rfl)
  case' rest10 => skip
  try simp only [List.getElem_toArray, List.getElem_cons_succ, List.getElem_cons_zero, Act.put, List.setIfInBounds_toArray, List.set_cons_zero, List.set_cons_succ]
  refine wpAnyH_ready (rs := [7]) (by kernel_rfl) (by simp) ?_
  refine AllReadyH.cons rfl (fun K hK => ?_) AllReadyH.nil
  rw [if_pos (by rfl)]
  refine wp_store_mid 30 _ _ rfl g (i * 256) (blk (full x)) rfl rfl hth hix2 (blk_one _) ?_; have hSnew := gb_setCells hHeld (i * 256) (blk (full x)).toList
  refine hK.out _ _ ?_ (fun hHeld2 => ?_)
  · exact hSnew
  clear hK K hHeld hSnew
  have hHeld := hHeld2
  clear hHeld2
  try simp only [List.getElem_toArray, List.getElem_cons_succ, List.getElem_cons_zero, Act.put, List.setIfInBounds_toArray, List.set_cons_zero, List.set_cons_succ]
  refine wpAnyH_done (by kernel_rfl) ?_ _
  have dz : Dev (wq.drew.setCells g (i * 256) (blk (full x)).toList) d g _ := dev_blk (x := x) (i := i) (show Dev wq.drew d g _ from dv) hi
  have qez : Row (wq.drew.setCells g (i * 256) (blk (full x)).toList) pe 33 _ := (setCells_heap g _ (i * 256) wq.drew pe (by omega)).trans qe
  have qpz : Row (wq.drew.setCells g (i * 256) (blk (full x)).toList) pp 24 _ := (setCells_heap g _ (i * 256) wq.drew pp (by omega)).trans qp
  have adz := (ad5.drew).cells (i * 256) (blk (full x)).toList
  refine NoPanic.normal ?_
  generalize wq.drew.setCells g (i * 256) (blk (full x)).toList = wz at *
  have cz := qez.cell 0 rfl
  have fez := qez.frozen 0
  have hwz : ∃ u, wz.cell? ⟨pe, 0, none⟩ = some u := ⟨_, cz⟩
  obtain ⟨u0, cz0⟩ := hwz
  clear cz hHeld dr qpd qbd hth
  go_wp2_with fail
  have q1 := qez.put 0 (.int .i64 0)
  have d1 := dz.far n2 n7 0 (.int .i64 0)
  have p1 := qpz.farCell (a := ⟨pe, 0, none⟩) (by show _ ≠ pe; omega) (.int .i64 0)
  have a1 := adz.new (show w.heap.size ≤ pe by omega) 0 (.int .i64 0)
  generalize wz.setCell ⟨pe, 0, none⟩ (.int .i64 0) = w5 at *
  refine leaves_cons (f := 51) (args := #[.pointer (some ⟨pe, 0, none⟩), .pointer (some ⟨pp, 0, none⟩)]) (by simp) (by simp [go_sem]) ?_
  refine (wr1_yes d pp pe s.wr .returning w5 (q1.cell 0 rfl) (p1.cell 0 rfl) (dev_cells d1).2.2.2.2.1 (d1.1.frozen 4) hw).mono ?_
  rintro e u' w6 ⟨rfl, rfl, rfl⟩
  exact ⟨_, results_cell_int rfl _ _ pe (.int .i64 0) rfl ((q1.farCell (a := ⟨d, 4, none⟩) (by show _ ≠ d; omega) (.int .i64 (s.wr + 1))).cell 0 rfl) Try.underlying33, rfl, by first | exact dev_wr d1 (s.wr + 1) | (have h := dev_wr d1 (s.wr + 1); simp only [ho, hlit] at h; exact h), a1.cell 4 _⟩
set_option maxHeartbeats 1000000 in
set_option maxRecDepth 100000 in
theorem write_ok (d g : Nat) (s : Dv) (i x : Nat) (w : World) (hd : Dev w d g s) (hl : s.bs.length ≤ 1000) (hi : i < s.bs.length) (ho : s.off = false) (hlit : s.lit = false) (hw : 0 ≤ s.wr ∧ s.wr ≤ 1000000) :
    Calls Try.prog 26 #[.pointer (some ⟨d, 0, none⟩), .int .i64 i, .agg (blk (full x))] w fun e w' => e = .returned (.int .i64 0) ∧ Dev w' d g { s with bs := s.bs.set i x, wr := s.wr + 1 } ∧ Asd d g w w' := by
  have hm : mayE s i = 0 := by unfold mayE; rw [ho, if_neg (by simp), if_neg (by omega)]
  have CM := Lib.hid (fun w' h => may_any d g s i w' h hl)
  have HD := Lib.hid (fun w' h => hd.keep (w' := w') h)
  rw [hm] at CM
  clear hm
  have hmf : ∀ (fn : Fn) (first cap : Array Value) (w : World), (Instr.makeFunc fn first cap).run Try.prog w = .ok (.func fn first cap) w := fun _ _ _ _ => rfl
  have hdsz : d < w.heap.size := hd.1.lt
  have hgsz : g < w.heap.size := hd.2.1.2.2
  go_enter_defers Try.func26, Try.ntmps26
  go_wp2_with fail
  have Pp : Row (((w.alloc (.cells #[.pointer (some ⟨d, 0, none⟩)] 24)).alloc (.cells (blk (full x)) 30)).alloc (.cells #[.int .i64 0] 33)) w.heap.size 24 #[.pointer (some ⟨d, 0, none⟩)] := ((Row.new _ _ _).alloc _).alloc _
  have Pb : Row (((w.alloc (.cells #[.pointer (some ⟨d, 0, none⟩)] 24)).alloc (.cells (blk (full x)) 30)).alloc (.cells #[.int .i64 0] 33)) (w.heap.size + 1) 30 (blk (full x)) := by
    have := (Row.new (w.alloc (.cells #[.pointer (some ⟨d, 0, none⟩)] 24)) 30 (blk (full x))).alloc (.cells #[.int .i64 0] 33)
    rwa [show (w.alloc (.cells #[.pointer (some ⟨d, 0, none⟩)] 24)).heap.size = w.heap.size + 1 from by simp] at this
  have Pe : Row (((w.alloc (.cells #[.pointer (some ⟨d, 0, none⟩)] 24)).alloc (.cells (blk (full x)) 30)).alloc (.cells #[.int .i64 0] 33)) (w.heap.size + 1 + 1) 33 #[.int .i64 0] := by
    have := Row.new ((w.alloc (.cells #[.pointer (some ⟨d, 0, none⟩)] 24)).alloc (.cells (blk (full x)) 30)) 33 #[.int .i64 0]
    rwa [show ((w.alloc (.cells #[.pointer (some ⟨d, 0, none⟩)] 24)).alloc (.cells (blk (full x)) 30)).heap.size = w.heap.size + 1 + 1 from by simp] at this
  have hb : Below w.heap.size w (((w.alloc (.cells #[.pointer (some ⟨d, 0, none⟩)] 24)).alloc (.cells (blk (full x)) 30)).alloc (.cells #[.int .i64 0] 33)) := (((Below.refl _ _).alloc (Nat.le_refl _) _).alloc (by simp) _).alloc (by simp; omega) _
  generalize ((w.alloc (.cells #[.pointer (some ⟨d, 0, none⟩)] 24)).alloc (.cells (blk (full x)) 30)).alloc (.cells #[.int .i64 0] 33) = w3 at *
  have hd3 := HD.out w3 hb
  refine (CM.out w3 hd3).mono ?_
  rintro e w4 ⟨rfl, hw4⟩
  subst w4
  obtain ⟨pe, hpe⟩ : ∃ pe, w.heap.size + 1 + 1 = pe := ⟨_, rfl⟩
  obtain ⟨pp, hpp⟩ : ∃ pp, w.heap.size = pp := ⟨_, rfl⟩
  have n1 : ¬ d = pe := by omega
  have n2 : ¬ pe = d := by omega
  have n3 : ¬ d = pp := by omega
  have n4 : ¬ pp = d := by omega
  have n5 : ¬ pe = pp := by omega
  have n6 : ¬ pp = pe := by omega
  have n7 : ¬ pe = g := by omega
  have n8 : pp ≤ pe := by omega
  have c1 := Pe.cell 0 rfl
  have f1 := Pe.frozen 0
  have cp := Pp.cell 0 rfl
  obtain ⟨e0, e1, e2, e3, e4, e5⟩ := dev_cells hd3
  have fz := hd3.1.frozen 3
  rw [hlit] at e2
  have HB := Lib.hid (Asd.of (d := d) (g := g) hb)
  have HD3 := Lib.hid hd3
  have HPE := Lib.hid Pe
  have HPB := Lib.hid Pb
  have HPP := Lib.hid Pp
  rw [hpe] at c1 f1 ⊢
  rw [hpp] at cp ⊢
  clear hd Pp Pb Pe hb hd3 CM HD
  go_wp2_with fail
  have qe := (HPE.out.put 0 (.int .i64 0))
  have qb := (HPB.out.farCell (a := ⟨w.heap.size + 1 + 1, 0, none⟩) (by show _ ≠ w.heap.size + 1 + 1; omega) (.int .i64 0))
  have qp := (HPP.out.farCell (a := ⟨w.heap.size + 1 + 1, 0, none⟩) (by show _ ≠ w.heap.size + 1 + 1; omega) (.int .i64 0))
  rw [hpe] at qe qb qp
  rw [hpp] at qp qb
  have dv := (HD3.out.far n2 n7 0 (.int .i64 0))
  have ad5 := (HB.out.new (show w.heap.size ≤ pe by omega) 0 (.int .i64 0))
  generalize (w3.setCell ⟨pe, 0, none⟩ (.int .i64 0)) = wq at *
  have hgx : ¬ g = pe := by omega
  have hgp : ¬ g = pp := by omega
  have hgb : ¬ g = pp + 1 := by omega
  have hgd : ¬ g = d := fun e => dv.2.2 e.symm
  have dr : Row wq.drew d 89 #[.slice (some ⟨g, 0, none⟩) s.bs.length s.cap, .int .i64 s.fuse, .bool s.lit, .bool s.off, .int .i64 s.wr, .int .i64 s.rd] := dv.1.drew
  have qpd := qp.drew
  have qbd := qb.drew
  have hix : (Try.prog.info? 30).map (·.size) = some (blk (full x)).toList.length := by rw [full_len]; exact blkSize
  have hix2 : (Try.prog.info? 30).map (·.size) = some (blk (full x)).size := by rw [blk_size, List.length_replicate]; exact blkSize
  have hth : wq.drew.there g (i * 256) (blk (full x)).size := fun j hj => by
    rw [blk_size, List.length_replicate] at hj
    have h := dv.2.1.2.1 (i * 256 + j) (by
      have : (i + 1) * 256 ≤ s.bs.length * 256 := Nat.mul_le_mul_right _ hi
      show i * 256 + j < s.bs.length * 256
      omega)
    rwa [Nat.zero_add] at h
  refine wp_region_noPanic ?_
  refine wp_region_held_drew (S := fun w' => World.grownBy (wq.drew) w' (some (g))) (by kernel_rfl) ?hb13 (fun hHeld => ?rest13)
  case hb13 =>
    exact Mem.gb_refl _ _
  case' rest13 => skip
  refine wpAnyH_take (i := 0) (v := ?v14) rfl (by kernel_rfl) (by kernel_rfl) (by kernel_rfl) (fun _ _ _ h => h) (Or.inl ⟨by rfl, ?y14⟩) (by assumption) ?rest14
  case y14 => (intro w hSw; have hT0 := (Mem.gb_row hSw qpd (by intro e; injection e with e; omega)).cell 0 rfl; have hT1 := (Mem.gb_row hSw dr (by intro e; injection e with e; omega)).cell 0 rfl; clear hSw; go_simp; try with_reducible rfl)
  case' rest14 => skip
  try simp only [List.getElem_toArray, List.getElem_cons_succ, List.getElem_cons_zero, Act.put, List.setIfInBounds_toArray, List.set_cons_zero, List.set_cons_succ]
  refine wpAnyH_take (i := 1) (v := ?v15) rfl (by kernel_rfl) (by kernel_rfl) (by kernel_rfl) (fun _ _ _ h => h) (Or.inl ⟨by rfl, ?y15⟩) (by assumption) ?rest15
  case y15 => (intro w hSw; have hT0 := (Mem.gb_row hSw qpd (by intro e; injection e with e; omega)).cell 0 rfl; have hT1 := (Mem.gb_row hSw dr (by intro e; injection e with e; omega)).cell 0 rfl; clear hSw; go_simp; try with_reducible rfl)
  case' rest15 => skip
  try simp only [List.getElem_toArray, List.getElem_cons_succ, List.getElem_cons_zero, Act.put, List.setIfInBounds_toArray, List.set_cons_zero, List.set_cons_succ]
  refine wpAnyH_take (i := 2) (v := ?v16) rfl (by kernel_rfl) (by kernel_rfl) (by kernel_rfl) (fun _ _ _ h => h) (Or.inl ⟨by rfl, ?y16⟩) (by assumption) ?rest16
  case y16 => (intro w hSw; have hT0 := (Mem.gb_row hSw qpd (by intro e; injection e with e; omega)).cell 0 rfl; have hT1 := (Mem.gb_row hSw dr (by intro e; injection e with e; omega)).cell 0 rfl; clear hSw; go_simp; try with_reducible rfl)
  case' rest16 => skip
  try simp only [List.getElem_toArray, List.getElem_cons_succ, List.getElem_cons_zero, Act.put, List.setIfInBounds_toArray, List.set_cons_zero, List.set_cons_succ]
  refine wpAnyH_take (i := 3) (v := ?v17) rfl (by kernel_rfl) (by kernel_rfl) (by kernel_rfl) (fun _ _ _ h => h) (Or.inl ⟨by rfl, ?y17⟩) (by assumption) ?rest17
  case y17 => (intro w hSw; have hT0 := (Mem.gb_row hSw qpd (by intro e; injection e with e; omega)).cell 0 rfl; have hT1 := (Mem.gb_row hSw dr (by intro e; injection e with e; omega)).cell 0 rfl; clear hSw; go_simp; try with_reducible rfl)
  case' rest17 => skip
  try simp only [List.getElem_toArray, List.getElem_cons_succ, List.getElem_cons_zero, Act.put, List.setIfInBounds_toArray, List.set_cons_zero, List.set_cons_succ]
  refine wpAnyH_take (i := 4) (v := ?v18) rfl (by kernel_rfl) (by kernel_rfl) (by kernel_rfl) (fun _ _ _ h => h) (Or.inl ⟨by rfl, ?y18⟩) (by assumption) ?rest18
  case y18 => (intro w hSw; have hT0 := (Mem.gb_row hSw qpd (by intro e; injection e with e; omega)).cell 0 rfl; have hT1 := (Mem.gb_row hSw dr (by intro e; injection e with e; omega)).cell 0 rfl; clear hSw; go_simp; try with_reducible rfl)
  case' rest18 => skip
  try simp only [List.getElem_toArray, List.getElem_cons_succ, List.getElem_cons_zero, Act.put, List.setIfInBounds_toArray, List.set_cons_zero, List.set_cons_succ]
  first
    | refine' wpAnyH_take (i := 5) (v := _) rfl (by kernel_rfl) (by kernel_rfl) (by kernel_rfl) (fun _ _ _ h => h) (yieldsIf_load_mid (by rfl) _ _ rfl _ _ rfl _ _ (fun w hSw => (Mem.gb_row hSw qbd (by intro e; injection e with e; omega)).range) blkUnd rfl hix) (by assumption) ?rest19
    | refine wpAnyH_take (i := 5) (v := undef) rfl (by kernel_rfl) (by kernel_rfl) (by kernel_rfl) (fun _ _ _ h => h) (Or.inr ⟨by rfl, rfl⟩) (by assumption) ?rest19
  case' rest19 => skip
  try simp only [List.getElem_toArray, List.getElem_cons_succ, List.getElem_cons_zero, Act.put, List.setIfInBounds_toArray, List.set_cons_zero, List.set_cons_succ]
  refine wpAnyH_take (i := 6) (v := ?v20) rfl (by kernel_rfl) (by kernel_rfl) (by kernel_rfl) (fun _ _ _ h => h) (Or.inl ⟨by rfl, ?y20⟩) (by assumption) ?rest20
  case y20 => (intro w hSw; have hT0 := (Mem.gb_row hSw qpd (by intro e; injection e with e; omega)).cell 0 rfl; have hT1 := (Mem.gb_row hSw dr (by intro e; injection e with e; omega)).cell 0 rfl; clear hSw; go_simp; try with_reducible rfl)
  case' rest20 => skip
  try simp only [List.getElem_toArray, List.getElem_cons_succ, List.getElem_cons_zero, Act.put, List.setIfInBounds_toArray, List.set_cons_zero, List.set_cons_succ]
  refine wpAnyH_ready (rs := [7]) (by kernel_rfl) (by simp) ?_
  refine AllReadyH.cons rfl (fun K hK => ?_) AllReadyH.nil
  rw [if_pos (by rfl)]
  refine wp_store_mid 30 _ _ rfl g (i * 256) (blk (full x)) rfl rfl hth hix2 (blk_one _) ?_; have hSnew := gb_setCells hHeld (i * 256) (blk (full x)).toList
  refine hK.out _ _ ?_ (fun hHeld2 => ?_)
  · exact hSnew
  clear hK K hHeld hSnew
  have hHeld := hHeld2
  clear hHeld2
  try simp only [List.getElem_toArray, List.getElem_cons_succ, List.getElem_cons_zero, Act.put, List.setIfInBounds_toArray, List.set_cons_zero, List.set_cons_succ]
  refine wpAnyH_done (by kernel_rfl) ?_ _
  have dz : Dev (wq.drew.setCells g (i * 256) (blk (full x)).toList) d g _ := dev_blk (x := x) (i := i) (show Dev wq.drew d g _ from dv) hi
  have qez : Row (wq.drew.setCells g (i * 256) (blk (full x)).toList) pe 33 _ := (setCells_heap g _ (i * 256) wq.drew pe (by omega)).trans qe
  have qpz : Row (wq.drew.setCells g (i * 256) (blk (full x)).toList) pp 24 _ := (setCells_heap g _ (i * 256) wq.drew pp (by omega)).trans qp
  have adz := (ad5.drew).cells (i * 256) (blk (full x)).toList
  refine NoPanic.normal ?_
  generalize wq.drew.setCells g (i * 256) (blk (full x)).toList = wz at *
  have cz := qez.cell 0 rfl
  have fez := qez.frozen 0
  have hwz : ∃ u, wz.cell? ⟨pe, 0, none⟩ = some u := ⟨_, cz⟩
  obtain ⟨u0, cz0⟩ := hwz
  clear cz hHeld dr qpd qbd hth
  go_wp2_with fail
  have q1 := qez.put 0 (.int .i64 0)
  have d1 := dz.far n2 n7 0 (.int .i64 0)
  have p1 := qpz.farCell (a := ⟨pe, 0, none⟩) (by show _ ≠ pe; omega) (.int .i64 0)
  have a1 := adz.new (show w.heap.size ≤ pe by omega) 0 (.int .i64 0)
  generalize wz.setCell ⟨pe, 0, none⟩ (.int .i64 0) = w5 at *
  refine leaves_cons (f := 51) (args := #[.pointer (some ⟨pe, 0, none⟩), .pointer (some ⟨pp, 0, none⟩)]) (by simp) (by simp [go_sem]) ?_
  refine (wr1_yes d pp pe s.wr .returning w5 (q1.cell 0 rfl) (p1.cell 0 rfl) (dev_cells d1).2.2.2.2.1 (d1.1.frozen 4) hw).mono ?_
  rintro e u' w6 ⟨rfl, rfl, rfl⟩
  exact ⟨_, results_cell_int rfl _ _ pe (.int .i64 0) rfl ((q1.farCell (a := ⟨d, 4, none⟩) (by show _ ≠ d; omega) (.int .i64 (s.wr + 1))).cell 0 rfl) Try.underlying33, rfl, by first | exact dev_wr d1 (s.wr + 1) | (have h := dev_wr d1 (s.wr + 1); simp only [ho, hlit] at h; exact h), a1.cell 4 _⟩
end Go.Proofs.Ytechlhmmgabikaa.Dk
