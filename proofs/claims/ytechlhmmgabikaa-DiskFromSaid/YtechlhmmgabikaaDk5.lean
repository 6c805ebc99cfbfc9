/- Contracts of Write. No statement is proved here. -/
import Derived.Test.YtechlhmmgabikaaDk4
import Derived.Laws.ResultCell
namespace Go.Proofs.Ytechlhmmgabikaa.Dk
open Go.RowKit Go.Proofs.Ytechlhmmgabikaa.Mem Go.Proofs.Ytechlhmmgabikaa.Open Go.Proofs.Ytechlhmmgabikaa.Kind Go.Proofs.Ytechlhmmgabikaa.Blk
set_option linter.unusedVariables false
set_option linter.unusedSimpArgs false
theorem results_cell_int {P : Program} {fn : Func} {p : Tmp} {ty : TypeId} {k : IntKind} (h : fn.results = #[.cell p ty]) (tmps : Array Value) (w : World) (g : Nat) (v : Value)
    (hp : tmps.getD p undef = .pointer (some ⟨g, 0, none⟩)) (hc : w.cell? ⟨g, 0, none⟩ = some v) (hu : P.underlying ty = some (.int k)) : (results fn tmps).run P w = .ok v w := by
  have hp' : tmps[p]?.getD undef = .pointer (some ⟨g, 0, none⟩) := by simpa using hp
  have ha : (isAgg ty).run P w = .ok false w := by simp [isAgg, run_underlying hu]
  simp [results, h, hp', asAddr, loadVar, ha, hc]
theorem gb_setCells {w w1 : World} {g : Nat} (h : w.grownBy w1 (some g)) (o : Nat) (vs : List Value) : w.grownBy (w1.setCells g o vs) (some g) :=
  ⟨(setCells_rest g vs o w1).1.trans h.os, (setCells_rest g vs o w1).2.1.trans h.tape, (setCells_rest g vs o w1).2.2.trans h.output, by rw [setCells_size]; exact h.size, fun k hk hne => (setCells_heap g vs o w1 k (fun e => hne (by rw [e]))).trans (h.block k hk hne)⟩
theorem wr1_no (d p q : Nat) (r : Int) (u : FrameMode) (w : World) (h0 : w.cell? ⟨q, 0, none⟩ = some (.int .i64 r)) (hr : (r == 0) = false) :
    CallsD Try.prog 51 #[.pointer (some ⟨q, 0, none⟩), .pointer (some ⟨p, 0, none⟩)] u w fun e u' w' => u' = u ∧ (e = .returned (.tuple #[]) ∧ w' = w) := by
  go_enter_d Try.func51, Try.ntmps51
  go_wp2
  go_end0
  exact ⟨rfl, rfl⟩
theorem wr1_yes (d p q : Nat) (n : Int) (u : FrameMode) (w : World) (h0 : w.cell? ⟨q, 0, none⟩ = some (.int .i64 0)) (h1 : w.cell? ⟨p, 0, none⟩ = some (.pointer (some ⟨d, 0, none⟩))) (h4 : w.cell? ⟨d, 4, none⟩ = some (.int .i64 n)) (hf : w.frozen? ⟨d, 4, none⟩ = false) (hn : 0 ≤ n ∧ n ≤ 1000000) :
    CallsD Try.prog 51 #[.pointer (some ⟨q, 0, none⟩), .pointer (some ⟨p, 0, none⟩)] u w fun e u' w' => u' = u ∧ (e = .returned (.tuple #[]) ∧ w' = w.setCell ⟨d, 4, none⟩ (.int .i64 (n + 1))) := by
  obtain ⟨hn0, hn1⟩ := hn
  go_enter_d Try.func51, Try.ntmps51
  go_wp2
  go_end0
  exact ⟨rfl, rfl⟩
set_option maxHeartbeats 1000000 in
set_option maxRecDepth 100000 in
theorem write_no (d g : Nat) (s : Dv) (no : Int) (x : Nat) (w : World) (hd : Dev w d g s) (hl : s.bs.length ≤ 1000) (hm : mayE s no ≠ 0) :
    Calls Try.prog 26 #[.pointer (some ⟨d, 0, none⟩), .int .i64 no, .agg (blk (full x))] w fun e w' => e = .returned (.int .i64 (mayE s no)) ∧ Dev w' d g s ∧ Below w.heap.size w w' := by
  have CM := Lib.hid (fun w' h => may_any d g s no w' h hl)
  have HD := Lib.hid (fun w' h => hd.keep (w' := w') h)
  generalize mayE s no = r at *
  go_enter_defers Try.func26, Try.ntmps26
  go_wp2_with fail
  have Pp : Row (((w.alloc (.cells #[.pointer (some ⟨d, 0, none⟩)] 24)).alloc (.cells (blk (full x)) 30)).alloc (.cells #[.int .i64 0] 33)) w.heap.size 24 #[.pointer (some ⟨d, 0, none⟩)] := ((Row.new _ _ _).alloc _).alloc _
  have Pb : Row (((w.alloc (.cells #[.pointer (some ⟨d, 0, none⟩)] 24)).alloc (.cells (blk (full x)) 30)).alloc (.cells #[.int .i64 0] 33)) (w.heap.size + 1) 30 (blk (full x)) := by
    have := (Row.new (w.alloc (.cells #[.pointer (some ⟨d, 0, none⟩)] 24)) 30 (blk (full x))).alloc (.cells #[.int .i64 0] 33)
    rwa [show (w.alloc (.cells #[.pointer (some ⟨d, 0, none⟩)] 24)).heap.size = w.heap.size + 1 from by simp] at this
  have Pe : Row (((w.alloc (.cells #[.pointer (some ⟨d, 0, none⟩)] 24)).alloc (.cells (blk (full x)) 30)).alloc (.cells #[.int .i64 0] 33)) (w.heap.size + 1 + 1) 33 #[.int .i64 0] := by
    have := Row.new ((w.alloc (.cells #[.pointer (some ⟨d, 0, none⟩)] 24)).alloc (.cells (blk (full x)) 30)) 33 #[.int .i64 0]
    rwa [show ((w.alloc (.cells #[.pointer (some ⟨d, 0, none⟩)] 24)).alloc (.cells (blk (full x)) 30)).heap.size = w.heap.size + 1 + 1 from by simp] at this
  have hb : Below w.heap.size w (((w.alloc (.cells #[.pointer (some ⟨d, 0, none⟩)] 24)).alloc (.cells (blk (full x)) 30)).alloc (.cells #[.int .i64 0] 33)) := (((Below.refl _ _).alloc (Nat.le_refl _) _).alloc (by simp) _).alloc (by simp; omega) _
  generalize ((w.alloc (.cells #[.pointer (some ⟨d, 0, none⟩)] 24)).alloc (.cells (blk (full x)) 30)).alloc (.cells #[.int .i64 0] 33) = w3 at *
  refine (CM.out w3 (HD.out w3 hb)).mono ?_
  rintro e w4 ⟨rfl, hw4⟩
  subst w4
  have hne : (r != 0) = true := by rw [bne_iff_ne]; exact hm
  have c1 := Pe.cell 0 rfl
  have f1 := Pe.frozen 0
  have hb2 := hb.setCell (p := ⟨w.heap.size + 1 + 1, 0, none⟩) (by show w.heap.size ≤ w.heap.size + 1 + 1; omega) (.int .i64 r)
  have HB2 := Lib.hid hb2
  have PE := Lib.hid (Pe.put 0 (.int .i64 r))
  clear Pp Pb Pe hb hb2
  go_wp2_with fail
  have hb4 := HB2.out.setCell (p := ⟨w.heap.size + 1 + 1, 0, none⟩) (by show w.heap.size ≤ w.heap.size + 1 + 1; omega) (.int .i64 r)
  exact ⟨_, results_cell_int rfl _ _ (w.heap.size + 1 + 1) (.int .i64 r) rfl ((PE.out.put 0 (.int .i64 r)).cell 0 rfl) Try.underlying33, rfl, HD.out _ hb4, hb4⟩
end Go.Proofs.Ytechlhmmgabikaa.Dk
