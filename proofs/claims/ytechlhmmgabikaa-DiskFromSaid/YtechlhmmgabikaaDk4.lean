/- Contracts of Read and Write. No statement is proved here. -/
import Derived.Test.YtechlhmmgabikaaDk3
namespace Go.Proofs.Ytechlhmmgabikaa.Dk
open Go.RowKit Go.Proofs.Ytechlhmmgabikaa.Mem Go.Proofs.Ytechlhmmgabikaa.Open Go.Proofs.Ytechlhmmgabikaa.Kind Go.Proofs.Ytechlhmmgabikaa.Blk
set_option linter.unusedVariables false
set_option linter.unusedSimpArgs false
theorem results_cell_tmp {P : Program} {fn : Func} {p t2 : Tmp} {ty : TypeId} (h : fn.results = #[.cell p ty, .tmp t2]) (tmps : Array Value) (w : World) (g : Nat) (t : TypeId) (cs : Array Value) (fr : Nat × Nat) (d : TypeDesc)
    (hp : tmps.getD p undef = .pointer (some ⟨g, 0, none⟩)) (hg : w.heap[g]? = some (.cells cs t fr))
    (hu : P.underlying ty = some d) (hd : (match d with | .struct _ | .array _ _ => true | _ => false) = true) (hi : (P.info? ty).map (·.size) = some cs.size) :
    (results fn tmps).run P w = .ok (.tuple #[.agg cs, tmps.getD t2 undef]) w := by
  have hp' : tmps[p]?.getD undef = .pointer (some ⟨g, 0, none⟩) := by simpa using hp
  simp [results, h, hp', asAddr, run_loadVar_row w g t ty cs fr d hg hu hd hi]
theorem rd1_d (d p : Nat) (n : Int) (u : FrameMode) (w : World) (h0 : w.cell? ⟨p, 0, none⟩ = some (.pointer (some ⟨d, 0, none⟩))) (h5 : w.cell? ⟨d, 5, none⟩ = some (.int .i64 n)) (hf : w.frozen? ⟨d, 5, none⟩ = false) (hn : 0 ≤ n ∧ n ≤ 1000000) :
    CallsD Try.prog 50 #[.pointer (some ⟨p, 0, none⟩)] u w fun e u' w' => u' = u ∧ (e = .returned (.tuple #[]) ∧ w' = w.setCell ⟨d, 5, none⟩ (.int .i64 (n + 1))) := by
  obtain ⟨hn0, hn1⟩ := hn
  go_enter_d Try.func50, Try.ntmps50
  go_wp2
  go_end0
  exact ⟨rfl, rfl⟩
set_option maxHeartbeats 1000000 in
set_option maxRecDepth 100000 in
theorem read_no (d g : Nat) (s : Dv) (no : Int) (w : World) (hd : Dev w d g s) (hl : s.bs.length ≤ 1000) (hm : mayE s no ≠ 0) :
    Calls Try.prog 14 #[.pointer (some ⟨d, 0, none⟩), .int .i64 no] w fun e w' => e = .returned (.tuple #[.agg (blk zblk), .int .i64 (mayE s no)]) ∧ Dev w' d g s ∧ Below w.heap.size w w' := by
  have CM := Lib.hid (fun w' h => may_any d g s no w' h hl)
  have HD := Lib.hid (fun w' h => hd.keep (w' := w') h)
  generalize mayE s no = r at *
  go_enter_defers Try.func14, Try.ntmps14
  go_wp2_with (with_reducible refine wpList_allocA rfl 30 rfl _ blkZero ?_)
  have P0 : Row ((w.alloc (.cells #[.pointer (some ⟨d, 0, none⟩)] 24)).alloc (.cells (blk zblk) 30)) w.heap.size 24 #[.pointer (some ⟨d, 0, none⟩)] := heap_alloc2_old w _ _
  have p0 : ((w.alloc (.cells #[.pointer (some ⟨d, 0, none⟩)] 24)).alloc (.cells (blk zblk) 30)).cell? ⟨w.heap.size, 0, none⟩ = some (.pointer (some ⟨d, 0, none⟩)) := P0.cell 0 rfl
  have b1 := heap_alloc2_new w (.cells #[.pointer (some ⟨d, 0, none⟩)] 24) (.cells (blk zblk) 30)
  have hb : Below w.heap.size w ((w.alloc (.cells #[.pointer (some ⟨d, 0, none⟩)] 24)).alloc (.cells (blk zblk) 30)) := ((Below.refl _ _).alloc (Nat.le_refl _) _).alloc (by simp) _
  generalize (w.alloc (.cells #[.pointer (some ⟨d, 0, none⟩)] 24)).alloc (.cells (blk zblk) 30) = w2 at *
  have hd2 := HD.out w2 hb
  refine (CM.out w2 hd2).mono ?_
  rintro e w3 ⟨rfl, hw3⟩
  subst w3
  have hz : (blk zblk).size = 256 := zblk_size
  have hne : (r != 0) = true := by rw [bne_iff_ne]; exact hm
  go_wp2_with (first
    | (with_reducible refine wpList_load rfl 30 _ rfl _ rfl 30 (blk zblk) 256 5 blkUnd blkSize hz b1 ?_)
    | (with_reducible refine wpList_store rfl 30 _ _ rfl _ rfl (blk zblk) rfl (blk zblk) 30 256 blkSize hz hz (blk_one _) b1 ?_))
  have hb3 := below_setRow hb (by omega : w.heap.size ≤ w.heap.size + 1) (blk zblk)
  exact ⟨_, results_cell_tmp rfl _ _ (w.heap.size + 1) 30 (blk zblk) (0, 0) _ rfl (setRow_heap _ _ _ _ _ _ b1) blkUnd rfl (by rw [hz]; exact blkSize), rfl, HD.out _ hb3, hb3⟩
theorem dev_read {w w' : World} {d g : Nat} {s : Dv} (h : Dev w d g s) (hw : w' = w.setCell ⟨d, 5, none⟩ (.int .i64 (s.rd + 1))) : Dev w' d g { s with rd := s.rd + 1 } := by
  subst hw
  refine ⟨?_, h.2.1.keep (Below.heap_setCell w ⟨d, 5, none⟩ _ g (fun e => h.2.2 e.symm)) (by simp [World.setCell]), h.2.2⟩
  exact h.1.put 5 _
set_option maxHeartbeats 1000000 in
set_option maxRecDepth 100000 in
theorem read_ok (d g : Nat) (s : Dv) (i : Nat) (w : World) (hd : Dev w d g s) (hl : s.bs.length ≤ 1000) (hi : i < s.bs.length) (ho : s.off = false) (hr : 0 ≤ s.rd ∧ s.rd ≤ 1000000) :
    Calls Try.prog 14 #[.pointer (some ⟨d, 0, none⟩), .int .i64 i] w fun e w' => e = .returned (.tuple #[.agg (blk (full s.bs[i])), .int .i64 0]) ∧ Dev w' d g { s with rd := s.rd + 1 } ∧ Asd d g w w' := by
  have hm : mayE s i = 0 := by unfold mayE; rw [ho, if_neg (by simp), if_neg (by omega)]
  have CM := Lib.hid (fun w' h => may_any d g s i w' h hl)
  have HD := Lib.hid (fun w' h => hd.keep (w' := w') h)
  rw [hm] at CM
  clear hm
  have hmf : ∀ (fn : Fn) (first cap : Array Value) (w : World), (Instr.makeFunc fn first cap).run Try.prog w = .ok (.func fn first cap) w := fun _ _ _ _ => rfl
  go_enter_defers Try.func14, Try.ntmps14
  go_wp2_with (with_reducible refine wpList_allocA rfl 30 rfl _ blkZero ?_)
  have P0 : Row ((w.alloc (.cells #[.pointer (some ⟨d, 0, none⟩)] 24)).alloc (.cells (blk zblk) 30)) w.heap.size 24 #[.pointer (some ⟨d, 0, none⟩)] := heap_alloc2_old w _ _
  have p0 : ((w.alloc (.cells #[.pointer (some ⟨d, 0, none⟩)] 24)).alloc (.cells (blk zblk) 30)).cell? ⟨w.heap.size, 0, none⟩ = some (.pointer (some ⟨d, 0, none⟩)) := P0.cell 0 rfl
  have b1 := heap_alloc2_new w (.cells #[.pointer (some ⟨d, 0, none⟩)] 24) (.cells (blk zblk) 30)
  have hb : Below w.heap.size w ((w.alloc (.cells #[.pointer (some ⟨d, 0, none⟩)] 24)).alloc (.cells (blk zblk) 30)) := ((Below.refl _ _).alloc (Nat.le_refl _) _).alloc (by simp) _
  generalize (w.alloc (.cells #[.pointer (some ⟨d, 0, none⟩)] 24)).alloc (.cells (blk zblk) 30) = w2 at *
  have hd2 := HD.out w2 hb
  refine (CM.out w2 hd2).mono ?_
  rintro e w3 ⟨rfl, hw3⟩
  subst w3
  have hdsz : d < w.heap.size := hd.1.lt
  have hgsz : g < w.heap.size := hd.2.1.2.2
  have hdg := hd.2.2
  have hz : (blk zblk).size = 256 := zblk_size
  have hs : (blk (full s.bs[i])).size = 256 := by rw [blk_size, List.length_replicate]
  have hrng := hd2.2.1.1 i s.bs[i] (List.getElem?_eq_getElem hi)
  have hc0 := (dev_cells hd2).1
  have hlen := full_len s.bs[i]
  have hinf : (Try.prog.info? 30).map (·.size) = some (blk (full s.bs[i])).toList.length := by rw [hlen]; exact blkSize
  clear hd hlen
  go_wp2_with (first
    | (with_reducible refine wpList_load_mid rfl 30 _ rfl g (i * 256) rfl (blk (full s.bs[i])).toList _ hrng blkUnd rfl hinf ?_)
    | (with_reducible refine wpList_store rfl 30 _ _ rfl _ rfl (blk (full s.bs[i])) rfl (blk zblk) 30 256 blkSize hs hz (blk_one _) b1 ?_))
  have hb4 := below_setRow hb (by omega : w.heap.size ≤ w.heap.size + 1) (blk (full s.bs[i]))
  have hd4 := HD.out _ hb4
  have P4 := P0.far (k := w.heap.size + 1) (by omega) (blk (full s.bs[i]))
  have b4 := setRow_heap w2 (w.heap.size + 1) (blk zblk) (blk (full s.bs[i])) 30 (0, 0) b1
  generalize w2.setRow (w.heap.size + 1) (blk (full s.bs[i])) = w4 at *
  refine leaves_cons (f := 50) (args := #[.pointer (some ⟨w.heap.size, 0, none⟩)]) (by simp) (by simp [go_sem]) ?_
  refine (rd1_d d w.heap.size s.rd .returning w4 (P4.cell 0 rfl) (dev_cells hd4).2.2.2.2.2 (hd4.1.frozen 5) hr).mono ?_
  rintro e u' w5 ⟨rfl, rfl, rfl⟩
  exact ⟨_, results_cell_tmp rfl _ _ (w.heap.size + 1) 30 (blk (full s.bs[i])) (0, 0) _ rfl ((Below.heap_setCell w4 ⟨d, 5, none⟩ _ (w.heap.size + 1) (by show w.heap.size + 1 ≠ d; omega)).trans b4) blkUnd rfl (by rw [hs]; exact blkSize), rfl, dev_read hd4 rfl, (Asd.of hb4).cell 5 _⟩
end Go.Proofs.Ytechlhmmgabikaa.Dk
