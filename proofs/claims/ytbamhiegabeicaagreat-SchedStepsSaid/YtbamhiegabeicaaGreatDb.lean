/- A device in memory, of any blocks at all; contracts of its methods. No statement is proved here. -/
import Derived.Test.YtbamhiegabeicaaGreatApp
import Derived.Deep.MidRow
import Derived.Deep.DeepCutAuto
import Derived.Deep.CutBlock
import Derived.Defers
import Derived.Laws.ResultCell
namespace Go.Proofs.YtbamhiegabeicaaGreat.Db
open Go.RowKit Go.Proofs.YtbamhiegabeicaaGreat.Mem Go.Proofs.YtbamhiegabeicaaGreat.Open Go.Proofs.YtbamhiegabeicaaGreat.Kind Go.Proofs.YtbamhiegabeicaaGreat.Blk
set_option linter.unusedVariables false
set_option linter.unusedSimpArgs false
theorem cell_same {w w' : World} {g : Nat} (h : w'.heap[g]? = w.heap[g]?) (o : Nat) : w'.cell? ⟨g, o, none⟩ = w.cell? ⟨g, o, none⟩ := by simp [World.cell?, h]
theorem frozen_same {w w' : World} {g : Nat} (h : w'.heap[g]? = w.heap[g]?) (o : Nat) : w'.frozen? ⟨g, o, none⟩ = w.frozen? ⟨g, o, none⟩ := by simp [World.frozen?, h]
/-- Blocks, each of which has one byte all over. -/
def Bks (w : World) (g : Nat) (bs : List (List Nat)) : Prop := (∀ i x, bs[i]? = some x → x.length = 256 ∧ w.rangeAt g (i * 256) (blk x).toList) ∧ w.there g 0 (bs.length * 256) ∧ g < w.heap.size
theorem full_len {x : List Nat} (h : x.length = 256) : (blk x).toList.length = 256 := by rw [Array.length_toList, blk_size, h]
theorem Bks.keep {w w' : World} {g : Nat} {bs : List (List Nat)} (h : Bks w g bs) (hk : w'.heap[g]? = w.heap[g]?) (hs : w.heap.size ≤ w'.heap.size) : Bks w' g bs :=
  ⟨fun i x hi => ⟨(h.1 i x hi).1, fun j v hv => (cell_same hk _).trans ((h.1 i x hi).2 j v hv)⟩, fun j hj => by rw [cell_same hk, frozen_same hk]; exact h.2.1 j hj, Nat.lt_of_lt_of_le h.2.2 hs⟩
theorem setCells_heap (g : Nat) : ∀ (vs : List Value) (o : Nat) (w : World) (k : Nat), k ≠ g → (w.setCells g o vs).heap[k]? = w.heap[k]?
  | [], _, _, _, _ => rfl
  | v :: r, o, w, k, h => by
    rw [World.setCells, setCells_heap g r (o + 1) _ k h]
    exact Below.heap_setCell w ⟨g, o, none⟩ v k h
theorem setCells_size (g : Nat) : ∀ (vs : List Value) (o : Nat) (w : World), (w.setCells g o vs).heap.size = w.heap.size
  | [], _, _ => rfl
  | v :: r, o, w => by
    rw [World.setCells, setCells_size g r (o + 1)]
    simp [World.setCell]
theorem setCells_rest (g : Nat) : ∀ (vs : List Value) (o : Nat) (w : World), (w.setCells g o vs).os = w.os ∧ (w.setCells g o vs).tape = w.tape ∧ (w.setCells g o vs).output = w.output
  | [], _, _ => ⟨rfl, rfl, rfl⟩
  | v :: r, o, w => by
    rw [World.setCells]
    exact setCells_rest g r (o + 1) (w.setCell ⟨g, o, none⟩ v)
theorem Bks.store {w : World} {g i : Nat} {x : List Nat} {bs : List (List Nat)} (h : Bks w g bs) (hx : x.length = 256) (hi : i < bs.length) : Bks (w.setCells g (i * 256) (blk x).toList) g (bs.set i x) := by
  have hth : w.there g (i * 256) (blk x).toList.length := fun j hj => by
    rw [full_len hx] at hj
    have := h.2.1 (i * 256 + j) (by
      have : (i + 1) * 256 ≤ bs.length * 256 := Nat.mul_le_mul_right _ hi
      omega)
    rwa [Nat.zero_add] at this
  refine ⟨fun k y hk => ?_, ?_, by rw [setCells_size]; exact h.2.2⟩
  · rw [List.getElem?_set] at hk
    by_cases e : i = k
    · subst e
      rw [if_pos rfl, if_pos hi] at hk
      injection hk with hk
      subst hk
      exact ⟨hx, World.rangeAt_setCells_same w g _ _ hth⟩
    · rw [if_neg e] at hk
      refine ⟨(h.1 k y hk).1, World.rangeAt_setCells_apart (h.1 k y hk).2 g _ _ (.inr ?_)⟩
      rw [full_len (h.1 k y hk).1, full_len hx]
      rcases Nat.lt_or_gt_of_ne e with h1 | h1
      · exact .inr (by omega)
      · exact .inl (by omega)
  · rw [List.length_set]
    exact World.there_setCells h.2.1 g _ _
structure Dv where
  bs : List (List Nat)
  fuse : Int
  lit : Bool
  off : Bool
  wr : Int
  rd : Int
  cap : Nat
abbrev dvC (s : Dv) (g : Nat) : Array Value := #[.slice (some ⟨g, 0, none⟩) s.bs.length s.cap, .int .i64 s.fuse, .bool s.lit, .bool s.off, .int .i64 s.wr, .int .i64 s.rd]
/-- A device in two blocks. -/
def Dev (w : World) (d g : Nat) (s : Dv) : Prop := Row w d 85 (dvC s g) ∧ Bks w g s.bs ∧ d ≠ g
/-- Nothing but these two has changed. -/
structure Asd (d g : Nat) (w w' : World) : Prop where
  os : w'.os = w.os
  tape : w'.tape = w.tape
  output : w'.output = w.output
  size : w.heap.size ≤ w'.heap.size
  block : ∀ k, k < w.heap.size → k ≠ d → k ≠ g → w'.heap[k]? = w.heap[k]?
theorem Asd.refl (d g : Nat) (w : World) : Asd d g w w := ⟨rfl, rfl, rfl, Nat.le_refl _, fun _ _ _ _ => rfl⟩
theorem Asd.trans {d g : Nat} {a b c : World} (h : Asd d g a b) (h' : Asd d g b c) : Asd d g a c :=
  ⟨h'.os.trans h.os, h'.tape.trans h.tape, h'.output.trans h.output, Nat.le_trans h.size h'.size, fun k h1 h2 h3 => (h'.block k (Nat.lt_of_lt_of_le h1 h.size) h2 h3).trans (h.block k h1 h2 h3)⟩
theorem Asd.of {d g : Nat} {w w' : World} (h : Below w.heap.size w w') : Asd d g w w' := ⟨h.os, h.tape, h.output, h.size, fun k h1 _ _ => h.block k h1⟩
theorem Asd.cell {d g : Nat} {a w : World} (h : Asd d g a w) (i : Nat) (v : Value) : Asd d g a (w.setCell ⟨d, i, none⟩ v) :=
  h.trans ⟨rfl, rfl, rfl, by simp [World.setCell], fun k _ h2 _ => Below.heap_setCell w ⟨d, i, none⟩ v k h2⟩
theorem Asd.cells {d g : Nat} {a w : World} (h : Asd d g a w) (o : Nat) (vs : List Value) : Asd d g a (w.setCells g o vs) :=
  h.trans ⟨(setCells_rest g vs o w).1, (setCells_rest g vs o w).2.1, (setCells_rest g vs o w).2.2, by rw [setCells_size]; exact Nat.le_refl _, fun k _ _ h3 => setCells_heap g vs o w k h3⟩
theorem Asd.drew {d g : Nat} {a w : World} (h : Asd d g a w) : Asd d g a w.drew := h.trans ⟨rfl, rfl, rfl, Nat.le_refl _, fun _ _ _ _ => rfl⟩
theorem Asd.below {B d g : Nat} {a w w' : World} (hb : Below B a w) (h : Asd d g w w') (hd : B ≤ d) (hg : B ≤ g) (hB : B ≤ a.heap.size) : Below B a w' :=
  ⟨h.os.trans hb.os, h.tape.trans hb.tape, h.output.trans hb.output, Nat.le_trans hb.size h.size, fun k hk => (h.block k (by have := hb.size; omega) (by omega) (by omega)).trans (hb.block k hk)⟩
theorem Dev.keep {w w' : World} {d g : Nat} {s : Dv} (h : Dev w d g s) (hb : Below w.heap.size w w') : Dev w' d g s :=
  ⟨h.1.below hb, h.2.1.keep (hb.block g h.2.1.2.2) hb.size, h.2.2⟩
theorem blkInfo3 : (Tryz.prog.info? 78).map (fun i => (i.zero, i.size, i.bytes)) = some (some (.agg (blk zblk)), 256, 256) := by kernel_rfl
theorem rep_get (x i : Nat) (h : i < 256) : (blk (List.replicate 256 x))[i]? = some (V8 x) := by
  have h1 : i < (List.replicate 256 x).length := by rw [List.length_replicate]; exact h
  rw [blk_get _ _ h1]
  show some (Value.int .u8 (((List.replicate 256 x)[i]'h1 : Nat) : Int)) = _
  rw [List.getElem_replicate]
  rfl
theorem zblk_rep : List.replicate 256 0 = zblk := rfl
theorem zblk_get (i : Nat) (h : i < 256) : (blk zblk)[i]? = some (V8 0) := by rw [← zblk_rep]; exact rep_get 0 i h
theorem zblk_len : zblk.length = 256 := by rw [← zblk_rep, List.length_replicate]
theorem zblk_at (i : Nat) : (blk zblk)[i % 256]! = V8 0 := by
  have h : i % 256 < 256 := Nat.mod_lt _ (by decide)
  have h2 : i % 256 < (blk zblk).size := by rw [zblk_size]; exact h
  rw [getElem!_pos (blk zblk) _ h2]
  have h3 := zblk_get (i % 256) h
  rw [Array.getElem?_eq_getElem h2] at h3
  exact Option.some.inj h3
theorem bks_made {w : World} {n : Nat} : Bks (w.alloc (.cells (madeCells (blk zblk) (n * 256)) 78)) w.heap.size (List.replicate n zblk) := by
  have hh := heap_alloc_new w (.cells (madeCells (blk zblk) (n * 256)) 78)
  have hc : ∀ i, i < n * 256 → (madeCells (blk zblk) (n * 256))[i]? = some (V8 0) := fun i hi => by
    unfold madeCells
    rw [Array.getElem?_map, Array.getElem?_range, if_pos hi]
    show some ((blk zblk)[i % (blk zblk).size]!) = _
    rw [zblk_size, zblk_at]
  refine ⟨fun i x hx => ?_, fun j hj => ?_, by simp⟩
  · have hi : i < n := by have := (List.getElem?_eq_some_iff.1 hx).1; simpa using this
    obtain rfl : x = zblk := by rw [List.getElem?_replicate, if_pos hi] at hx; injection hx with hx; exact hx.symm
    refine ⟨zblk_len, fun j v hv => ?_⟩
    have hj : j < 256 := by have := (List.getElem?_eq_some_iff.1 hv).1; rwa [full_len (zblk_len)] at this
    have hv2 : v = V8 0 := by
      have : (blk zblk).toList[j]? = some (V8 0) := by rw [Array.getElem?_toList]; exact zblk_get j hj
      rw [this] at hv
      injection hv with hv
      exact hv.symm
    subst hv2
    refine row_cell hh _ _ (hc _ ?_)
    have : (i + 1) * 256 ≤ n * 256 := Nat.mul_le_mul_right _ hi
    omega
  · rw [List.length_replicate] at hj
    rw [Nat.zero_add]
    exact ⟨by rw [row_cell hh _ _ (hc j hj)]; rfl, frozen_of_row _ _ _ _ _ hh⟩
theorem wpList_makeB {P : Program} {ops : Array Oper} {rest : List Oper} {o : Oper} {a : Act} {w : World} {Q : Exit → Act → World → Prop} (hP : P = Tryz.prog) (hgd : o.guard = none) (x y : Operand) (ho : o.op = .makeSlice 74 x y)
    (n : Nat) (hx : a.eval x = .int .i64 n) (hy : a.eval y = .int .i64 n) (hn : n ≤ 1000)
    (h : ∀ w', Bks w' w.heap.size (List.replicate n zblk) → Below w.heap.size w w' → w.heap.size < w'.heap.size → wpList P ops Q rest (a.put o.dst (.slice (some ⟨w.heap.size, 0, none⟩) n n)) w') : wpList P ops Q (o :: rest) a w :=
  wpList_plain hgd fun _ hK => by
    subst hP
    obtain ⟨i0, hi, hz, hz1, hz2⟩ := info_parts blkInfo3
    have hb : (i0.bytes : Int) * (n : Int) ≤ 281474976710656 := by rw [hz2]; omega
    have hr := run_make (P := Tryz.prog) w 74 78 i0 (.agg (blk zblk)) Tryz.underlying74 hi hz .i64 .i64 n n (by omega) (by omega) hb (by omega)
    rw [hz1, Int.toNat_natCast] at hr
    unfold Oper.wp execOp
    simp only [ho, hx, hy, Sem.run_bind, hr, Result.andThen_ok]
    exact hK _ _ (h _ bks_made ((Below.refl _ _).alloc (Nat.le_refl _) _) (by simp))
end Go.Proofs.YtbamhiegabeicaaGreat.Db

/- Contracts of disk.New, may, Down, Size, Writes, Reads. No statement is proved here. -/
namespace Go.Proofs.YtbamhiegabeicaaGreat.Db
open Go.RowKit Go.Proofs.YtbamhiegabeicaaGreat.Mem Go.Proofs.YtbamhiegabeicaaGreat.Open Go.Proofs.YtbamhiegabeicaaGreat.Kind Go.Proofs.YtbamhiegabeicaaGreat.Blk
set_option linter.unusedVariables false
set_option linter.unusedSimpArgs false
theorem ret_num {a b : Int} (h : a = b) : Ending.returned (.int .i64 a) = .returned (.int .i64 b) := by rw [h]
theorem dev_cells {w : World} {d g : Nat} {s : Dv} (h : Dev w d g s) : w.cell? ⟨d, 0, none⟩ = some (.slice (some ⟨g, 0, none⟩) s.bs.length s.cap) ∧ w.cell? ⟨d, 1, none⟩ = some (.int .i64 s.fuse) ∧ w.cell? ⟨d, 2, none⟩ = some (.bool s.lit) ∧
    w.cell? ⟨d, 3, none⟩ = some (.bool s.off) ∧ w.cell? ⟨d, 4, none⟩ = some (.int .i64 s.wr) ∧ w.cell? ⟨d, 5, none⟩ = some (.int .i64 s.rd) :=
  ⟨h.1.cell 0 rfl, h.1.cell 1 rfl, h.1.cell 2 rfl, h.1.cell 3 rfl, h.1.cell 4 rfl, h.1.cell 5 rfl⟩
def fresh (N : Nat) : Dv := ⟨List.replicate N zblk, 0, false, false, 0, 0, N⟩
set_option maxHeartbeats 1000000 in
set_option maxRecDepth 100000 in
theorem new_any (n : Int) (N : Nat) (hN : (n ≤ 16 ∧ N = 16) ∨ (16 < n ∧ n < 512 ∧ n = N) ∨ (512 ≤ n ∧ N = 512)) (w : World) :
    Calls Tryz.prog 12 #[.int .i64 n] w fun e w' => ∃ d, e = .returned (.pointer (some ⟨d, 0, none⟩)) ∧ ∃ g, Dev w' d g (fresh N) ∧ w.heap.size ≤ d ∧ w.heap.size ≤ g ∧ Below w.heap.size w w' := by
  have hfin : ∀ (w3 : World), Bks w3 w.heap.size (List.replicate N zblk) → Below w.heap.size w w3 → w.heap.size < w3.heap.size → Dev (w3.alloc (.cells #[.slice (some ⟨w.heap.size, 0, none⟩) N N, .int .i64 0, .bool false, .bool false, .int .i64 0, .int .i64 0] 85)) w3.heap.size w.heap.size (fresh N) := by
    intro w3 h1 h2 h3
    refine ⟨?_, h1.keep (Below.heap_alloc w3 _ _ h1.2.2) (by simp), by omega⟩
    have := Row.new w3 85 #[.slice (some ⟨w.heap.size, 0, none⟩) N N, .int .i64 0, .bool false, .bool false, .int .i64 0, .int .i64 0]
    show Row _ _ _ #[.slice _ (List.replicate N zblk).length N, _, _, _, _, _]
    rw [List.length_replicate]
    exact this
  have HF := Lib.hid hfin
  clear hfin
  have hN9 : N ≤ 1000 := by omega
  have h5 : (n < 16 ∧ N = 16) ∨ (n = 16 ∧ N = 16) ∨ (16 < n ∧ n < 512 ∧ n = (N : Int)) ∨ (n = 512 ∧ N = 512) ∨ (512 < n ∧ N = 512) := by omega
  clear hN
  rcases h5 with ⟨h1, rfl⟩ | ⟨rfl, rfl⟩ | ⟨h1, h2, rfl⟩ | ⟨rfl, rfl⟩ | ⟨h1, rfl⟩
  all_goals
    go_enter Tryz.func12, Tryz.ntmps12
    go_wp2_with (at_make; refine wpList_makeB rfl rfl _ _ rfl _ rfl rfl hN9 ?_; intro w3 hbk hb3 hsz3)
    go_ret
    refine ⟨w3.heap.size, rfl, w.heap.size, ?_, by omega, by omega, hb3.alloc (by omega) _⟩
    exact HF.out w3 hbk hb3 hsz3
/-- Why a block can not be gone to. -/
def mayE (s : Dv) (no : Int) : Int := if s.off then 12 else if no < 0 ∨ (s.bs.length : Int) ≤ no then 2 else 0
theorem may_any (d g : Nat) (s : Dv) (no : Int) (w : World) (hd : Dev w d g s) (hl : s.bs.length ≤ 1000) :
    Calls Tryz.prog 77 #[.pointer (some ⟨d, 0, none⟩), .int .i64 no] w fun e w' => e = .returned (.int .i64 (mayE s no)) ∧ w' = w := by
  obtain ⟨c0, _, _, c3, _, _⟩ := dev_cells hd
  have HM : Hid (mayE s no = if s.off then 12 else if no < 0 ∨ (s.bs.length : Int) ≤ no then 2 else 0) := Lib.hid rfl
  clear hd
  generalize mayE s no = r at *
  obtain ⟨bs, fuse, lit, off, wr, rd, cap⟩ := s
  simp only at c0 c3 HM hl
  generalize bs.length = n at *
  cases off with
  | true =>
    go_enter Tryz.func77, Tryz.ntmps77
    go_wp2
    go_ret
    exact ⟨ret_num (by rw [HM.out]; rfl), rfl⟩
  | false =>
    replace HM : Hid (r = if no < 0 ∨ (n : Int) ≤ no then 2 else 0) := HM
    by_cases h1 : no < 0
    · rw [if_pos (.inl h1)] at HM
      go_enter Tryz.func77, Tryz.ntmps77
      go_wp2
      go_ret
      exact ⟨ret_num HM.out.symm, rfl⟩
    by_cases h2 : (n : Int) ≤ no
    · rw [if_pos (.inr h2)] at HM
      go_enter Tryz.func77, Tryz.ntmps77
      go_wp2
      go_ret
      exact ⟨ret_num HM.out.symm, rfl⟩
    · rw [if_neg (by omega)] at HM
      go_enter Tryz.func77, Tryz.ntmps77
      go_wp2
      go_ret
      exact ⟨ret_num HM.out.symm, rfl⟩
theorem writes_any (d g : Nat) (s : Dv) (w : World) (hd : Dev w d g s) :
    Calls Tryz.prog 27 #[.pointer (some ⟨d, 0, none⟩)] w fun e w' => e = .returned (.int .i64 s.wr) ∧ w' = w := by
  obtain ⟨c0, c1, c2, c3, c4, c5⟩ := dev_cells hd
  clear hd
  go_enter Tryz.func27, Tryz.ntmps27
  go_wp2
  go_ret
  exact ⟨rfl, rfl⟩
theorem down_any (d g : Nat) (s : Dv) (w : World) (hd : Dev w d g s) :
    Calls Tryz.prog 28 #[.pointer (some ⟨d, 0, none⟩)] w fun e w' => e = .returned (.bool s.off) ∧ w' = w := by
  obtain ⟨c0, c1, c2, c3, c4, c5⟩ := dev_cells hd
  clear hd
  go_enter Tryz.func28, Tryz.ntmps28
  go_wp2
  go_ret
  exact ⟨rfl, rfl⟩
end Go.Proofs.YtbamhiegabeicaaGreat.Db

/- Contracts of Read and Write. No statement is proved here. -/
namespace Go.Proofs.YtbamhiegabeicaaGreat.Db
open Go.RowKit Go.Proofs.YtbamhiegabeicaaGreat.Mem Go.Proofs.YtbamhiegabeicaaGreat.Open Go.Proofs.YtbamhiegabeicaaGreat.Kind Go.Proofs.YtbamhiegabeicaaGreat.Blk
set_option linter.unusedVariables false
set_option linter.unusedSimpArgs false
theorem results_cell_tmp {P : Program} {fn : Func} {p t2 : Tmp} {ty : TypeId} (h : fn.results = #[.cell p ty, .tmp t2]) (tmps : Array Value) (w : World) (g : Nat) (t : TypeId) (cs : Array Value) (fr : Nat × Nat) (d : TypeDesc)
    (hp : tmps.getD p undef = .pointer (some ⟨g, 0, none⟩)) (hg : w.heap[g]? = some (.cells cs t fr))
    (hu : P.underlying ty = some d) (hd : (match d with | .struct _ | .array _ _ => true | _ => false) = true) (hi : (P.info? ty).map (·.size) = some cs.size) :
    (results fn tmps).run P w = .ok (.tuple #[.agg cs, tmps.getD t2 undef]) w := by
  have hp' : tmps[p]?.getD undef = .pointer (some ⟨g, 0, none⟩) := by simpa using hp
  simp [results, h, hp', asAddr, run_loadVar_row w g t ty cs fr d hg hu hd hi]
theorem rd1_d (d p : Nat) (n : Int) (u : FrameMode) (w : World) (h0 : w.cell? ⟨p, 0, none⟩ = some (.pointer (some ⟨d, 0, none⟩))) (h5 : w.cell? ⟨d, 5, none⟩ = some (.int .i64 n)) (hf : w.frozen? ⟨d, 5, none⟩ = false) (hn : 0 ≤ n ∧ n ≤ 1000000) :
    CallsD Tryz.prog 83 #[.pointer (some ⟨p, 0, none⟩)] u w fun e u' w' => u' = u ∧ (e = .returned (.tuple #[]) ∧ w' = w.setCell ⟨d, 5, none⟩ (.int .i64 (n + 1))) := by
  obtain ⟨hn0, hn1⟩ := hn
  go_enter_d Tryz.func83, Tryz.ntmps83
  go_wp2
  go_end0
  exact ⟨rfl, rfl⟩
set_option maxHeartbeats 1000000 in
set_option maxRecDepth 100000 in
theorem read_no (d g : Nat) (s : Dv) (no : Int) (w : World) (hd : Dev w d g s) (hl : s.bs.length ≤ 1000) (hm : mayE s no ≠ 0) :
    Calls Tryz.prog 63 #[.pointer (some ⟨d, 0, none⟩), .int .i64 no] w fun e w' => e = .returned (.tuple #[.agg (blk zblk), .int .i64 (mayE s no)]) ∧ Dev w' d g s ∧ Below w.heap.size w w' := by
  have CM := Lib.hid (fun w' h => may_any d g s no w' h hl)
  have HD := Lib.hid (fun w' h => hd.keep (w' := w') h)
  generalize mayE s no = r at *
  go_enter_defers Tryz.func63, Tryz.ntmps63
  go_wp2_with (with_reducible refine wpList_allocA rfl 78 rfl _ blkZero ?_)
  have P0 : Row ((w.alloc (.cells #[.pointer (some ⟨d, 0, none⟩)] 27)).alloc (.cells (blk zblk) 78)) w.heap.size 27 #[.pointer (some ⟨d, 0, none⟩)] := heap_alloc2_old w _ _
  have p0 : ((w.alloc (.cells #[.pointer (some ⟨d, 0, none⟩)] 27)).alloc (.cells (blk zblk) 78)).cell? ⟨w.heap.size, 0, none⟩ = some (.pointer (some ⟨d, 0, none⟩)) := P0.cell 0 rfl
  have b1 := heap_alloc2_new w (.cells #[.pointer (some ⟨d, 0, none⟩)] 27) (.cells (blk zblk) 78)
  have hb : Below w.heap.size w ((w.alloc (.cells #[.pointer (some ⟨d, 0, none⟩)] 27)).alloc (.cells (blk zblk) 78)) := ((Below.refl _ _).alloc (Nat.le_refl _) _).alloc (by simp) _
  generalize (w.alloc (.cells #[.pointer (some ⟨d, 0, none⟩)] 27)).alloc (.cells (blk zblk) 78) = w2 at *
  have hd2 := HD.out w2 hb
  refine (CM.out w2 hd2).mono ?_
  rintro e w3 ⟨rfl, hw3⟩
  subst w3
  have hz : (blk zblk).size = 256 := zblk_size
  have hne : (r != 0) = true := by rw [bne_iff_ne]; exact hm
  go_wp2_with (first
    | (with_reducible refine wpList_load rfl 78 _ rfl _ rfl 78 (blk zblk) 256 5 blkUnd blkSize hz b1 ?_)
    | (with_reducible refine wpList_store rfl 78 _ _ rfl _ rfl (blk zblk) rfl (blk zblk) 78 256 blkSize hz hz (blk_one _) b1 ?_))
  have hb3 := below_setRow hb (by omega : w.heap.size ≤ w.heap.size + 1) (blk zblk)
  exact ⟨_, results_cell_tmp rfl _ _ (w.heap.size + 1) 78 (blk zblk) (0, 0) _ rfl (setRow_heap _ _ _ _ _ _ b1) blkUnd rfl (by rw [hz]; exact blkSize), rfl, HD.out _ hb3, hb3⟩
theorem dev_read {w w' : World} {d g : Nat} {s : Dv} (h : Dev w d g s) (hw : w' = w.setCell ⟨d, 5, none⟩ (.int .i64 (s.rd + 1))) : Dev w' d g { s with rd := s.rd + 1 } := by
  subst hw
  refine ⟨?_, h.2.1.keep (Below.heap_setCell w ⟨d, 5, none⟩ _ g (fun e => h.2.2 e.symm)) (by simp [World.setCell]), h.2.2⟩
  exact h.1.put 5 _
set_option maxHeartbeats 1000000 in
set_option maxRecDepth 100000 in
theorem read_ok (d g : Nat) (s : Dv) (i : Nat) (w : World) (hd : Dev w d g s) (hl : s.bs.length ≤ 1000) (hi : i < s.bs.length) (ho : s.off = false) (hr : 0 ≤ s.rd ∧ s.rd ≤ 1000000) :
    Calls Tryz.prog 63 #[.pointer (some ⟨d, 0, none⟩), .int .i64 i] w fun e w' => e = .returned (.tuple #[.agg (blk s.bs[i]), .int .i64 0]) ∧ Dev w' d g { s with rd := s.rd + 1 } ∧ Asd d g w w' := by
  have hm : mayE s i = 0 := by unfold mayE; rw [ho, if_neg (by simp), if_neg (by omega)]
  have CM := Lib.hid (fun w' h => may_any d g s i w' h hl)
  have HD := Lib.hid (fun w' h => hd.keep (w' := w') h)
  rw [hm] at CM
  clear hm
  have hmf : ∀ (fn : Fn) (first cap : Array Value) (w : World), (Instr.makeFunc fn first cap).run Tryz.prog w = .ok (.func fn first cap) w := fun _ _ _ _ => rfl
  go_enter_defers Tryz.func63, Tryz.ntmps63
  go_wp2_with (with_reducible refine wpList_allocA rfl 78 rfl _ blkZero ?_)
  have P0 : Row ((w.alloc (.cells #[.pointer (some ⟨d, 0, none⟩)] 27)).alloc (.cells (blk zblk) 78)) w.heap.size 27 #[.pointer (some ⟨d, 0, none⟩)] := heap_alloc2_old w _ _
  have p0 : ((w.alloc (.cells #[.pointer (some ⟨d, 0, none⟩)] 27)).alloc (.cells (blk zblk) 78)).cell? ⟨w.heap.size, 0, none⟩ = some (.pointer (some ⟨d, 0, none⟩)) := P0.cell 0 rfl
  have b1 := heap_alloc2_new w (.cells #[.pointer (some ⟨d, 0, none⟩)] 27) (.cells (blk zblk) 78)
  have hb : Below w.heap.size w ((w.alloc (.cells #[.pointer (some ⟨d, 0, none⟩)] 27)).alloc (.cells (blk zblk) 78)) := ((Below.refl _ _).alloc (Nat.le_refl _) _).alloc (by simp) _
  generalize (w.alloc (.cells #[.pointer (some ⟨d, 0, none⟩)] 27)).alloc (.cells (blk zblk) 78) = w2 at *
  have hd2 := HD.out w2 hb
  refine (CM.out w2 hd2).mono ?_
  rintro e w3 ⟨rfl, hw3⟩
  subst w3
  have hdsz : d < w.heap.size := hd.1.lt
  have hgsz : g < w.heap.size := hd.2.1.2.2
  have hdg := hd.2.2
  have hz : (blk zblk).size = 256 := zblk_size
  have hq := hd2.2.1.1 i s.bs[i] (List.getElem?_eq_getElem hi)
  have hs : (blk s.bs[i]).size = 256 := by rw [blk_size, hq.1]
  have hrng := (hd2.2.1.1 i s.bs[i] (List.getElem?_eq_getElem hi)).2
  have hc0 := (dev_cells hd2).1
  have hlen := full_len hq.1
  have hinf : (Tryz.prog.info? 78).map (·.size) = some (blk s.bs[i]).toList.length := by rw [hlen]; exact blkSize
  clear hd hlen hq
  go_wp2_with (first
    | (with_reducible refine wpList_load_mid rfl 78 _ rfl g (i * 256) rfl (blk s.bs[i]).toList _ hrng blkUnd rfl hinf ?_)
    | (with_reducible refine wpList_store rfl 78 _ _ rfl _ rfl (blk s.bs[i]) rfl (blk zblk) 78 256 blkSize hs hz (blk_one _) b1 ?_))
  have hb4 := below_setRow hb (by omega : w.heap.size ≤ w.heap.size + 1) (blk s.bs[i])
  have hd4 := HD.out _ hb4
  have P4 := P0.far (k := w.heap.size + 1) (by omega) (blk s.bs[i])
  have b4 := setRow_heap w2 (w.heap.size + 1) (blk zblk) (blk s.bs[i]) 78 (0, 0) b1
  generalize w2.setRow (w.heap.size + 1) (blk s.bs[i]) = w4 at *
  refine leaves_cons (f := 83) (args := #[.pointer (some ⟨w.heap.size, 0, none⟩)]) (by simp) (by simp [go_sem]) ?_
  refine (rd1_d d w.heap.size s.rd .returning w4 (P4.cell 0 rfl) (dev_cells hd4).2.2.2.2.2 (hd4.1.frozen 5) hr).mono ?_
  rintro e u' w5 ⟨rfl, rfl, rfl⟩
  exact ⟨_, results_cell_tmp rfl _ _ (w.heap.size + 1) 78 (blk s.bs[i]) (0, 0) _ rfl ((Below.heap_setCell w4 ⟨d, 5, none⟩ _ (w.heap.size + 1) (by show w.heap.size + 1 ≠ d; omega)).trans b4) blkUnd rfl (by rw [hs]; exact blkSize), rfl, dev_read hd4 rfl, (Asd.of hb4).cell 5 _⟩
end Go.Proofs.YtbamhiegabeicaaGreat.Db


namespace Go.Proofs.YtbamhiegabeicaaGreat.Db
open Go.RowKit Go.Proofs.YtbamhiegabeicaaGreat.Mem Go.Proofs.YtbamhiegabeicaaGreat.Open Go.Proofs.YtbamhiegabeicaaGreat.Kind Go.Proofs.YtbamhiegabeicaaGreat.Blk
set_option linter.unusedVariables false
set_option linter.unusedSimpArgs false
theorem results_cell_int {P : Program} {fn : Func} {p : Tmp} {ty : TypeId} {k : IntKind} (h : fn.results = #[.cell p ty]) (tmps : Array Value) (w : World) (g : Nat) (v : Value)
    (hp : tmps.getD p undef = .pointer (some ⟨g, 0, none⟩)) (hc : w.cell? ⟨g, 0, none⟩ = some v) (hu : P.underlying ty = some (.int k)) : (results fn tmps).run P w = .ok v w := by
  have hp' : tmps[p]?.getD undef = .pointer (some ⟨g, 0, none⟩) := by simpa using hp
  have ha : (isAgg ty).run P w = .ok false w := by simp [isAgg, run_underlying hu]
  simp [results, h, hp', asAddr, loadVar, ha, hc]
theorem gb_setCells {w w1 : World} {g : Nat} (h : w.grownBy w1 (some g)) (o : Nat) (vs : List Value) : w.grownBy (w1.setCells g o vs) (some g) :=
  ⟨(setCells_rest g vs o w1).1.trans h.os, (setCells_rest g vs o w1).2.1.trans h.tape, (setCells_rest g vs o w1).2.2.trans h.output, by rw [setCells_size]; exact h.size, fun k hk hne => (setCells_heap g vs o w1 k (fun e => hne (by rw [e]))).trans (h.block k hk hne)⟩
theorem wr1_no (d p q : Nat) (r : Int) (u : FrameMode) (w : World) (h0 : w.cell? ⟨q, 0, none⟩ = some (.int .i64 r)) (hr : (r == 0) = false) :
    CallsD Tryz.prog 78 #[.pointer (some ⟨q, 0, none⟩), .pointer (some ⟨p, 0, none⟩)] u w fun e u' w' => u' = u ∧ (e = .returned (.tuple #[]) ∧ w' = w) := by
  go_enter_d Tryz.func78, Tryz.ntmps78
  go_wp2
  go_end0
  exact ⟨rfl, rfl⟩
theorem wr1_yes (d p q : Nat) (n : Int) (u : FrameMode) (w : World) (h0 : w.cell? ⟨q, 0, none⟩ = some (.int .i64 0)) (h1 : w.cell? ⟨p, 0, none⟩ = some (.pointer (some ⟨d, 0, none⟩))) (h4 : w.cell? ⟨d, 4, none⟩ = some (.int .i64 n)) (hf : w.frozen? ⟨d, 4, none⟩ = false) (hn : 0 ≤ n ∧ n ≤ 1000000) :
    CallsD Tryz.prog 78 #[.pointer (some ⟨q, 0, none⟩), .pointer (some ⟨p, 0, none⟩)] u w fun e u' w' => u' = u ∧ (e = .returned (.tuple #[]) ∧ w' = w.setCell ⟨d, 4, none⟩ (.int .i64 (n + 1))) := by
  obtain ⟨hn0, hn1⟩ := hn
  go_enter_d Tryz.func78, Tryz.ntmps78
  go_wp2
  go_end0
  exact ⟨rfl, rfl⟩
set_option maxHeartbeats 1000000 in
set_option maxRecDepth 100000 in
theorem write_no (d g : Nat) (s : Dv) (no : Int) (x : List Nat) (hx : x.length = 256) (w : World) (hd : Dev w d g s) (hl : s.bs.length ≤ 1000) (hm : mayE s no ≠ 0) :
    Calls Tryz.prog 58 #[.pointer (some ⟨d, 0, none⟩), .int .i64 no, .agg (blk x)] w fun e w' => e = .returned (.int .i64 (mayE s no)) ∧ Dev w' d g s ∧ Below w.heap.size w w' := by
  have CM := Lib.hid (fun w' h => may_any d g s no w' h hl)
  have HD := Lib.hid (fun w' h => hd.keep (w' := w') h)
  generalize mayE s no = r at *
  go_enter_defers Tryz.func58, Tryz.ntmps58
  go_wp2_with fail
  have Pp : Row (((w.alloc (.cells #[.pointer (some ⟨d, 0, none⟩)] 27)).alloc (.cells (blk x) 78)).alloc (.cells #[.int .i64 0] 38)) w.heap.size 27 #[.pointer (some ⟨d, 0, none⟩)] := ((Row.new _ _ _).alloc _).alloc _
  have Pb : Row (((w.alloc (.cells #[.pointer (some ⟨d, 0, none⟩)] 27)).alloc (.cells (blk x) 78)).alloc (.cells #[.int .i64 0] 38)) (w.heap.size + 1) 78 (blk x) := by
    have := (Row.new (w.alloc (.cells #[.pointer (some ⟨d, 0, none⟩)] 27)) 78 (blk x)).alloc (.cells #[.int .i64 0] 38)
    rwa [show (w.alloc (.cells #[.pointer (some ⟨d, 0, none⟩)] 27)).heap.size = w.heap.size + 1 from by simp] at this
  have Pe : Row (((w.alloc (.cells #[.pointer (some ⟨d, 0, none⟩)] 27)).alloc (.cells (blk x) 78)).alloc (.cells #[.int .i64 0] 38)) (w.heap.size + 1 + 1) 38 #[.int .i64 0] := by
    have := Row.new ((w.alloc (.cells #[.pointer (some ⟨d, 0, none⟩)] 27)).alloc (.cells (blk x) 78)) 38 #[.int .i64 0]
    rwa [show ((w.alloc (.cells #[.pointer (some ⟨d, 0, none⟩)] 27)).alloc (.cells (blk x) 78)).heap.size = w.heap.size + 1 + 1 from by simp] at this
  have hb : Below w.heap.size w (((w.alloc (.cells #[.pointer (some ⟨d, 0, none⟩)] 27)).alloc (.cells (blk x) 78)).alloc (.cells #[.int .i64 0] 38)) := (((Below.refl _ _).alloc (Nat.le_refl _) _).alloc (by simp) _).alloc (by simp; omega) _
  generalize ((w.alloc (.cells #[.pointer (some ⟨d, 0, none⟩)] 27)).alloc (.cells (blk x) 78)).alloc (.cells #[.int .i64 0] 38) = w3 at *
  refine (CM.out w3 (HD.out w3 hb)).mono ?_
  rintro e w4 ⟨rfl, hw4⟩
  subst w4
  have hne : (r != 0) = true := by rw [bne_iff_ne]; exact hm
  have c1 := Pe.cell 0 rfl
  have f1 := Pe.frozen 0
  have hb2 := hb.setCell (p := ⟨w.heap.size + 1 + 1, 0, none⟩) (by show w.heap.size ≤ w.heap.size + 1 + 1; omega) (.int .i64 r)
  have HB2 := Lib.hid hb2
  have PE := Lib.hid (Pe.put 0 (.int .i64 r))
  clear Pp Pb Pe hb hb2
  go_wp2_with fail
  have hb4 := HB2.out.setCell (p := ⟨w.heap.size + 1 + 1, 0, none⟩) (by show w.heap.size ≤ w.heap.size + 1 + 1; omega) (.int .i64 r)
  exact ⟨_, results_cell_int rfl _ _ (w.heap.size + 1 + 1) (.int .i64 r) rfl ((PE.out.put 0 (.int .i64 r)).cell 0 rfl) Tryz.underlying38, rfl, HD.out _ hb4, hb4⟩
end Go.Proofs.YtbamhiegabeicaaGreat.Db

/- Contracts of Write, on. No statement is proved here. -/
namespace Go.Proofs.YtbamhiegabeicaaGreat.Db
open Go.RowKit Go.Proofs.YtbamhiegabeicaaGreat.Mem Go.Proofs.YtbamhiegabeicaaGreat.Open Go.Proofs.YtbamhiegabeicaaGreat.Kind Go.Proofs.YtbamhiegabeicaaGreat.Blk
set_option linter.unusedVariables false
set_option linter.unusedSimpArgs false
theorem Dev.far {w : World} {d g k : Nat} {s : Dv} (h : Dev w d g s) (h1 : k ≠ d) (h2 : k ≠ g) (o : Nat) (v : Value) : Dev (w.setCell ⟨k, o, none⟩ v) d g s :=
  ⟨h.1.farCell (a := ⟨k, o, none⟩) (fun e => h1 e.symm) v, h.2.1.keep (Below.heap_setCell w ⟨k, o, none⟩ v g (fun e => h2 e.symm)) (by simp [World.setCell]), h.2.2⟩
theorem Dev.at_ {w : World} {d g : Nat} {s : Dv} (h : Dev w d g s) (i : Nat) (v : Value) : Row (w.setCell ⟨d, i, none⟩ v) d 85 ((dvC s g).setIfInBounds i v) ∧ Bks (w.setCell ⟨d, i, none⟩ v) g s.bs :=
  ⟨h.1.put i v, h.2.1.keep (Below.heap_setCell w ⟨d, i, none⟩ v g (fun e => h.2.2 e.symm)) (by simp [World.setCell])⟩
theorem dev_off {w : World} {d g : Nat} {s : Dv} (h : Dev w d g s) (b : Bool) : Dev (w.setCell ⟨d, 3, none⟩ (.bool b)) d g { s with off := b } := ⟨(h.at_ 3 _).1, (h.at_ 3 _).2, h.2.2⟩
theorem dev_fuse {w : World} {d g : Nat} {s : Dv} (h : Dev w d g s) (f : Int) : Dev (w.setCell ⟨d, 1, none⟩ (.int .i64 f)) d g { s with fuse := f } := ⟨(h.at_ 1 _).1, (h.at_ 1 _).2, h.2.2⟩
theorem dev_wr {w : World} {d g : Nat} {s : Dv} (h : Dev w d g s) (f : Int) : Dev (w.setCell ⟨d, 4, none⟩ (.int .i64 f)) d g { s with wr := f } := ⟨(h.at_ 4 _).1, (h.at_ 4 _).2, h.2.2⟩
theorem dev_blk {w : World} {d g i : Nat} {x : List Nat} {s : Dv} (h : Dev w d g s) (hx : x.length = 256) (hi : i < s.bs.length) : Dev (w.setCells g (i * 256) (blk x).toList) d g { s with bs := s.bs.set i x } := by
  refine ⟨?_, h.2.1.store hx hi, h.2.2⟩
  show _ = some (Obj.cells #[.slice _ (s.bs.set i x).length s.cap, _, _, _, _, _] _ _)
  rw [List.length_set]
  exact (setCells_heap g _ _ w d h.2.2).trans h.1.out
theorem Asd.new {d g k : Nat} {a w : World} (h : Asd d g a w) (hk : a.heap.size ≤ k) (o : Nat) (v : Value) : Asd d g a (w.setCell ⟨k, o, none⟩ v) :=
  ⟨h.os, h.tape, h.output, by simpa [World.setCell] using h.size, fun j h1 h2 h3 => (Below.heap_setCell w ⟨k, o, none⟩ v j (by show j ≠ k; omega)).trans (h.block j h1 h2 h3)⟩
set_option maxHeartbeats 1000000 in
set_option maxRecDepth 100000 in
theorem write_cut (d g : Nat) (s : Dv) (i : Nat) (x : List Nat) (hx : x.length = 256) (w : World) (hd : Dev w d g s) (hl : s.bs.length ≤ 1000) (hi : i < s.bs.length) (ho : s.off = false) (hlit : s.lit = true) (hfu : s.fuse = 0) :
    Calls Tryz.prog 58 #[.pointer (some ⟨d, 0, none⟩), .int .i64 i, .agg (blk x)] w fun e w' => e = .returned (.int .i64 12) ∧ Dev w' d g { s with off := true } ∧ Asd d g w w' := by
  have hm : mayE s i = 0 := by unfold mayE; rw [ho, if_neg (by simp), if_neg (by omega)]
  have CM := Lib.hid (fun w' h => may_any d g s i w' h hl)
  have HD := Lib.hid (fun w' h => hd.keep (w' := w') h)
  rw [hm] at CM
  clear hm
  have hmf : ∀ (fn : Fn) (first cap : Array Value) (w : World), (Instr.makeFunc fn first cap).run Tryz.prog w = .ok (.func fn first cap) w := fun _ _ _ _ => rfl
  have hdsz : d < w.heap.size := hd.1.lt
  have hgsz : g < w.heap.size := hd.2.1.2.2
  go_enter_defers Tryz.func58, Tryz.ntmps58
  go_wp2_with fail
  have Pp : Row (((w.alloc (.cells #[.pointer (some ⟨d, 0, none⟩)] 27)).alloc (.cells (blk x) 78)).alloc (.cells #[.int .i64 0] 38)) w.heap.size 27 #[.pointer (some ⟨d, 0, none⟩)] := ((Row.new _ _ _).alloc _).alloc _
  have Pb : Row (((w.alloc (.cells #[.pointer (some ⟨d, 0, none⟩)] 27)).alloc (.cells (blk x) 78)).alloc (.cells #[.int .i64 0] 38)) (w.heap.size + 1) 78 (blk x) := by
    have := (Row.new (w.alloc (.cells #[.pointer (some ⟨d, 0, none⟩)] 27)) 78 (blk x)).alloc (.cells #[.int .i64 0] 38)
    rwa [show (w.alloc (.cells #[.pointer (some ⟨d, 0, none⟩)] 27)).heap.size = w.heap.size + 1 from by simp] at this
  have Pe : Row (((w.alloc (.cells #[.pointer (some ⟨d, 0, none⟩)] 27)).alloc (.cells (blk x) 78)).alloc (.cells #[.int .i64 0] 38)) (w.heap.size + 1 + 1) 38 #[.int .i64 0] := by
    have := Row.new ((w.alloc (.cells #[.pointer (some ⟨d, 0, none⟩)] 27)).alloc (.cells (blk x) 78)) 38 #[.int .i64 0]
    rwa [show ((w.alloc (.cells #[.pointer (some ⟨d, 0, none⟩)] 27)).alloc (.cells (blk x) 78)).heap.size = w.heap.size + 1 + 1 from by simp] at this
  have hb : Below w.heap.size w (((w.alloc (.cells #[.pointer (some ⟨d, 0, none⟩)] 27)).alloc (.cells (blk x) 78)).alloc (.cells #[.int .i64 0] 38)) := (((Below.refl _ _).alloc (Nat.le_refl _) _).alloc (by simp) _).alloc (by simp; omega) _
  generalize ((w.alloc (.cells #[.pointer (some ⟨d, 0, none⟩)] 27)).alloc (.cells (blk x) 78)).alloc (.cells #[.int .i64 0] 38) = w3 at *
  have hd3 := HD.out w3 hb
  refine (CM.out w3 hd3).mono ?_
  rintro e w4 ⟨rfl, hw4⟩
  subst w4
  obtain ⟨pe, hpe⟩ : ∃ pe, w.heap.size + 1 + 1 = pe := ⟨_, rfl⟩
  obtain ⟨pp, hpp⟩ : ∃ pp, w.heap.size = pp := ⟨_, rfl⟩
  have n1 : ¬ d = pe := by omega
  have n2 : ¬ pe = d := by omega
  have n3 : ¬ d = pp := by omega
  have n4 : ¬ pp = d := by omega
  have n5 : ¬ pe = pp := by omega
  have n6 : ¬ pp = pe := by omega
  have n7 : ¬ pe = g := by omega
  have n8 : pp ≤ pe := by omega
  have c1 := Pe.cell 0 rfl
  have f1 := Pe.frozen 0
  have cp := Pp.cell 0 rfl
  obtain ⟨e0, e1, e2, e3, e4, e5⟩ := dev_cells hd3
  have fz := hd3.1.frozen 3
  rw [hlit] at e2
  rw [hfu] at e1
  have HB := Lib.hid (Asd.of (d := d) (g := g) hb)
  have HD3 := Lib.hid hd3
  have HPE := Lib.hid Pe
  rw [hpe] at c1 f1 ⊢
  have hpp2 := hpp
  rw [hpp] at cp ⊢
  clear hd Pp Pb Pe hb hd3 CM HD
  go_wp2_with fail
  have q1 := ((HPE.out.put 0 (.int .i64 0)).farCell (a := ⟨d, 3, none⟩) (by show _ ≠ d; omega) (.bool true)).put 0 (.int .i64 12)
  rw [hpe] at q1
  have dv := ((dev_off (HD3.out.far n2 n7 0 (.int .i64 0)) true).far n2 n7 0 (.int .i64 12))
  have ad5 := (((HB.out.new (show w.heap.size ≤ pe by omega) 0 (.int .i64 0)).cell 3 (.bool true)).new (show w.heap.size ≤ pe by omega) 0 (.int .i64 12))
  generalize ((w3.setCell ⟨pe, 0, none⟩ (.int .i64 0)).setCell ⟨d, 3, none⟩ (.bool true)).setCell ⟨pe, 0, none⟩ (.int .i64 12) = w5 at *
  refine leaves_cons (f := 78) (args := #[.pointer (some ⟨pe, 0, none⟩), .pointer (some ⟨pp, 0, none⟩)]) (by simp) (by simp [go_sem]) ?_
  refine (wr1_no d pp pe 12 .returning w5 (q1.cell 0 rfl) rfl).mono ?_
  rintro e u' w6 ⟨rfl, rfl, rfl⟩
  exact ⟨_, results_cell_int rfl _ _ pe (.int .i64 12) rfl (q1.cell 0 rfl) Tryz.underlying38, rfl, dv, ad5⟩
set_option maxHeartbeats 1000000 in
set_option maxRecDepth 100000 in
theorem write_lit (d g : Nat) (s : Dv) (i : Nat) (x : List Nat) (hx : x.length = 256) (w : World) (hd : Dev w d g s) (hl : s.bs.length ≤ 1000) (hi : i < s.bs.length) (ho : s.off = false) (hlit : s.lit = true) (hfu : 0 < s.fuse ∧ s.fuse ≤ 9223372036854775807) (hw : 0 ≤ s.wr ∧ s.wr ≤ 1000000) :
    Calls Tryz.prog 58 #[.pointer (some ⟨d, 0, none⟩), .int .i64 i, .agg (blk x)] w fun e w' => e = .returned (.int .i64 0) ∧ Dev w' d g { s with bs := s.bs.set i x, fuse := s.fuse - 1, wr := s.wr + 1 } ∧ Asd d g w w' := by
  have hm : mayE s i = 0 := by unfold mayE; rw [ho, if_neg (by simp), if_neg (by omega)]
  have CM := Lib.hid (fun w' h => may_any d g s i w' h hl)
  have HD := Lib.hid (fun w' h => hd.keep (w' := w') h)
  rw [hm] at CM
  clear hm
  have hmf : ∀ (fn : Fn) (first cap : Array Value) (w : World), (Instr.makeFunc fn first cap).run Tryz.prog w = .ok (.func fn first cap) w := fun _ _ _ _ => rfl
  have hdsz : d < w.heap.size := hd.1.lt
  have hgsz : g < w.heap.size := hd.2.1.2.2
  go_enter_defers Tryz.func58, Tryz.ntmps58
  go_wp2_with fail
  have Pp : Row (((w.alloc (.cells #[.pointer (some ⟨d, 0, none⟩)] 27)).alloc (.cells (blk x) 78)).alloc (.cells #[.int .i64 0] 38)) w.heap.size 27 #[.pointer (some ⟨d, 0, none⟩)] := ((Row.new _ _ _).alloc _).alloc _
  have Pb : Row (((w.alloc (.cells #[.pointer (some ⟨d, 0, none⟩)] 27)).alloc (.cells (blk x) 78)).alloc (.cells #[.int .i64 0] 38)) (w.heap.size + 1) 78 (blk x) := by
    have := (Row.new (w.alloc (.cells #[.pointer (some ⟨d, 0, none⟩)] 27)) 78 (blk x)).alloc (.cells #[.int .i64 0] 38)
    rwa [show (w.alloc (.cells #[.pointer (some ⟨d, 0, none⟩)] 27)).heap.size = w.heap.size + 1 from by simp] at this
  have Pe : Row (((w.alloc (.cells #[.pointer (some ⟨d, 0, none⟩)] 27)).alloc (.cells (blk x) 78)).alloc (.cells #[.int .i64 0] 38)) (w.heap.size + 1 + 1) 38 #[.int .i64 0] := by
    have := Row.new ((w.alloc (.cells #[.pointer (some ⟨d, 0, none⟩)] 27)).alloc (.cells (blk x) 78)) 38 #[.int .i64 0]
    rwa [show ((w.alloc (.cells #[.pointer (some ⟨d, 0, none⟩)] 27)).alloc (.cells (blk x) 78)).heap.size = w.heap.size + 1 + 1 from by simp] at this
  have hb : Below w.heap.size w (((w.alloc (.cells #[.pointer (some ⟨d, 0, none⟩)] 27)).alloc (.cells (blk x) 78)).alloc (.cells #[.int .i64 0] 38)) := (((Below.refl _ _).alloc (Nat.le_refl _) _).alloc (by simp) _).alloc (by simp; omega) _
  generalize ((w.alloc (.cells #[.pointer (some ⟨d, 0, none⟩)] 27)).alloc (.cells (blk x) 78)).alloc (.cells #[.int .i64 0] 38) = w3 at *
  have hd3 := HD.out w3 hb
  refine (CM.out w3 hd3).mono ?_
  rintro e w4 ⟨rfl, hw4⟩
  subst w4
  obtain ⟨pe, hpe⟩ : ∃ pe, w.heap.size + 1 + 1 = pe := ⟨_, rfl⟩
  obtain ⟨pp, hpp⟩ : ∃ pp, w.heap.size = pp := ⟨_, rfl⟩
  have n1 : ¬ d = pe := by omega
  have n2 : ¬ pe = d := by omega
  have n3 : ¬ d = pp := by omega
  have n4 : ¬ pp = d := by omega
  have n5 : ¬ pe = pp := by omega
  have n6 : ¬ pp = pe := by omega
  have n7 : ¬ pe = g := by omega
  have n8 : pp ≤ pe := by omega
  have c1 := Pe.cell 0 rfl
  have f1 := Pe.frozen 0
  have cp := Pp.cell 0 rfl
  obtain ⟨e0, e1, e2, e3, e4, e5⟩ := dev_cells hd3
  have fz := hd3.1.frozen 3
  rw [hlit] at e2
  have hne : (s.fuse == 0) = false := by rw [beq_eq_false_iff_ne]; omega
  obtain ⟨hfu1, hfu2⟩ := hfu
  have fz1 := hd3.1.frozen 1
  have HB := Lib.hid (Asd.of (d := d) (g := g) hb)
  have HD3 := Lib.hid hd3
  have HPE := Lib.hid Pe
  have HPB := Lib.hid Pb
  have HPP := Lib.hid Pp
  rw [hpe] at c1 f1 ⊢
  rw [hpp] at cp ⊢
  clear hd Pp Pb Pe hb hd3 CM HD
  go_wp2_with fail
  have qe := (HPE.out.put 0 (.int .i64 0)).farCell (a := ⟨d, 1, none⟩) (by show _ ≠ d; omega) (.int .i64 (s.fuse - 1))
  have qb := (HPB.out.farCell (a := ⟨w.heap.size + 1 + 1, 0, none⟩) (by show _ ≠ w.heap.size + 1 + 1; omega) (.int .i64 0)).farCell (a := ⟨d, 1, none⟩) (by show _ ≠ d; omega) (.int .i64 (s.fuse - 1))
  have qp := (HPP.out.farCell (a := ⟨w.heap.size + 1 + 1, 0, none⟩) (by show _ ≠ w.heap.size + 1 + 1; omega) (.int .i64 0)).farCell (a := ⟨d, 1, none⟩) (by show _ ≠ d; omega) (.int .i64 (s.fuse - 1))
  rw [hpe] at qe qb qp
  rw [hpp] at qp qb
  have dv := (dev_fuse (HD3.out.far n2 n7 0 (.int .i64 0)) (s.fuse - 1))
  have ad5 := ((HB.out.new (show w.heap.size ≤ pe by omega) 0 (.int .i64 0)).cell 1 (.int .i64 (s.fuse - 1)))
  generalize ((w3.setCell ⟨pe, 0, none⟩ (.int .i64 0)).setCell ⟨d, 1, none⟩ (.int .i64 (s.fuse - 1))) = wq at *
  have hgx : ¬ g = pe := by omega
  have hgp : ¬ g = pp := by omega
  have hgb : ¬ g = pp + 1 := by omega
  have hgd : ¬ g = d := fun e => dv.2.2 e.symm
  have dr : Row wq.drew d 85 #[.slice (some ⟨g, 0, none⟩) s.bs.length s.cap, .int .i64 (s.fuse - 1), .bool s.lit, .bool s.off, .int .i64 s.wr, .int .i64 s.rd] := dv.1.drew
  have qpd := qp.drew
  have qbd := qb.drew
  have hix : (Tryz.prog.info? 78).map (·.size) = some (blk x).toList.length := by rw [full_len hx]; exact blkSize
  have hix2 : (Tryz.prog.info? 78).map (·.size) = some (blk x).size := by rw [blk_size, hx]; exact blkSize
  have hth : wq.drew.there g (i * 256) (blk x).size := fun j hj => by
    rw [blk_size, hx] at hj
    have h := dv.2.1.2.1 (i * 256 + j) (by
      have : (i + 1) * 256 ≤ s.bs.length * 256 := Nat.mul_le_mul_right _ hi
      show i * 256 + j < s.bs.length * 256
      omega)
    rwa [Nat.zero_add] at h
  refine wp_region_noPanic ?_
  refine wp_region_held_drew (S := fun w' => World.grownBy (wq.drew) w' (some (g))) (by kernel_rfl) ?hb3 (fun hHeld => ?rest3)
  case hb3 =>
    exact Mem.gb_refl _ _
  case' rest3 => skip
  have hCl := fun (wS : World) (hSw : World.grownBy (wq.drew) wS (some (g))) => And.intro ((Mem.gb_row hSw qpd (by intro e; injection e with e; omega)).cell 0 rfl) <| (Mem.gb_row hSw dr (by intro e; injection e with e; omega)).cell 0 rfl
  replace hCl := Go.Lib.hid hCl
  refine Mem.tkV 0 ?v4 ?y4 ?r4
  case y4 => (intro w hSw; obtain ⟨hT0, hT1⟩ := hCl.out w hSw; clear hSw; go_simp; try with_reducible rfl)
  refine Mem.tkV 1 ?v5 ?y5 ?r5
  case y5 => (intro w hSw; clear hSw; go_simp; try with_reducible rfl)
  refine Mem.tkV 2 ?v6 ?y6 ?r6
  case y6 => (intro w hSw; clear hSw; go_simp; try with_reducible rfl)
  try simp only [Mem.pa, Mem.pb, Mem.pc, Act.put, Mem.pd, Mem.pe, Mem.pf]
  refine Mem.tkV 3 ?v7 ?y7 ?r7
  case y7 => (intro w hSw; obtain ⟨hT0, hT1⟩ := hCl.out w hSw; clear hSw; go_simp; try with_reducible rfl)
  refine Mem.tkV 4 ?v8 ?y8 ?r8
  case y8 => (intro w hSw; clear hSw; go_simp; try with_reducible rfl)
  first
    | refine' wpAnyH_take (i := 5) (v := _) rfl (by kernel_rfl) (by kernel_rfl) (by kernel_rfl) (fun _ _ _ h => h) (yieldsIf_load_mid (by rfl) _ _ rfl _ _ rfl _ _ (fun w hSw => (Mem.gb_row hSw qbd (by intro e; injection e with e; omega)).range) blkUnd rfl hix) (by assumption) ?rest9
    | refine wpAnyH_take (i := 5) (v := undef) rfl (by kernel_rfl) (by kernel_rfl) (by kernel_rfl) (fun _ _ _ h => h) (Or.inr ⟨by rfl, rfl⟩) (by assumption) ?rest9
  case' rest9 => skip
  try simp only [Mem.pa, Mem.pb, Mem.pc, Act.put, Mem.pd, Mem.pe, Mem.pf]
  refine Mem.tkV 6 ?v10 ?y10 ?r10
  case y10 => (intro w hSw; clear hSw; go_simp; try with_reducible rfl)
  try simp only [Mem.pa, Mem.pb, Mem.pc, Act.put, Mem.pd, Mem.pe, Mem.pf]
  refine wpAnyH_ready (rs := [7]) (by kernel_rfl) (by simp) ?_
  refine AllReadyH.cons rfl (fun K hK => ?_) AllReadyH.nil
  rw [if_pos (by rfl)]
  refine wp_store_mid 78 _ _ rfl g (i * 256) (blk x) rfl rfl hth hix2 (blk_one _) ?_; have hSnew := gb_setCells hHeld (i * 256) (blk x).toList
  refine hK.out _ _ ?_ (fun hHeld2 => ?_)
  · exact hSnew
  clear hK K hHeld hSnew
  have hHeld := hHeld2
  clear hHeld2
  try simp only [Mem.pa, Mem.pb, Mem.pc, Act.put, Mem.pd, Mem.pe, Mem.pf]
  refine wpAnyH_done (by kernel_rfl) ?_ _
  clear hCl
  have dz : Dev (wq.drew.setCells g (i * 256) (blk x).toList) d g _ := dev_blk (x := x) (i := i) (show Dev wq.drew d g _ from dv) hx hi
  have qez : Row (wq.drew.setCells g (i * 256) (blk x).toList) pe 38 _ := (setCells_heap g _ (i * 256) wq.drew pe (by omega)).trans qe
  have qpz : Row (wq.drew.setCells g (i * 256) (blk x).toList) pp 27 _ := (setCells_heap g _ (i * 256) wq.drew pp (by omega)).trans qp
  have adz := (ad5.drew).cells (i * 256) (blk x).toList
  refine NoPanic.normal ?_
  generalize wq.drew.setCells g (i * 256) (blk x).toList = wz at *
  have cz := qez.cell 0 rfl
  have fez := qez.frozen 0
  have hwz : ∃ u, wz.cell? ⟨pe, 0, none⟩ = some u := ⟨_, cz⟩
  obtain ⟨u0, cz0⟩ := hwz
  clear cz hHeld dr qpd qbd hth
  go_wp2_with fail
  have q1 := qez.put 0 (.int .i64 0)
  have d1 := dz.far n2 n7 0 (.int .i64 0)
  have p1 := qpz.farCell (a := ⟨pe, 0, none⟩) (by show _ ≠ pe; omega) (.int .i64 0)
  have a1 := adz.new (show w.heap.size ≤ pe by omega) 0 (.int .i64 0)
  generalize wz.setCell ⟨pe, 0, none⟩ (.int .i64 0) = w5 at *
  refine leaves_cons (f := 78) (args := #[.pointer (some ⟨pe, 0, none⟩), .pointer (some ⟨pp, 0, none⟩)]) (by simp) (by simp [go_sem]) ?_
  refine (wr1_yes d pp pe s.wr .returning w5 (q1.cell 0 rfl) (p1.cell 0 rfl) (dev_cells d1).2.2.2.2.1 (d1.1.frozen 4) hw).mono ?_
  rintro e u' w6 ⟨rfl, rfl, rfl⟩
  exact ⟨_, results_cell_int rfl _ _ pe (.int .i64 0) rfl ((q1.farCell (a := ⟨d, 4, none⟩) (by show _ ≠ d; omega) (.int .i64 (s.wr + 1))).cell 0 rfl) Tryz.underlying38, rfl, by first | exact dev_wr d1 (s.wr + 1) | (have h := dev_wr d1 (s.wr + 1); simp only [ho, hlit] at h; exact h), a1.cell 4 _⟩
set_option maxHeartbeats 1000000 in
set_option maxRecDepth 100000 in
theorem write_ok (d g : Nat) (s : Dv) (i : Nat) (x : List Nat) (hx : x.length = 256) (w : World) (hd : Dev w d g s) (hl : s.bs.length ≤ 1000) (hi : i < s.bs.length) (ho : s.off = false) (hlit : s.lit = false) (hw : 0 ≤ s.wr ∧ s.wr ≤ 1000000) :
    Calls Tryz.prog 58 #[.pointer (some ⟨d, 0, none⟩), .int .i64 i, .agg (blk x)] w fun e w' => e = .returned (.int .i64 0) ∧ Dev w' d g { s with bs := s.bs.set i x, wr := s.wr + 1 } ∧ Asd d g w w' := by
  have hm : mayE s i = 0 := by unfold mayE; rw [ho, if_neg (by simp), if_neg (by omega)]
  have CM := Lib.hid (fun w' h => may_any d g s i w' h hl)
  have HD := Lib.hid (fun w' h => hd.keep (w' := w') h)
  rw [hm] at CM
  clear hm
  have hmf : ∀ (fn : Fn) (first cap : Array Value) (w : World), (Instr.makeFunc fn first cap).run Tryz.prog w = .ok (.func fn first cap) w := fun _ _ _ _ => rfl
  have hdsz : d < w.heap.size := hd.1.lt
  have hgsz : g < w.heap.size := hd.2.1.2.2
  go_enter_defers Tryz.func58, Tryz.ntmps58
  go_wp2_with fail
  have Pp : Row (((w.alloc (.cells #[.pointer (some ⟨d, 0, none⟩)] 27)).alloc (.cells (blk x) 78)).alloc (.cells #[.int .i64 0] 38)) w.heap.size 27 #[.pointer (some ⟨d, 0, none⟩)] := ((Row.new _ _ _).alloc _).alloc _
  have Pb : Row (((w.alloc (.cells #[.pointer (some ⟨d, 0, none⟩)] 27)).alloc (.cells (blk x) 78)).alloc (.cells #[.int .i64 0] 38)) (w.heap.size + 1) 78 (blk x) := by
    have := (Row.new (w.alloc (.cells #[.pointer (some ⟨d, 0, none⟩)] 27)) 78 (blk x)).alloc (.cells #[.int .i64 0] 38)
    rwa [show (w.alloc (.cells #[.pointer (some ⟨d, 0, none⟩)] 27)).heap.size = w.heap.size + 1 from by simp] at this
  have Pe : Row (((w.alloc (.cells #[.pointer (some ⟨d, 0, none⟩)] 27)).alloc (.cells (blk x) 78)).alloc (.cells #[.int .i64 0] 38)) (w.heap.size + 1 + 1) 38 #[.int .i64 0] := by
    have := Row.new ((w.alloc (.cells #[.pointer (some ⟨d, 0, none⟩)] 27)).alloc (.cells (blk x) 78)) 38 #[.int .i64 0]
    rwa [show ((w.alloc (.cells #[.pointer (some ⟨d, 0, none⟩)] 27)).alloc (.cells (blk x) 78)).heap.size = w.heap.size + 1 + 1 from by simp] at this
  have hb : Below w.heap.size w (((w.alloc (.cells #[.pointer (some ⟨d, 0, none⟩)] 27)).alloc (.cells (blk x) 78)).alloc (.cells #[.int .i64 0] 38)) := (((Below.refl _ _).alloc (Nat.le_refl _) _).alloc (by simp) _).alloc (by simp; omega) _
  generalize ((w.alloc (.cells #[.pointer (some ⟨d, 0, none⟩)] 27)).alloc (.cells (blk x) 78)).alloc (.cells #[.int .i64 0] 38) = w3 at *
  have hd3 := HD.out w3 hb
  refine (CM.out w3 hd3).mono ?_
  rintro e w4 ⟨rfl, hw4⟩
  subst w4
  obtain ⟨pe, hpe⟩ : ∃ pe, w.heap.size + 1 + 1 = pe := ⟨_, rfl⟩
  obtain ⟨pp, hpp⟩ : ∃ pp, w.heap.size = pp := ⟨_, rfl⟩
  have n1 : ¬ d = pe := by omega
  have n2 : ¬ pe = d := by omega
  have n3 : ¬ d = pp := by omega
  have n4 : ¬ pp = d := by omega
  have n5 : ¬ pe = pp := by omega
  have n6 : ¬ pp = pe := by omega
  have n7 : ¬ pe = g := by omega
  have n8 : pp ≤ pe := by omega
  have c1 := Pe.cell 0 rfl
  have f1 := Pe.frozen 0
  have cp := Pp.cell 0 rfl
  obtain ⟨e0, e1, e2, e3, e4, e5⟩ := dev_cells hd3
  have fz := hd3.1.frozen 3
  rw [hlit] at e2
  have HB := Lib.hid (Asd.of (d := d) (g := g) hb)
  have HD3 := Lib.hid hd3
  have HPE := Lib.hid Pe
  have HPB := Lib.hid Pb
  have HPP := Lib.hid Pp
  rw [hpe] at c1 f1 ⊢
  rw [hpp] at cp ⊢
  clear hd Pp Pb Pe hb hd3 CM HD
  go_wp2_with fail
  have qe := (HPE.out.put 0 (.int .i64 0))
  have qb := (HPB.out.farCell (a := ⟨w.heap.size + 1 + 1, 0, none⟩) (by show _ ≠ w.heap.size + 1 + 1; omega) (.int .i64 0))
  have qp := (HPP.out.farCell (a := ⟨w.heap.size + 1 + 1, 0, none⟩) (by show _ ≠ w.heap.size + 1 + 1; omega) (.int .i64 0))
  rw [hpe] at qe qb qp
  rw [hpp] at qp qb
  have dv := (HD3.out.far n2 n7 0 (.int .i64 0))
  have ad5 := (HB.out.new (show w.heap.size ≤ pe by omega) 0 (.int .i64 0))
  generalize (w3.setCell ⟨pe, 0, none⟩ (.int .i64 0)) = wq at *
  have hgx : ¬ g = pe := by omega
  have hgp : ¬ g = pp := by omega
  have hgb : ¬ g = pp + 1 := by omega
  have hgd : ¬ g = d := fun e => dv.2.2 e.symm
  have dr : Row wq.drew d 85 #[.slice (some ⟨g, 0, none⟩) s.bs.length s.cap, .int .i64 s.fuse, .bool s.lit, .bool s.off, .int .i64 s.wr, .int .i64 s.rd] := dv.1.drew
  have qpd := qp.drew
  have qbd := qb.drew
  have hix : (Tryz.prog.info? 78).map (·.size) = some (blk x).toList.length := by rw [full_len hx]; exact blkSize
  have hix2 : (Tryz.prog.info? 78).map (·.size) = some (blk x).size := by rw [blk_size, hx]; exact blkSize
  have hth : wq.drew.there g (i * 256) (blk x).size := fun j hj => by
    rw [blk_size, hx] at hj
    have h := dv.2.1.2.1 (i * 256 + j) (by
      have : (i + 1) * 256 ≤ s.bs.length * 256 := Nat.mul_le_mul_right _ hi
      show i * 256 + j < s.bs.length * 256
      omega)
    rwa [Nat.zero_add] at h
  refine wp_region_noPanic ?_
  refine wp_region_held_drew (S := fun w' => World.grownBy (wq.drew) w' (some (g))) (by kernel_rfl) ?hb13 (fun hHeld => ?rest13)
  case hb13 =>
    exact Mem.gb_refl _ _
  case' rest13 => skip
  have hCl := fun (wS : World) (hSw : World.grownBy (wq.drew) wS (some (g))) => And.intro ((Mem.gb_row hSw qpd (by intro e; injection e with e; omega)).cell 0 rfl) <| (Mem.gb_row hSw dr (by intro e; injection e with e; omega)).cell 0 rfl
  replace hCl := Go.Lib.hid hCl
  refine Mem.tkV 0 ?v14 ?y14 ?r14
  case y14 => (intro w hSw; obtain ⟨hT0, hT1⟩ := hCl.out w hSw; clear hSw; go_simp; try with_reducible rfl)
  refine Mem.tkV 1 ?v15 ?y15 ?r15
  case y15 => (intro w hSw; clear hSw; go_simp; try with_reducible rfl)
  refine Mem.tkV 2 ?v16 ?y16 ?r16
  case y16 => (intro w hSw; clear hSw; go_simp; try with_reducible rfl)
  try simp only [Mem.pa, Mem.pb, Mem.pc, Act.put, Mem.pd, Mem.pe, Mem.pf]
  refine Mem.tkV 3 ?v17 ?y17 ?r17
  case y17 => (intro w hSw; obtain ⟨hT0, hT1⟩ := hCl.out w hSw; clear hSw; go_simp; try with_reducible rfl)
  refine Mem.tkV 4 ?v18 ?y18 ?r18
  case y18 => (intro w hSw; clear hSw; go_simp; try with_reducible rfl)
  first
    | refine' wpAnyH_take (i := 5) (v := _) rfl (by kernel_rfl) (by kernel_rfl) (by kernel_rfl) (fun _ _ _ h => h) (yieldsIf_load_mid (by rfl) _ _ rfl _ _ rfl _ _ (fun w hSw => (Mem.gb_row hSw qbd (by intro e; injection e with e; omega)).range) blkUnd rfl hix) (by assumption) ?rest19
    | refine wpAnyH_take (i := 5) (v := undef) rfl (by kernel_rfl) (by kernel_rfl) (by kernel_rfl) (fun _ _ _ h => h) (Or.inr ⟨by rfl, rfl⟩) (by assumption) ?rest19
  case' rest19 => skip
  try simp only [Mem.pa, Mem.pb, Mem.pc, Act.put, Mem.pd, Mem.pe, Mem.pf]
  refine Mem.tkV 6 ?v20 ?y20 ?r20
  case y20 => (intro w hSw; clear hSw; go_simp; try with_reducible rfl)
  try simp only [Mem.pa, Mem.pb, Mem.pc, Act.put, Mem.pd, Mem.pe, Mem.pf]
  refine wpAnyH_ready (rs := [7]) (by kernel_rfl) (by simp) ?_
  refine AllReadyH.cons rfl (fun K hK => ?_) AllReadyH.nil
  rw [if_pos (by rfl)]
  refine wp_store_mid 78 _ _ rfl g (i * 256) (blk x) rfl rfl hth hix2 (blk_one _) ?_; have hSnew := gb_setCells hHeld (i * 256) (blk x).toList
  refine hK.out _ _ ?_ (fun hHeld2 => ?_)
  · exact hSnew
  clear hK K hHeld hSnew
  have hHeld := hHeld2
  clear hHeld2
  try simp only [Mem.pa, Mem.pb, Mem.pc, Act.put, Mem.pd, Mem.pe, Mem.pf]
  refine wpAnyH_done (by kernel_rfl) ?_ _
  clear hCl
  have dz : Dev (wq.drew.setCells g (i * 256) (blk x).toList) d g _ := dev_blk (x := x) (i := i) (show Dev wq.drew d g _ from dv) hx hi
  have qez : Row (wq.drew.setCells g (i * 256) (blk x).toList) pe 38 _ := (setCells_heap g _ (i * 256) wq.drew pe (by omega)).trans qe
  have qpz : Row (wq.drew.setCells g (i * 256) (blk x).toList) pp 27 _ := (setCells_heap g _ (i * 256) wq.drew pp (by omega)).trans qp
  have adz := (ad5.drew).cells (i * 256) (blk x).toList
  refine NoPanic.normal ?_
  generalize wq.drew.setCells g (i * 256) (blk x).toList = wz at *
  have cz := qez.cell 0 rfl
  have fez := qez.frozen 0
  have hwz : ∃ u, wz.cell? ⟨pe, 0, none⟩ = some u := ⟨_, cz⟩
  obtain ⟨u0, cz0⟩ := hwz
  clear cz hHeld dr qpd qbd hth
  go_wp2_with fail
  have q1 := qez.put 0 (.int .i64 0)
  have d1 := dz.far n2 n7 0 (.int .i64 0)
  have p1 := qpz.farCell (a := ⟨pe, 0, none⟩) (by show _ ≠ pe; omega) (.int .i64 0)
  have a1 := adz.new (show w.heap.size ≤ pe by omega) 0 (.int .i64 0)
  generalize wz.setCell ⟨pe, 0, none⟩ (.int .i64 0) = w5 at *
  refine leaves_cons (f := 78) (args := #[.pointer (some ⟨pe, 0, none⟩), .pointer (some ⟨pp, 0, none⟩)]) (by simp) (by simp [go_sem]) ?_
  refine (wr1_yes d pp pe s.wr .returning w5 (q1.cell 0 rfl) (p1.cell 0 rfl) (dev_cells d1).2.2.2.2.1 (d1.1.frozen 4) hw).mono ?_
  rintro e u' w6 ⟨rfl, rfl, rfl⟩
  exact ⟨_, results_cell_int rfl _ _ pe (.int .i64 0) rfl ((q1.farCell (a := ⟨d, 4, none⟩) (by show _ ≠ d; omega) (.int .i64 (s.wr + 1))).cell 0 rfl) Tryz.underlying38, rfl, by first | exact dev_wr d1 (s.wr + 1) | (have h := dev_wr d1 (s.wr + 1); simp only [ho, hlit] at h; exact h), a1.cell 4 _⟩
end Go.Proofs.YtbamhiegabeicaaGreat.Db

/- Fuse, Up; Read and Write as steps. No statement is proved here. -/
namespace Go.Proofs.YtbamhiegabeicaaGreat.Db
open Go.RowKit Go.Proofs.YtbamhiegabeicaaGreat.Mem Go.Proofs.YtbamhiegabeicaaGreat.Open Go.Proofs.YtbamhiegabeicaaGreat.Kind Go.Proofs.YtbamhiegabeicaaGreat.Blk
set_option linter.unusedVariables false
set_option linter.unusedSimpArgs false
theorem dev_lit {w : World} {d g : Nat} {s : Dv} (h : Dev w d g s) (f : Bool) : Dev (w.setCell ⟨d, 2, none⟩ (.bool f)) d g { s with lit := f } := ⟨(h.at_ 2 _).1, (h.at_ 2 _).2, h.2.2⟩
/-- Numbers that may be counted on. -/
def Ok (s : Dv) : Prop := s.bs.length ≤ 1000 ∧ 0 ≤ s.wr ∧ s.wr ≤ 1000000 ∧ 0 ≤ s.rd ∧ s.rd ≤ 1000000 ∧ (s.lit = true → 0 ≤ s.fuse ∧ s.fuse ≤ 9223372036854775807)
/-- A write: the device behind it. -/
def wrS (s : Dv) (no : Int) (x : List Nat) : Dv := if mayE s no ≠ 0 then s else if s.lit = true ∧ s.fuse = 0 then { s with off := true } else if s.lit = true then { s with bs := s.bs.set no.toNat x, fuse := s.fuse - 1, wr := s.wr + 1 } else { s with bs := s.bs.set no.toNat x, wr := s.wr + 1 }
def wrE (s : Dv) (no : Int) : Int := if mayE s no ≠ 0 then mayE s no else if s.lit = true ∧ s.fuse = 0 then 12 else 0
theorem may_ok {s : Dv} {no : Int} (h : ¬ mayE s no ≠ 0) : s.off = false ∧ ∃ i : Nat, no = (i : Int) ∧ i < s.bs.length := by
  unfold mayE at h
  cases ho : s.off
  · rw [ho] at h
    simp only [Bool.false_eq_true, if_false] at h
    refine ⟨rfl, no.toNat, ?_, ?_⟩
    · split at h <;> omega
    · split at h <;> omega
  · rw [ho] at h
    simp at h
theorem write_any (d g : Nat) (s : Dv) (no : Int) (x : List Nat) (hx : x.length = 256) (w : World) (hd : Dev w d g s) (hs : Ok s) :
    Calls Tryz.prog 58 #[.pointer (some ⟨d, 0, none⟩), .int .i64 no, .agg (blk x)] w fun e w' => e = .returned (.int .i64 (wrE s no)) ∧ Dev w' d g (wrS s no x) ∧ Asd d g w w' := by
  obtain ⟨h1, h2, h3, h4, h5, h6⟩ := hs
  unfold wrS wrE
  by_cases hm : mayE s no ≠ 0
  · rw [if_pos hm, if_pos hm]
    refine (write_no d g s no x hx w hd h1 hm).mono ?_
    rintro e w' ⟨rfl, q1, q2⟩
    exact ⟨rfl, q1, Asd.of q2⟩
  rw [if_neg hm, if_neg hm]
  obtain ⟨ho, i, rfl, hi⟩ := may_ok hm
  by_cases hc : s.lit = true ∧ s.fuse = 0
  · rw [if_pos hc, if_pos hc]
    exact write_cut d g s i x hx w hd h1 hi ho hc.1 hc.2
  rw [if_neg hc, if_neg hc]
  by_cases hl : s.lit = true
  · rw [if_pos hl]
    have := h6 hl
    exact write_lit d g s i x hx w hd h1 hi ho hl ⟨by have : ¬ s.fuse = 0 := fun e => hc ⟨hl, e⟩; omega, this.2⟩ ⟨h2, h3⟩
  · rw [if_neg hl]
    exact write_ok d g s i x hx w hd h1 hi ho (by simpa using hl) ⟨h2, h3⟩
def rdS (s : Dv) (no : Int) : Dv := if mayE s no ≠ 0 then s else { s with rd := s.rd + 1 }
def rdV (s : Dv) (no : Int) : List Nat := if mayE s no ≠ 0 then zblk else s.bs.getD no.toNat zblk
theorem read_any (d g : Nat) (s : Dv) (no : Int) (w : World) (hd : Dev w d g s) (hs : Ok s) :
    Calls Tryz.prog 63 #[.pointer (some ⟨d, 0, none⟩), .int .i64 no] w fun e w' => e = .returned (.tuple #[.agg (blk (rdV s no)), .int .i64 (mayE s no)]) ∧ Dev w' d g (rdS s no) ∧ Asd d g w w' := by
  obtain ⟨h1, h2, h3, h4, h5, h6⟩ := hs
  unfold rdS rdV
  by_cases hm : mayE s no ≠ 0
  · rw [if_pos hm, if_pos hm]
    refine (read_no d g s no w hd h1 hm).mono ?_
    rintro e w' ⟨rfl, q1, q2⟩
    exact ⟨rfl, q1, Asd.of q2⟩
  rw [if_neg hm, if_neg hm]
  have hm0 : mayE s no = 0 := Classical.not_not.1 hm
  obtain ⟨ho, i, rfl, hi⟩ := may_ok hm
  rw [hm0, Int.toNat_natCast, List.getD_eq_getElem?_getD, List.getElem?_eq_getElem hi]
  exact read_ok d g s i w hd h1 hi ho ⟨h4, h5⟩
set_option maxHeartbeats 1000000 in
theorem up_any (d g : Nat) (s : Dv) (w : World) (hd : Dev w d g s) :
    Calls Tryz.prog 46 #[.pointer (some ⟨d, 0, none⟩)] w fun e w' => e = .returned (.tuple #[]) ∧ Dev w' d g { s with fuse := 0, lit := false, off := false } ∧ Asd d g w w' := by
  obtain ⟨e0, e1, e2, e3, e4, e5⟩ := dev_cells hd
  have f1 := hd.1.frozen 1
  have f2 := hd.1.frozen 2
  have f3 := hd.1.frozen 3
  have HD := Lib.hid hd
  clear hd
  go_enter Tryz.func46, Tryz.ntmps46
  go_wp2
  exact bodyPost_end (results_none rfl _ _ _) rfl ⟨rfl, dev_off (dev_lit (dev_fuse HD.out 0) false) false, (((Asd.refl d g w).cell 1 _).cell 2 _).cell 3 _⟩
def fuS (s : Dv) (n : Int) : Dv := { s with fuse := max n 0, lit := decide (0 ≤ n) }
set_option maxHeartbeats 1000000 in
theorem fuse_any (d g : Nat) (s : Dv) (n : Int) (w : World) (hd : Dev w d g s) :
    Calls Tryz.prog 45 #[.pointer (some ⟨d, 0, none⟩), .int .i64 n] w fun e w' => e = .returned (.tuple #[]) ∧ Dev w' d g (fuS s n) ∧ Asd d g w w' := by
  obtain ⟨e0, e1, e2, e3, e4, e5⟩ := dev_cells hd
  have f1 := hd.1.frozen 1
  have f2 := hd.1.frozen 2
  have HD := Lib.hid hd
  clear hd
  have h5 : n < 0 ∨ n = 0 ∨ 0 < n := by omega
  have HS : Hid (fuS s n = { s with fuse := max n 0, lit := decide (0 ≤ n) }) := Lib.hid rfl
  rcases h5 with h | rfl | h
  · have HF : Hid (fuS s n = { s with fuse := 0, lit := decide (0 ≤ n) }) := Lib.hid (by rw [HS.out, show max n 0 = 0 from by omega])
    clear HS
    go_enter Tryz.func45, Tryz.ntmps45
    go_wp2
    exact bodyPost_end (results_none rfl _ _ _) rfl ⟨rfl, by rw [HF.out]; exact dev_lit (dev_fuse HD.out 0) (decide (0 ≤ n)), ((Asd.refl d g w).cell 1 _).cell 2 _⟩
  · have HF : Hid (fuS s 0 = { s with fuse := 0, lit := true }) := Lib.hid (by rw [HS.out]; rfl)
    clear HS
    go_enter Tryz.func45, Tryz.ntmps45
    go_wp2
    exact bodyPost_end (results_none rfl _ _ _) rfl ⟨rfl, by rw [HF.out]; exact dev_lit (dev_fuse HD.out 0) true, ((Asd.refl d g w).cell 1 _).cell 2 _⟩
  · have HF : Hid (fuS s n = { s with fuse := n, lit := decide (0 ≤ n) }) := Lib.hid (by rw [HS.out, show max n 0 = n from by omega])
    clear HS
    go_enter Tryz.func45, Tryz.ntmps45
    go_wp2
    exact bodyPost_end (results_none rfl _ _ _) rfl ⟨rfl, by rw [HF.out]; exact dev_lit (dev_fuse HD.out n) (decide (0 ≤ n)), ((Asd.refl d g w).cell 1 _).cell 2 _⟩
end Go.Proofs.YtbamhiegabeicaaGreat.Db

namespace Go.Proofs.YtbamhiegabeicaaGreat.Db
open Go.RowKit Go.Proofs.YtbamhiegabeicaaGreat.Mem Go.Proofs.YtbamhiegabeicaaGreat.Open Go.Proofs.YtbamhiegabeicaaGreat.Kind Go.Proofs.YtbamhiegabeicaaGreat.Blk
theorem Asd.kept {d g k : Nat} {w w' : World} {T : TypeId} {cs : Array Value} (h : Asd d g w w') (hr : Row w k T cs) (h1 : k ≠ d) (h2 : k ≠ g) : Row w' k T cs := (h.block k hr.lt h1 h2).trans hr
theorem Asd.at_ {d g : Nat} {w w' : World} {p : Addr} {v : Value} (h : Asd d g w w') (hc : w.cell? p = some v) (h1 : p.block ≠ d) (h2 : p.block ≠ g) : w'.cell? p = some v := by
  have hlt := World.block_lt_of_cell? w p hc
  have e := h.block p.block hlt h1 h2
  simp only [World.cell?, e] at hc ⊢
  exact hc
end Go.Proofs.YtbamhiegabeicaaGreat.Db

