/- A device in memory: its blocks, what stands beside it, and New. No statement is proved here. -/
import Derived.Test.YtechlhmmgabikaaDk
namespace Go.Proofs.Ytechlhmmgabikaa.Dk
open Go.RowKit Go.Proofs.Ytechlhmmgabikaa.Mem Go.Proofs.Ytechlhmmgabikaa.Open Go.Proofs.Ytechlhmmgabikaa.Kind Go.Proofs.Ytechlhmmgabikaa.Blk
set_option linter.unusedVariables false
set_option linter.unusedSimpArgs false
theorem cell_same {w w' : World} {g : Nat} (h : w'.heap[g]? = w.heap[g]?) (o : Nat) : w'.cell? ⟨g, o, none⟩ = w.cell? ⟨g, o, none⟩ := by simp [World.cell?, h]
theorem frozen_same {w w' : World} {g : Nat} (h : w'.heap[g]? = w.heap[g]?) (o : Nat) : w'.frozen? ⟨g, o, none⟩ = w.frozen? ⟨g, o, none⟩ := by simp [World.frozen?, h]
/-- Blocks, each of which has one byte all over. -/
def Bks (w : World) (g : Nat) (bs : List Nat) : Prop := (∀ i x, bs[i]? = some x → w.rangeAt g (i * 256) (blk (full x)).toList) ∧ w.there g 0 (bs.length * 256) ∧ g < w.heap.size
theorem full_len (x : Nat) : (blk (full x)).toList.length = 256 := by rw [Array.length_toList, blk_size, List.length_replicate]
theorem Bks.keep {w w' : World} {g : Nat} {bs : List Nat} (h : Bks w g bs) (hk : w'.heap[g]? = w.heap[g]?) (hs : w.heap.size ≤ w'.heap.size) : Bks w' g bs :=
  ⟨fun i x hi j v hv => (cell_same hk _).trans (h.1 i x hi j v hv), fun j hj => by rw [cell_same hk, frozen_same hk]; exact h.2.1 j hj, Nat.lt_of_lt_of_le h.2.2 hs⟩
theorem setCells_heap (g : Nat) : ∀ (vs : List Value) (o : Nat) (w : World) (k : Nat), k ≠ g → (w.setCells g o vs).heap[k]? = w.heap[k]?
  | [], _, _, _, _ => rfl
  | v :: r, o, w, k, h => by
    rw [World.setCells, setCells_heap g r (o + 1) _ k h]
    exact Below.heap_setCell w ⟨g, o, none⟩ v k h
theorem setCells_size (g : Nat) : ∀ (vs : List Value) (o : Nat) (w : World), (w.setCells g o vs).heap.size = w.heap.size
  | [], _, _ => rfl
  | v :: r, o, w => by
    rw [World.setCells, setCells_size g r (o + 1)]
    simp [World.setCell]
theorem setCells_rest (g : Nat) : ∀ (vs : List Value) (o : Nat) (w : World), (w.setCells g o vs).os = w.os ∧ (w.setCells g o vs).tape = w.tape ∧ (w.setCells g o vs).output = w.output
  | [], _, _ => ⟨rfl, rfl, rfl⟩
  | v :: r, o, w => by
    rw [World.setCells]
    exact setCells_rest g r (o + 1) (w.setCell ⟨g, o, none⟩ v)
theorem Bks.store {w : World} {g i x : Nat} {bs : List Nat} (h : Bks w g bs) (hi : i < bs.length) : Bks (w.setCells g (i * 256) (blk (full x)).toList) g (bs.set i x) := by
  have hth : w.there g (i * 256) (blk (full x)).toList.length := fun j hj => by
    rw [full_len] at hj
    have := h.2.1 (i * 256 + j) (by
      have : (i + 1) * 256 ≤ bs.length * 256 := Nat.mul_le_mul_right _ hi
      omega)
    rwa [Nat.zero_add] at this
  refine ⟨fun k y hk => ?_, ?_, by rw [setCells_size]; exact h.2.2⟩
  · rw [List.getElem?_set] at hk
    by_cases e : i = k
    · subst e
      rw [if_pos rfl, if_pos hi] at hk
      injection hk with hk
      subst hk
      exact World.rangeAt_setCells_same w g _ _ hth
    · rw [if_neg e] at hk
      refine World.rangeAt_setCells_apart (h.1 k y hk) g _ _ (.inr ?_)
      rw [full_len, full_len]
      rcases Nat.lt_or_gt_of_ne e with h1 | h1
      · exact .inr (by omega)
      · exact .inl (by omega)
  · rw [List.length_set]
    exact World.there_setCells h.2.1 g _ _
structure Dv where
  bs : List Nat
  fuse : Int
  lit : Bool
  off : Bool
  wr : Int
  rd : Int
  cap : Nat
abbrev dvC (s : Dv) (g : Nat) : Array Value := #[.slice (some ⟨g, 0, none⟩) s.bs.length s.cap, .int .i64 s.fuse, .bool s.lit, .bool s.off, .int .i64 s.wr, .int .i64 s.rd]
/-- A device in two blocks. -/
def Dev (w : World) (d g : Nat) (s : Dv) : Prop := Row w d 89 (dvC s g) ∧ Bks w g s.bs ∧ d ≠ g
/-- Nothing but these two has changed. -/
structure Asd (d g : Nat) (w w' : World) : Prop where
  os : w'.os = w.os
  tape : w'.tape = w.tape
  output : w'.output = w.output
  size : w.heap.size ≤ w'.heap.size
  block : ∀ k, k < w.heap.size → k ≠ d → k ≠ g → w'.heap[k]? = w.heap[k]?
theorem Asd.refl (d g : Nat) (w : World) : Asd d g w w := ⟨rfl, rfl, rfl, Nat.le_refl _, fun _ _ _ _ => rfl⟩
theorem Asd.trans {d g : Nat} {a b c : World} (h : Asd d g a b) (h' : Asd d g b c) : Asd d g a c :=
  ⟨h'.os.trans h.os, h'.tape.trans h.tape, h'.output.trans h.output, Nat.le_trans h.size h'.size, fun k h1 h2 h3 => (h'.block k (Nat.lt_of_lt_of_le h1 h.size) h2 h3).trans (h.block k h1 h2 h3)⟩
theorem Asd.of {d g : Nat} {w w' : World} (h : Below w.heap.size w w') : Asd d g w w' := ⟨h.os, h.tape, h.output, h.size, fun k h1 _ _ => h.block k h1⟩
theorem Asd.cell {d g : Nat} {a w : World} (h : Asd d g a w) (i : Nat) (v : Value) : Asd d g a (w.setCell ⟨d, i, none⟩ v) :=
  h.trans ⟨rfl, rfl, rfl, by simp [World.setCell], fun k _ h2 _ => Below.heap_setCell w ⟨d, i, none⟩ v k h2⟩
theorem Asd.cells {d g : Nat} {a w : World} (h : Asd d g a w) (o : Nat) (vs : List Value) : Asd d g a (w.setCells g o vs) :=
  h.trans ⟨(setCells_rest g vs o w).1, (setCells_rest g vs o w).2.1, (setCells_rest g vs o w).2.2, by rw [setCells_size]; exact Nat.le_refl _, fun k _ _ h3 => setCells_heap g vs o w k h3⟩
theorem Asd.drew {d g : Nat} {a w : World} (h : Asd d g a w) : Asd d g a w.drew := h.trans ⟨rfl, rfl, rfl, Nat.le_refl _, fun _ _ _ _ => rfl⟩
theorem Asd.below {B d g : Nat} {a w w' : World} (hb : Below B a w) (h : Asd d g w w') (hd : B ≤ d) (hg : B ≤ g) (hB : B ≤ a.heap.size) : Below B a w' :=
  ⟨h.os.trans hb.os, h.tape.trans hb.tape, h.output.trans hb.output, Nat.le_trans hb.size h.size, fun k hk => (h.block k (by have := hb.size; omega) (by omega) (by omega)).trans (hb.block k hk)⟩
theorem Dev.keep {w w' : World} {d g : Nat} {s : Dv} (h : Dev w d g s) (hb : Below w.heap.size w w') : Dev w' d g s :=
  ⟨h.1.below hb, h.2.1.keep (hb.block g h.2.1.2.2) hb.size, h.2.2⟩
theorem blkInfo3 : (Try.prog.info? 30).map (fun i => (i.zero, i.size, i.bytes)) = some (some (.agg (blk zblk)), 256, 256) := by kernel_rfl
theorem full_get (x i : Nat) (h : i < 256) : (blk (full x))[i]? = some (V8 x) := by
  have h1 : i < (full x).length := by rw [List.length_replicate]; exact h
  rw [blk_get _ _ h1]
  show some (Value.int .u8 (((List.replicate 256 x)[i]'h1 : Nat) : Int)) = _
  rw [List.getElem_replicate]
  rfl
theorem zblk_at (i : Nat) : (blk zblk)[i % 256]! = V8 0 := by
  have h : i % 256 < 256 := Nat.mod_lt _ (by decide)
  have h2 : i % 256 < (blk zblk).size := by rw [zblk_size]; exact h
  rw [getElem!_pos (blk zblk) _ h2]
  have h3 := full_get 0 (i % 256) h
  rw [show full 0 = zblk from rfl, Array.getElem?_eq_getElem h2] at h3
  exact Option.some.inj h3
theorem bks_made {w : World} {n : Nat} : Bks (w.alloc (.cells (madeCells (blk zblk) (n * 256)) 30)) w.heap.size (List.replicate n 0) := by
  have hh := heap_alloc_new w (.cells (madeCells (blk zblk) (n * 256)) 30)
  have hc : ∀ i, i < n * 256 → (madeCells (blk zblk) (n * 256))[i]? = some (V8 0) := fun i hi => by
    unfold madeCells
    rw [Array.getElem?_map, Array.getElem?_range, if_pos hi]
    show some ((blk zblk)[i % (blk zblk).size]!) = _
    rw [zblk_size, zblk_at]
  refine ⟨fun i x hx j v hv => ?_, fun j hj => ?_, by simp⟩
  · have hi : i < n := by have := (List.getElem?_eq_some_iff.1 hx).1; simpa using this
    obtain rfl : x = 0 := by rw [List.getElem?_replicate, if_pos hi] at hx; injection hx with hx; exact hx.symm
    have hj : j < 256 := by have := (List.getElem?_eq_some_iff.1 hv).1; rwa [full_len] at this
    have hv2 : v = V8 0 := by
      have : (blk (full 0)).toList[j]? = some (V8 0) := by rw [Array.getElem?_toList]; exact full_get 0 j hj
      rw [this] at hv
      injection hv with hv
      exact hv.symm
    subst hv2
    refine row_cell hh _ _ (hc _ ?_)
    have : (i + 1) * 256 ≤ n * 256 := Nat.mul_le_mul_right _ hi
    omega
  · rw [List.length_replicate] at hj
    rw [Nat.zero_add]
    exact ⟨by rw [row_cell hh _ _ (hc j hj)]; rfl, frozen_of_row _ _ _ _ _ hh⟩
theorem wpList_makeB {P : Program} {ops : Array Oper} {rest : List Oper} {o : Oper} {a : Act} {w : World} {Q : Exit → Act → World → Prop} (hP : P = Try.prog) (hgd : o.guard = none) (x y : Operand) (ho : o.op = .makeSlice 41 x y)
    (n : Nat) (hx : a.eval x = .int .i64 n) (hy : a.eval y = .int .i64 n) (hn : n ≤ 1000)
    (h : ∀ w', Bks w' w.heap.size (List.replicate n 0) → Below w.heap.size w w' → w.heap.size < w'.heap.size → wpList P ops Q rest (a.put o.dst (.slice (some ⟨w.heap.size, 0, none⟩) n n)) w') : wpList P ops Q (o :: rest) a w :=
  wpList_plain hgd fun _ hK => by
    subst hP
    obtain ⟨i0, hi, hz, hz1, hz2⟩ := info_parts blkInfo3
    have hb : (i0.bytes : Int) * (n : Int) ≤ 281474976710656 := by rw [hz2]; omega
    have hr := run_make (P := Try.prog) w 41 30 i0 (.agg (blk zblk)) Try.underlying41 hi hz .i64 .i64 n n (by omega) (by omega) hb (by omega)
    rw [hz1, Int.toNat_natCast] at hr
    unfold Oper.wp execOp
    simp only [ho, hx, hy, Sem.run_bind, hr, Result.andThen_ok]
    exact hK _ _ (h _ bks_made ((Below.refl _ _).alloc (Nat.le_refl _) _) (by simp))
end Go.Proofs.Ytechlhmmgabikaa.Dk
