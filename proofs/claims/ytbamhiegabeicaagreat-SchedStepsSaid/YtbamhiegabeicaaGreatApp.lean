/- Laws and contracts of several chapters, laid in one text. No statement is proved here. -/
import Derived.Test.YtbamhiegabeicaaGreatProg
import Derived.Test.YtbamhiegabeicaaGreatKind
import Derived.KernelRfl
import Derived.Lib.Hide
import Derived.WalkKit
import Derived.Outline
import Derived.WalkSpells
import Derived.Laws.BitsLemmas
import Derived.Laws.StructEq
import Derived.DeepKeys
import Derived.Maps.AppendAt
import Derived.Laws.OwnMore
/- Blocks of 256 bytes. No statement is proved here. -/
namespace Go.Proofs.YtbamhiegabeicaaGreat.Blk
open Go.RowKit Go.Proofs.YtbamhiegabeicaaGreat.Mem Go.Proofs.YtbamhiegabeicaaGreat.Open Go.Proofs.YtbamhiegabeicaaGreat.Kind
theorem ret_bool {a b : Bool} (h : a = b) : Ending.returned (.bool a) = .returned (.bool b) := by rw [h]
theorem blkUnd : Tryz.prog.underlying 78 = some (.array 256 5) := by kernel_rfl
/-- Two hundred and fifty-six noughts. -/
def zblk : List Nat := List.replicate 256 0
theorem zblk_length : zblk.length = 256 := by unfold zblk; rw [List.length_replicate]
theorem zblk_byte : ∀ x ∈ zblk, x < 256 := by unfold zblk; intro x hx; rw [List.mem_replicate] at hx; omega
theorem zblk_size : (blk zblk).size = 256 := by rw [blk_size]; exact zblk_length
theorem blkInfo : (Tryz.prog.info? 78).map (fun i => (i.zero, i.size)) = some (some (.agg (blk zblk)), 256) := by kernel_rfl
theorem blkZero : ∀ w, (zeroValue 78).run Tryz.prog w = .ok (.agg (blk zblk)) w := (zero_of_info blkInfo).1
theorem blkSize : (Tryz.prog.info? 78).map (·.size) = some 256 := (zero_of_info blkInfo).2
theorem blkSizeL (l : List Nat) (h : l.length = 256) : (Tryz.prog.info? 78).map (·.size) = some (blk l).toList.length := by rw [Array.length_toList, blk_size, h]; exact blkSize
theorem u8Info : (Tryz.prog.info? 5).map (fun i => (i.zero, i.size, i.bytes)) = some (some (V8 0), 1, 1) := by kernel_rfl
/-! ### blocks compared -/
end Go.Proofs.YtbamhiegabeicaaGreat.Blk

/- append onto a row of the call's own, whatever slice the source is; elements of one cell, and of several. Plain laws, over any program. No statement is proved here. -/
namespace Go.Proofs.YtbamhiegabeicaaGreat.App
open Go.RowKit Go.Proofs.YtbamhiegabeicaaGreat.Mem Go.Proofs.YtbamhiegabeicaaGreat.Open Go.Proofs.YtbamhiegabeicaaGreat.Kind
section
variable {α : Type} {P : Program} {w : World} {B : Nat} {E : TypeId} {V : α → Value} {v : Value} {xs ys : List α} {A : Option Addr} {m c : Nat}
theorem run_app (t ty : TypeId) (z : Value) (bytes : Nat) (ht : P.underlying t = some (.slice E)) (hi : (P.info? E).map (fun i => (i.zero, i.size, i.bytes)) = some (some z, 1, bytes)) (hzs : z.cells.size = 1)
    (hown : Own w B E V v xs) (hsl : Sl w V A m ys) (hc : A = none → c = 0) (h1 : ∀ y, (V y).oneCell' = true)
    (hbytes : (xs.length + m) * bytes ≤ 140737488355328) (h63 : xs.length + m ≤ 9223372036854775807) (hB : B ≤ w.heap.size) :
    ∃ v' w', (Builtin.append_ #[t, t] ty #[v, .slice A m c]).run P w = .ok v' w' ∧ Own w' B E V v' (xs ++ ys) ∧ w.grownBy w' v.ownBlock ∧ (v'.ownBlock = v.ownBlock ∨ v'.ownBlock = some w.heap.size) := by
  obtain ⟨i0, hi, hz, hz1, hz2⟩ := info_parts hi
  cases A with
  | none =>
    have h0 : m = 0 := by
      rcases Nat.eq_zero_or_pos m with h | h
      · exact h
      · obtain ⟨ad, h2, _⟩ := hsl.at_ (i := 0) (by have := hsl.1; omega)
        cases h2
    have hc0 := hc rfl
    subst h0 hc0
    have hy : ys = [] := List.eq_nil_of_length_eq_zero hsl.1
    subst hy
    exact ⟨v, w, run_append_owned_none w B t ty E i0 1 ht hi v xs.length (xs.map V) hown, by rw [List.append_nil]; exact hown, gb_refl _ _, .inl rfl⟩
  | some ad =>
    have hyl := hsl.1
    obtain ⟨v', w', hr, h2, h3, _, h5⟩ := run_append_own_at (P := P) w B t ty E i0 z 1 bytes ht hi hz hz1 hz2 hzs (by decide) v xs.length (xs.map V) hown ad m c (ys.map V) (by simp [hyl])
      (fun j u hu => by
        rw [List.getElem?_map] at hu
        obtain ⟨y, hy, rfl⟩ := Option.map_eq_some_iff.1 hu
        obtain ⟨ad', e1, _, e3⟩ := hsl.2.2 j y hy
        injection e1 with e1
        subst e1
        exact e3)
      (fun u hu => by obtain ⟨y, _, rfl⟩ := List.mem_map.1 hu; exact h1 y) (by simp only [maxLen]; omega) hbytes hB
    refine ⟨v', w', hr, ?_, h3, h5⟩
    unfold Own
    rw [List.map_append, List.length_append, hyl]
    exact h2
/-- append at an operation of any region. -/
theorem wp_app {o : Oper} {a : Act} {K : Act → World → Prop} {Q : Exit → Act → World → Prop} (s x : Operand) (t : TypeId) (ho : o.op = .call { callee := .builtin .append, args := #[s, x], argTypes := #[t, t] })
    (z : Value) (bytes : Nat) (ht : P.underlying t = some (.slice E)) (hi : (P.info? E).map (fun i => (i.zero, i.size, i.bytes)) = some (some z, 1, bytes)) (hzs : z.cells.size = 1)
    (hs : a.eval s = v) (hx : a.eval x = .slice A m c) (hown : Own w B E V v xs) (hsl : Sl w V A m ys) (hc : A = none → c = 0) (h1 : ∀ y, (V y).oneCell' = true)
    (hbytes : (xs.length + m) * bytes ≤ 140737488355328) (h63 : xs.length + m ≤ 9223372036854775807) (hB : B ≤ w.heap.size)
    (h : ∀ v' w', Own w' B E V v' (xs ++ ys) → w.grownBy w' v.ownBlock → (v'.ownBlock = v.ownBlock ∨ v'.ownBlock = some w.heap.size) → K (a.put o.dst v') w') : o.wp P a w K Q := by
  obtain ⟨v', w', hr, h2, h3, h4⟩ := run_app (P := P) t o.type z bytes ht hi hzs hown hsl hc h1 hbytes h63 hB
  unfold Oper.wp execOp
  simp only [ho, resolve, invoke, builtin, Sem.run_bind, Sem.run_pure, Result.andThen_ok, List.map_toArray, List.map_cons, List.map_nil, hs, hx, hr]
  exact h v' w' h2 h3 h4
end
/-- []T{}: an empty row. -/
theorem own_empty {α : Type} {w : World} {B : Nat} {E : TypeId} {V : α → Value} (hB : B ≤ w.heap.size) : Own (w.alloc (.cells #[] E)) B E V (.slice (some ⟨w.heap.size, 0, none⟩) 0 0) [] :=
  ⟨rfl, .inr ⟨w.heap.size, 0, #[], rfl, hB, heap_alloc_new w _, by simp, by simp, rfl, rfl⟩⟩
/-- Bytes that are read. -/
abbrev By (w : World) (A : Option Addr) (d : List Nat) : Prop := Rw kByte w (All w) A d.length d
/-- Bytes that lie from a block on. -/
abbrev ByF (w : World) (B : Nat) (A : Option Addr) (d : List Nat) : Prop := Rw kByte w (fun b => B ≤ b ∧ b < w.heap.size) A d.length d
theorem own_byF {w : World} {B : Nat} {E : TypeId} {v : Value} {l : List Nat} (h : Own w B E V8 v l) (hb : ∀ x ∈ l, x < 256) : ∃ A c, v = .slice A l.length c ∧ l.length ≤ c ∧ c ≤ M63 ∧ (A = none → c = 0) ∧ ByF w B A l := by
  rcases h.2 with ⟨rfl, h0⟩ | ⟨g, cap, cur, rfl, hg, hh, h1, h2, h3⟩
  · have : l = [] := List.eq_nil_of_length_eq_zero h0
    subst this
    exact ⟨none, 0, rfl, by simp, by simp, fun _ => rfl, Rw.nil _ _ _ _⟩
  · simp only [maxLen] at h2
    refine ⟨_, cap, rfl, h1, h2, fun h => (by cases h), rfl, by show l.length ≤ 9223372036854775807; omega, .inr ⟨g, 0, rfl, ⟨hg, row_lt hh⟩, row_lt hh, fun i x hx => ⟨[V8 x], ⟨rfl, hb x (List.mem_of_getElem? hx)⟩, fun j v hv => ?_⟩⟩⟩
    cases j with
    | succ j => simp at hv
    | zero =>
      simp at hv
      subst hv
      obtain ⟨hi, rfl⟩ := List.getElem?_eq_some_iff.1 hx
      have := h.cell i hi
      rw [show 0 + i * kByte.sz + 0 = i from by show 0 + i * 1 + 0 = i; omega]
      exact this
end Go.Proofs.YtbamhiegabeicaaGreat.App


