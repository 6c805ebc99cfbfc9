/- How a law's arguments read: arrays of whole numbers by value; slices of whole numbers, bools, texts. Plain laws on the model's readings, over any program. No statement is proved here. -/
import Derived.WalkKit
import Derived.ProofKit
import Derived.OpenShut
import Derived.SliceStrings
import Derived.Below
import Derived.Deep.Draws
import Derived.SizedLaws
namespace Go.Proofs.YtbamhiegabeicaaGreat.Open
open Go.ChangeShapes Go.WideShapes Go.ChangeAt Go.RowKit
set_option linter.unusedVariables false
set_option linter.unusedSimpArgs false

theorem bdrewN {B : Nat} {a w : World} (h : Below B a w) (n : Nat) : Below B a (w.drewN n) := ⟨h.os, h.tape, h.output, h.size, h.block⟩
/-- A slice's elements, each of one cell; nil, empty and other slices alike. -/
def Sl {α : Type} (w : World) (V : α → Value) (A : Option Addr) (n : Nat) (xs : List α) : Prop :=
  xs.length = n ∧ n ≤ 9223372036854775807 ∧ ∀ i x, xs[i]? = some x → ∃ ad, A = some ad ∧ ad.block < w.heap.size ∧ w.cell? (ad.add i) = some (V x)
section
variable {α : Type} {w w' : World} {V : α → Value} {A : Option Addr} {n : Nat} {xs : List α}
theorem Sl.below (h : Sl w V A n xs) (hb : Below w.heap.size w w') : Sl w' V A n xs :=
  ⟨h.1, h.2.1, fun i x hx => by
    obtain ⟨ad, h1, h2, h3⟩ := h.2.2 i x hx
    refine ⟨ad, h1, Nat.lt_of_lt_of_le h2 hb.size, ?_⟩
    rw [hb.cell (by rw [show (ad.add i).block = ad.block from by unfold Addr.add; split <;> rfl]; exact h2)]
    exact h3⟩
theorem Sl.drew (h : Sl w V A n xs) : Sl w.drew V A n xs := h
theorem Sl.drewN (h : Sl w V A n xs) (k : Nat) : Sl (w.drewN k) V A n xs := h
theorem Sl.at_ (h : Sl w V A n xs) {i : Nat} (hi : i < xs.length) : ∃ ad, A = some ad ∧ ad.block < w.heap.size ∧ w.cell? (ad.add i) = some (V xs[i]) := h.2.2 i _ (List.getElem?_eq_getElem hi)
end

section
variable {H : Type} {enc : TypeId × Value → H} {P : Program} {w : World} {base : Nat} {spare : Nat → Bool} {held : Bool}

/-- Slices of one-cell elements of any kind whose reading is a function of the cell. -/
theorem open_cells {α : Type} {V : α → Value} {t e : TypeId} {d : DataW H} {p : List MemPlace} {A : Option Addr} {n c : Nat} (ht : P.underlying t = some (.slice e)) (hc : P.cellsOf e = 1)
    (hV : ∀ (m : Nat) (v : Value) (y : DataW H × List MemPlace), DataW.trod enc P w 0 (fun _ => true) true m e [v] = some y → ∃ x, v = V x)
    (h : DataW.Trod enc P w 0 (fun _ => true) true t (.slice A n c) d p) : ∃ xs : List α, Sl w V A n xs := by
  obtain ⟨fuel, hf⟩ := h
  rcases DataW.trod_slice ht hf with ⟨hcs, hx⟩ | ⟨a, len, cap, elems, rest, m, _, hcs, hx, hb, hl, hm, hlen, hel, hsp, hns⟩
  · simp [Value.cells] at hcs
    obtain ⟨rfl, rfl, rfl⟩ := hcs
    exact ⟨[], ⟨rfl, by omega, fun i x hx => by simp at hx⟩⟩
  · simp [Value.cells] at hcs
    obtain ⟨rfl, rfl, rfl⟩ := hcs
    unfold maxLen at hm
    have each : ∀ i, i < n → ∃ x, w.cell? (a.add i) = some (V x) := by
      intro i hi
      have h1 := hel i hi
      rw [hc, Nat.mul_one, List.getElem?_eq_getElem (by omega)] at h1
      obtain ⟨cs, h2, h3⟩ := Option.bind_eq_some_iff.1 h1
      obtain ⟨_, hcl, hat⟩ := World.cells?_some h2
      match cs, hcl with
      | [v], _ =>
        obtain ⟨x, rfl⟩ := hV _ _ _ h3
        have := hat (i := 0) (by decide)
        rw [Addr.add_zero'] at this
        exact ⟨x, by simpa using this⟩
    have build : ∀ m, m ≤ n → ∃ xs : List α, xs.length = m ∧ ∀ i x, xs[i]? = some x → w.cell? (a.add i) = some (V x) := by
      intro m
      induction m with
      | zero => intro _; exact ⟨[], rfl, fun i x hx => by simp at hx⟩
      | succ m ih =>
        intro hm
        obtain ⟨xs, hxl, hxs⟩ := ih (by omega)
        obtain ⟨x, hx⟩ := each m (by omega)
        refine ⟨xs ++ [x], by simp [hxl], fun i y hy => ?_⟩
        by_cases hi : i < m
        · rw [List.getElem?_append_left (by omega)] at hy
          exact hxs i y hy
        · rw [List.getElem?_append_right (by omega)] at hy
          have : i = m := by
            have := (List.getElem?_eq_some_iff.1 hy).1
            simp at this; omega
          subst this
          rw [hxl, Nat.sub_self] at hy
          simp at hy
          subst hy
          exact hx
    obtain ⟨xs, hxl, hxs⟩ := build n (Nat.le_refl _)
    refine ⟨xs, hxl, by omega, fun i x hx => ⟨a, rfl, ?_, hxs i x hx⟩⟩
    have := World.block_lt_of_cell? w _ (hxs i x hx)
    rwa [show (a.add i).block = a.block from by unfold Addr.add; split <;> rfl] at this
end
end Go.Proofs.YtbamhiegabeicaaGreat.Open

