/- How a law's arguments read: arrays of whole numbers by value; slices of whole numbers, bools, texts. Plain laws on the model's readings, over any program. No statement is proved here. -/
import Derived.WalkKit
import Derived.ProofKit
import Derived.OpenShut
import Derived.SliceStrings
import Derived.Below
import Derived.Deep.Draws
import Derived.SizedLaws
namespace Go.Proofs.Ytbamhiegabeicaa.Open
open Go.ChangeShapes Go.WideShapes Go.ChangeAt Go.RowKit
set_option linter.unusedVariables false
set_option linter.unusedSimpArgs false

theorem bdrewN {B : Nat} {a w : World} (h : Below B a w) (n : Nat) : Below B a (w.drewN n) := ⟨h.os, h.tape, h.output, h.size, h.block⟩
/-- A slice's elements, each of one cell; nil, empty and other slices alike. -/
def Sl {α : Type} (w : World) (V : α → Value) (A : Option Addr) (n : Nat) (xs : List α) : Prop :=
  xs.length = n ∧ n ≤ 9223372036854775807 ∧ ∀ i x, xs[i]? = some x → ∃ ad, A = some ad ∧ ad.block < w.heap.size ∧ w.cell? (ad.add i) = some (V x)
section
variable {α : Type} {w w' : World} {V : α → Value} {A : Option Addr} {n : Nat} {xs : List α}
theorem Sl.below (h : Sl w V A n xs) (hb : Below w.heap.size w w') : Sl w' V A n xs :=
  ⟨h.1, h.2.1, fun i x hx => by
    obtain ⟨ad, h1, h2, h3⟩ := h.2.2 i x hx
    refine ⟨ad, h1, Nat.lt_of_lt_of_le h2 hb.size, ?_⟩
    rw [hb.cell (by rw [show (ad.add i).block = ad.block from by unfold Addr.add; split <;> rfl]; exact h2)]
    exact h3⟩
theorem Sl.drew (h : Sl w V A n xs) : Sl w.drew V A n xs := h
theorem Sl.drewN (h : Sl w V A n xs) (k : Nat) : Sl (w.drewN k) V A n xs := h
theorem Sl.at_ (h : Sl w V A n xs) {i : Nat} (hi : i < xs.length) : ∃ ad, A = some ad ∧ ad.block < w.heap.size ∧ w.cell? (ad.add i) = some (V xs[i]) := h.2.2 i _ (List.getElem?_eq_getElem hi)
end

section
variable {H : Type} {enc : TypeId × Value → H} {P : Program} {w : World} {base : Nat} {spare : Nat → Bool} {held : Bool}

end
end Go.Proofs.Ytbamhiegabeicaa.Open

