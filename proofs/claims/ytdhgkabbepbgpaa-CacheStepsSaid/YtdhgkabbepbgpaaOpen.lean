/- How a law's arguments read: arrays of whole numbers by value; slices of whole numbers, bools, texts. Plain laws on the model's readings, over any program. No statement is proved here. -/
import Derived.WalkKit
import Derived.ProofKit
import Derived.OpenShut
import Derived.SliceStrings
import Derived.Below
import Derived.Deep.Draws
import Derived.SizedLaws
namespace Go.Proofs.Ytdhgkabbepbgpaa.Open
open Go.ChangeShapes Go.WideShapes Go.ChangeAt Go.RowKit
set_option linter.unusedVariables false
set_option linter.unusedSimpArgs false

theorem bdrewN {B : Nat} {a w : World} (h : Below B a w) (n : Nat) : Below B a (w.drewN n) := ⟨h.os, h.tape, h.output, h.size, h.block⟩
/-- A slice's elements, each of one cell; nil, empty and other slices alike. -/
def Sl {α : Type} (w : World) (V : α → Value) (A : Option Addr) (n : Nat) (xs : List α) : Prop :=
  xs.length = n ∧ n ≤ 9223372036854775807 ∧ ∀ i x, xs[i]? = some x → ∃ ad, A = some ad ∧ ad.block < w.heap.size ∧ w.cell? (ad.add i) = some (V x)
section
variable {α : Type} {w w' : World} {V : α → Value} {A : Option Addr} {n : Nat} {xs : List α}
theorem Sl.below (h : Sl w V A n xs) (hb : Below w.heap.size w w') : Sl w' V A n xs :=
  ⟨h.1, h.2.1, fun i x hx => by
    obtain ⟨ad, h1, h2, h3⟩ := h.2.2 i x hx
    refine ⟨ad, h1, Nat.lt_of_lt_of_le h2 hb.size, ?_⟩
    rw [hb.cell (by rw [show (ad.add i).block = ad.block from by unfold Addr.add; split <;> rfl]; exact h2)]
    exact h3⟩
theorem Sl.drew (h : Sl w V A n xs) : Sl w.drew V A n xs := h
theorem Sl.drewN (h : Sl w V A n xs) (k : Nat) : Sl (w.drewN k) V A n xs := h
theorem Sl.at_ (h : Sl w V A n xs) {i : Nat} (hi : i < xs.length) : ∃ ad, A = some ad ∧ ad.block < w.heap.size ∧ w.cell? (ad.add i) = some (V xs[i]) := h.2.2 i _ (List.getElem?_eq_getElem hi)
end

section
variable {H : Type} {enc : TypeId × Value → H} {P : Program} {w : World} {base : Nat} {spare : Nat → Bool} {held : Bool}

theorem open_arr_int {r : Reach} {b0 n : Nat} {t e : TypeId} {k : IntKind} {v : Value} {d : DataW H} {p : List MemPlace} (ht : P.underlying t = some (.array n e)) (he : P.underlying e = some (.int k)) (hc : P.cellsOf e = 1) (hn : P.cellsOf t = n)
    (hv : Value.okWide P w r b0 t v) (h : DataW.Trod enc P w base spare held t v d p) :
    ∃ xs : List Int, v = .agg (xs.map (Value.int k)).toArray ∧ xs.length = n ∧ ∀ x ∈ xs, (Lit.int k x).wf = true := by
  simp only [Value.okWide, ht] at hv
  obtain ⟨cs, rfl, hcs, _⟩ := hv
  obtain ⟨fuel, hf⟩ := h
  obtain ⟨ys, m, _, _, hl, hyl, hy⟩ := DataW.trod_array ht hf
  rw [hn] at hcs
  have each : ∀ i, i < n → ∃ z, cs[i]? = some (.int k z) ∧ (Lit.int k z).wf = true := by
    intro i hi
    have h1 := hy i hi
    rw [hc, Nat.mul_one, List.getElem?_eq_getElem (by omega)] at h1
    obtain ⟨z, h2, _, h3⟩ := DataW.trod_int he h1
    refine ⟨z, ?_, h3⟩
    have hlt : i < (Value.agg cs).cells.toList.length := by simpa [Value.cells, hcs] using hi
    rw [List.drop_eq_getElem_cons hlt, List.take_succ_cons, List.take_zero] at h2
    injection h2 with h2
    have : (Value.agg cs).cells.toList[i] = cs[i]'(by omega) := by simp [Value.cells]
    rw [this] at h2
    rw [Array.getElem?_eq_getElem (by omega), h2]
  refine ⟨cs.toList.map intOf, ?_, by simp [hcs], ?_⟩
  · congr 1
    apply Array.ext'
    simp only [List.map_map]
    apply List.ext_getElem?
    intro i
    rw [List.getElem?_map]
    by_cases hi : i < n
    · obtain ⟨z, h1, _⟩ := each i hi
      have h2 : cs.toList[i]? = some (.int k z) := by simpa using h1
      rw [h2]
      rfl
    · have h2 : cs.toList[i]? = none := by simp; omega
      rw [h2]; rfl
  · intro x hx
    obtain ⟨v, hv, rfl⟩ := List.mem_map.1 hx
    obtain ⟨i, hi, rfl⟩ := List.mem_iff_getElem.1 hv
    obtain ⟨z, h1, h2⟩ := each i (by simpa [hcs] using hi)
    have h3 : cs.toList[i]'hi = .int k z := by
      have := List.getElem?_eq_getElem hi
      have h4 : cs.toList[i]? = some (.int k z) := by simpa using h1
      rw [h4] at this
      exact (Option.some.inj this).symm
    rw [h3]
    exact h2

theorem trod_slice_nil {t e : TypeId} (ht : P.underlying t = some (.slice e)) {d : DataW H} {p : List MemPlace} {A : Option Addr} {n c : Nat} (h : DataW.Trod enc P w base spare held t (.slice A n c) d p) (hA : A = none) : n = 0 := by
  subst hA
  obtain ⟨fuel, hf⟩ := h
  cases fuel with
  | zero => simp [DataW.trod] at hf
  | succ m =>
    unfold DataW.trod at hf
    rw [ht] at hf
    simp only [Value.cells, List.toList_toArray] at hf
    split at hf <;> simp_all

theorem open_ints {t e : TypeId} {k : IntKind} {d : DataW H} {p : List MemPlace} {A : Option Addr} {n c : Nat} (ht : P.underlying t = some (.slice e)) (he : P.underlying e = some (.int k)) (hc : P.cellsOf e = 1)
    (h : DataW.Trod enc P w 0 (fun _ => true) true t (.slice A n c) d p) (hlt : ∀ x ∈ p, x.block < w.heap.size) :
    ∃ xs : List Int, Sl w (Value.int k) A n xs ∧ ∀ x ∈ xs, (Lit.int k x).wf = true := by
  obtain ⟨fuel, hf⟩ := h
  rcases Go.ChangeShapes.open_ints ht he hc hf with ⟨hcs, hx⟩ | ⟨a, len, cap, zs, hcs, _, hl, hm, hz, hx, hcell, hwf⟩
  · simp [Value.cells] at hcs
    obtain ⟨rfl, rfl, rfl⟩ := hcs
    exact ⟨[], ⟨rfl, by omega, fun i x hx => by simp at hx⟩, by simp⟩
  · simp [Value.cells] at hcs
    obtain ⟨rfl, rfl, rfl⟩ := hcs
    simp at hz
    unfold maxLen at hm
    simp only [Prod.mk.injEq] at hx
    obtain ⟨_, rfl⟩ := hx
    refine ⟨zs.take n, ⟨by simp; omega, by omega, fun i x hx => ?_⟩, fun x hx => hwf x (List.mem_of_mem_take hx)⟩
    have hi : i < n := by
      have := (List.getElem?_eq_some_iff.1 hx).1
      simp at this; omega
    have hcell' := hcell i (by omega)
    have hv : zs.getD i 0 = x := by
      rw [List.getElem?_take, if_pos hi] at hx
      rw [List.getD_eq_getElem?_getD, hx]; rfl
    rw [hv] at hcell'
    refine ⟨a, rfl, ?_, hcell'⟩
    have := World.block_lt_of_cell? w _ hcell'
    rwa [show (a.add i).block = a.block from by unfold Addr.add; split <;> rfl] at this
theorem open_strs {t e : TypeId} {d : DataW H} {p : List MemPlace} {A : Option Addr} {n c : Nat} (ht : P.underlying t = some (.slice e)) (he : P.underlying e = some .string) (hc : P.cellsOf e = 1)
    (h : DataW.Trod enc P w 0 (fun _ => true) true t (.slice A n c) d p) (hlt : ∀ x ∈ p, x.block < w.heap.size) :
    ∃ xs : List ByteArray, Sl w Value.string A n xs ∧ ∀ x ∈ xs, x.size ≤ 9223372036854775807 := by
  obtain ⟨fuel, hf⟩ := h
  rcases open_strings ht he hc hf with ⟨hcs, hx⟩ | ⟨a, len, cap, zs, hcs, _, hl, hm, hz, hx, hcell, hwf⟩
  · simp [Value.cells] at hcs
    obtain ⟨rfl, rfl, rfl⟩ := hcs
    exact ⟨[], ⟨rfl, by omega, fun i x hx => by simp at hx⟩, by simp⟩
  · simp [Value.cells] at hcs
    obtain ⟨rfl, rfl, rfl⟩ := hcs
    simp at hz
    unfold maxLen at hm hwf
    simp only [Prod.mk.injEq] at hx
    obtain ⟨_, rfl⟩ := hx
    refine ⟨zs.take n, ⟨by simp; omega, by omega, fun i x hx => ?_⟩, fun x hx => hwf x (List.mem_of_mem_take hx)⟩
    have hi : i < n := by
      have := (List.getElem?_eq_some_iff.1 hx).1
      simp at this; omega
    have hcell' := hcell i (by omega)
    have hv : zs.getD i ByteArray.empty = x := by
      rw [List.getElem?_take, if_pos hi] at hx
      rw [List.getD_eq_getElem?_getD, hx]; rfl
    rw [hv] at hcell'
    refine ⟨a, rfl, ?_, hcell'⟩
    have := World.block_lt_of_cell? w _ hcell'
    rwa [show (a.add i).block = a.block from by unfold Addr.add; split <;> rfl] at this

/-- Slices of one-cell elements of any kind whose reading is a function of the cell. -/
theorem open_cells {α : Type} {V : α → Value} {t e : TypeId} {d : DataW H} {p : List MemPlace} {A : Option Addr} {n c : Nat} (ht : P.underlying t = some (.slice e)) (hc : P.cellsOf e = 1)
    (hV : ∀ (m : Nat) (v : Value) (y : DataW H × List MemPlace), DataW.trod enc P w 0 (fun _ => true) true m e [v] = some y → ∃ x, v = V x)
    (h : DataW.Trod enc P w 0 (fun _ => true) true t (.slice A n c) d p) : ∃ xs : List α, Sl w V A n xs := by
  obtain ⟨fuel, hf⟩ := h
  rcases DataW.trod_slice ht hf with ⟨hcs, hx⟩ | ⟨a, len, cap, elems, rest, m, _, hcs, hx, hb, hl, hm, hlen, hel, hsp, hns⟩
  · simp [Value.cells] at hcs
    obtain ⟨rfl, rfl, rfl⟩ := hcs
    exact ⟨[], ⟨rfl, by omega, fun i x hx => by simp at hx⟩⟩
  · simp [Value.cells] at hcs
    obtain ⟨rfl, rfl, rfl⟩ := hcs
    unfold maxLen at hm
    have each : ∀ i, i < n → ∃ x, w.cell? (a.add i) = some (V x) := by
      intro i hi
      have h1 := hel i hi
      rw [hc, Nat.mul_one, List.getElem?_eq_getElem (by omega)] at h1
      obtain ⟨cs, h2, h3⟩ := Option.bind_eq_some_iff.1 h1
      obtain ⟨_, hcl, hat⟩ := World.cells?_some h2
      match cs, hcl with
      | [v], _ =>
        obtain ⟨x, rfl⟩ := hV _ _ _ h3
        have := hat (i := 0) (by decide)
        rw [Addr.add_zero'] at this
        exact ⟨x, by simpa using this⟩
    have build : ∀ m, m ≤ n → ∃ xs : List α, xs.length = m ∧ ∀ i x, xs[i]? = some x → w.cell? (a.add i) = some (V x) := by
      intro m
      induction m with
      | zero => intro _; exact ⟨[], rfl, fun i x hx => by simp at hx⟩
      | succ m ih =>
        intro hm
        obtain ⟨xs, hxl, hxs⟩ := ih (by omega)
        obtain ⟨x, hx⟩ := each m (by omega)
        refine ⟨xs ++ [x], by simp [hxl], fun i y hy => ?_⟩
        by_cases hi : i < m
        · rw [List.getElem?_append_left (by omega)] at hy
          exact hxs i y hy
        · rw [List.getElem?_append_right (by omega)] at hy
          have : i = m := by
            have := (List.getElem?_eq_some_iff.1 hy).1
            simp at this; omega
          subst this
          rw [hxl, Nat.sub_self] at hy
          simp at hy
          subst hy
          exact hx
    obtain ⟨xs, hxl, hxs⟩ := build n (Nat.le_refl _)
    refine ⟨xs, hxl, by omega, fun i x hx => ⟨a, rfl, ?_, hxs i x hx⟩⟩
    have := World.block_lt_of_cell? w _ (hxs i x hx)
    rwa [show (a.add i).block = a.block from by unfold Addr.add; split <;> rfl] at this
theorem open_bools {t e : TypeId} {d : DataW H} {p : List MemPlace} {A : Option Addr} {n c : Nat} (ht : P.underlying t = some (.slice e)) (he : P.underlying e = some .bool) (hc : P.cellsOf e = 1)
    (h : DataW.Trod enc P w 0 (fun _ => true) true t (.slice A n c) d p) : ∃ xs : List Bool, Sl w Value.bool A n xs :=
  open_cells ht hc (fun m v y hy => by
    obtain ⟨b, hb, _⟩ := DataW.trod_bool he hy
    injection hb with hb
    exact ⟨b, hb⟩) h
end
end Go.Proofs.Ytdhgkabbepbgpaa.Open
