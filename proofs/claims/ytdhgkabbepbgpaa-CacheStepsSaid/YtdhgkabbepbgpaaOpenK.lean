/- A law's arguments of several cells, and slices of such. No statement is proved here. -/
import Derived.Test.YtdhgkabbepbgpaaKind
import Derived.ProofKit
import Derived.OpenShut
namespace Go.Proofs.Ytdhgkabbepbgpaa.Kind
open Go.RowKit Go.Proofs.Ytdhgkabbepbgpaa.Mem Go.Proofs.Ytdhgkabbepbgpaa.Open
open Go.ChangeShapes Go.WideShapes Go.ChangeAt
variable {H : Type} {enc : TypeId × Value → H} {P : Program} {w : World} {α β : Type} {k : Kd α}
theorem open_agg {r : Reach} {b0 : Nat} {t : TypeId} {fs : Array Field} {v : Value} {d : DataW H} {p : List MemPlace} (ht : P.underlying t = some (.struct fs))
    (hv : Value.okWide P w r b0 t v) (h : DataW.Trod enc P w 0 (fun _ => true) true t v d p) (ho : Opens H enc P w k t) : ∃ x cs, v = .agg cs.toArray ∧ k.K w (All w) x cs := by
  simp only [Value.okWide, ht] at hv
  obtain ⟨cs, rfl, _, _⟩ := hv
  obtain ⟨fuel, hf⟩ := h
  obtain ⟨x, hx⟩ := ho _ _ _ hf
  exact ⟨x, cs.toList, by simp, by simpa [Value.cells] using hx⟩
theorem open_slice {t : TypeId} {A : Option Addr} {n c : Nat} {d : DataW H} {p : List MemPlace} (h : DataW.Trod enc P w 0 (fun _ => true) true t (.slice A n c) d p) (ho : Opens H enc P w (kSlice k) t) :
    ∃ xs : List α, n = xs.length ∧ xs.length ≤ c ∧ c ≤ M63 ∧ (A = none → c = 0) ∧ Rw k w (All w) A xs.length xs := by
  obtain ⟨fuel, hf⟩ := h
  obtain ⟨xs, A', c', e, h1, h2, h3, h4⟩ := ho _ _ _ hf
  simp only [Value.cells, List.toList_toArray, List.cons.injEq, Value.slice.injEq, and_true] at e
  obtain ⟨rfl, rfl, rfl⟩ := e
  exact ⟨xs, rfl, h1, h2, h3, h4⟩
/-- A struct of two fields, one behind the other. -/
theorem opens_pair {a : Kd α} {b : Kd β} {t : TypeId} {f0 f1 : Field} (ht : P.underlying t = some (.struct #[f0, f1])) (ha : Opens H enc P w a f0.type) (hb : Opens H enc P w b f1.type)
    (o0 : f0.offset = 0) (o1 : f1.offset = P.cellsOf f0.type) (hc : P.cellsOf t = P.cellsOf f0.type + P.cellsOf f1.type) : Opens H enc P w (kPair a b) t := fun fuel cs y h => by
  obtain ⟨y0, y1, n, _, hl, h0, h1⟩ := trod_struct2 ht h
  obtain ⟨x0, hx0⟩ := ha _ _ _ h0
  obtain ⟨x1, hx1⟩ := hb _ _ _ h1
  refine ⟨(x0, x1), _, _, ?_, hx0, hx1⟩
  rw [o0, o1, List.drop_zero]
  have : (cs.drop (P.cellsOf f0.type)).take (P.cellsOf f1.type) = cs.drop (P.cellsOf f0.type) := List.take_of_length_le (by rw [List.length_drop]; omega)
  rw [this, List.take_append_drop]
end Go.Proofs.Ytdhgkabbepbgpaa.Kind
