/- A law's arguments of several cells, and slices of such. No statement is proved here. -/
import Derived.Test.YtbamhiegabeicaaGreatKind
import Derived.ProofKit
import Derived.OpenShut
namespace Go.Proofs.YtbamhiegabeicaaGreat.Kind
open Go.RowKit Go.Proofs.YtbamhiegabeicaaGreat.Mem Go.Proofs.YtbamhiegabeicaaGreat.Open
open Go.ChangeShapes Go.WideShapes Go.ChangeAt
variable {H : Type} {enc : TypeId × Value → H} {P : Program} {w : World} {α β : Type} {k : Kd α}
theorem open_agg {r : Reach} {b0 : Nat} {t : TypeId} {fs : Array Field} {v : Value} {d : DataW H} {p : List MemPlace} (ht : P.underlying t = some (.struct fs))
    (hv : Value.okWide P w r b0 t v) (h : DataW.Trod enc P w 0 (fun _ => true) true t v d p) (ho : Opens H enc P w k t) : ∃ x cs, v = .agg cs.toArray ∧ k.K w (All w) x cs := by
  simp only [Value.okWide, ht] at hv
  obtain ⟨cs, rfl, _, _⟩ := hv
  obtain ⟨fuel, hf⟩ := h
  obtain ⟨x, hx⟩ := ho _ _ _ hf
  exact ⟨x, cs.toList, by simp, by simpa [Value.cells] using hx⟩
theorem open_slice {t : TypeId} {A : Option Addr} {n c : Nat} {d : DataW H} {p : List MemPlace} (h : DataW.Trod enc P w 0 (fun _ => true) true t (.slice A n c) d p) (ho : Opens H enc P w (kSlice k) t) :
    ∃ xs : List α, n = xs.length ∧ xs.length ≤ c ∧ c ≤ M63 ∧ (A = none → c = 0) ∧ Rw k w (All w) A xs.length xs := by
  obtain ⟨fuel, hf⟩ := h
  obtain ⟨xs, A', c', e, h1, h2, h3, h4⟩ := ho _ _ _ hf
  simp only [Value.cells, List.toList_toArray, List.cons.injEq, Value.slice.injEq, and_true] at e
  obtain ⟨rfl, rfl, rfl⟩ := e
  exact ⟨xs, rfl, h1, h2, h3, h4⟩
end Go.Proofs.YtbamhiegabeicaaGreat.Kind

