/- A law's arguments that are floating numbers, and slices of such. No statement is proved here. -/
import Derived.Test.YtbamhiegabeicaaGreatOpen
import Derived.ProofKit
import Derived.OpenShut
namespace Go.Proofs.YtbamhiegabeicaaGreat.Fl
open Go.RowKit Go.Proofs.YtbamhiegabeicaaGreat.Open
open Go.ChangeShapes Go.WideShapes Go.ChangeAt
variable {H : Type} {enc : TypeId × Value → H} {P : Program} {w : World} {base : Nat} {spare : Nat → Bool} {held : Bool}
theorem trod_float {t : TypeId} {fuel : Nat} {cs : List Value} {x : DataW H × List MemPlace} (ht : P.underlying t = some (.float .f64)) (h : DataW.trod enc P w base spare held fuel t cs = some x) :
    ∃ n : Nat, cs = [.float .f64 n] ∧ x = (.lit (.float .f64 n), []) ∧ n < 18446744073709551616 := by
  cases fuel with
  | zero => simp [DataW.trod] at h
  | succ n =>
    unfold DataW.trod at h
    rw [ht] at h
    split at h <;> simp_all
    rename_i k k' b hk
    obtain ⟨⟨rfl, h2⟩, rfl⟩ := h
    subst hk
    first | exact ⟨b, ⟨rfl, rfl⟩, rfl, by simpa [Lit.wf] using h2⟩ | exact by simpa [Lit.wf] using h2 | simp_all
theorem okWide_float {r : Reach} {b0 : Nat} {t : TypeId} {v : Value} (ht : P.underlying t = some (.float .f64)) (h : Value.okWide P w r b0 t v) : ∃ n, v = .float .f64 n := by
  simp only [Value.okWide, ht, Cell.okWide] at h
  cases v <;> simp_all [Cell.ok]
theorem open_float {r : Reach} {b0 : Nat} {t : TypeId} {v : Value} {d : DataW H} {ps : List MemPlace} (ht : P.underlying t = some (.float .f64)) (hval : Value.okWide P w r b0 t v) (hd : DataW.Trod enc P w base spare held t v d ps) :
    ∃ n, v = .float .f64 n ∧ n < 18446744073709551616 := by
  obtain ⟨n, rfl⟩ := okWide_float ht hval
  obtain ⟨fuel, hf⟩ := hd
  obtain ⟨n', h, hx, hw⟩ := trod_float ht hf
  simp [Value.cells] at h
  subst h
  exact ⟨n, rfl, hw⟩
theorem open_floats {t e : TypeId} {d : DataW H} {p : List MemPlace} {A : Option Addr} {n c : Nat} (ht : P.underlying t = some (.slice e)) (he : P.underlying e = some (.float .f64)) (hc : P.cellsOf e = 1)
    (h : DataW.Trod enc P w 0 (fun _ => true) true t (.slice A n c) d p) : ∃ xs : List Nat, Sl w (fun x : Nat => Value.float .f64 x) A n xs ∧ ∀ x ∈ xs, x < 18446744073709551616 := by
  obtain ⟨ys, h1⟩ := open_cells (V := fun x : Fin 18446744073709551616 => Value.float .f64 x.val) ht hc (fun m v y hv => by
    obtain ⟨n, e1, _, h2⟩ := trod_float he hv
    injection e1 with e1
    exact ⟨⟨n, h2⟩, e1⟩) h
  refine ⟨ys.map (·.val), ⟨by simpa using h1.1, h1.2.1, fun i x hx => ?_⟩, fun x hx => ?_⟩
  · rw [List.getElem?_map] at hx
    cases hq : ys[i]? with
    | none => rw [hq] at hx; cases hx
    | some y =>
      rw [hq] at hx
      simp at hx
      subst hx
      exact h1.2.2 i y hq
  · obtain ⟨y, _, rfl⟩ := List.mem_map.1 hx
    exact y.isLt
end Go.Proofs.YtbamhiegabeicaaGreat.Fl

