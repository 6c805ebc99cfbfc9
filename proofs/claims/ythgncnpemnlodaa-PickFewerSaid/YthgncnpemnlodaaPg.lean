/- The statement PickFewer, as its row asks it. -/
import Derived.Test.YthgncnpemnlodaaPf
namespace Go.Proofs.Ythgncnpemnlodaa.Fl
open Go.RowKit Go.Proofs.Ythgncnpemnlodaa.Mem
set_option linter.unusedVariables false
theorem fewer_row (l : List Nat) (xs : List Int) (w : World) (hl : l.length = 2) (hl2 : ∀ x ∈ l, x < 256) (hx : xs.length = 2) (hx2 : ∀ x ∈ xs, (Lit.int .u64 x).wf = true) :
    Calls Try.prog 12 #[.agg (blk l), .agg (xs.map (Value.int .u64)).toArray] w fun e w' => e = .returned (.bool true) ∧ Below w.heap.size w w' := by
  obtain ⟨f0, f1, rfl⟩ : ∃ f0 f1, l = [f0, f1] := by
    match l, hl with
    | [a, b], _ => exact ⟨a, b, rfl⟩
  obtain ⟨b0, b1, rfl⟩ : ∃ b0 b1, xs = [b0, b1] := by
    match xs, hx with
    | [a, b], _ => exact ⟨a, b, rfl⟩
  obtain ⟨c0, rfl, h0⟩ := u64_nat (hx2 b0 (by simp))
  obtain ⟨c1, rfl, h1⟩ := u64_nat (hx2 b1 (by simp))
  have g0 := hl2 f0 (by simp)
  have g1 := hl2 f1 (by simp)
  exact fewer_core f0 f1 (min f0 f1) (max f0 f1) c0 c1 w g0 g1 (by omega) (by omega) h0 h1
end Go.Proofs.Ythgncnpemnlodaa.Fl
