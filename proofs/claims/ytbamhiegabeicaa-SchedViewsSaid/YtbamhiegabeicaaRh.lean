/- The document's Blocks. No statement is proved here. -/
import Derived.Test.YtbamhiegabeicaaRg
namespace Go.Proofs.Ytbamhiegabeicaa.Rd
open Go.RowKit Go.Proofs.Ytbamhiegabeicaa.Mem Go.Proofs.Ytbamhiegabeicaa.Open Go.Proofs.Ytbamhiegabeicaa.Kind Go.Proofs.Ytbamhiegabeicaa.Blk Go.Proofs.Ytbamhiegabeicaa.App Go.Proofs.Ytbamhiegabeicaa.Pat
set_option linter.unusedVariables false
set_option linter.unusedSimpArgs false
def goodB (out : List Int) (b : Int) : Bool := match out.getLast? with | none => true | some y => decide (y < b)
def stepF (out : List Int) (b : Int) (acc : Option Int) : Option Int := if goodB out b then (match acc with | none => some b | some l => if b < l then some b else some l) else acc
def lstF (out : List Int) : List Chg → Option Int → Option Int
  | [], acc => acc
  | x :: r, acc => lstF out r (stepF out x.blk acc)
/-- What has been told so far. -/
def ToldB (xs : List Chg) (out : List Int) : Prop := out.Pairwise (· < ·) ∧ (∀ y ∈ out, ∃ x ∈ xs, x.blk = y) ∧ ∀ x ∈ xs, x.blk ∈ out ∨ ∀ y ∈ out, y < x.blk
theorem blkP_spec : ∀ {xs : List Chg} {out : List Int}, out.Pairwise (· < ·) → (blkP xs out).Pairwise (· < ·) ∧ ∀ n, n ∈ blkP xs out ↔ n ∈ out ∨ ∃ x ∈ xs, x.blk = n := by
  intro xs
  induction xs with
  | nil => intro out h; exact ⟨h, fun n => by simp [blkP]⟩
  | cons x r ih =>
    intro out h
    unfold blkP
    obtain ⟨h1, h2⟩ := ih (sorted_putL x.blk h)
    refine ⟨h1, fun n => ?_⟩
    rw [h2 n, mem_putL]
    constructor
    · rintro ((rfl | h) | ⟨y, hy, e⟩)
      · exact .inr ⟨x, List.mem_cons_self, rfl⟩
      · exact .inl h
      · exact .inr ⟨y, List.mem_cons_of_mem _ hy, e⟩
    · rintro (h | ⟨y, hy, e⟩)
      · exact .inl (.inr h)
      · rcases List.mem_cons.1 hy with rfl | hy
        · exact .inl (.inl e.symm)
        · exact .inr ⟨y, hy, e⟩
def lenH : Value → Nat
  | .slice _ n _ => n
  | _ => 0
end Go.Proofs.Ytbamhiegabeicaa.Rd

