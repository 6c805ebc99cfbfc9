/- A law's arguments that are structs of any number of fields. Plain laws. No statement is proved here. -/
import Derived.Test.YtbamhiegabeicaaGreatOpenK
namespace Go.Proofs.YtbamhiegabeicaaGreat.Kind
open Go.RowKit Go.Proofs.YtbamhiegabeicaaGreat.Mem Go.Proofs.YtbamhiegabeicaaGreat.Open
open Go.ChangeShapes Go.WideShapes Go.ChangeAt
set_option linter.unusedVariables false
variable {H : Type} {enc : TypeId × Value → H} {P : Program} {w : World} {α β : Type} {k : Kd α}
/-- Fields, one behind the other from a place on, read as of a kind. -/
def Flds (H : Type) (enc : TypeId × Value → H) (P : Program) (w : World) {α : Type} (k : Kd α) (fs : List Field) (off : Nat) : Prop :=
  ∀ (n : Nat) (cs : List Value), (∀ f ∈ fs, ∃ y, DataW.trod enc P w 0 (fun _ => true) true n f.type ((cs.drop f.offset).take (P.cellsOf f.type)) = some y) → ∃ x, k.K w (All w) x ((cs.drop off).take k.sz)
end Go.Proofs.YtbamhiegabeicaaGreat.Kind

