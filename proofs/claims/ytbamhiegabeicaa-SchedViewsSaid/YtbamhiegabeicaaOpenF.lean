/- A law's arguments that are floating numbers, and slices of such. No statement is proved here. -/
import Derived.Test.YtbamhiegabeicaaOpen
import Derived.ProofKit
import Derived.OpenShut
namespace Go.Proofs.Ytbamhiegabeicaa.Fl
open Go.RowKit Go.Proofs.Ytbamhiegabeicaa.Open
open Go.ChangeShapes Go.WideShapes Go.ChangeAt
variable {H : Type} {enc : TypeId × Value → H} {P : Program} {w : World} {base : Nat} {spare : Nat → Bool} {held : Bool}
end Go.Proofs.Ytbamhiegabeicaa.Fl

