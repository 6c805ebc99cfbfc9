/- A law's arguments of several cells, and slices of such. No statement is proved here. -/
import Derived.Test.YtbamhiegabeicaaKind
import Derived.ProofKit
import Derived.OpenShut
namespace Go.Proofs.Ytbamhiegabeicaa.Kind
open Go.RowKit Go.Proofs.Ytbamhiegabeicaa.Mem Go.Proofs.Ytbamhiegabeicaa.Open
open Go.ChangeShapes Go.WideShapes Go.ChangeAt
variable {H : Type} {enc : TypeId × Value → H} {P : Program} {w : World} {α β : Type} {k : Kd α}
end Go.Proofs.Ytbamhiegabeicaa.Kind

