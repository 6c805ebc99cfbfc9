/- Lists of calls out of a law's arguments. No statement is proved here. -/
import Derived.Test.YtadiamgoglodbaaSe
import Derived.Test.YtadiamgoglodbaaOpenK
namespace Go.Proofs.Ytadiamgoglodbaa.Opk
open Go.RowKit Go.Proofs.Ytadiamgoglodbaa.Mem Go.Proofs.Ytadiamgoglodbaa.Open Go.Proofs.Ytadiamgoglodbaa.Kind
set_option linter.unusedVariables false
theorem opens_rops {H : Type} {enc : TypeId × Value → H} {w : World} : Opens H enc Try.prog w (kSlice kOp) 22 :=
  opens_slice Try.underlying22 opens_rop (by kernel_rfl) (by decide)
end Go.Proofs.Ytadiamgoglodbaa.Opk
