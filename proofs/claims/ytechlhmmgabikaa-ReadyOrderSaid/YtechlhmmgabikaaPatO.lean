/- Patches as a law's arguments. -/
import Derived.Test.YtechlhmmgabikaaPatD
import Derived.Test.YtechlhmmgabikaaOpenK
namespace Go.Proofs.Ytechlhmmgabikaa.Pat
open Go.RowKit Go.Proofs.Ytechlhmmgabikaa.Mem Go.Proofs.Ytechlhmmgabikaa.Open Go.Proofs.Ytechlhmmgabikaa.Kind Go.Proofs.Ytechlhmmgabikaa.Blk
theorem opens_rpat {H : Type} {enc : TypeId × Value → H} {w : World} : Opens H enc Try.prog w kPat 67 :=
  opens_pair Try.underlying67 (opens_int Try.underlying3) (opens_slice Try.underlying44 (opens_byte Try.underlying5) (by kernel_rfl) (by decide)) rfl (by kernel_rfl) (by kernel_rfl)
end Go.Proofs.Ytechlhmmgabikaa.Pat
