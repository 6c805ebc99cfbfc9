/- Patches as a law's arguments. -/
import Derived.Test.YtoibdomcekainaaPatD
import Derived.Test.YtoibdomcekainaaOpenK
namespace Go.Proofs.Ytoibdomcekainaa.Pat
open Go.RowKit Go.Proofs.Ytoibdomcekainaa.Mem Go.Proofs.Ytoibdomcekainaa.Open Go.Proofs.Ytoibdomcekainaa.Kind Go.Proofs.Ytoibdomcekainaa.Blk
theorem opens_rpat {H : Type} {enc : TypeId × Value → H} {w : World} : Opens H enc Try.prog w kPat 34 :=
  opens_pair Try.underlying34 (opens_int Try.underlying3) (opens_slice Try.underlying30 (opens_byte Try.underlying5) (by kernel_rfl) (by decide)) rfl (by kernel_rfl) (by kernel_rfl)
theorem opens_rpats {H : Type} {enc : TypeId × Value → H} {w : World} : Opens H enc Try.prog w (kSlice kPat) 24 :=
  opens_slice Try.underlying24 opens_rpat (by kernel_rfl) (by decide)
end Go.Proofs.Ytoibdomcekainaa.Pat
