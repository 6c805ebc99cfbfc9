/- Patches as a law's arguments. -/
import Derived.Test.YteeodeooicoekaaPatD
import Derived.Test.YteeodeooicoekaaOpenK
namespace Go.Proofs.Yteeodeooicoekaa.Pat
open Go.RowKit Go.Proofs.Yteeodeooicoekaa.Mem Go.Proofs.Yteeodeooicoekaa.Open Go.Proofs.Yteeodeooicoekaa.Kind Go.Proofs.Yteeodeooicoekaa.Blk
theorem opens_rpat {H : Type} {enc : TypeId × Value → H} {w : World} : Opens H enc Try.prog w kPat 57 :=
  opens_pair Try.underlying57 (opens_int Try.underlying3) (opens_slice Try.underlying34 (opens_byte Try.underlying5) (by kernel_rfl) (by decide)) rfl (by kernel_rfl) (by kernel_rfl)
theorem opens_rpats {H : Type} {enc : TypeId × Value → H} {w : World} : Opens H enc Try.prog w (kSlice kPat) 48 :=
  opens_slice Try.underlying48 opens_rpat (by kernel_rfl) (by decide)
end Go.Proofs.Yteeodeooicoekaa.Pat
