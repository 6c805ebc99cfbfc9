/- Laws and contracts of several chapters, laid in one text. No statement is proved here. -/
import Derived.Test.YtbamhiegabeicaaGreatLb
import Derived.Test.YtbamhiegabeicaaGreatRd3
import Derived.Test.YtbamhiegabeicaaGreatRq
import Derived.Test.YtbamhiegabeicaaGreatLg
/- The document's Laid, View, Image. No statement is proved here. -/
namespace Go.Proofs.YtbamhiegabeicaaGreat.Rd
open Go.RowKit Go.Proofs.YtbamhiegabeicaaGreat.Mem Go.Proofs.YtbamhiegabeicaaGreat.Open Go.Proofs.YtbamhiegabeicaaGreat.Kind Go.Proofs.YtbamhiegabeicaaGreat.Blk Go.Proofs.YtbamhiegabeicaaGreat.App Go.Proofs.YtbamhiegabeicaaGreat.Pat
set_option linter.unusedVariables false
set_option linter.unusedSimpArgs false
end Go.Proofs.YtbamhiegabeicaaGreat.Rd

/- The document's Image. No statement is proved here. -/
namespace Go.Proofs.YtbamhiegabeicaaGreat.Rd
open Go.RowKit Go.Proofs.YtbamhiegabeicaaGreat.Mem Go.Proofs.YtbamhiegabeicaaGreat.Open Go.Proofs.YtbamhiegabeicaaGreat.Kind Go.Proofs.YtbamhiegabeicaaGreat.Blk Go.Proofs.YtbamhiegabeicaaGreat.App Go.Proofs.YtbamhiegabeicaaGreat.Pat
set_option linter.unusedVariables false
set_option linter.unusedSimpArgs false
end Go.Proofs.YtbamhiegabeicaaGreat.Rd


