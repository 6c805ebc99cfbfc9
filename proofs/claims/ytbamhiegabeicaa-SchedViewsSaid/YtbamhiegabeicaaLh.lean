/- Laws and contracts of several chapters, laid in one text. No statement is proved here. -/
import Derived.Test.YtbamhiegabeicaaLe
import Derived.Test.YtbamhiegabeicaaLf
/- Which changes are held: the contract of roll.Held. No statement is proved here. -/
namespace Go.Proofs.Ytbamhiegabeicaa.Rd
open Go.RowKit Go.Proofs.Ytbamhiegabeicaa.Mem Go.Proofs.Ytbamhiegabeicaa.Open Go.Proofs.Ytbamhiegabeicaa.Kind Go.Proofs.Ytbamhiegabeicaa.Blk Go.Proofs.Ytbamhiegabeicaa.App Go.Proofs.Ytbamhiegabeicaa.Pat
set_option linter.unusedVariables false
set_option linter.unusedSimpArgs false
end Go.Proofs.Ytbamhiegabeicaa.Rd

/- Which changes are held: the document's Held. No statement is proved here. -/
namespace Go.Proofs.Ytbamhiegabeicaa.Rd
open Go.RowKit Go.Proofs.Ytbamhiegabeicaa.Mem Go.Proofs.Ytbamhiegabeicaa.Open Go.Proofs.Ytbamhiegabeicaa.Kind Go.Proofs.Ytbamhiegabeicaa.Blk Go.Proofs.Ytbamhiegabeicaa.App Go.Proofs.Ytbamhiegabeicaa.Pat
set_option linter.unusedVariables false
set_option linter.unusedSimpArgs false
end Go.Proofs.Ytbamhiegabeicaa.Rd


