/- Contracts of the document's comparisons of lists (escheatref01.Same, escheatref02.Texts, escheatref04.Ints). No statement is proved here. -/
import Derived.Test.YtbamhiegabeicaaProg
import Derived.Test.YtbamhiegabeicaaMem
import Derived.WalkKit
import Derived.WalkSpells
import Derived.WalkLawsBesides
import Derived.LoopTactic
import Derived.Deep.QuietTactic
import Derived.BigQuiet
namespace Go.Proofs.Ytbamhiegabeicaa.Same
open Go.RowKit Go.Proofs.Ytbamhiegabeicaa.Open Go.Proofs.Ytbamhiegabeicaa.Mem
set_option linter.unusedVariables false
set_option linter.unusedSimpArgs false
theorem ret_bool {a b : Bool} (h : a = b) : Ending.returned (.bool a) = .returned (.bool b) := by rw [h]
end Go.Proofs.Ytbamhiegabeicaa.Same

