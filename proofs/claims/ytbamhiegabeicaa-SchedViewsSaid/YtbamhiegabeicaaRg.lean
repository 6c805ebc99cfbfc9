/- Laws and contracts of several chapters, laid in one text. No statement is proved here. -/
import Derived.Test.YtbamhiegabeicaaSw
/- The document's Of, Without; changes as the document has them. No statement is proved here. -/
namespace Go.Proofs.Ytbamhiegabeicaa.Rd
open Go.RowKit Go.Proofs.Ytbamhiegabeicaa.Mem Go.Proofs.Ytbamhiegabeicaa.Open Go.Proofs.Ytbamhiegabeicaa.Kind Go.Proofs.Ytbamhiegabeicaa.Blk Go.Proofs.Ytbamhiegabeicaa.App Go.Proofs.Ytbamhiegabeicaa.Pat
set_option linter.unusedVariables false
set_option linter.unusedSimpArgs false
theorem rchInfo3 : (Try.prog.info? 109).map (fun i => (i.zero, i.size, i.bytes)) = some (some (.agg chZ), 5, 72) := by kernel_rfl
/-- A list of changes that the call has laid, as the document has them. -/
abbrev RK (w : World) (B : Nat) (v : Value) (xs : List Chg) : Prop := OwnK kChg w B 109 v xs
theorem ChS.old {w w' : World} {x : Chg} {A : Option Addr} {c : Nat} {A2 : Option Addr} {c2 : Nat} (h : ChS w x A c A2 c2) (hb : Below w.heap.size w w') : kChg.K w' (fun b => b < w.heap.size) x (chC x A c A2 c2).toList :=
  kChg.stay (w := w) (fun b hb' => hb.block b hb') (by have := h.k; exact this)
end Go.Proofs.Ytbamhiegabeicaa.Rd

/- Changes as the document has them; the same lists. No statement is proved here. -/
namespace Go.Proofs.Ytbamhiegabeicaa.Rd
open Go.RowKit Go.Proofs.Ytbamhiegabeicaa.Mem Go.Proofs.Ytbamhiegabeicaa.Open Go.Proofs.Ytbamhiegabeicaa.Kind Go.Proofs.Ytbamhiegabeicaa.Blk Go.Proofs.Ytbamhiegabeicaa.App Go.Proofs.Ytbamhiegabeicaa.Pat
set_option linter.unusedVariables false
set_option linter.unusedSimpArgs false
end Go.Proofs.Ytbamhiegabeicaa.Rd


