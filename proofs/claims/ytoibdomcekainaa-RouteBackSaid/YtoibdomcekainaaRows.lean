/-
  No cell of these rows narrows 'for every input' (looked for: loops, veiled, ifaces, maps, wideKeys, modest, calm, conditions, laid).
  DERIVED. THE GIVEN ROWS OF THIS SEAT. 11 by the template 'for every input the law returns true; each argument reads behind the call as it read before'; 0 by the template 'total and deterministic' (their statements: YtoibdomcekainaaTotals.lean).
  GIVEN WITH THE SEED: the statements are not yours to turn. If you find one false, say at which input.
  Laid BY PROGRAM, IN A SANDBOX (cutbox-rows.mjs): the forced cells as the released guide's own fill.sh prints them over the translation 3bb2dbae5e83a459… (all of the seat's roots in one cut). By AI agents, Wed Nov 11 2026. No macro, syntax, notation, axiom, sorry.
-/
import Derived.Test.YtoibdomcekainaaChecked
import GoSem.Claim
import GoSem.ClaimJoined
import GoSem.ClaimMapViews
import Derived.JoinedTies
import Derived.KernelRfl
namespace Go.Proofs.Ytoibdomcekainaa
/- THE CELL 'sum', in the pinned program and in every row, IS THE sha256 OF THE DUMP (.gsa) THAT YtoibdomcekainaaProg.lean LOADS. Nothing in Lean hashes anything: it is a label: what it is worth is what the hold of that sum in a sandbox is worth. -/
noncomputable def Try.pinned : Pinned := { name := "ytoibdomcekainaa", sum := "3bb2dbae5e83a45992fc7aa8012c99763ce2e7f60242d29afea4956892769ec8", checked := Try.checked }
namespace Rows
def none {H : Type} : Left H := { results := [], args := [] }

/-- 'escheatlaw07.PatchDiffs': WHATEVER THE INPUT: true; the input reads as it did. -/
def patchDiffsSpec : ChangeSpec := { name := "patchDiffs", fn := fun _ => fun
  | [d1, d2] => { results := [.lit (.bool true)], args := [d1, d2] }
  | _ => none }
def patchDiffsRow : OpenClaim := { program := "ytoibdomcekainaa", sum := "3bb2dbae5e83a45992fc7aa8012c99763ce2e7f60242d29afea4956892769ec8", func := "escheat/escheatlaw07.PatchDiffs", spec := "patchDiffs", apart := false }
def PatchDiffsSaid : Prop := patchDiffsRow.holds Try.pinned (OpenSpec.ofChange patchDiffsSpec)

/-- ITS FALSE NEIGHBOUR: 'it returns false'. Refute it at one input. -/
def patchDiffsWrong : ChangeSpec := { name := "patchDiffs", fn := fun _ => fun
  | [d1, d2] => { results := [.lit (.bool false)], args := [d1, d2] }
  | _ => none }
def PatchDiffsWrongFalsely : Prop := patchDiffsRow.holds Try.pinned (OpenSpec.ofChange patchDiffsWrong)

/-- 'escheatlaw07.PatchBack': WHATEVER THE INPUT: true; the input reads as it did. -/
def patchBackSpec : ChangeSpec := { name := "patchBack", fn := fun _ => fun
  | [d1, d2] => { results := [.lit (.bool true)], args := [d1, d2] }
  | _ => none }
def patchBackRow : OpenClaim := { program := "ytoibdomcekainaa", sum := "3bb2dbae5e83a45992fc7aa8012c99763ce2e7f60242d29afea4956892769ec8", func := "escheat/escheatlaw07.PatchBack", spec := "patchBack", apart := false }
def PatchBackSaid : Prop := patchBackRow.holds Try.pinned (OpenSpec.ofChange patchBackSpec)

/-- ITS FALSE NEIGHBOUR: 'it returns false'. Refute it at one input. -/
def patchBackWrong : ChangeSpec := { name := "patchBack", fn := fun _ => fun
  | [d1, d2] => { results := [.lit (.bool false)], args := [d1, d2] }
  | _ => none }
def PatchBackWrongFalsely : Prop := patchBackRow.holds Try.pinned (OpenSpec.ofChange patchBackWrong)

/-- 'escheatlaw26.RouteSplits': WHATEVER THE INPUT: true; the input reads as it did. -/
def routeSplitsSpec : ChangeSpec := { name := "routeSplits", fn := fun _ => fun
  | [d] => { results := [.lit (.bool true)], args := [d] }
  | _ => none }
def routeSplitsRow : OpenClaim := { program := "ytoibdomcekainaa", sum := "3bb2dbae5e83a45992fc7aa8012c99763ce2e7f60242d29afea4956892769ec8", func := "escheat/escheatlaw26.RouteSplits", spec := "routeSplits", apart := false }
def RouteSplitsSaid : Prop := routeSplitsRow.holds Try.pinned (OpenSpec.ofChange routeSplitsSpec)

/-- ITS FALSE NEIGHBOUR: 'it returns false'. Refute it at one input. -/
def routeSplitsWrong : ChangeSpec := { name := "routeSplits", fn := fun _ => fun
  | [d] => { results := [.lit (.bool false)], args := [d] }
  | _ => none }
def RouteSplitsWrongFalsely : Prop := routeSplitsRow.holds Try.pinned (OpenSpec.ofChange routeSplitsWrong)

/-- 'escheatlaw26.RouteOrder': WHATEVER THE INPUT: true; the input reads as it did. -/
def routeOrderSpec : ChangeSpec := { name := "routeOrder", fn := fun _ => fun
  | [d1, d2, d3] => { results := [.lit (.bool true)], args := [d1, d2, d3] }
  | _ => none }
def routeOrderRow : OpenClaim := { program := "ytoibdomcekainaa", sum := "3bb2dbae5e83a45992fc7aa8012c99763ce2e7f60242d29afea4956892769ec8", func := "escheat/escheatlaw26.RouteOrder", spec := "routeOrder", apart := false }
def RouteOrderSaid : Prop := routeOrderRow.holds Try.pinned (OpenSpec.ofChange routeOrderSpec)

/-- ITS FALSE NEIGHBOUR: 'it returns false'. Refute it at one input. -/
def routeOrderWrong : ChangeSpec := { name := "routeOrder", fn := fun _ => fun
  | [d1, d2, d3] => { results := [.lit (.bool false)], args := [d1, d2, d3] }
  | _ => none }
def RouteOrderWrongFalsely : Prop := routeOrderRow.holds Try.pinned (OpenSpec.ofChange routeOrderWrong)

/-- 'escheatlaw07.PatchLays': WHATEVER THE INPUT: true; the input reads as it did. -/
def patchLaysSpec : ChangeSpec := { name := "patchLays", fn := fun _ => fun
  | [d1, d2, d3] => { results := [.lit (.bool true)], args := [d1, d2, d3] }
  | _ => none }
def patchLaysRow : OpenClaim := { program := "ytoibdomcekainaa", sum := "3bb2dbae5e83a45992fc7aa8012c99763ce2e7f60242d29afea4956892769ec8", func := "escheat/escheatlaw07.PatchLays", spec := "patchLays", apart := false }
def PatchLaysSaid : Prop := patchLaysRow.holds Try.pinned (OpenSpec.ofChange patchLaysSpec)

/-- ITS FALSE NEIGHBOUR: 'it returns false'. Refute it at one input. -/
def patchLaysWrong : ChangeSpec := { name := "patchLays", fn := fun _ => fun
  | [d1, d2, d3] => { results := [.lit (.bool false)], args := [d1, d2, d3] }
  | _ => none }
def PatchLaysWrongFalsely : Prop := patchLaysRow.holds Try.pinned (OpenSpec.ofChange patchLaysWrong)

/-- 'escheatlaw07.PatchSwaps': WHATEVER THE INPUT: true; the input reads as it did. -/
def patchSwapsSpec : ChangeSpec := { name := "patchSwaps", fn := fun _ => fun
  | [d1, d2, d3] => { results := [.lit (.bool true)], args := [d1, d2, d3] }
  | _ => none }
def patchSwapsRow : OpenClaim := { program := "ytoibdomcekainaa", sum := "3bb2dbae5e83a45992fc7aa8012c99763ce2e7f60242d29afea4956892769ec8", func := "escheat/escheatlaw07.PatchSwaps", spec := "patchSwaps", apart := false }
def PatchSwapsSaid : Prop := patchSwapsRow.holds Try.pinned (OpenSpec.ofChange patchSwapsSpec)

/-- ITS FALSE NEIGHBOUR: 'it returns false'. Refute it at one input. -/
def patchSwapsWrong : ChangeSpec := { name := "patchSwaps", fn := fun _ => fun
  | [d1, d2, d3] => { results := [.lit (.bool false)], args := [d1, d2, d3] }
  | _ => none }
def PatchSwapsWrongFalsely : Prop := patchSwapsRow.holds Try.pinned (OpenSpec.ofChange patchSwapsWrong)

/-- 'escheatlaw26.RouteBack': WHATEVER THE INPUT: true; the input reads as it did. -/
def routeBackSpec : ChangeSpec := { name := "routeBack", fn := fun _ => fun
  | [d1, d2] => { results := [.lit (.bool true)], args := [d1, d2] }
  | _ => none }
def routeBackRow : OpenClaim := { program := "ytoibdomcekainaa", sum := "3bb2dbae5e83a45992fc7aa8012c99763ce2e7f60242d29afea4956892769ec8", func := "escheat/escheatlaw26.RouteBack", spec := "routeBack", apart := false }
def RouteBackSaid : Prop := routeBackRow.holds Try.pinned (OpenSpec.ofChange routeBackSpec)

/-- ITS FALSE NEIGHBOUR: 'it returns false'. Refute it at one input. -/
def routeBackWrong : ChangeSpec := { name := "routeBack", fn := fun _ => fun
  | [d1, d2] => { results := [.lit (.bool false)], args := [d1, d2] }
  | _ => none }
def RouteBackWrongFalsely : Prop := routeBackRow.holds Try.pinned (OpenSpec.ofChange routeBackWrong)

/-- 'escheatlaw07.PatchAll': WHATEVER THE INPUT: true; the input reads as it did. -/
def patchAllSpec : ChangeSpec := { name := "patchAll", fn := fun _ => fun
  | [d1, d2] => { results := [.lit (.bool true)], args := [d1, d2] }
  | _ => none }
def patchAllRow : OpenClaim := { program := "ytoibdomcekainaa", sum := "3bb2dbae5e83a45992fc7aa8012c99763ce2e7f60242d29afea4956892769ec8", func := "escheat/escheatlaw07.PatchAll", spec := "patchAll", apart := false }
def PatchAllSaid : Prop := patchAllRow.holds Try.pinned (OpenSpec.ofChange patchAllSpec)

/-- ITS FALSE NEIGHBOUR: 'it returns false'. Refute it at one input. -/
def patchAllWrong : ChangeSpec := { name := "patchAll", fn := fun _ => fun
  | [d1, d2] => { results := [.lit (.bool false)], args := [d1, d2] }
  | _ => none }
def PatchAllWrongFalsely : Prop := patchAllRow.holds Try.pinned (OpenSpec.ofChange patchAllWrong)

/-- 'escheatlaw07.PatchLeads': WHATEVER THE INPUT: true; the input reads as it did. -/
def patchLeadsSpec : ChangeSpec := { name := "patchLeads", fn := fun _ => fun
  | [d1, d2] => { results := [.lit (.bool true)], args := [d1, d2] }
  | _ => none }
def patchLeadsRow : OpenClaim := { program := "ytoibdomcekainaa", sum := "3bb2dbae5e83a45992fc7aa8012c99763ce2e7f60242d29afea4956892769ec8", func := "escheat/escheatlaw07.PatchLeads", spec := "patchLeads", apart := false }
def PatchLeadsSaid : Prop := patchLeadsRow.holds Try.pinned (OpenSpec.ofChange patchLeadsSpec)

/-- ITS FALSE NEIGHBOUR: 'it returns false'. Refute it at one input. -/
def patchLeadsWrong : ChangeSpec := { name := "patchLeads", fn := fun _ => fun
  | [d1, d2] => { results := [.lit (.bool false)], args := [d1, d2] }
  | _ => none }
def PatchLeadsWrongFalsely : Prop := patchLeadsRow.holds Try.pinned (OpenSpec.ofChange patchLeadsWrong)

/-- 'escheatlaw26.RouteJoins': WHATEVER THE INPUT: true; the input reads as it did. -/
def routeJoinsSpec : ChangeSpec := { name := "routeJoins", fn := fun _ => fun
  | [d1, d2] => { results := [.lit (.bool true)], args := [d1, d2] }
  | _ => none }
def routeJoinsRow : OpenClaim := { program := "ytoibdomcekainaa", sum := "3bb2dbae5e83a45992fc7aa8012c99763ce2e7f60242d29afea4956892769ec8", func := "escheat/escheatlaw26.RouteJoins", spec := "routeJoins", apart := false }
def RouteJoinsSaid : Prop := routeJoinsRow.holds Try.pinned (OpenSpec.ofChange routeJoinsSpec)

/-- ITS FALSE NEIGHBOUR: 'it returns false'. Refute it at one input. -/
def routeJoinsWrong : ChangeSpec := { name := "routeJoins", fn := fun _ => fun
  | [d1, d2] => { results := [.lit (.bool false)], args := [d1, d2] }
  | _ => none }
def RouteJoinsWrongFalsely : Prop := routeJoinsRow.holds Try.pinned (OpenSpec.ofChange routeJoinsWrong)

/-- 'escheatlaw34.NeedPlain': WHATEVER THE INPUT: true; the input reads as it did. -/
def needPlainSpec : ChangeSpec := { name := "needPlain", fn := fun _ => fun
  | [d1, d2] => { results := [.lit (.bool true)], args := [d1, d2] }
  | _ => none }
def needPlainRow : OpenClaim := { program := "ytoibdomcekainaa", sum := "3bb2dbae5e83a45992fc7aa8012c99763ce2e7f60242d29afea4956892769ec8", func := "escheat/escheatlaw34.NeedPlain", spec := "needPlain", apart := false }
def NeedPlainSaid : Prop := needPlainRow.holds Try.pinned (OpenSpec.ofChange needPlainSpec)

/-- ITS FALSE NEIGHBOUR: 'it returns false'. Refute it at one input. -/
def needPlainWrong : ChangeSpec := { name := "needPlain", fn := fun _ => fun
  | [d1, d2] => { results := [.lit (.bool false)], args := [d1, d2] }
  | _ => none }
def NeedPlainWrongFalsely : Prop := needPlainRow.holds Try.pinned (OpenSpec.ofChange needPlainWrong)

/- THE SECOND FORM. 'bulk': how many values and letters a reading holds, each counted each time it is reached (what is shared counts as often as it is met; a slice's spare places count too). A statement '..UptoSaid' is the law's where the arguments, and the package variables that the reading takes, are together of bulk at most 1048576: NARROWER than '..Said'. Prove '..Said' where nothing that the law and all that it calls make is longer than what came in: it says more and counts as full. Else prove '..UptoSaid'. A law counts once. -/
mutual
def uptoBulk {H : Type} : DataW H → Nat
  | .lit (.string bytes) => bytes.length + 1
  | .lit _ => 1
  | .nil => 1
  | .ptr d => uptoBulk d + 1
  | .slice elems spare => uptoBulkAll elems + uptoBulkAll spare + 1
  | .agg parts => uptoBulkAll parts + 1
  | .iface _ d => uptoBulk d + 1
  | .map entries => uptoBulkEntries entries + 1
  | .held _ => 1
def uptoBulkAll {H : Type} : List (DataW H) → Nat
  | [] => 0
  | d :: r => uptoBulk d + uptoBulkAll r
def uptoBulkEntries {H : Type} : List (Lit × DataW H) → Nat
  | [] => 0
  | x :: r => uptoBulkEntry x + uptoBulkEntries r
def uptoBulkEntry {H : Type} : Lit × DataW H → Nat
  | (.string bytes, d) => bytes.length + uptoBulk d + 1
  | (_, d) => uptoBulk d + 1
 end
def uptoSmall : (H : Type) → List (DataW H) → Bool := fun _ ds => decide (uptoBulkAll ds ≤ 1048576)
def OpenSpec.upto (s : _root_.Go.ChangeSpec) : _root_.Go.OpenSpec := { _root_.Go.OpenSpec.ofChange s with cond := some uptoSmall }

/-- 'escheatlaw07.PatchDiffs', WHERE WHAT IT READS IS OF BULK AT MOST 1048576: true; the input reads as it did. -/
def patchDiffsUptoRow : OpenClaim := { program := "ytoibdomcekainaa", sum := "3bb2dbae5e83a45992fc7aa8012c99763ce2e7f60242d29afea4956892769ec8", func := "escheat/escheatlaw07.PatchDiffs", spec := "patchDiffs", apart := false, narrowed := true }
def PatchDiffsUptoSaid : Prop := patchDiffsUptoRow.holds Try.pinned (OpenSpec.upto patchDiffsSpec)

/-- 'escheatlaw07.PatchBack', WHERE WHAT IT READS IS OF BULK AT MOST 1048576: true; the input reads as it did. -/
def patchBackUptoRow : OpenClaim := { program := "ytoibdomcekainaa", sum := "3bb2dbae5e83a45992fc7aa8012c99763ce2e7f60242d29afea4956892769ec8", func := "escheat/escheatlaw07.PatchBack", spec := "patchBack", apart := false, narrowed := true }
def PatchBackUptoSaid : Prop := patchBackUptoRow.holds Try.pinned (OpenSpec.upto patchBackSpec)

/-- 'escheatlaw26.RouteSplits', WHERE WHAT IT READS IS OF BULK AT MOST 1048576: true; the input reads as it did. -/
def routeSplitsUptoRow : OpenClaim := { program := "ytoibdomcekainaa", sum := "3bb2dbae5e83a45992fc7aa8012c99763ce2e7f60242d29afea4956892769ec8", func := "escheat/escheatlaw26.RouteSplits", spec := "routeSplits", apart := false, narrowed := true }
def RouteSplitsUptoSaid : Prop := routeSplitsUptoRow.holds Try.pinned (OpenSpec.upto routeSplitsSpec)

/-- 'escheatlaw26.RouteOrder', WHERE WHAT IT READS IS OF BULK AT MOST 1048576: true; the input reads as it did. -/
def routeOrderUptoRow : OpenClaim := { program := "ytoibdomcekainaa", sum := "3bb2dbae5e83a45992fc7aa8012c99763ce2e7f60242d29afea4956892769ec8", func := "escheat/escheatlaw26.RouteOrder", spec := "routeOrder", apart := false, narrowed := true }
def RouteOrderUptoSaid : Prop := routeOrderUptoRow.holds Try.pinned (OpenSpec.upto routeOrderSpec)

/-- 'escheatlaw07.PatchLays', WHERE WHAT IT READS IS OF BULK AT MOST 1048576: true; the input reads as it did. -/
def patchLaysUptoRow : OpenClaim := { program := "ytoibdomcekainaa", sum := "3bb2dbae5e83a45992fc7aa8012c99763ce2e7f60242d29afea4956892769ec8", func := "escheat/escheatlaw07.PatchLays", spec := "patchLays", apart := false, narrowed := true }
def PatchLaysUptoSaid : Prop := patchLaysUptoRow.holds Try.pinned (OpenSpec.upto patchLaysSpec)

/-- 'escheatlaw07.PatchSwaps', WHERE WHAT IT READS IS OF BULK AT MOST 1048576: true; the input reads as it did. -/
def patchSwapsUptoRow : OpenClaim := { program := "ytoibdomcekainaa", sum := "3bb2dbae5e83a45992fc7aa8012c99763ce2e7f60242d29afea4956892769ec8", func := "escheat/escheatlaw07.PatchSwaps", spec := "patchSwaps", apart := false, narrowed := true }
def PatchSwapsUptoSaid : Prop := patchSwapsUptoRow.holds Try.pinned (OpenSpec.upto patchSwapsSpec)

/-- 'escheatlaw26.RouteBack', WHERE WHAT IT READS IS OF BULK AT MOST 1048576: true; the input reads as it did. -/
def routeBackUptoRow : OpenClaim := { program := "ytoibdomcekainaa", sum := "3bb2dbae5e83a45992fc7aa8012c99763ce2e7f60242d29afea4956892769ec8", func := "escheat/escheatlaw26.RouteBack", spec := "routeBack", apart := false, narrowed := true }
def RouteBackUptoSaid : Prop := routeBackUptoRow.holds Try.pinned (OpenSpec.upto routeBackSpec)

/-- 'escheatlaw07.PatchAll', WHERE WHAT IT READS IS OF BULK AT MOST 1048576: true; the input reads as it did. -/
def patchAllUptoRow : OpenClaim := { program := "ytoibdomcekainaa", sum := "3bb2dbae5e83a45992fc7aa8012c99763ce2e7f60242d29afea4956892769ec8", func := "escheat/escheatlaw07.PatchAll", spec := "patchAll", apart := false, narrowed := true }
def PatchAllUptoSaid : Prop := patchAllUptoRow.holds Try.pinned (OpenSpec.upto patchAllSpec)

/-- 'escheatlaw07.PatchLeads', WHERE WHAT IT READS IS OF BULK AT MOST 1048576: true; the input reads as it did. -/
def patchLeadsUptoRow : OpenClaim := { program := "ytoibdomcekainaa", sum := "3bb2dbae5e83a45992fc7aa8012c99763ce2e7f60242d29afea4956892769ec8", func := "escheat/escheatlaw07.PatchLeads", spec := "patchLeads", apart := false, narrowed := true }
def PatchLeadsUptoSaid : Prop := patchLeadsUptoRow.holds Try.pinned (OpenSpec.upto patchLeadsSpec)

/-- 'escheatlaw26.RouteJoins', WHERE WHAT IT READS IS OF BULK AT MOST 1048576: true; the input reads as it did. -/
def routeJoinsUptoRow : OpenClaim := { program := "ytoibdomcekainaa", sum := "3bb2dbae5e83a45992fc7aa8012c99763ce2e7f60242d29afea4956892769ec8", func := "escheat/escheatlaw26.RouteJoins", spec := "routeJoins", apart := false, narrowed := true }
def RouteJoinsUptoSaid : Prop := routeJoinsUptoRow.holds Try.pinned (OpenSpec.upto routeJoinsSpec)

/-- 'escheatlaw34.NeedPlain', WHERE WHAT IT READS IS OF BULK AT MOST 1048576: true; the input reads as it did. -/
def needPlainUptoRow : OpenClaim := { program := "ytoibdomcekainaa", sum := "3bb2dbae5e83a45992fc7aa8012c99763ce2e7f60242d29afea4956892769ec8", func := "escheat/escheatlaw34.NeedPlain", spec := "needPlain", apart := false, narrowed := true }
def NeedPlainUptoSaid : Prop := needPlainUptoRow.holds Try.pinned (OpenSpec.upto needPlainSpec)

end Rows
end Go.Proofs.Ytoibdomcekainaa
