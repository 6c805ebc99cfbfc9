/-
  No cell of these rows narrows 'for every input' (looked for: loops, veiled, ifaces, maps, wideKeys, modest, calm, conditions, laid).
  DERIVED. THE GIVEN ROWS OF THIS SEAT. 2 by the template 'for every input the law returns true; each argument reads behind the call as it read before'; 0 by the template 'total and deterministic' (their statements: YtbamhiegabeicaaTotals.lean).
  GIVEN WITH THE SEED: the statements are not yours to turn. If you find one false, say at which input.
  Laid BY PROGRAM, IN A SANDBOX (cutbox-rows.mjs): the forced cells as the released guide's own fill.sh prints them over the translation a6e81dea96319797… (all of the seat's roots in one cut). By AI agents, Wed Nov 11 2026. No macro, syntax, notation, axiom, sorry.
-/
import Derived.Test.YtbamhiegabeicaaChecked
import GoSem.Claim
import GoSem.ClaimJoined
import GoSem.ClaimMapViews
import Derived.JoinedTies
import Derived.KernelRfl
namespace Go.Proofs.Ytbamhiegabeicaa
/- THE CELL 'sum', in the pinned program and in every row, IS THE sha256 OF THE DUMP (.gsa) THAT YtbamhiegabeicaaProg.lean LOADS. Nothing in Lean hashes anything: it is a label: what it is worth is what the hold of that sum in a sandbox is worth. -/
noncomputable def Try.pinned : Pinned := { name := "ytbamhiegabeicaa", sum := "a6e81dea96319797643ea8aebe5143c1ac1602aa5c343804df4500680dfc8312", checked := Try.checked }
namespace Rows
def none {H : Type} : Left H := { results := [], args := [] }

/-- 'escheatlaw13.SchedDeep': WHATEVER THE INPUT: true; the input reads as it did. -/
def schedDeepSpec : ChangeSpec := { name := "schedDeep", fn := fun _ => fun
  | [d] => { results := [.lit (.bool true)], args := [d] }
  | _ => none }
def schedDeepRow : OpenClaim := { program := "ytbamhiegabeicaa", sum := "a6e81dea96319797643ea8aebe5143c1ac1602aa5c343804df4500680dfc8312", func := "escheat/escheatlaw13.SchedDeep", spec := "schedDeep", inPlace := ["math.Float64frombits", "math.Float64bits"], unfollowed := true, recurses := true, apart := false }
def SchedDeepSaid : Prop := schedDeepRow.holds Try.pinned (OpenSpec.ofChange schedDeepSpec)

/-- ITS FALSE NEIGHBOUR: 'it returns false'. Refute it at one input. -/
def schedDeepWrong : ChangeSpec := { name := "schedDeep", fn := fun _ => fun
  | [d] => { results := [.lit (.bool false)], args := [d] }
  | _ => none }
def SchedDeepWrongFalsely : Prop := schedDeepRow.holds Try.pinned (OpenSpec.ofChange schedDeepWrong)

/-- 'escheatlaw13.SchedViews': WHATEVER THE INPUT: true; the input reads as it did. -/
def schedViewsSpec : ChangeSpec := { name := "schedViews", fn := fun _ => fun
  | [d1, d2] => { results := [.lit (.bool true)], args := [d1, d2] }
  | _ => none }
def schedViewsRow : OpenClaim := { program := "ytbamhiegabeicaa", sum := "a6e81dea96319797643ea8aebe5143c1ac1602aa5c343804df4500680dfc8312", func := "escheat/escheatlaw13.SchedViews", spec := "schedViews", inPlace := ["math.Float64frombits", "math.Float64bits"], unfollowed := true, recurses := true, apart := false }
def SchedViewsSaid : Prop := schedViewsRow.holds Try.pinned (OpenSpec.ofChange schedViewsSpec)

/-- ITS FALSE NEIGHBOUR: 'it returns false'. Refute it at one input. -/
def schedViewsWrong : ChangeSpec := { name := "schedViews", fn := fun _ => fun
  | [d1, d2] => { results := [.lit (.bool false)], args := [d1, d2] }
  | _ => none }
def SchedViewsWrongFalsely : Prop := schedViewsRow.holds Try.pinned (OpenSpec.ofChange schedViewsWrong)

/- THE SECOND FORM. 'bulk': how many values and letters a reading holds, each counted each time it is reached (what is shared counts as often as it is met; a slice's spare places count too). A statement '..UptoSaid' is the law's where the arguments, and the package variables that the reading takes, are together of bulk at most 1048576: NARROWER than '..Said'. Prove '..Said' where nothing that the law and all that it calls make is longer than what came in: it says more and counts as full. Else prove '..UptoSaid'. A law counts once. -/
mutual
def uptoBulk {H : Type} : DataW H → Nat
  | .lit (.string bytes) => bytes.length + 1
  | .lit _ => 1
  | .nil => 1
  | .ptr d => uptoBulk d + 1
  | .slice elems spare => uptoBulkAll elems + uptoBulkAll spare + 1
  | .agg parts => uptoBulkAll parts + 1
  | .iface _ d => uptoBulk d + 1
  | .map entries => uptoBulkEntries entries + 1
  | .held _ => 1
def uptoBulkAll {H : Type} : List (DataW H) → Nat
  | [] => 0
  | d :: r => uptoBulk d + uptoBulkAll r
def uptoBulkEntries {H : Type} : List (Lit × DataW H) → Nat
  | [] => 0
  | x :: r => uptoBulkEntry x + uptoBulkEntries r
def uptoBulkEntry {H : Type} : Lit × DataW H → Nat
  | (.string bytes, d) => bytes.length + uptoBulk d + 1
  | (_, d) => uptoBulk d + 1
 end
def uptoSmall : (H : Type) → List (DataW H) → Bool := fun _ ds => decide (uptoBulkAll ds ≤ 1048576)
def OpenSpec.upto (s : _root_.Go.ChangeSpec) : _root_.Go.OpenSpec := { _root_.Go.OpenSpec.ofChange s with cond := some uptoSmall }

/-- 'escheatlaw13.SchedDeep', WHERE WHAT IT READS IS OF BULK AT MOST 1048576: true; the input reads as it did. -/
def schedDeepUptoRow : OpenClaim := { program := "ytbamhiegabeicaa", sum := "a6e81dea96319797643ea8aebe5143c1ac1602aa5c343804df4500680dfc8312", func := "escheat/escheatlaw13.SchedDeep", spec := "schedDeep", inPlace := ["math.Float64frombits", "math.Float64bits"], unfollowed := true, recurses := true, apart := false, narrowed := true }
def SchedDeepUptoSaid : Prop := schedDeepUptoRow.holds Try.pinned (OpenSpec.upto schedDeepSpec)

/-- 'escheatlaw13.SchedViews', WHERE WHAT IT READS IS OF BULK AT MOST 1048576: true; the input reads as it did. -/
def schedViewsUptoRow : OpenClaim := { program := "ytbamhiegabeicaa", sum := "a6e81dea96319797643ea8aebe5143c1ac1602aa5c343804df4500680dfc8312", func := "escheat/escheatlaw13.SchedViews", spec := "schedViews", inPlace := ["math.Float64frombits", "math.Float64bits"], unfollowed := true, recurses := true, apart := false, narrowed := true }
def SchedViewsUptoSaid : Prop := schedViewsUptoRow.holds Try.pinned (OpenSpec.upto schedViewsSpec)

end Rows
end Go.Proofs.Ytbamhiegabeicaa
