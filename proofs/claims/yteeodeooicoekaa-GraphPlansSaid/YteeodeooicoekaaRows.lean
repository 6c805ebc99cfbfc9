/-
  No cell of these rows narrows 'for every input' (looked for: loops, veiled, ifaces, maps, wideKeys, modest, calm, conditions, laid).
  DERIVED. THE GIVEN ROWS OF THIS SEAT. 9 by the template 'for every input the law returns true; each argument reads behind the call as it read before'; 0 by the template 'total and deterministic' (their statements: YteeodeooicoekaaTotals.lean).
  GIVEN WITH THE SEED: the statements are not yours to turn. If you find one false, say at which input.
  Laid BY PROGRAM, IN A SANDBOX (cutbox-rows.mjs): the forced cells as the released guide's own fill.sh prints them over the translation ee953f34d1b485a7… (all of the seat's roots in one cut). By AI agents, Wed Nov 11 2026. No macro, syntax, notation, axiom, sorry.
-/
import Derived.Test.YteeodeooicoekaaChecked
import GoSem.Claim
import GoSem.ClaimJoined
import GoSem.ClaimMapViews
import Derived.JoinedTies
import Derived.KernelRfl
namespace Go.Proofs.Yteeodeooicoekaa
/- THE CELL 'sum', in the pinned program and in every row, IS THE sha256 OF THE DUMP (.gsa) THAT YteeodeooicoekaaProg.lean LOADS. Nothing in Lean hashes anything: it is a label: what it is worth is what the hold of that sum in a sandbox is worth. -/
noncomputable def Try.pinned : Pinned := { name := "yteeodeooicoekaa", sum := "ee953f34d1b485a7308a5763978ad52bb75cab55fb7fb54d72fe8f795545126a", checked := Try.checked }
namespace Rows
def none {H : Type} : Left H := { results := [], args := [] }

/-- 'escheatlaw10.RollWrites': WHATEVER THE INPUT: true; the input reads as it did. -/
def rollWritesSpec : ChangeSpec := { name := "rollWrites", fn := fun _ => fun
  | [d1, d2, d3] => { results := [.lit (.bool true)], args := [d1, d2, d3] }
  | _ => none }
def rollWritesRow : OpenClaim := { program := "yteeodeooicoekaa", sum := "ee953f34d1b485a7308a5763978ad52bb75cab55fb7fb54d72fe8f795545126a", func := "escheat/escheatlaw10.RollWrites", spec := "rollWrites", unfollowed := true, recurses := true, apart := false }
def RollWritesSaid : Prop := rollWritesRow.holds Try.pinned (OpenSpec.ofChange rollWritesSpec)

/-- ITS FALSE NEIGHBOUR: 'it returns false'. Refute it at one input. -/
def rollWritesWrong : ChangeSpec := { name := "rollWrites", fn := fun _ => fun
  | [d1, d2, d3] => { results := [.lit (.bool false)], args := [d1, d2, d3] }
  | _ => none }
def RollWritesWrongFalsely : Prop := rollWritesRow.holds Try.pinned (OpenSpec.ofChange rollWritesWrong)

/-- 'escheatlaw10.RollKeeps': WHATEVER THE INPUT: true; the input reads as it did. -/
def rollKeepsSpec : ChangeSpec := { name := "rollKeeps", fn := fun _ => fun
  | [d1, d2, d3] => { results := [.lit (.bool true)], args := [d1, d2, d3] }
  | _ => none }
def rollKeepsRow : OpenClaim := { program := "yteeodeooicoekaa", sum := "ee953f34d1b485a7308a5763978ad52bb75cab55fb7fb54d72fe8f795545126a", func := "escheat/escheatlaw10.RollKeeps", spec := "rollKeeps", unfollowed := true, recurses := true, apart := false }
def RollKeepsSaid : Prop := rollKeepsRow.holds Try.pinned (OpenSpec.ofChange rollKeepsSpec)

/-- ITS FALSE NEIGHBOUR: 'it returns false'. Refute it at one input. -/
def rollKeepsWrong : ChangeSpec := { name := "rollKeeps", fn := fun _ => fun
  | [d1, d2, d3] => { results := [.lit (.bool false)], args := [d1, d2, d3] }
  | _ => none }
def RollKeepsWrongFalsely : Prop := rollKeepsRow.holds Try.pinned (OpenSpec.ofChange rollKeepsWrong)

/-- 'escheatlaw10.RollTwice': WHATEVER THE INPUT: true; the input reads as it did. -/
def rollTwiceSpec : ChangeSpec := { name := "rollTwice", fn := fun _ => fun
  | [d1, d2, d3] => { results := [.lit (.bool true)], args := [d1, d2, d3] }
  | _ => none }
def rollTwiceRow : OpenClaim := { program := "yteeodeooicoekaa", sum := "ee953f34d1b485a7308a5763978ad52bb75cab55fb7fb54d72fe8f795545126a", func := "escheat/escheatlaw10.RollTwice", spec := "rollTwice", unfollowed := true, recurses := true, apart := false }
def RollTwiceSaid : Prop := rollTwiceRow.holds Try.pinned (OpenSpec.ofChange rollTwiceSpec)

/-- ITS FALSE NEIGHBOUR: 'it returns false'. Refute it at one input. -/
def rollTwiceWrong : ChangeSpec := { name := "rollTwice", fn := fun _ => fun
  | [d1, d2, d3] => { results := [.lit (.bool false)], args := [d1, d2, d3] }
  | _ => none }
def RollTwiceWrongFalsely : Prop := rollTwiceRow.holds Try.pinned (OpenSpec.ofChange rollTwiceWrong)

/-- 'escheatlaw10.RollTells': WHATEVER THE INPUT: true; the input reads as it did. -/
def rollTellsSpec : ChangeSpec := { name := "rollTells", fn := fun _ => fun
  | [d1, d2, d3] => { results := [.lit (.bool true)], args := [d1, d2, d3] }
  | _ => none }
def rollTellsRow : OpenClaim := { program := "yteeodeooicoekaa", sum := "ee953f34d1b485a7308a5763978ad52bb75cab55fb7fb54d72fe8f795545126a", func := "escheat/escheatlaw10.RollTells", spec := "rollTells", unfollowed := true, recurses := true, apart := false }
def RollTellsSaid : Prop := rollTellsRow.holds Try.pinned (OpenSpec.ofChange rollTellsSpec)

/-- ITS FALSE NEIGHBOUR: 'it returns false'. Refute it at one input. -/
def rollTellsWrong : ChangeSpec := { name := "rollTells", fn := fun _ => fun
  | [d1, d2, d3] => { results := [.lit (.bool false)], args := [d1, d2, d3] }
  | _ => none }
def RollTellsWrongFalsely : Prop := rollTellsRow.holds Try.pinned (OpenSpec.ofChange rollTellsWrong)

/-- 'escheatlaw11.GraphTells': WHATEVER THE INPUT: true; the input reads as it did. -/
def graphTellsSpec : ChangeSpec := { name := "graphTells", fn := fun _ => fun
  | [d1, d2] => { results := [.lit (.bool true)], args := [d1, d2] }
  | _ => none }
def graphTellsRow : OpenClaim := { program := "yteeodeooicoekaa", sum := "ee953f34d1b485a7308a5763978ad52bb75cab55fb7fb54d72fe8f795545126a", func := "escheat/escheatlaw11.GraphTells", spec := "graphTells", unfollowed := true, recurses := true, apart := false }
def GraphTellsSaid : Prop := graphTellsRow.holds Try.pinned (OpenSpec.ofChange graphTellsSpec)

/-- ITS FALSE NEIGHBOUR: 'it returns false'. Refute it at one input. -/
def graphTellsWrong : ChangeSpec := { name := "graphTells", fn := fun _ => fun
  | [d1, d2] => { results := [.lit (.bool false)], args := [d1, d2] }
  | _ => none }
def GraphTellsWrongFalsely : Prop := graphTellsRow.holds Try.pinned (OpenSpec.ofChange graphTellsWrong)

/-- 'escheatlaw11.GraphPlans': WHATEVER THE INPUT: true; the input reads as it did. -/
def graphPlansSpec : ChangeSpec := { name := "graphPlans", fn := fun _ => fun
  | [d1, d2] => { results := [.lit (.bool true)], args := [d1, d2] }
  | _ => none }
def graphPlansRow : OpenClaim := { program := "yteeodeooicoekaa", sum := "ee953f34d1b485a7308a5763978ad52bb75cab55fb7fb54d72fe8f795545126a", func := "escheat/escheatlaw11.GraphPlans", spec := "graphPlans", unfollowed := true, recurses := true, apart := false }
def GraphPlansSaid : Prop := graphPlansRow.holds Try.pinned (OpenSpec.ofChange graphPlansSpec)

/-- ITS FALSE NEIGHBOUR: 'it returns false'. Refute it at one input. -/
def graphPlansWrong : ChangeSpec := { name := "graphPlans", fn := fun _ => fun
  | [d1, d2] => { results := [.lit (.bool false)], args := [d1, d2] }
  | _ => none }
def GraphPlansWrongFalsely : Prop := graphPlansRow.holds Try.pinned (OpenSpec.ofChange graphPlansWrong)

/-- 'escheatlaw11.GraphCloses': WHATEVER THE INPUT: true; the input reads as it did. -/
def graphClosesSpec : ChangeSpec := { name := "graphCloses", fn := fun _ => fun
  | [d1, d2] => { results := [.lit (.bool true)], args := [d1, d2] }
  | _ => none }
def graphClosesRow : OpenClaim := { program := "yteeodeooicoekaa", sum := "ee953f34d1b485a7308a5763978ad52bb75cab55fb7fb54d72fe8f795545126a", func := "escheat/escheatlaw11.GraphCloses", spec := "graphCloses", unfollowed := true, recurses := true, apart := false }
def GraphClosesSaid : Prop := graphClosesRow.holds Try.pinned (OpenSpec.ofChange graphClosesSpec)

/-- ITS FALSE NEIGHBOUR: 'it returns false'. Refute it at one input. -/
def graphClosesWrong : ChangeSpec := { name := "graphCloses", fn := fun _ => fun
  | [d1, d2] => { results := [.lit (.bool false)], args := [d1, d2] }
  | _ => none }
def GraphClosesWrongFalsely : Prop := graphClosesRow.holds Try.pinned (OpenSpec.ofChange graphClosesWrong)

/-- 'escheatlaw11.GraphRows': WHATEVER THE INPUT: true; the input reads as it did. -/
def graphRowsSpec : ChangeSpec := { name := "graphRows", fn := fun _ => fun
  | [d1, d2, d3] => { results := [.lit (.bool true)], args := [d1, d2, d3] }
  | _ => none }
def graphRowsRow : OpenClaim := { program := "yteeodeooicoekaa", sum := "ee953f34d1b485a7308a5763978ad52bb75cab55fb7fb54d72fe8f795545126a", func := "escheat/escheatlaw11.GraphRows", spec := "graphRows", unfollowed := true, recurses := true, apart := false }
def GraphRowsSaid : Prop := graphRowsRow.holds Try.pinned (OpenSpec.ofChange graphRowsSpec)

/-- ITS FALSE NEIGHBOUR: 'it returns false'. Refute it at one input. -/
def graphRowsWrong : ChangeSpec := { name := "graphRows", fn := fun _ => fun
  | [d1, d2, d3] => { results := [.lit (.bool false)], args := [d1, d2, d3] }
  | _ => none }
def GraphRowsWrongFalsely : Prop := graphRowsRow.holds Try.pinned (OpenSpec.ofChange graphRowsWrong)

/-- 'escheatlaw11.GraphDrains': WHATEVER THE INPUT: true; the input reads as it did. -/
def graphDrainsSpec : ChangeSpec := { name := "graphDrains", fn := fun _ => fun
  | [d] => { results := [.lit (.bool true)], args := [d] }
  | _ => none }
def graphDrainsRow : OpenClaim := { program := "yteeodeooicoekaa", sum := "ee953f34d1b485a7308a5763978ad52bb75cab55fb7fb54d72fe8f795545126a", func := "escheat/escheatlaw11.GraphDrains", spec := "graphDrains", unfollowed := true, recurses := true, apart := false }
def GraphDrainsSaid : Prop := graphDrainsRow.holds Try.pinned (OpenSpec.ofChange graphDrainsSpec)

/-- ITS FALSE NEIGHBOUR: 'it returns false'. Refute it at one input. -/
def graphDrainsWrong : ChangeSpec := { name := "graphDrains", fn := fun _ => fun
  | [d] => { results := [.lit (.bool false)], args := [d] }
  | _ => none }
def GraphDrainsWrongFalsely : Prop := graphDrainsRow.holds Try.pinned (OpenSpec.ofChange graphDrainsWrong)

/- THE SECOND FORM. 'bulk': how many values and letters a reading holds, each counted each time it is reached (what is shared counts as often as it is met; a slice's spare places count too). A statement '..UptoSaid' is the law's where the arguments, and the package variables that the reading takes, are together of bulk at most 1048576: NARROWER than '..Said'. Prove '..Said' where nothing that the law and all that it calls make is longer than what came in: it says more and counts as full. Else prove '..UptoSaid'. A law counts once. -/
mutual
def uptoBulk {H : Type} : DataW H → Nat
  | .lit (.string bytes) => bytes.length + 1
  | .lit _ => 1
  | .nil => 1
  | .ptr d => uptoBulk d + 1
  | .slice elems spare => uptoBulkAll elems + uptoBulkAll spare + 1
  | .agg parts => uptoBulkAll parts + 1
  | .iface _ d => uptoBulk d + 1
  | .map entries => uptoBulkEntries entries + 1
  | .held _ => 1
def uptoBulkAll {H : Type} : List (DataW H) → Nat
  | [] => 0
  | d :: r => uptoBulk d + uptoBulkAll r
def uptoBulkEntries {H : Type} : List (Lit × DataW H) → Nat
  | [] => 0
  | x :: r => uptoBulkEntry x + uptoBulkEntries r
def uptoBulkEntry {H : Type} : Lit × DataW H → Nat
  | (.string bytes, d) => bytes.length + uptoBulk d + 1
  | (_, d) => uptoBulk d + 1
 end
def uptoSmall : (H : Type) → List (DataW H) → Bool := fun _ ds => decide (uptoBulkAll ds ≤ 1048576)
def OpenSpec.upto (s : _root_.Go.ChangeSpec) : _root_.Go.OpenSpec := { _root_.Go.OpenSpec.ofChange s with cond := some uptoSmall }

/-- 'escheatlaw10.RollWrites', WHERE WHAT IT READS IS OF BULK AT MOST 1048576: true; the input reads as it did. -/
def rollWritesUptoRow : OpenClaim := { program := "yteeodeooicoekaa", sum := "ee953f34d1b485a7308a5763978ad52bb75cab55fb7fb54d72fe8f795545126a", func := "escheat/escheatlaw10.RollWrites", spec := "rollWrites", unfollowed := true, recurses := true, apart := false, narrowed := true }
def RollWritesUptoSaid : Prop := rollWritesUptoRow.holds Try.pinned (OpenSpec.upto rollWritesSpec)

/-- 'escheatlaw10.RollKeeps', WHERE WHAT IT READS IS OF BULK AT MOST 1048576: true; the input reads as it did. -/
def rollKeepsUptoRow : OpenClaim := { program := "yteeodeooicoekaa", sum := "ee953f34d1b485a7308a5763978ad52bb75cab55fb7fb54d72fe8f795545126a", func := "escheat/escheatlaw10.RollKeeps", spec := "rollKeeps", unfollowed := true, recurses := true, apart := false, narrowed := true }
def RollKeepsUptoSaid : Prop := rollKeepsUptoRow.holds Try.pinned (OpenSpec.upto rollKeepsSpec)

/-- 'escheatlaw10.RollTwice', WHERE WHAT IT READS IS OF BULK AT MOST 1048576: true; the input reads as it did. -/
def rollTwiceUptoRow : OpenClaim := { program := "yteeodeooicoekaa", sum := "ee953f34d1b485a7308a5763978ad52bb75cab55fb7fb54d72fe8f795545126a", func := "escheat/escheatlaw10.RollTwice", spec := "rollTwice", unfollowed := true, recurses := true, apart := false, narrowed := true }
def RollTwiceUptoSaid : Prop := rollTwiceUptoRow.holds Try.pinned (OpenSpec.upto rollTwiceSpec)

/-- 'escheatlaw10.RollTells', WHERE WHAT IT READS IS OF BULK AT MOST 1048576: true; the input reads as it did. -/
def rollTellsUptoRow : OpenClaim := { program := "yteeodeooicoekaa", sum := "ee953f34d1b485a7308a5763978ad52bb75cab55fb7fb54d72fe8f795545126a", func := "escheat/escheatlaw10.RollTells", spec := "rollTells", unfollowed := true, recurses := true, apart := false, narrowed := true }
def RollTellsUptoSaid : Prop := rollTellsUptoRow.holds Try.pinned (OpenSpec.upto rollTellsSpec)

/-- 'escheatlaw11.GraphTells', WHERE WHAT IT READS IS OF BULK AT MOST 1048576: true; the input reads as it did. -/
def graphTellsUptoRow : OpenClaim := { program := "yteeodeooicoekaa", sum := "ee953f34d1b485a7308a5763978ad52bb75cab55fb7fb54d72fe8f795545126a", func := "escheat/escheatlaw11.GraphTells", spec := "graphTells", unfollowed := true, recurses := true, apart := false, narrowed := true }
def GraphTellsUptoSaid : Prop := graphTellsUptoRow.holds Try.pinned (OpenSpec.upto graphTellsSpec)

/-- 'escheatlaw11.GraphPlans', WHERE WHAT IT READS IS OF BULK AT MOST 1048576: true; the input reads as it did. -/
def graphPlansUptoRow : OpenClaim := { program := "yteeodeooicoekaa", sum := "ee953f34d1b485a7308a5763978ad52bb75cab55fb7fb54d72fe8f795545126a", func := "escheat/escheatlaw11.GraphPlans", spec := "graphPlans", unfollowed := true, recurses := true, apart := false, narrowed := true }
def GraphPlansUptoSaid : Prop := graphPlansUptoRow.holds Try.pinned (OpenSpec.upto graphPlansSpec)

/-- 'escheatlaw11.GraphCloses', WHERE WHAT IT READS IS OF BULK AT MOST 1048576: true; the input reads as it did. -/
def graphClosesUptoRow : OpenClaim := { program := "yteeodeooicoekaa", sum := "ee953f34d1b485a7308a5763978ad52bb75cab55fb7fb54d72fe8f795545126a", func := "escheat/escheatlaw11.GraphCloses", spec := "graphCloses", unfollowed := true, recurses := true, apart := false, narrowed := true }
def GraphClosesUptoSaid : Prop := graphClosesUptoRow.holds Try.pinned (OpenSpec.upto graphClosesSpec)

/-- 'escheatlaw11.GraphRows', WHERE WHAT IT READS IS OF BULK AT MOST 1048576: true; the input reads as it did. -/
def graphRowsUptoRow : OpenClaim := { program := "yteeodeooicoekaa", sum := "ee953f34d1b485a7308a5763978ad52bb75cab55fb7fb54d72fe8f795545126a", func := "escheat/escheatlaw11.GraphRows", spec := "graphRows", unfollowed := true, recurses := true, apart := false, narrowed := true }
def GraphRowsUptoSaid : Prop := graphRowsUptoRow.holds Try.pinned (OpenSpec.upto graphRowsSpec)

/-- 'escheatlaw11.GraphDrains', WHERE WHAT IT READS IS OF BULK AT MOST 1048576: true; the input reads as it did. -/
def graphDrainsUptoRow : OpenClaim := { program := "yteeodeooicoekaa", sum := "ee953f34d1b485a7308a5763978ad52bb75cab55fb7fb54d72fe8f795545126a", func := "escheat/escheatlaw11.GraphDrains", spec := "graphDrains", unfollowed := true, recurses := true, apart := false, narrowed := true }
def GraphDrainsUptoSaid : Prop := graphDrainsUptoRow.holds Try.pinned (OpenSpec.upto graphDrainsSpec)

end Rows
end Go.Proofs.Yteeodeooicoekaa
