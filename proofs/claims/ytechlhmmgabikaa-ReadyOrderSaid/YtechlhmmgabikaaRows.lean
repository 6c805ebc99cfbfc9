/-
  No cell of these rows narrows 'for every input' (looked for: loops, veiled, ifaces, maps, wideKeys, modest, calm, conditions, laid).
  DERIVED. THE GIVEN ROWS OF THIS SEAT. 8 by the template 'for every input the law returns true; each argument reads behind the call as it read before'; 0 by the template 'total and deterministic' (their statements: YtechlhmmgabikaaTotals.lean).
  GIVEN WITH THE SEED: the statements are not yours to turn. If you find one false, say at which input.
  Laid BY PROGRAM, IN A SANDBOX (cutbox-rows.mjs): the forced cells as the released guide's own fill.sh prints them over the translation cdbd867972038d61… (all of the seat's roots in one cut). By AI agents, Wed Nov 11 2026. No macro, syntax, notation, axiom, sorry.
-/
import Derived.Test.YtechlhmmgabikaaChecked
import GoSem.Claim
import GoSem.ClaimJoined
import GoSem.ClaimMapViews
import Derived.JoinedTies
import Derived.KernelRfl
namespace Go.Proofs.Ytechlhmmgabikaa
/- THE CELL 'sum', in the pinned program and in every row, IS THE sha256 OF THE DUMP (.gsa) THAT YtechlhmmgabikaaProg.lean LOADS. Nothing in Lean hashes anything: it is a label: what it is worth is what the hold of that sum in a sandbox is worth. -/
noncomputable def Try.pinned : Pinned := { name := "ytechlhmmgabikaa", sum := "cdbd867972038d6149fd14c64620604f46db4d4983b7771b0bfc3eb59f498a95", checked := Try.checked }
namespace Rows
def none {H : Type} : Left H := { results := [], args := [] }

/-- 'escheatlaw08.DiskLast': WHATEVER THE INPUT: true; the input reads as it did. -/
def diskLastSpec : ChangeSpec := { name := "diskLast", fn := fun _ => fun
  | [d] => { results := [.lit (.bool true)], args := [d] }
  | _ => none }
def diskLastRow : OpenClaim := { program := "ytechlhmmgabikaa", sum := "cdbd867972038d6149fd14c64620604f46db4d4983b7771b0bfc3eb59f498a95", func := "escheat/escheatlaw08.DiskLast", spec := "diskLast", unfollowed := true, recurses := true, apart := false }
def DiskLastSaid : Prop := diskLastRow.holds Try.pinned (OpenSpec.ofChange diskLastSpec)

/-- ITS FALSE NEIGHBOUR: 'it returns false'. Refute it at one input. -/
def diskLastWrong : ChangeSpec := { name := "diskLast", fn := fun _ => fun
  | [d] => { results := [.lit (.bool false)], args := [d] }
  | _ => none }
def DiskLastWrongFalsely : Prop := diskLastRow.holds Try.pinned (OpenSpec.ofChange diskLastWrong)

/-- 'escheatlaw08.DiskFuse': WHATEVER THE INPUT: true; the input reads as it did. -/
def diskFuseSpec : ChangeSpec := { name := "diskFuse", fn := fun _ => fun
  | [d1, d2] => { results := [.lit (.bool true)], args := [d1, d2] }
  | _ => none }
def diskFuseRow : OpenClaim := { program := "ytechlhmmgabikaa", sum := "cdbd867972038d6149fd14c64620604f46db4d4983b7771b0bfc3eb59f498a95", func := "escheat/escheatlaw08.DiskFuse", spec := "diskFuse", unfollowed := true, recurses := true, apart := false }
def DiskFuseSaid : Prop := diskFuseRow.holds Try.pinned (OpenSpec.ofChange diskFuseSpec)

/-- ITS FALSE NEIGHBOUR: 'it returns false'. Refute it at one input. -/
def diskFuseWrong : ChangeSpec := { name := "diskFuse", fn := fun _ => fun
  | [d1, d2] => { results := [.lit (.bool false)], args := [d1, d2] }
  | _ => none }
def DiskFuseWrongFalsely : Prop := diskFuseRow.holds Try.pinned (OpenSpec.ofChange diskFuseWrong)

/-- 'escheatlaw08.DiskSteps': WHATEVER THE INPUT: true; the input reads as it did. -/
def diskStepsSpec : ChangeSpec := { name := "diskSteps", fn := fun _ => fun
  | [d1, d2] => { results := [.lit (.bool true)], args := [d1, d2] }
  | _ => none }
def diskStepsRow : OpenClaim := { program := "ytechlhmmgabikaa", sum := "cdbd867972038d6149fd14c64620604f46db4d4983b7771b0bfc3eb59f498a95", func := "escheat/escheatlaw08.DiskSteps", spec := "diskSteps", unfollowed := true, recurses := true, apart := false }
def DiskStepsSaid : Prop := diskStepsRow.holds Try.pinned (OpenSpec.ofChange diskStepsSpec)

/-- ITS FALSE NEIGHBOUR: 'it returns false'. Refute it at one input. -/
def diskStepsWrong : ChangeSpec := { name := "diskSteps", fn := fun _ => fun
  | [d1, d2] => { results := [.lit (.bool false)], args := [d1, d2] }
  | _ => none }
def DiskStepsWrongFalsely : Prop := diskStepsRow.holds Try.pinned (OpenSpec.ofChange diskStepsWrong)

/-- 'escheatlaw08.DiskFrom': WHATEVER THE INPUT: true; the input reads as it did. -/
def diskFromSpec : ChangeSpec := { name := "diskFrom", fn := fun _ => fun
  | [d1, d2] => { results := [.lit (.bool true)], args := [d1, d2] }
  | _ => none }
def diskFromRow : OpenClaim := { program := "ytechlhmmgabikaa", sum := "cdbd867972038d6149fd14c64620604f46db4d4983b7771b0bfc3eb59f498a95", func := "escheat/escheatlaw08.DiskFrom", spec := "diskFrom", unfollowed := true, recurses := true, apart := false }
def DiskFromSaid : Prop := diskFromRow.holds Try.pinned (OpenSpec.ofChange diskFromSpec)

/-- ITS FALSE NEIGHBOUR: 'it returns false'. Refute it at one input. -/
def diskFromWrong : ChangeSpec := { name := "diskFrom", fn := fun _ => fun
  | [d1, d2] => { results := [.lit (.bool false)], args := [d1, d2] }
  | _ => none }
def DiskFromWrongFalsely : Prop := diskFromRow.holds Try.pinned (OpenSpec.ofChange diskFromWrong)

/-- 'escheatlaw09.ReadyTells': WHATEVER THE INPUT: true; the input reads as it did. -/
def readyTellsSpec : ChangeSpec := { name := "readyTells", fn := fun _ => fun
  | [d1, d2, d3] => { results := [.lit (.bool true)], args := [d1, d2, d3] }
  | _ => none }
def readyTellsRow : OpenClaim := { program := "ytechlhmmgabikaa", sum := "cdbd867972038d6149fd14c64620604f46db4d4983b7771b0bfc3eb59f498a95", func := "escheat/escheatlaw09.ReadyTells", spec := "readyTells", apart := false }
def ReadyTellsSaid : Prop := readyTellsRow.holds Try.pinned (OpenSpec.ofChange readyTellsSpec)

/-- ITS FALSE NEIGHBOUR: 'it returns false'. Refute it at one input. -/
def readyTellsWrong : ChangeSpec := { name := "readyTells", fn := fun _ => fun
  | [d1, d2, d3] => { results := [.lit (.bool false)], args := [d1, d2, d3] }
  | _ => none }
def ReadyTellsWrongFalsely : Prop := readyTellsRow.holds Try.pinned (OpenSpec.ofChange readyTellsWrong)

/-- 'escheatlaw09.ReadyFirst': WHATEVER THE INPUT: true; the input reads as it did. -/
def readyFirstSpec : ChangeSpec := { name := "readyFirst", fn := fun _ => fun
  | [d] => { results := [.lit (.bool true)], args := [d] }
  | _ => none }
def readyFirstRow : OpenClaim := { program := "ytechlhmmgabikaa", sum := "cdbd867972038d6149fd14c64620604f46db4d4983b7771b0bfc3eb59f498a95", func := "escheat/escheatlaw09.ReadyFirst", spec := "readyFirst", apart := false }
def ReadyFirstSaid : Prop := readyFirstRow.holds Try.pinned (OpenSpec.ofChange readyFirstSpec)

/-- ITS FALSE NEIGHBOUR: 'it returns false'. Refute it at one input. -/
def readyFirstWrong : ChangeSpec := { name := "readyFirst", fn := fun _ => fun
  | [d] => { results := [.lit (.bool false)], args := [d] }
  | _ => none }
def ReadyFirstWrongFalsely : Prop := readyFirstRow.holds Try.pinned (OpenSpec.ofChange readyFirstWrong)

/-- 'escheatlaw09.ReadyOrder': WHATEVER THE INPUT: true; the input reads as it did. -/
def readyOrderSpec : ChangeSpec := { name := "readyOrder", fn := fun _ => fun
  | [d1, d2] => { results := [.lit (.bool true)], args := [d1, d2] }
  | _ => none }
def readyOrderRow : OpenClaim := { program := "ytechlhmmgabikaa", sum := "cdbd867972038d6149fd14c64620604f46db4d4983b7771b0bfc3eb59f498a95", func := "escheat/escheatlaw09.ReadyOrder", spec := "readyOrder", unfollowed := true, recurses := true, apart := false }
def ReadyOrderSaid : Prop := readyOrderRow.holds Try.pinned (OpenSpec.ofChange readyOrderSpec)

/-- ITS FALSE NEIGHBOUR: 'it returns false'. Refute it at one input. -/
def readyOrderWrong : ChangeSpec := { name := "readyOrder", fn := fun _ => fun
  | [d1, d2] => { results := [.lit (.bool false)], args := [d1, d2] }
  | _ => none }
def ReadyOrderWrongFalsely : Prop := readyOrderRow.holds Try.pinned (OpenSpec.ofChange readyOrderWrong)

/-- 'escheatlaw09.ReadyLists': WHATEVER THE INPUT: true; the input reads as it did. -/
def readyListsSpec : ChangeSpec := { name := "readyLists", fn := fun _ => fun
  | [d1, d2, d3] => { results := [.lit (.bool true)], args := [d1, d2, d3] }
  | _ => none }
def readyListsRow : OpenClaim := { program := "ytechlhmmgabikaa", sum := "cdbd867972038d6149fd14c64620604f46db4d4983b7771b0bfc3eb59f498a95", func := "escheat/escheatlaw09.ReadyLists", spec := "readyLists", unfollowed := true, recurses := true, apart := false }
def ReadyListsSaid : Prop := readyListsRow.holds Try.pinned (OpenSpec.ofChange readyListsSpec)

/-- ITS FALSE NEIGHBOUR: 'it returns false'. Refute it at one input. -/
def readyListsWrong : ChangeSpec := { name := "readyLists", fn := fun _ => fun
  | [d1, d2, d3] => { results := [.lit (.bool false)], args := [d1, d2, d3] }
  | _ => none }
def ReadyListsWrongFalsely : Prop := readyListsRow.holds Try.pinned (OpenSpec.ofChange readyListsWrong)

/- THE SECOND FORM. 'bulk': how many values and letters a reading holds, each counted each time it is reached (what is shared counts as often as it is met; a slice's spare places count too). A statement '..UptoSaid' is the law's where the arguments, and the package variables that the reading takes, are together of bulk at most 1048576: NARROWER than '..Said'. Prove '..Said' where nothing that the law and all that it calls make is longer than what came in: it says more and counts as full. Else prove '..UptoSaid'. A law counts once. -/
mutual
def uptoBulk {H : Type} : DataW H → Nat
  | .lit (.string bytes) => bytes.length + 1
  | .lit _ => 1
  | .nil => 1
  | .ptr d => uptoBulk d + 1
  | .slice elems spare => uptoBulkAll elems + uptoBulkAll spare + 1
  | .agg parts => uptoBulkAll parts + 1
  | .iface _ d => uptoBulk d + 1
  | .map entries => uptoBulkEntries entries + 1
  | .held _ => 1
def uptoBulkAll {H : Type} : List (DataW H) → Nat
  | [] => 0
  | d :: r => uptoBulk d + uptoBulkAll r
def uptoBulkEntries {H : Type} : List (Lit × DataW H) → Nat
  | [] => 0
  | x :: r => uptoBulkEntry x + uptoBulkEntries r
def uptoBulkEntry {H : Type} : Lit × DataW H → Nat
  | (.string bytes, d) => bytes.length + uptoBulk d + 1
  | (_, d) => uptoBulk d + 1
 end
def uptoSmall : (H : Type) → List (DataW H) → Bool := fun _ ds => decide (uptoBulkAll ds ≤ 1048576)
def OpenSpec.upto (s : _root_.Go.ChangeSpec) : _root_.Go.OpenSpec := { _root_.Go.OpenSpec.ofChange s with cond := some uptoSmall }

/-- 'escheatlaw08.DiskLast', WHERE WHAT IT READS IS OF BULK AT MOST 1048576: true; the input reads as it did. -/
def diskLastUptoRow : OpenClaim := { program := "ytechlhmmgabikaa", sum := "cdbd867972038d6149fd14c64620604f46db4d4983b7771b0bfc3eb59f498a95", func := "escheat/escheatlaw08.DiskLast", spec := "diskLast", unfollowed := true, recurses := true, apart := false, narrowed := true }
def DiskLastUptoSaid : Prop := diskLastUptoRow.holds Try.pinned (OpenSpec.upto diskLastSpec)

/-- 'escheatlaw08.DiskFuse', WHERE WHAT IT READS IS OF BULK AT MOST 1048576: true; the input reads as it did. -/
def diskFuseUptoRow : OpenClaim := { program := "ytechlhmmgabikaa", sum := "cdbd867972038d6149fd14c64620604f46db4d4983b7771b0bfc3eb59f498a95", func := "escheat/escheatlaw08.DiskFuse", spec := "diskFuse", unfollowed := true, recurses := true, apart := false, narrowed := true }
def DiskFuseUptoSaid : Prop := diskFuseUptoRow.holds Try.pinned (OpenSpec.upto diskFuseSpec)

/-- 'escheatlaw08.DiskSteps', WHERE WHAT IT READS IS OF BULK AT MOST 1048576: true; the input reads as it did. -/
def diskStepsUptoRow : OpenClaim := { program := "ytechlhmmgabikaa", sum := "cdbd867972038d6149fd14c64620604f46db4d4983b7771b0bfc3eb59f498a95", func := "escheat/escheatlaw08.DiskSteps", spec := "diskSteps", unfollowed := true, recurses := true, apart := false, narrowed := true }
def DiskStepsUptoSaid : Prop := diskStepsUptoRow.holds Try.pinned (OpenSpec.upto diskStepsSpec)

/-- 'escheatlaw08.DiskFrom', WHERE WHAT IT READS IS OF BULK AT MOST 1048576: true; the input reads as it did. -/
def diskFromUptoRow : OpenClaim := { program := "ytechlhmmgabikaa", sum := "cdbd867972038d6149fd14c64620604f46db4d4983b7771b0bfc3eb59f498a95", func := "escheat/escheatlaw08.DiskFrom", spec := "diskFrom", unfollowed := true, recurses := true, apart := false, narrowed := true }
def DiskFromUptoSaid : Prop := diskFromUptoRow.holds Try.pinned (OpenSpec.upto diskFromSpec)

/-- 'escheatlaw09.ReadyTells', WHERE WHAT IT READS IS OF BULK AT MOST 1048576: true; the input reads as it did. -/
def readyTellsUptoRow : OpenClaim := { program := "ytechlhmmgabikaa", sum := "cdbd867972038d6149fd14c64620604f46db4d4983b7771b0bfc3eb59f498a95", func := "escheat/escheatlaw09.ReadyTells", spec := "readyTells", apart := false, narrowed := true }
def ReadyTellsUptoSaid : Prop := readyTellsUptoRow.holds Try.pinned (OpenSpec.upto readyTellsSpec)

/-- 'escheatlaw09.ReadyFirst', WHERE WHAT IT READS IS OF BULK AT MOST 1048576: true; the input reads as it did. -/
def readyFirstUptoRow : OpenClaim := { program := "ytechlhmmgabikaa", sum := "cdbd867972038d6149fd14c64620604f46db4d4983b7771b0bfc3eb59f498a95", func := "escheat/escheatlaw09.ReadyFirst", spec := "readyFirst", apart := false, narrowed := true }
def ReadyFirstUptoSaid : Prop := readyFirstUptoRow.holds Try.pinned (OpenSpec.upto readyFirstSpec)

/-- 'escheatlaw09.ReadyOrder', WHERE WHAT IT READS IS OF BULK AT MOST 1048576: true; the input reads as it did. -/
def readyOrderUptoRow : OpenClaim := { program := "ytechlhmmgabikaa", sum := "cdbd867972038d6149fd14c64620604f46db4d4983b7771b0bfc3eb59f498a95", func := "escheat/escheatlaw09.ReadyOrder", spec := "readyOrder", unfollowed := true, recurses := true, apart := false, narrowed := true }
def ReadyOrderUptoSaid : Prop := readyOrderUptoRow.holds Try.pinned (OpenSpec.upto readyOrderSpec)

/-- 'escheatlaw09.ReadyLists', WHERE WHAT IT READS IS OF BULK AT MOST 1048576: true; the input reads as it did. -/
def readyListsUptoRow : OpenClaim := { program := "ytechlhmmgabikaa", sum := "cdbd867972038d6149fd14c64620604f46db4d4983b7771b0bfc3eb59f498a95", func := "escheat/escheatlaw09.ReadyLists", spec := "readyLists", unfollowed := true, recurses := true, apart := false, narrowed := true }
def ReadyListsUptoSaid : Prop := readyListsUptoRow.holds Try.pinned (OpenSpec.upto readyListsSpec)

end Rows
end Go.Proofs.Ytechlhmmgabikaa
