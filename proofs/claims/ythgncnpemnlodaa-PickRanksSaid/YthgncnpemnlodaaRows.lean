/-
  No cell of these rows narrows 'for every input' (looked for: loops, veiled, ifaces, maps, wideKeys, modest, calm, conditions, laid).
  DERIVED. THE GIVEN ROWS OF THIS SEAT. 11 by the template 'for every input the law returns true; each argument reads behind the call as it read before'; 0 by the template 'total and deterministic' (their statements: YthgncnpemnlodaaTotals.lean).
  GIVEN WITH THE SEED: the statements are not yours to turn. If you find one false, say at which input.
  Laid BY PROGRAM, IN A SANDBOX (cutbox-rows.mjs): the forced cells as the released guide's own fill.sh prints them over the translation 4dd61879eb2be52d… (all of the seat's roots in one cut). By AI agents, Wed Nov 11 2026. No macro, syntax, notation, axiom, sorry.
-/
import Derived.Test.YthgncnpemnlodaaChecked
import GoSem.Claim
import GoSem.ClaimJoined
import GoSem.ClaimMapViews
import Derived.JoinedTies
import Derived.KernelRfl
namespace Go.Proofs.Ythgncnpemnlodaa
/- THE CELL 'sum', in the pinned program and in every row, IS THE sha256 OF THE DUMP (.gsa) THAT YthgncnpemnlodaaProg.lean LOADS. Nothing in Lean hashes anything: it is a label: what it is worth is what the hold of that sum in a sandbox is worth. -/
noncomputable def Try.pinned : Pinned := { name := "ythgncnpemnlodaa", sum := "4dd61879eb2be52d29d0827e248d1255eff6b1cb8c4014084bb4da126b04c85d", checked := Try.checked }
namespace Rows
def none {H : Type} : Left H := { results := [], args := [] }

/-- 'escheatlaw05.RealGreatest': WHATEVER THE INPUT: true; the input reads as it did. -/
def realGreatestSpec : ChangeSpec := { name := "realGreatest", fn := fun _ => fun
  | [d] => { results := [.lit (.bool true)], args := [d] }
  | _ => none }
def realGreatestRow : OpenClaim := { program := "ythgncnpemnlodaa", sum := "4dd61879eb2be52d29d0827e248d1255eff6b1cb8c4014084bb4da126b04c85d", func := "escheat/escheatlaw05.RealGreatest", spec := "realGreatest", inPlace := ["math.Float64frombits", "math.Float64bits"], apart := false }
def RealGreatestSaid : Prop := realGreatestRow.holds Try.pinned (OpenSpec.ofChange realGreatestSpec)

/-- ITS FALSE NEIGHBOUR: 'it returns false'. Refute it at one input. -/
def realGreatestWrong : ChangeSpec := { name := "realGreatest", fn := fun _ => fun
  | [d] => { results := [.lit (.bool false)], args := [d] }
  | _ => none }
def RealGreatestWrongFalsely : Prop := realGreatestRow.holds Try.pinned (OpenSpec.ofChange realGreatestWrong)

/-- 'escheatlaw05.RealBits': WHATEVER THE INPUT: true; the input reads as it did. -/
def realBitsSpec : ChangeSpec := { name := "realBits", fn := fun _ => fun
  | [d1, d2, d3] => { results := [.lit (.bool true)], args := [d1, d2, d3] }
  | _ => none }
def realBitsRow : OpenClaim := { program := "ythgncnpemnlodaa", sum := "4dd61879eb2be52d29d0827e248d1255eff6b1cb8c4014084bb4da126b04c85d", func := "escheat/escheatlaw05.RealBits", spec := "realBits", inPlace := ["math.Float64frombits", "math.Float64bits"], apart := false }
def RealBitsSaid : Prop := realBitsRow.holds Try.pinned (OpenSpec.ofChange realBitsSpec)

/-- ITS FALSE NEIGHBOUR: 'it returns false'. Refute it at one input. -/
def realBitsWrong : ChangeSpec := { name := "realBits", fn := fun _ => fun
  | [d1, d2, d3] => { results := [.lit (.bool false)], args := [d1, d2, d3] }
  | _ => none }
def RealBitsWrongFalsely : Prop := realBitsRow.holds Try.pinned (OpenSpec.ofChange realBitsWrong)

/-- 'escheatlaw05.RealTotal': WHATEVER THE INPUT: true; the input reads as it did. -/
def realTotalSpec : ChangeSpec := { name := "realTotal", fn := fun _ => fun
  | [d1, d2, d3] => { results := [.lit (.bool true)], args := [d1, d2, d3] }
  | _ => none }
def realTotalRow : OpenClaim := { program := "ythgncnpemnlodaa", sum := "4dd61879eb2be52d29d0827e248d1255eff6b1cb8c4014084bb4da126b04c85d", func := "escheat/escheatlaw05.RealTotal", spec := "realTotal", inPlace := ["math.Float64bits", "math.Float64frombits"], apart := false }
def RealTotalSaid : Prop := realTotalRow.holds Try.pinned (OpenSpec.ofChange realTotalSpec)

/-- ITS FALSE NEIGHBOUR: 'it returns false'. Refute it at one input. -/
def realTotalWrong : ChangeSpec := { name := "realTotal", fn := fun _ => fun
  | [d1, d2, d3] => { results := [.lit (.bool false)], args := [d1, d2, d3] }
  | _ => none }
def RealTotalWrongFalsely : Prop := realTotalRow.holds Try.pinned (OpenSpec.ofChange realTotalWrong)

/-- 'escheatlaw05.RealBack': WHATEVER THE INPUT: true; the input reads as it did. -/
def realBackSpec : ChangeSpec := { name := "realBack", fn := fun _ => fun
  | [d] => { results := [.lit (.bool true)], args := [d] }
  | _ => none }
def realBackRow : OpenClaim := { program := "ythgncnpemnlodaa", sum := "4dd61879eb2be52d29d0827e248d1255eff6b1cb8c4014084bb4da126b04c85d", func := "escheat/escheatlaw05.RealBack", spec := "realBack", inPlace := ["math.Float64bits", "math.Float64frombits"], apart := false }
def RealBackSaid : Prop := realBackRow.holds Try.pinned (OpenSpec.ofChange realBackSpec)

/-- ITS FALSE NEIGHBOUR: 'it returns false'. Refute it at one input. -/
def realBackWrong : ChangeSpec := { name := "realBack", fn := fun _ => fun
  | [d] => { results := [.lit (.bool false)], args := [d] }
  | _ => none }
def RealBackWrongFalsely : Prop := realBackRow.holds Try.pinned (OpenSpec.ofChange realBackWrong)

/-- 'escheatlaw05.RealOrders': WHATEVER THE INPUT: true; the input reads as it did. -/
def realOrdersSpec : ChangeSpec := { name := "realOrders", fn := fun _ => fun
  | [d1, d2, d3] => { results := [.lit (.bool true)], args := [d1, d2, d3] }
  | _ => none }
def realOrdersRow : OpenClaim := { program := "ythgncnpemnlodaa", sum := "4dd61879eb2be52d29d0827e248d1255eff6b1cb8c4014084bb4da126b04c85d", func := "escheat/escheatlaw05.RealOrders", spec := "realOrders", inPlace := ["math.Float64bits", "math.Float64frombits"], apart := false }
def RealOrdersSaid : Prop := realOrdersRow.holds Try.pinned (OpenSpec.ofChange realOrdersSpec)

/-- ITS FALSE NEIGHBOUR: 'it returns false'. Refute it at one input. -/
def realOrdersWrong : ChangeSpec := { name := "realOrders", fn := fun _ => fun
  | [d1, d2, d3] => { results := [.lit (.bool false)], args := [d1, d2, d3] }
  | _ => none }
def RealOrdersWrongFalsely : Prop := realOrdersRow.holds Try.pinned (OpenSpec.ofChange realOrdersWrong)

/-- 'escheatlaw06.PickAt': WHATEVER THE INPUT: true; the input reads as it did. -/
def pickAtSpec : ChangeSpec := { name := "pickAt", fn := fun _ => fun
  | [d1, d2] => { results := [.lit (.bool true)], args := [d1, d2] }
  | _ => none }
def pickAtRow : OpenClaim := { program := "ythgncnpemnlodaa", sum := "4dd61879eb2be52d29d0827e248d1255eff6b1cb8c4014084bb4da126b04c85d", func := "escheat/escheatlaw06.PickAt", spec := "pickAt", inPlace := ["math.Float64bits", "math.Float64frombits"], apart := false }
def PickAtSaid : Prop := pickAtRow.holds Try.pinned (OpenSpec.ofChange pickAtSpec)

/-- ITS FALSE NEIGHBOUR: 'it returns false'. Refute it at one input. -/
def pickAtWrong : ChangeSpec := { name := "pickAt", fn := fun _ => fun
  | [d1, d2] => { results := [.lit (.bool false)], args := [d1, d2] }
  | _ => none }
def PickAtWrongFalsely : Prop := pickAtRow.holds Try.pinned (OpenSpec.ofChange pickAtWrong)

/-- 'escheatlaw06.PickRises': WHATEVER THE INPUT: true; the input reads as it did. -/
def pickRisesSpec : ChangeSpec := { name := "pickRises", fn := fun _ => fun
  | [d1, d2, d3] => { results := [.lit (.bool true)], args := [d1, d2, d3] }
  | _ => none }
def pickRisesRow : OpenClaim := { program := "ythgncnpemnlodaa", sum := "4dd61879eb2be52d29d0827e248d1255eff6b1cb8c4014084bb4da126b04c85d", func := "escheat/escheatlaw06.PickRises", spec := "pickRises", inPlace := ["math.Float64bits", "math.Float64frombits"], apart := false }
def PickRisesSaid : Prop := pickRisesRow.holds Try.pinned (OpenSpec.ofChange pickRisesSpec)

/-- ITS FALSE NEIGHBOUR: 'it returns false'. Refute it at one input. -/
def pickRisesWrong : ChangeSpec := { name := "pickRises", fn := fun _ => fun
  | [d1, d2, d3] => { results := [.lit (.bool false)], args := [d1, d2, d3] }
  | _ => none }
def PickRisesWrongFalsely : Prop := pickRisesRow.holds Try.pinned (OpenSpec.ofChange pickRisesWrong)

/-- 'escheatlaw06.PickOnce': WHATEVER THE INPUT: true; the input reads as it did. -/
def pickOnceSpec : ChangeSpec := { name := "pickOnce", fn := fun _ => fun
  | [d] => { results := [.lit (.bool true)], args := [d] }
  | _ => none }
def pickOnceRow : OpenClaim := { program := "ythgncnpemnlodaa", sum := "4dd61879eb2be52d29d0827e248d1255eff6b1cb8c4014084bb4da126b04c85d", func := "escheat/escheatlaw06.PickOnce", spec := "pickOnce", inPlace := ["math.Float64bits", "math.Float64frombits"], apart := false }
def PickOnceSaid : Prop := pickOnceRow.holds Try.pinned (OpenSpec.ofChange pickOnceSpec)

/-- ITS FALSE NEIGHBOUR: 'it returns false'. Refute it at one input. -/
def pickOnceWrong : ChangeSpec := { name := "pickOnce", fn := fun _ => fun
  | [d] => { results := [.lit (.bool false)], args := [d] }
  | _ => none }
def PickOnceWrongFalsely : Prop := pickOnceRow.holds Try.pinned (OpenSpec.ofChange pickOnceWrong)

/-- 'escheatlaw06.PickWorth': WHATEVER THE INPUT: true; the input reads as it did. -/
def pickWorthSpec : ChangeSpec := { name := "pickWorth", fn := fun _ => fun
  | [d1, d2, d3] => { results := [.lit (.bool true)], args := [d1, d2, d3] }
  | _ => none }
def pickWorthRow : OpenClaim := { program := "ythgncnpemnlodaa", sum := "4dd61879eb2be52d29d0827e248d1255eff6b1cb8c4014084bb4da126b04c85d", func := "escheat/escheatlaw06.PickWorth", spec := "pickWorth", inPlace := ["math.Float64frombits", "math.Float64bits"], apart := false }
def PickWorthSaid : Prop := pickWorthRow.holds Try.pinned (OpenSpec.ofChange pickWorthSpec)

/-- ITS FALSE NEIGHBOUR: 'it returns false'. Refute it at one input. -/
def pickWorthWrong : ChangeSpec := { name := "pickWorth", fn := fun _ => fun
  | [d1, d2, d3] => { results := [.lit (.bool false)], args := [d1, d2, d3] }
  | _ => none }
def PickWorthWrongFalsely : Prop := pickWorthRow.holds Try.pinned (OpenSpec.ofChange pickWorthWrong)

/-- 'escheatlaw06.PickFewer': WHATEVER THE INPUT: true; the input reads as it did. -/
def pickFewerSpec : ChangeSpec := { name := "pickFewer", fn := fun _ => fun
  | [d1, d2] => { results := [.lit (.bool true)], args := [d1, d2] }
  | _ => none }
def pickFewerRow : OpenClaim := { program := "ythgncnpemnlodaa", sum := "4dd61879eb2be52d29d0827e248d1255eff6b1cb8c4014084bb4da126b04c85d", func := "escheat/escheatlaw06.PickFewer", spec := "pickFewer", inPlace := ["math.Float64frombits", "math.Float64bits"], apart := false }
def PickFewerSaid : Prop := pickFewerRow.holds Try.pinned (OpenSpec.ofChange pickFewerSpec)

/-- ITS FALSE NEIGHBOUR: 'it returns false'. Refute it at one input. -/
def pickFewerWrong : ChangeSpec := { name := "pickFewer", fn := fun _ => fun
  | [d1, d2] => { results := [.lit (.bool false)], args := [d1, d2] }
  | _ => none }
def PickFewerWrongFalsely : Prop := pickFewerRow.holds Try.pinned (OpenSpec.ofChange pickFewerWrong)

/-- 'escheatlaw06.PickRanks': WHATEVER THE INPUT: true; the input reads as it did. -/
def pickRanksSpec : ChangeSpec := { name := "pickRanks", fn := fun _ => fun
  | [d1, d2] => { results := [.lit (.bool true)], args := [d1, d2] }
  | _ => none }
def pickRanksRow : OpenClaim := { program := "ythgncnpemnlodaa", sum := "4dd61879eb2be52d29d0827e248d1255eff6b1cb8c4014084bb4da126b04c85d", func := "escheat/escheatlaw06.PickRanks", spec := "pickRanks", inPlace := ["math.Float64bits", "math.Float64frombits"], unfollowed := true, recurses := true, apart := false }
def PickRanksSaid : Prop := pickRanksRow.holds Try.pinned (OpenSpec.ofChange pickRanksSpec)

/-- ITS FALSE NEIGHBOUR: 'it returns false'. Refute it at one input. -/
def pickRanksWrong : ChangeSpec := { name := "pickRanks", fn := fun _ => fun
  | [d1, d2] => { results := [.lit (.bool false)], args := [d1, d2] }
  | _ => none }
def PickRanksWrongFalsely : Prop := pickRanksRow.holds Try.pinned (OpenSpec.ofChange pickRanksWrong)

/- THE SECOND FORM. 'bulk': how many values and letters a reading holds, each counted each time it is reached (what is shared counts as often as it is met; a slice's spare places count too). A statement '..UptoSaid' is the law's where the arguments, and the package variables that the reading takes, are together of bulk at most 1048576: NARROWER than '..Said'. Prove '..Said' where nothing that the law and all that it calls make is longer than what came in: it says more and counts as full. Else prove '..UptoSaid'. A law counts once. -/
mutual
def uptoBulk {H : Type} : DataW H → Nat
  | .lit (.string bytes) => bytes.length + 1
  | .lit _ => 1
  | .nil => 1
  | .ptr d => uptoBulk d + 1
  | .slice elems spare => uptoBulkAll elems + uptoBulkAll spare + 1
  | .agg parts => uptoBulkAll parts + 1
  | .iface _ d => uptoBulk d + 1
  | .map entries => uptoBulkEntries entries + 1
  | .held _ => 1
def uptoBulkAll {H : Type} : List (DataW H) → Nat
  | [] => 0
  | d :: r => uptoBulk d + uptoBulkAll r
def uptoBulkEntries {H : Type} : List (Lit × DataW H) → Nat
  | [] => 0
  | x :: r => uptoBulkEntry x + uptoBulkEntries r
def uptoBulkEntry {H : Type} : Lit × DataW H → Nat
  | (.string bytes, d) => bytes.length + uptoBulk d + 1
  | (_, d) => uptoBulk d + 1
 end
def uptoSmall : (H : Type) → List (DataW H) → Bool := fun _ ds => decide (uptoBulkAll ds ≤ 1048576)
def OpenSpec.upto (s : _root_.Go.ChangeSpec) : _root_.Go.OpenSpec := { _root_.Go.OpenSpec.ofChange s with cond := some uptoSmall }

/-- 'escheatlaw05.RealGreatest', WHERE WHAT IT READS IS OF BULK AT MOST 1048576: true; the input reads as it did. -/
def realGreatestUptoRow : OpenClaim := { program := "ythgncnpemnlodaa", sum := "4dd61879eb2be52d29d0827e248d1255eff6b1cb8c4014084bb4da126b04c85d", func := "escheat/escheatlaw05.RealGreatest", spec := "realGreatest", inPlace := ["math.Float64frombits", "math.Float64bits"], apart := false, narrowed := true }
def RealGreatestUptoSaid : Prop := realGreatestUptoRow.holds Try.pinned (OpenSpec.upto realGreatestSpec)

/-- 'escheatlaw05.RealBits', WHERE WHAT IT READS IS OF BULK AT MOST 1048576: true; the input reads as it did. -/
def realBitsUptoRow : OpenClaim := { program := "ythgncnpemnlodaa", sum := "4dd61879eb2be52d29d0827e248d1255eff6b1cb8c4014084bb4da126b04c85d", func := "escheat/escheatlaw05.RealBits", spec := "realBits", inPlace := ["math.Float64frombits", "math.Float64bits"], apart := false, narrowed := true }
def RealBitsUptoSaid : Prop := realBitsUptoRow.holds Try.pinned (OpenSpec.upto realBitsSpec)

/-- 'escheatlaw05.RealTotal', WHERE WHAT IT READS IS OF BULK AT MOST 1048576: true; the input reads as it did. -/
def realTotalUptoRow : OpenClaim := { program := "ythgncnpemnlodaa", sum := "4dd61879eb2be52d29d0827e248d1255eff6b1cb8c4014084bb4da126b04c85d", func := "escheat/escheatlaw05.RealTotal", spec := "realTotal", inPlace := ["math.Float64bits", "math.Float64frombits"], apart := false, narrowed := true }
def RealTotalUptoSaid : Prop := realTotalUptoRow.holds Try.pinned (OpenSpec.upto realTotalSpec)

/-- 'escheatlaw05.RealBack', WHERE WHAT IT READS IS OF BULK AT MOST 1048576: true; the input reads as it did. -/
def realBackUptoRow : OpenClaim := { program := "ythgncnpemnlodaa", sum := "4dd61879eb2be52d29d0827e248d1255eff6b1cb8c4014084bb4da126b04c85d", func := "escheat/escheatlaw05.RealBack", spec := "realBack", inPlace := ["math.Float64bits", "math.Float64frombits"], apart := false, narrowed := true }
def RealBackUptoSaid : Prop := realBackUptoRow.holds Try.pinned (OpenSpec.upto realBackSpec)

/-- 'escheatlaw05.RealOrders', WHERE WHAT IT READS IS OF BULK AT MOST 1048576: true; the input reads as it did. -/
def realOrdersUptoRow : OpenClaim := { program := "ythgncnpemnlodaa", sum := "4dd61879eb2be52d29d0827e248d1255eff6b1cb8c4014084bb4da126b04c85d", func := "escheat/escheatlaw05.RealOrders", spec := "realOrders", inPlace := ["math.Float64bits", "math.Float64frombits"], apart := false, narrowed := true }
def RealOrdersUptoSaid : Prop := realOrdersUptoRow.holds Try.pinned (OpenSpec.upto realOrdersSpec)

/-- 'escheatlaw06.PickAt', WHERE WHAT IT READS IS OF BULK AT MOST 1048576: true; the input reads as it did. -/
def pickAtUptoRow : OpenClaim := { program := "ythgncnpemnlodaa", sum := "4dd61879eb2be52d29d0827e248d1255eff6b1cb8c4014084bb4da126b04c85d", func := "escheat/escheatlaw06.PickAt", spec := "pickAt", inPlace := ["math.Float64bits", "math.Float64frombits"], apart := false, narrowed := true }
def PickAtUptoSaid : Prop := pickAtUptoRow.holds Try.pinned (OpenSpec.upto pickAtSpec)

/-- 'escheatlaw06.PickRises', WHERE WHAT IT READS IS OF BULK AT MOST 1048576: true; the input reads as it did. -/
def pickRisesUptoRow : OpenClaim := { program := "ythgncnpemnlodaa", sum := "4dd61879eb2be52d29d0827e248d1255eff6b1cb8c4014084bb4da126b04c85d", func := "escheat/escheatlaw06.PickRises", spec := "pickRises", inPlace := ["math.Float64bits", "math.Float64frombits"], apart := false, narrowed := true }
def PickRisesUptoSaid : Prop := pickRisesUptoRow.holds Try.pinned (OpenSpec.upto pickRisesSpec)

/-- 'escheatlaw06.PickOnce', WHERE WHAT IT READS IS OF BULK AT MOST 1048576: true; the input reads as it did. -/
def pickOnceUptoRow : OpenClaim := { program := "ythgncnpemnlodaa", sum := "4dd61879eb2be52d29d0827e248d1255eff6b1cb8c4014084bb4da126b04c85d", func := "escheat/escheatlaw06.PickOnce", spec := "pickOnce", inPlace := ["math.Float64bits", "math.Float64frombits"], apart := false, narrowed := true }
def PickOnceUptoSaid : Prop := pickOnceUptoRow.holds Try.pinned (OpenSpec.upto pickOnceSpec)

/-- 'escheatlaw06.PickWorth', WHERE WHAT IT READS IS OF BULK AT MOST 1048576: true; the input reads as it did. -/
def pickWorthUptoRow : OpenClaim := { program := "ythgncnpemnlodaa", sum := "4dd61879eb2be52d29d0827e248d1255eff6b1cb8c4014084bb4da126b04c85d", func := "escheat/escheatlaw06.PickWorth", spec := "pickWorth", inPlace := ["math.Float64frombits", "math.Float64bits"], apart := false, narrowed := true }
def PickWorthUptoSaid : Prop := pickWorthUptoRow.holds Try.pinned (OpenSpec.upto pickWorthSpec)

/-- 'escheatlaw06.PickFewer', WHERE WHAT IT READS IS OF BULK AT MOST 1048576: true; the input reads as it did. -/
def pickFewerUptoRow : OpenClaim := { program := "ythgncnpemnlodaa", sum := "4dd61879eb2be52d29d0827e248d1255eff6b1cb8c4014084bb4da126b04c85d", func := "escheat/escheatlaw06.PickFewer", spec := "pickFewer", inPlace := ["math.Float64frombits", "math.Float64bits"], apart := false, narrowed := true }
def PickFewerUptoSaid : Prop := pickFewerUptoRow.holds Try.pinned (OpenSpec.upto pickFewerSpec)

/-- 'escheatlaw06.PickRanks', WHERE WHAT IT READS IS OF BULK AT MOST 1048576: true; the input reads as it did. -/
def pickRanksUptoRow : OpenClaim := { program := "ythgncnpemnlodaa", sum := "4dd61879eb2be52d29d0827e248d1255eff6b1cb8c4014084bb4da126b04c85d", func := "escheat/escheatlaw06.PickRanks", spec := "pickRanks", inPlace := ["math.Float64bits", "math.Float64frombits"], unfollowed := true, recurses := true, apart := false, narrowed := true }
def PickRanksUptoSaid : Prop := pickRanksUptoRow.holds Try.pinned (OpenSpec.upto pickRanksSpec)

end Rows
end Go.Proofs.Ythgncnpemnlodaa
