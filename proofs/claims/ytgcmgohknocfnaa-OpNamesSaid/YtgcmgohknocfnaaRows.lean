/-
  No cell of these rows narrows 'for every input' (looked for: loops, veiled, ifaces, maps, wideKeys, modest, calm, conditions, laid).
  DERIVED. THE GIVEN ROWS OF THIS SEAT. 12 by the template 'for every input the law returns true; each argument reads behind the call as it read before'; 0 by the template 'total and deterministic' (their statements: YtgcmgohknocfnaaTotals.lean).
  GIVEN WITH THE SEED: the statements are not yours to turn. If you find one false, say at which input.
  Laid BY PROGRAM, IN A SANDBOX (cutbox-rows.mjs): the forced cells as the released guide's own fill.sh prints them over the translation 626aac14ba5c87f5… (all of the seat's roots in one cut). By AI agents, Wed Nov 11 2026. No macro, syntax, notation, axiom, sorry.
-/
import Derived.Test.YtgcmgohknocfnaaChecked
import GoSem.Claim
import GoSem.ClaimJoined
import GoSem.ClaimMapViews
import Derived.JoinedTies
import Derived.KernelRfl
namespace Go.Proofs.Ytgcmgohknocfnaa
/- THE CELL 'sum', in the pinned program and in every row, IS THE sha256 OF THE DUMP (.gsa) THAT YtgcmgohknocfnaaProg.lean LOADS. Nothing in Lean hashes anything: it is a label: what it is worth is what the hold of that sum in a sandbox is worth. -/
noncomputable def Try.pinned : Pinned := { name := "ytgcmgohknocfnaa", sum := "626aac14ba5c87f5fa3f0601c8dd95b58ac52b36522db339d18de8dc70b01aeb", checked := Try.checked }
namespace Rows
def none {H : Type} : Left H := { results := [], args := [] }

/-- 'escheatlaw02.MixTells': WHATEVER THE INPUT: true; the input reads as it did. -/
def mixTellsSpec : ChangeSpec := { name := "mixTells", fn := fun _ => fun
  | [d1, d2, d3] => { results := [.lit (.bool true)], args := [d1, d2, d3] }
  | _ => none }
def mixTellsRow : OpenClaim := { program := "ytgcmgohknocfnaa", sum := "626aac14ba5c87f5fa3f0601c8dd95b58ac52b36522db339d18de8dc70b01aeb", func := "escheat/escheatlaw02.MixTells", spec := "mixTells", apart := false }
def MixTellsSaid : Prop := mixTellsRow.holds Try.pinned (OpenSpec.ofChange mixTellsSpec)

/-- ITS FALSE NEIGHBOUR: 'it returns false'. Refute it at one input. -/
def mixTellsWrong : ChangeSpec := { name := "mixTells", fn := fun _ => fun
  | [d1, d2, d3] => { results := [.lit (.bool false)], args := [d1, d2, d3] }
  | _ => none }
def MixTellsWrongFalsely : Prop := mixTellsRow.holds Try.pinned (OpenSpec.ofChange mixTellsWrong)

/-- 'escheatlaw02.MixGoes': WHATEVER THE INPUT: true; the input reads as it did. -/
def mixGoesSpec : ChangeSpec := { name := "mixGoes", fn := fun _ => fun
  | [d1, d2] => { results := [.lit (.bool true)], args := [d1, d2] }
  | _ => none }
def mixGoesRow : OpenClaim := { program := "ytgcmgohknocfnaa", sum := "626aac14ba5c87f5fa3f0601c8dd95b58ac52b36522db339d18de8dc70b01aeb", func := "escheat/escheatlaw02.MixGoes", spec := "mixGoes", apart := false }
def MixGoesSaid : Prop := mixGoesRow.holds Try.pinned (OpenSpec.ofChange mixGoesSpec)

/-- ITS FALSE NEIGHBOUR: 'it returns false'. Refute it at one input. -/
def mixGoesWrong : ChangeSpec := { name := "mixGoes", fn := fun _ => fun
  | [d1, d2] => { results := [.lit (.bool false)], args := [d1, d2] }
  | _ => none }
def MixGoesWrongFalsely : Prop := mixGoesRow.holds Try.pinned (OpenSpec.ofChange mixGoesWrong)

/-- 'escheatlaw02.MixAlike': WHATEVER THE INPUT: true; the input reads as it did. -/
def mixAlikeSpec : ChangeSpec := { name := "mixAlike", fn := fun _ => fun
  | [d1, d2] => { results := [.lit (.bool true)], args := [d1, d2] }
  | _ => none }
def mixAlikeRow : OpenClaim := { program := "ytgcmgohknocfnaa", sum := "626aac14ba5c87f5fa3f0601c8dd95b58ac52b36522db339d18de8dc70b01aeb", func := "escheat/escheatlaw02.MixAlike", spec := "mixAlike", apart := false }
def MixAlikeSaid : Prop := mixAlikeRow.holds Try.pinned (OpenSpec.ofChange mixAlikeSpec)

/-- ITS FALSE NEIGHBOUR: 'it returns false'. Refute it at one input. -/
def mixAlikeWrong : ChangeSpec := { name := "mixAlike", fn := fun _ => fun
  | [d1, d2] => { results := [.lit (.bool false)], args := [d1, d2] }
  | _ => none }
def MixAlikeWrongFalsely : Prop := mixAlikeRow.holds Try.pinned (OpenSpec.ofChange mixAlikeWrong)

/-- 'escheatlaw04.ChartMakes': WHATEVER THE INPUT: true; the input reads as it did. -/
def chartMakesSpec : ChangeSpec := { name := "chartMakes", fn := fun _ => fun
  | [d] => { results := [.lit (.bool true)], args := [d] }
  | _ => none }
def chartMakesRow : OpenClaim := { program := "ytgcmgohknocfnaa", sum := "626aac14ba5c87f5fa3f0601c8dd95b58ac52b36522db339d18de8dc70b01aeb", func := "escheat/escheatlaw04.ChartMakes", spec := "chartMakes", apart := false }
def ChartMakesSaid : Prop := chartMakesRow.holds Try.pinned (OpenSpec.ofChange chartMakesSpec)

/-- ITS FALSE NEIGHBOUR: 'it returns false'. Refute it at one input. -/
def chartMakesWrong : ChangeSpec := { name := "chartMakes", fn := fun _ => fun
  | [d] => { results := [.lit (.bool false)], args := [d] }
  | _ => none }
def ChartMakesWrongFalsely : Prop := chartMakesRow.holds Try.pinned (OpenSpec.ofChange chartMakesWrong)

/-- 'escheatlaw04.ChartApart': WHATEVER THE INPUT: true; the input reads as it did. -/
def chartApartSpec : ChangeSpec := { name := "chartApart", fn := fun _ => fun
  | [d1, d2, d3] => { results := [.lit (.bool true)], args := [d1, d2, d3] }
  | _ => none }
def chartApartRow : OpenClaim := { program := "ytgcmgohknocfnaa", sum := "626aac14ba5c87f5fa3f0601c8dd95b58ac52b36522db339d18de8dc70b01aeb", func := "escheat/escheatlaw04.ChartApart", spec := "chartApart", apart := false }
def ChartApartSaid : Prop := chartApartRow.holds Try.pinned (OpenSpec.ofChange chartApartSpec)

/-- ITS FALSE NEIGHBOUR: 'it returns false'. Refute it at one input. -/
def chartApartWrong : ChangeSpec := { name := "chartApart", fn := fun _ => fun
  | [d1, d2, d3] => { results := [.lit (.bool false)], args := [d1, d2, d3] }
  | _ => none }
def ChartApartWrongFalsely : Prop := chartApartRow.holds Try.pinned (OpenSpec.ofChange chartApartWrong)

/-- 'escheatlaw02.MixSplits': WHATEVER THE INPUT: true; the input reads as it did. -/
def mixSplitsSpec : ChangeSpec := { name := "mixSplits", fn := fun _ => fun
  | [d1, d2] => { results := [.lit (.bool true)], args := [d1, d2] }
  | _ => none }
def mixSplitsRow : OpenClaim := { program := "ytgcmgohknocfnaa", sum := "626aac14ba5c87f5fa3f0601c8dd95b58ac52b36522db339d18de8dc70b01aeb", func := "escheat/escheatlaw02.MixSplits", spec := "mixSplits", unfollowed := true, recurses := true, apart := false }
def MixSplitsSaid : Prop := mixSplitsRow.holds Try.pinned (OpenSpec.ofChange mixSplitsSpec)

/-- ITS FALSE NEIGHBOUR: 'it returns false'. Refute it at one input. -/
def mixSplitsWrong : ChangeSpec := { name := "mixSplits", fn := fun _ => fun
  | [d1, d2] => { results := [.lit (.bool false)], args := [d1, d2] }
  | _ => none }
def MixSplitsWrongFalsely : Prop := mixSplitsRow.holds Try.pinned (OpenSpec.ofChange mixSplitsWrong)

/-- 'escheatlaw02.MixParts': WHATEVER THE INPUT: true; the input reads as it did. -/
def mixPartsSpec : ChangeSpec := { name := "mixParts", fn := fun _ => fun
  | [d1, d2] => { results := [.lit (.bool true)], args := [d1, d2] }
  | _ => none }
def mixPartsRow : OpenClaim := { program := "ytgcmgohknocfnaa", sum := "626aac14ba5c87f5fa3f0601c8dd95b58ac52b36522db339d18de8dc70b01aeb", func := "escheat/escheatlaw02.MixParts", spec := "mixParts", unfollowed := true, recurses := true, apart := false }
def MixPartsSaid : Prop := mixPartsRow.holds Try.pinned (OpenSpec.ofChange mixPartsSpec)

/-- ITS FALSE NEIGHBOUR: 'it returns false'. Refute it at one input. -/
def mixPartsWrong : ChangeSpec := { name := "mixParts", fn := fun _ => fun
  | [d1, d2] => { results := [.lit (.bool false)], args := [d1, d2] }
  | _ => none }
def MixPartsWrongFalsely : Prop := mixPartsRow.holds Try.pinned (OpenSpec.ofChange mixPartsWrong)

/-- 'escheatlaw27.OpPlains': WHATEVER THE INPUT: true; the input reads as it did. -/
def opPlainsSpec : ChangeSpec := { name := "opPlains", fn := fun _ => fun
  | [d] => { results := [.lit (.bool true)], args := [d] }
  | _ => none }
def opPlainsRow : OpenClaim := { program := "ytgcmgohknocfnaa", sum := "626aac14ba5c87f5fa3f0601c8dd95b58ac52b36522db339d18de8dc70b01aeb", func := "escheat/escheatlaw27.OpPlains", spec := "opPlains", apart := false }
def OpPlainsSaid : Prop := opPlainsRow.holds Try.pinned (OpenSpec.ofChange opPlainsSpec)

/-- ITS FALSE NEIGHBOUR: 'it returns false'. Refute it at one input. -/
def opPlainsWrong : ChangeSpec := { name := "opPlains", fn := fun _ => fun
  | [d] => { results := [.lit (.bool false)], args := [d] }
  | _ => none }
def OpPlainsWrongFalsely : Prop := opPlainsRow.holds Try.pinned (OpenSpec.ofChange opPlainsWrong)

/-- 'escheatlaw04.ChartBits': WHATEVER THE INPUT: true; the input reads as it did. -/
def chartBitsSpec : ChangeSpec := { name := "chartBits", fn := fun _ => fun
  | [d1, d2, d3] => { results := [.lit (.bool true)], args := [d1, d2, d3] }
  | _ => none }
def chartBitsRow : OpenClaim := { program := "ytgcmgohknocfnaa", sum := "626aac14ba5c87f5fa3f0601c8dd95b58ac52b36522db339d18de8dc70b01aeb", func := "escheat/escheatlaw04.ChartBits", spec := "chartBits", apart := false }
def ChartBitsSaid : Prop := chartBitsRow.holds Try.pinned (OpenSpec.ofChange chartBitsSpec)

/-- ITS FALSE NEIGHBOUR: 'it returns false'. Refute it at one input. -/
def chartBitsWrong : ChangeSpec := { name := "chartBits", fn := fun _ => fun
  | [d1, d2, d3] => { results := [.lit (.bool false)], args := [d1, d2, d3] }
  | _ => none }
def ChartBitsWrongFalsely : Prop := chartBitsRow.holds Try.pinned (OpenSpec.ofChange chartBitsWrong)

/-- 'escheatlaw04.ChartLooks': WHATEVER THE INPUT: true; the input reads as it did. -/
def chartLooksSpec : ChangeSpec := { name := "chartLooks", fn := fun _ => fun
  | [d1, d2, d3] => { results := [.lit (.bool true)], args := [d1, d2, d3] }
  | _ => none }
def chartLooksRow : OpenClaim := { program := "ytgcmgohknocfnaa", sum := "626aac14ba5c87f5fa3f0601c8dd95b58ac52b36522db339d18de8dc70b01aeb", func := "escheat/escheatlaw04.ChartLooks", spec := "chartLooks", apart := false }
def ChartLooksSaid : Prop := chartLooksRow.holds Try.pinned (OpenSpec.ofChange chartLooksSpec)

/-- ITS FALSE NEIGHBOUR: 'it returns false'. Refute it at one input. -/
def chartLooksWrong : ChangeSpec := { name := "chartLooks", fn := fun _ => fun
  | [d1, d2, d3] => { results := [.lit (.bool false)], args := [d1, d2, d3] }
  | _ => none }
def ChartLooksWrongFalsely : Prop := chartLooksRow.holds Try.pinned (OpenSpec.ofChange chartLooksWrong)

/-- 'escheatlaw04.ChartFull': WHATEVER THE INPUT: true; the input reads as it did. -/
def chartFullSpec : ChangeSpec := { name := "chartFull", fn := fun _ => fun
  | [d1, d2, d3] => { results := [.lit (.bool true)], args := [d1, d2, d3] }
  | _ => none }
def chartFullRow : OpenClaim := { program := "ytgcmgohknocfnaa", sum := "626aac14ba5c87f5fa3f0601c8dd95b58ac52b36522db339d18de8dc70b01aeb", func := "escheat/escheatlaw04.ChartFull", spec := "chartFull", apart := false }
def ChartFullSaid : Prop := chartFullRow.holds Try.pinned (OpenSpec.ofChange chartFullSpec)

/-- ITS FALSE NEIGHBOUR: 'it returns false'. Refute it at one input. -/
def chartFullWrong : ChangeSpec := { name := "chartFull", fn := fun _ => fun
  | [d1, d2, d3] => { results := [.lit (.bool false)], args := [d1, d2, d3] }
  | _ => none }
def ChartFullWrongFalsely : Prop := chartFullRow.holds Try.pinned (OpenSpec.ofChange chartFullWrong)

/-- 'escheatlaw27.OpNames': WHATEVER THE INPUT: true; the input reads as it did. -/
def opNamesSpec : ChangeSpec := { name := "opNames", fn := fun _ => fun
  | [d1, d2, d3] => { results := [.lit (.bool true)], args := [d1, d2, d3] }
  | _ => none }
def opNamesRow : OpenClaim := { program := "ytgcmgohknocfnaa", sum := "626aac14ba5c87f5fa3f0601c8dd95b58ac52b36522db339d18de8dc70b01aeb", func := "escheat/escheatlaw27.OpNames", spec := "opNames", apart := false }
def OpNamesSaid : Prop := opNamesRow.holds Try.pinned (OpenSpec.ofChange opNamesSpec)

/-- ITS FALSE NEIGHBOUR: 'it returns false'. Refute it at one input. -/
def opNamesWrong : ChangeSpec := { name := "opNames", fn := fun _ => fun
  | [d1, d2, d3] => { results := [.lit (.bool false)], args := [d1, d2, d3] }
  | _ => none }
def OpNamesWrongFalsely : Prop := opNamesRow.holds Try.pinned (OpenSpec.ofChange opNamesWrong)

/- THE SECOND FORM. 'bulk': how many values and letters a reading holds, each counted each time it is reached (what is shared counts as often as it is met; a slice's spare places count too). A statement '..UptoSaid' is the law's where the arguments, and the package variables that the reading takes, are together of bulk at most 1048576: NARROWER than '..Said'. Prove '..Said' where nothing that the law and all that it calls make is longer than what came in: it says more and counts as full. Else prove '..UptoSaid'. A law counts once. -/
mutual
def uptoBulk {H : Type} : DataW H → Nat
  | .lit (.string bytes) => bytes.length + 1
  | .lit _ => 1
  | .nil => 1
  | .ptr d => uptoBulk d + 1
  | .slice elems spare => uptoBulkAll elems + uptoBulkAll spare + 1
  | .agg parts => uptoBulkAll parts + 1
  | .iface _ d => uptoBulk d + 1
  | .map entries => uptoBulkEntries entries + 1
  | .held _ => 1
def uptoBulkAll {H : Type} : List (DataW H) → Nat
  | [] => 0
  | d :: r => uptoBulk d + uptoBulkAll r
def uptoBulkEntries {H : Type} : List (Lit × DataW H) → Nat
  | [] => 0
  | x :: r => uptoBulkEntry x + uptoBulkEntries r
def uptoBulkEntry {H : Type} : Lit × DataW H → Nat
  | (.string bytes, d) => bytes.length + uptoBulk d + 1
  | (_, d) => uptoBulk d + 1
 end
def uptoSmall : (H : Type) → List (DataW H) → Bool := fun _ ds => decide (uptoBulkAll ds ≤ 1048576)
def OpenSpec.upto (s : _root_.Go.ChangeSpec) : _root_.Go.OpenSpec := { _root_.Go.OpenSpec.ofChange s with cond := some uptoSmall }

/-- 'escheatlaw02.MixTells', WHERE WHAT IT READS IS OF BULK AT MOST 1048576: true; the input reads as it did. -/
def mixTellsUptoRow : OpenClaim := { program := "ytgcmgohknocfnaa", sum := "626aac14ba5c87f5fa3f0601c8dd95b58ac52b36522db339d18de8dc70b01aeb", func := "escheat/escheatlaw02.MixTells", spec := "mixTells", apart := false, narrowed := true }
def MixTellsUptoSaid : Prop := mixTellsUptoRow.holds Try.pinned (OpenSpec.upto mixTellsSpec)

/-- 'escheatlaw02.MixGoes', WHERE WHAT IT READS IS OF BULK AT MOST 1048576: true; the input reads as it did. -/
def mixGoesUptoRow : OpenClaim := { program := "ytgcmgohknocfnaa", sum := "626aac14ba5c87f5fa3f0601c8dd95b58ac52b36522db339d18de8dc70b01aeb", func := "escheat/escheatlaw02.MixGoes", spec := "mixGoes", apart := false, narrowed := true }
def MixGoesUptoSaid : Prop := mixGoesUptoRow.holds Try.pinned (OpenSpec.upto mixGoesSpec)

/-- 'escheatlaw02.MixAlike', WHERE WHAT IT READS IS OF BULK AT MOST 1048576: true; the input reads as it did. -/
def mixAlikeUptoRow : OpenClaim := { program := "ytgcmgohknocfnaa", sum := "626aac14ba5c87f5fa3f0601c8dd95b58ac52b36522db339d18de8dc70b01aeb", func := "escheat/escheatlaw02.MixAlike", spec := "mixAlike", apart := false, narrowed := true }
def MixAlikeUptoSaid : Prop := mixAlikeUptoRow.holds Try.pinned (OpenSpec.upto mixAlikeSpec)

/-- 'escheatlaw04.ChartMakes', WHERE WHAT IT READS IS OF BULK AT MOST 1048576: true; the input reads as it did. -/
def chartMakesUptoRow : OpenClaim := { program := "ytgcmgohknocfnaa", sum := "626aac14ba5c87f5fa3f0601c8dd95b58ac52b36522db339d18de8dc70b01aeb", func := "escheat/escheatlaw04.ChartMakes", spec := "chartMakes", apart := false, narrowed := true }
def ChartMakesUptoSaid : Prop := chartMakesUptoRow.holds Try.pinned (OpenSpec.upto chartMakesSpec)

/-- 'escheatlaw04.ChartApart', WHERE WHAT IT READS IS OF BULK AT MOST 1048576: true; the input reads as it did. -/
def chartApartUptoRow : OpenClaim := { program := "ytgcmgohknocfnaa", sum := "626aac14ba5c87f5fa3f0601c8dd95b58ac52b36522db339d18de8dc70b01aeb", func := "escheat/escheatlaw04.ChartApart", spec := "chartApart", apart := false, narrowed := true }
def ChartApartUptoSaid : Prop := chartApartUptoRow.holds Try.pinned (OpenSpec.upto chartApartSpec)

/-- 'escheatlaw02.MixSplits', WHERE WHAT IT READS IS OF BULK AT MOST 1048576: true; the input reads as it did. -/
def mixSplitsUptoRow : OpenClaim := { program := "ytgcmgohknocfnaa", sum := "626aac14ba5c87f5fa3f0601c8dd95b58ac52b36522db339d18de8dc70b01aeb", func := "escheat/escheatlaw02.MixSplits", spec := "mixSplits", unfollowed := true, recurses := true, apart := false, narrowed := true }
def MixSplitsUptoSaid : Prop := mixSplitsUptoRow.holds Try.pinned (OpenSpec.upto mixSplitsSpec)

/-- 'escheatlaw02.MixParts', WHERE WHAT IT READS IS OF BULK AT MOST 1048576: true; the input reads as it did. -/
def mixPartsUptoRow : OpenClaim := { program := "ytgcmgohknocfnaa", sum := "626aac14ba5c87f5fa3f0601c8dd95b58ac52b36522db339d18de8dc70b01aeb", func := "escheat/escheatlaw02.MixParts", spec := "mixParts", unfollowed := true, recurses := true, apart := false, narrowed := true }
def MixPartsUptoSaid : Prop := mixPartsUptoRow.holds Try.pinned (OpenSpec.upto mixPartsSpec)

/-- 'escheatlaw27.OpPlains', WHERE WHAT IT READS IS OF BULK AT MOST 1048576: true; the input reads as it did. -/
def opPlainsUptoRow : OpenClaim := { program := "ytgcmgohknocfnaa", sum := "626aac14ba5c87f5fa3f0601c8dd95b58ac52b36522db339d18de8dc70b01aeb", func := "escheat/escheatlaw27.OpPlains", spec := "opPlains", apart := false, narrowed := true }
def OpPlainsUptoSaid : Prop := opPlainsUptoRow.holds Try.pinned (OpenSpec.upto opPlainsSpec)

/-- 'escheatlaw04.ChartBits', WHERE WHAT IT READS IS OF BULK AT MOST 1048576: true; the input reads as it did. -/
def chartBitsUptoRow : OpenClaim := { program := "ytgcmgohknocfnaa", sum := "626aac14ba5c87f5fa3f0601c8dd95b58ac52b36522db339d18de8dc70b01aeb", func := "escheat/escheatlaw04.ChartBits", spec := "chartBits", apart := false, narrowed := true }
def ChartBitsUptoSaid : Prop := chartBitsUptoRow.holds Try.pinned (OpenSpec.upto chartBitsSpec)

/-- 'escheatlaw04.ChartLooks', WHERE WHAT IT READS IS OF BULK AT MOST 1048576: true; the input reads as it did. -/
def chartLooksUptoRow : OpenClaim := { program := "ytgcmgohknocfnaa", sum := "626aac14ba5c87f5fa3f0601c8dd95b58ac52b36522db339d18de8dc70b01aeb", func := "escheat/escheatlaw04.ChartLooks", spec := "chartLooks", apart := false, narrowed := true }
def ChartLooksUptoSaid : Prop := chartLooksUptoRow.holds Try.pinned (OpenSpec.upto chartLooksSpec)

/-- 'escheatlaw04.ChartFull', WHERE WHAT IT READS IS OF BULK AT MOST 1048576: true; the input reads as it did. -/
def chartFullUptoRow : OpenClaim := { program := "ytgcmgohknocfnaa", sum := "626aac14ba5c87f5fa3f0601c8dd95b58ac52b36522db339d18de8dc70b01aeb", func := "escheat/escheatlaw04.ChartFull", spec := "chartFull", apart := false, narrowed := true }
def ChartFullUptoSaid : Prop := chartFullUptoRow.holds Try.pinned (OpenSpec.upto chartFullSpec)

/-- 'escheatlaw27.OpNames', WHERE WHAT IT READS IS OF BULK AT MOST 1048576: true; the input reads as it did. -/
def opNamesUptoRow : OpenClaim := { program := "ytgcmgohknocfnaa", sum := "626aac14ba5c87f5fa3f0601c8dd95b58ac52b36522db339d18de8dc70b01aeb", func := "escheat/escheatlaw27.OpNames", spec := "opNames", apart := false, narrowed := true }
def OpNamesUptoSaid : Prop := opNamesUptoRow.holds Try.pinned (OpenSpec.upto opNamesSpec)

end Rows
end Go.Proofs.Ytgcmgohknocfnaa
