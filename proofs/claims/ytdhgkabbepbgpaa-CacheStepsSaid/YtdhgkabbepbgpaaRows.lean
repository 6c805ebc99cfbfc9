/-
  No cell of these rows narrows 'for every input' (looked for: loops, veiled, ifaces, maps, wideKeys, modest, calm, conditions, laid).
  DERIVED. THE GIVEN ROWS OF THIS SEAT. 5 by the template 'for every input the law returns true; each argument reads behind the call as it read before'; 0 by the template 'total and deterministic' (their statements: YtdhgkabbepbgpaaTotals.lean).
  GIVEN WITH THE SEED: the statements are not yours to turn. If you find one false, say at which input.
  Laid BY PROGRAM, IN A SANDBOX (cutbox-rows.mjs): the forced cells as the released guide's own fill.sh prints them over the translation 6138bd5c6af32752… (all of the seat's roots in one cut). By AI agents, Wed Nov 11 2026. No macro, syntax, notation, axiom, sorry.
-/
import Derived.Test.YtdhgkabbepbgpaaChecked
import GoSem.Claim
import GoSem.ClaimJoined
import GoSem.ClaimMapViews
import Derived.JoinedTies
import Derived.KernelRfl
namespace Go.Proofs.Ytdhgkabbepbgpaa
/- THE CELL 'sum', in the pinned program and in every row, IS THE sha256 OF THE DUMP (.gsa) THAT YtdhgkabbepbgpaaProg.lean LOADS. Nothing in Lean hashes anything: it is a label: what it is worth is what the hold of that sum in a sandbox is worth. -/
noncomputable def Try.pinned : Pinned := { name := "ytdhgkabbepbgpaa", sum := "6138bd5c6af327529d12cd1ab86a679f527fb50fb29564a884663a1988bf2427", checked := Try.checked }
namespace Rows
def none {H : Type} : Left H := { results := [], args := [] }

/-- 'escheatlaw12.CacheCloses': WHATEVER THE INPUT: true; the input reads as it did. -/
def cacheClosesSpec : ChangeSpec := { name := "cacheCloses", fn := fun _ => fun
  | [d] => { results := [.lit (.bool true)], args := [d] }
  | _ => none }
def cacheClosesRow : OpenClaim := { program := "ytdhgkabbepbgpaa", sum := "6138bd5c6af327529d12cd1ab86a679f527fb50fb29564a884663a1988bf2427", func := "escheat/escheatlaw12.CacheCloses", spec := "cacheCloses", unfollowed := true, recurses := true, apart := false }
def CacheClosesSaid : Prop := cacheClosesRow.holds Try.pinned (OpenSpec.ofChange cacheClosesSpec)

/-- ITS FALSE NEIGHBOUR: 'it returns false'. Refute it at one input. -/
def cacheClosesWrong : ChangeSpec := { name := "cacheCloses", fn := fun _ => fun
  | [d] => { results := [.lit (.bool false)], args := [d] }
  | _ => none }
def CacheClosesWrongFalsely : Prop := cacheClosesRow.holds Try.pinned (OpenSpec.ofChange cacheClosesWrong)

/-- 'escheatlaw12.CacheViews': WHATEVER THE INPUT: true; the input reads as it did. -/
def cacheViewsSpec : ChangeSpec := { name := "cacheViews", fn := fun _ => fun
  | [d] => { results := [.lit (.bool true)], args := [d] }
  | _ => none }
def cacheViewsRow : OpenClaim := { program := "ytdhgkabbepbgpaa", sum := "6138bd5c6af327529d12cd1ab86a679f527fb50fb29564a884663a1988bf2427", func := "escheat/escheatlaw12.CacheViews", spec := "cacheViews", unfollowed := true, recurses := true, apart := false }
def CacheViewsSaid : Prop := cacheViewsRow.holds Try.pinned (OpenSpec.ofChange cacheViewsSpec)

/-- ITS FALSE NEIGHBOUR: 'it returns false'. Refute it at one input. -/
def cacheViewsWrong : ChangeSpec := { name := "cacheViews", fn := fun _ => fun
  | [d] => { results := [.lit (.bool false)], args := [d] }
  | _ => none }
def CacheViewsWrongFalsely : Prop := cacheViewsRow.holds Try.pinned (OpenSpec.ofChange cacheViewsWrong)

/-- 'escheatlaw12.CacheNils': WHATEVER THE INPUT: true; the input reads as it did. -/
def cacheNilsSpec : ChangeSpec := { name := "cacheNils", fn := fun _ => fun
  | [d1, d2] => { results := [.lit (.bool true)], args := [d1, d2] }
  | _ => none }
def cacheNilsRow : OpenClaim := { program := "ytdhgkabbepbgpaa", sum := "6138bd5c6af327529d12cd1ab86a679f527fb50fb29564a884663a1988bf2427", func := "escheat/escheatlaw12.CacheNils", spec := "cacheNils", unfollowed := true, recurses := true, apart := false }
def CacheNilsSaid : Prop := cacheNilsRow.holds Try.pinned (OpenSpec.ofChange cacheNilsSpec)

/-- ITS FALSE NEIGHBOUR: 'it returns false'. Refute it at one input. -/
def cacheNilsWrong : ChangeSpec := { name := "cacheNils", fn := fun _ => fun
  | [d1, d2] => { results := [.lit (.bool false)], args := [d1, d2] }
  | _ => none }
def CacheNilsWrongFalsely : Prop := cacheNilsRow.holds Try.pinned (OpenSpec.ofChange cacheNilsWrong)

/-- 'escheatlaw12.CacheSteps': WHATEVER THE INPUT: true; the input reads as it did. -/
def cacheStepsSpec : ChangeSpec := { name := "cacheSteps", fn := fun _ => fun
  | [d] => { results := [.lit (.bool true)], args := [d] }
  | _ => none }
def cacheStepsRow : OpenClaim := { program := "ytdhgkabbepbgpaa", sum := "6138bd5c6af327529d12cd1ab86a679f527fb50fb29564a884663a1988bf2427", func := "escheat/escheatlaw12.CacheSteps", spec := "cacheSteps", unfollowed := true, recurses := true, apart := false }
def CacheStepsSaid : Prop := cacheStepsRow.holds Try.pinned (OpenSpec.ofChange cacheStepsSpec)

/-- ITS FALSE NEIGHBOUR: 'it returns false'. Refute it at one input. -/
def cacheStepsWrong : ChangeSpec := { name := "cacheSteps", fn := fun _ => fun
  | [d] => { results := [.lit (.bool false)], args := [d] }
  | _ => none }
def CacheStepsWrongFalsely : Prop := cacheStepsRow.holds Try.pinned (OpenSpec.ofChange cacheStepsWrong)

/-- 'escheatlaw12.CacheSyncs': WHATEVER THE INPUT: true; the input reads as it did. -/
def cacheSyncsSpec : ChangeSpec := { name := "cacheSyncs", fn := fun _ => fun
  | [d] => { results := [.lit (.bool true)], args := [d] }
  | _ => none }
def cacheSyncsRow : OpenClaim := { program := "ytdhgkabbepbgpaa", sum := "6138bd5c6af327529d12cd1ab86a679f527fb50fb29564a884663a1988bf2427", func := "escheat/escheatlaw12.CacheSyncs", spec := "cacheSyncs", unfollowed := true, recurses := true, apart := false }
def CacheSyncsSaid : Prop := cacheSyncsRow.holds Try.pinned (OpenSpec.ofChange cacheSyncsSpec)

/-- ITS FALSE NEIGHBOUR: 'it returns false'. Refute it at one input. -/
def cacheSyncsWrong : ChangeSpec := { name := "cacheSyncs", fn := fun _ => fun
  | [d] => { results := [.lit (.bool false)], args := [d] }
  | _ => none }
def CacheSyncsWrongFalsely : Prop := cacheSyncsRow.holds Try.pinned (OpenSpec.ofChange cacheSyncsWrong)

/- THE SECOND FORM. 'bulk': how many values and letters a reading holds, each counted each time it is reached (what is shared counts as often as it is met; a slice's spare places count too). A statement '..UptoSaid' is the law's where the arguments, and the package variables that the reading takes, are together of bulk at most 1048576: NARROWER than '..Said'. Prove '..Said' where nothing that the law and all that it calls make is longer than what came in: it says more and counts as full. Else prove '..UptoSaid'. A law counts once. -/
mutual
def uptoBulk {H : Type} : DataW H → Nat
  | .lit (.string bytes) => bytes.length + 1
  | .lit _ => 1
  | .nil => 1
  | .ptr d => uptoBulk d + 1
  | .slice elems spare => uptoBulkAll elems + uptoBulkAll spare + 1
  | .agg parts => uptoBulkAll parts + 1
  | .iface _ d => uptoBulk d + 1
  | .map entries => uptoBulkEntries entries + 1
  | .held _ => 1
def uptoBulkAll {H : Type} : List (DataW H) → Nat
  | [] => 0
  | d :: r => uptoBulk d + uptoBulkAll r
def uptoBulkEntries {H : Type} : List (Lit × DataW H) → Nat
  | [] => 0
  | x :: r => uptoBulkEntry x + uptoBulkEntries r
def uptoBulkEntry {H : Type} : Lit × DataW H → Nat
  | (.string bytes, d) => bytes.length + uptoBulk d + 1
  | (_, d) => uptoBulk d + 1
 end
def uptoSmall : (H : Type) → List (DataW H) → Bool := fun _ ds => decide (uptoBulkAll ds ≤ 1048576)
def OpenSpec.upto (s : _root_.Go.ChangeSpec) : _root_.Go.OpenSpec := { _root_.Go.OpenSpec.ofChange s with cond := some uptoSmall }

/-- 'escheatlaw12.CacheCloses', WHERE WHAT IT READS IS OF BULK AT MOST 1048576: true; the input reads as it did. -/
def cacheClosesUptoRow : OpenClaim := { program := "ytdhgkabbepbgpaa", sum := "6138bd5c6af327529d12cd1ab86a679f527fb50fb29564a884663a1988bf2427", func := "escheat/escheatlaw12.CacheCloses", spec := "cacheCloses", unfollowed := true, recurses := true, apart := false, narrowed := true }
def CacheClosesUptoSaid : Prop := cacheClosesUptoRow.holds Try.pinned (OpenSpec.upto cacheClosesSpec)

/-- 'escheatlaw12.CacheViews', WHERE WHAT IT READS IS OF BULK AT MOST 1048576: true; the input reads as it did. -/
def cacheViewsUptoRow : OpenClaim := { program := "ytdhgkabbepbgpaa", sum := "6138bd5c6af327529d12cd1ab86a679f527fb50fb29564a884663a1988bf2427", func := "escheat/escheatlaw12.CacheViews", spec := "cacheViews", unfollowed := true, recurses := true, apart := false, narrowed := true }
def CacheViewsUptoSaid : Prop := cacheViewsUptoRow.holds Try.pinned (OpenSpec.upto cacheViewsSpec)

/-- 'escheatlaw12.CacheNils', WHERE WHAT IT READS IS OF BULK AT MOST 1048576: true; the input reads as it did. -/
def cacheNilsUptoRow : OpenClaim := { program := "ytdhgkabbepbgpaa", sum := "6138bd5c6af327529d12cd1ab86a679f527fb50fb29564a884663a1988bf2427", func := "escheat/escheatlaw12.CacheNils", spec := "cacheNils", unfollowed := true, recurses := true, apart := false, narrowed := true }
def CacheNilsUptoSaid : Prop := cacheNilsUptoRow.holds Try.pinned (OpenSpec.upto cacheNilsSpec)

/-- 'escheatlaw12.CacheSteps', WHERE WHAT IT READS IS OF BULK AT MOST 1048576: true; the input reads as it did. -/
def cacheStepsUptoRow : OpenClaim := { program := "ytdhgkabbepbgpaa", sum := "6138bd5c6af327529d12cd1ab86a679f527fb50fb29564a884663a1988bf2427", func := "escheat/escheatlaw12.CacheSteps", spec := "cacheSteps", unfollowed := true, recurses := true, apart := false, narrowed := true }
def CacheStepsUptoSaid : Prop := cacheStepsUptoRow.holds Try.pinned (OpenSpec.upto cacheStepsSpec)

/-- 'escheatlaw12.CacheSyncs', WHERE WHAT IT READS IS OF BULK AT MOST 1048576: true; the input reads as it did. -/
def cacheSyncsUptoRow : OpenClaim := { program := "ytdhgkabbepbgpaa", sum := "6138bd5c6af327529d12cd1ab86a679f527fb50fb29564a884663a1988bf2427", func := "escheat/escheatlaw12.CacheSyncs", spec := "cacheSyncs", unfollowed := true, recurses := true, apart := false, narrowed := true }
def CacheSyncsUptoSaid : Prop := cacheSyncsUptoRow.holds Try.pinned (OpenSpec.upto cacheSyncsSpec)

end Rows
end Go.Proofs.Ytdhgkabbepbgpaa
