/- The statement OpNames, as its row asks it. -/
import Derived.Test.YtgcmgohknocfnaaAq
namespace Go.Proofs.Ytgcmgohknocfnaa.Opk
open Go.RowKit Go.Proofs.Ytgcmgohknocfnaa.Mem Go.Proofs.Ytgcmgohknocfnaa.Open Go.Proofs.Ytgcmgohknocfnaa.Kind
set_option linter.unusedVariables false
theorem names_row (d : Int) (s : ByteArray) (x y : AnD) (A : Option Addr) (c : Nat) (B : Option Addr) (b : Nat) (A2 : Option Addr) (c2 : Nat) (B2 : Option Addr) (b2 : Nat) (w : World)
    (hd : (Lit.int .i64 d).wf = true) (hs : s.size ≤ 140737488351232) (hx : Rw kByte w (All w) A x.d.length x.d) (ht : Rw kStr w (All w) B x.t.length x.t) (hy : Rw kByte w (All w) A2 y.d.length y.d) (hu : Rw kStr w (All w) B2 y.t.length y.t) :
    Calls Try.prog 14 #[.int .i64 d, .string s, .agg ((ansC x A c B b).toList ++ (ansC y A2 c2 B2 b2).toList).toArray] w fun e w' => e = .returned (.bool true) ∧ Below w.heap.size w w' :=
  names_walk d s x y A c B b A2 c2 B2 b2 w (by show s.size ≤ 9223372036854775807; omega) hx ht hy hu
end Go.Proofs.Ytgcmgohknocfnaa.Opk
