/- Calls as data: their kind, To, Check. -/
import Derived.Test.YtadiamgoglodbaaFld
import Derived.Test.YtadiamgoglodbaaBlk
import Derived.Test.YtadiamgoglodbaaOwnK
namespace Go.Proofs.Ytadiamgoglodbaa.Opk
open Go.RowKit Go.Proofs.Ytadiamgoglodbaa.Mem Go.Proofs.Ytadiamgoglodbaa.Open Go.Proofs.Ytadiamgoglodbaa.Kind Go.Proofs.Ytadiamgoglodbaa.Blk Go.Proofs.Ytadiamgoglodbaa.App
set_option linter.unusedVariables false
set_option linter.unusedSimpArgs false
/-- A call as data. -/
structure OpD where
  d : Int
  a : ByteArray
  b : ByteArray
  off : Int
  n : Int
  data : List Nat
def kOp : Kd OpD := kIso (kPair (kInt .i64) (kPair kStr (kPair kStr (kPair (kInt .i64) (kPair (kInt .i64) (kSlice kByte)))))) fun x => (x.d, x.a, x.b, x.off, x.n, x.data)
def opC (x : OpD) (A : Option Addr) (c : Nat) : List Value := [.int .i64 x.d, .string x.a, .string x.b, .int .i64 x.off, .int .i64 x.n, .slice A x.data.length c]
/-- All whole numbers are of 64 bits, all texts no longer than can be. -/
def OpOk (x : OpD) : Prop := (Lit.int .i64 x.d).wf = true ∧ x.a.size ≤ M63 ∧ x.b.size ≤ M63 ∧ (Lit.int .i64 x.off).wf = true ∧ (Lit.int .i64 x.n).wf = true
theorem kOp_open {w : World} {S : Nat → Prop} {x : OpD} {cs : List Value} (h : kOp.K w S x cs) : ∃ A c, cs = opC x A c ∧ OpOk x ∧ x.data.length ≤ c ∧ c ≤ M63 ∧ (A = none → c = 0) ∧ Rw kByte w S A x.data.length x.data := by
  obtain ⟨_, _, rfl, ⟨rfl, h1⟩, _, _, rfl, ⟨rfl, h2⟩, _, _, rfl, ⟨rfl, h3⟩, _, _, rfl, ⟨rfl, h4⟩, _, _, rfl, ⟨rfl, h5⟩, A, c, rfl, h6, h7, h8, h9⟩ := h
  exact ⟨A, c, rfl, ⟨h1, h2, h3, h4, h5⟩, h6, h7, h8, h9⟩
theorem kOp_mk {w : World} {S : Nat → Prop} {x : OpD} {A : Option Addr} {c : Nat} (ho : OpOk x) (h2 : x.data.length ≤ c) (h3 : c ≤ M63) (h4 : A = none → c = 0) (h5 : Rw kByte w S A x.data.length x.data) : kOp.K w S x (opC x A c) :=
  ⟨_, _, rfl, ⟨rfl, ho.1⟩, _, _, rfl, ⟨rfl, ho.2.1⟩, _, _, rfl, ⟨rfl, ho.2.2.1⟩, _, _, rfl, ⟨rfl, ho.2.2.2.1⟩, _, _, rfl, ⟨rfl, ho.2.2.2.2⟩, A, c, rfl, h2, h3, h4, h5⟩
theorem opens_rop {H : Type} {enc : TypeId × Value → H} {w : World} : Opens H enc Try.prog w kOp 31 := by
  have h : Opens H enc Try.prog w (kPair (kInt .i64) (kPair kStr (kPair kStr (kPair (kInt .i64) (kPair (kInt .i64) (kSlice kByte)))))) 31 :=
    opens_struct Try.underlying31 (flds_cons rfl (opens_int Try.underlying3) (by kernel_rfl) (flds_cons rfl (opens_str Try.underlying9) (by kernel_rfl) (flds_cons rfl (opens_str Try.underlying9) (by kernel_rfl) (flds_cons rfl (opens_int Try.underlying3) (by kernel_rfl) (flds_cons rfl (opens_int Try.underlying3) (by kernel_rfl) (flds_one rfl (opens_slice Try.underlying27 (opens_byte Try.underlying5) (by kernel_rfl) (by decide)) (by kernel_rfl))))))) (by kernel_rfl)
  intro fuel cs y hy
  obtain ⟨⟨x1, x2, x3, x4, x5, x6⟩, hx⟩ := h fuel cs y hy
  exact ⟨⟨x1, x2, x3, x4, x5, x6⟩, hx⟩
end Go.Proofs.Ytadiamgoglodbaa.Opk
