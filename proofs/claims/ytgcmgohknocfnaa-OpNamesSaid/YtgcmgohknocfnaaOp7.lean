/- Calls: op.Alike. -/
import Derived.Test.YtgcmgohknocfnaaOp6
import Derived.Laws.BytesArg
namespace Go.Proofs.Ytgcmgohknocfnaa.Opk
open Go.RowKit Go.Proofs.Ytgcmgohknocfnaa.Mem Go.Proofs.Ytgcmgohknocfnaa.Open Go.Proofs.Ytgcmgohknocfnaa.Kind Go.Proofs.Ytgcmgohknocfnaa.Blk Go.Proofs.Ytgcmgohknocfnaa.App
set_option linter.unusedVariables false
set_option linter.unusedSimpArgs false
/-- Bytes as a text. -/
def ints (l : List Nat) : List Int := l.map fun n : Nat => (n : Int)
def bstr (l : List Nat) : ByteArray := strOfNums (ints l)
theorem run_conv {w : World} {A : Option Addr} {l : List Nat} {c : Nat} (h : By w A l) : (convert 44 9 (.slice A l.length c)).run Try.prog w = .ok (.string (bstr l)) w := by
  rcases h.2.2 with h0 | ⟨g, o, rfl, _, hlt, hc⟩
  · have hl : l = [] := List.eq_nil_of_length_eq_zero h0
    subst hl
    cases A with
    | none => exact run_convert_bytes_nil (w := w) 44 5 Try.underlying44 Try.underlying5 0 c 9 Try.underlying9
    | some a =>
      rw [run_convert_bytes_string w 44 9 5 _ _ c Try.underlying44 Try.underlying5 Try.underlying9]
      exact run_bytesToString w a 0 c [] (by simp [loadCells, loadCellsFrom])
  · exact run_convert_bytes_arg w 44 5 Try.underlying44 Try.underlying5 g o l.length c (ints l) (by simp [ints]) (fun i hi => by
      obtain ⟨cs, ⟨rfl, _⟩, h2⟩ := hc i _ (List.getElem?_eq_getElem hi)
      have := h2 0 _ rfl
      rw [show o + i * kByte.sz + 0 = o + i from by show o + i * 1 + 0 = o + i; omega] at this
      rw [this]
      simp [V8, ints, List.getD_eq_getElem?_getD, hi]) 9 Try.underlying9
set_option maxHeartbeats 1000000 in
set_option maxRecDepth 100000 in
theorem alike_yes (d : Int) (a b : ByteArray) (o n : Int) (A A2 : Option Addr) (c c2 : Nat) (l : List Nat) (w : World) (h1 : By w A l) (h2 : By w A2 l) :
    Calls Try.prog 39 #[opV d a b o n A l.length c, opV d a b o n A2 l.length c2] w fun e w' => e = .returned (.bool true) ∧ Below w.heap.size w w' := by
  have hbel := ((Below.refl w.heap.size w).alloc (Nat.le_refl _) (.cells #[.int .i64 d, .string a, .string b, .int .i64 o, .int .i64 n, .slice A l.length c] 64)).alloc (by simp) (.cells #[.int .i64 d, .string a, .string b, .int .i64 o, .int .i64 n, .slice A2 l.length c2] 64)
  have k1 := run_conv (c := c) (h1.below hbel)
  have k2 := run_conv (c := c2) (h2.below hbel)
  have ea : (a.toList == a.toList) = true := beq_self_eq_true _
  have eb : (b.toList == b.toList) = true := beq_self_eq_true _
  have el : ((bstr l).toList == (bstr l).toList) = true := beq_self_eq_true _
  generalize bstr l = t at *
  go_enter Try.func39, Try.ntmps39
  go_wp2
  go_ret
  exact ⟨rfl, hbel⟩
end Go.Proofs.Ytgcmgohknocfnaa.Opk
