/- Calls: op.Plain. -/
import Derived.Test.YtadiamgoglodbaaOp2
namespace Go.Proofs.Ytadiamgoglodbaa.Opk
open Go.RowKit Go.Proofs.Ytadiamgoglodbaa.Mem Go.Proofs.Ytadiamgoglodbaa.Open Go.Proofs.Ytadiamgoglodbaa.Kind Go.Proofs.Ytadiamgoglodbaa.Blk Go.Proofs.Ytadiamgoglodbaa.App
set_option linter.unusedVariables false
set_option linter.unusedSimpArgs false
theorem mid_row (w : World) (p r : Obj) (T : TypeId) (q : Array Value) : Row (((w.alloc p).alloc (.cells q T)).alloc r) (w.heap.size + 1) T q := by
  have h := (Row.new (w.alloc p) T q).alloc r
  rwa [show (w.alloc p).heap.size = w.heap.size + 1 from by simp] at h
theorem mid_bel (w : World) (p q r : Obj) : Below w.heap.size w (((w.alloc p).alloc q).alloc r) := (((Below.refl _ _).alloc (Nat.le_refl _) _).alloc (by simp) _).alloc (by simp; omega) _
/-- What counts of a call. -/
def plA (d : Int) (a : ByteArray) : ByteArray := if d = 13 then ⟨#[]⟩ else a
def plB (d : Int) (b : ByteArray) : ByteArray := if d = 3 ∨ d = 6 then b else ⟨#[]⟩
def plO (d o : Int) : Int := if d = 7 ∨ d = 8 then o else 0
def plN (d n : Int) : Int := if d = 8 ∨ d = 9 then n else 0
def plD (d : Int) (l : List Nat) : List Nat := if d = 7 then l else []
section
variable (a b : ByteArray) (o n : Int) (A : Option Addr) (m c : Nat) (w : World)
set_option maxHeartbeats 1000000 in
theorem plain_13 : Calls Try.prog 11 #[opV 13 a b o n A m c] w fun e w' => e = .returned (opV 13 ⟨#[]⟩ ⟨#[]⟩ 0 0 none 0 0) ∧ Below w.heap.size w w' := by
  go_enter Try.func11, Try.ntmps11
  go_wp2
  exact bodyPost_ret (results_cell_row rfl _ _ (w.heap.size + 1) 29 _ (0, 0) _ rfl (mid_row _ _ _ _ _) Try.underlying29 rfl opSize) rfl ⟨rfl, mid_bel _ _ _ _⟩
set_option maxHeartbeats 1000000 in
theorem plain_3 : Calls Try.prog 11 #[opV 3 a b o n A m c] w fun e w' => e = .returned (opV 3 a b 0 0 none 0 0) ∧ Below w.heap.size w w' := by
  go_enter Try.func11, Try.ntmps11
  go_wp2
  exact bodyPost_ret (results_cell_row rfl _ _ (w.heap.size + 1) 29 _ (0, 0) _ rfl (mid_row _ _ _ _ _) Try.underlying29 rfl opSize) rfl ⟨rfl, mid_bel _ _ _ _⟩
set_option maxHeartbeats 1000000 in
theorem plain_6 : Calls Try.prog 11 #[opV 6 a b o n A m c] w fun e w' => e = .returned (opV 6 a b 0 0 none 0 0) ∧ Below w.heap.size w w' := by
  go_enter Try.func11, Try.ntmps11
  go_wp2
  exact bodyPost_ret (results_cell_row rfl _ _ (w.heap.size + 1) 29 _ (0, 0) _ rfl (mid_row _ _ _ _ _) Try.underlying29 rfl opSize) rfl ⟨rfl, mid_bel _ _ _ _⟩
set_option maxHeartbeats 1000000 in
theorem plain_8 : Calls Try.prog 11 #[opV 8 a b o n A m c] w fun e w' => e = .returned (opV 8 a ⟨#[]⟩ o n none 0 0) ∧ Below w.heap.size w w' := by
  go_enter Try.func11, Try.ntmps11
  go_wp2
  exact bodyPost_ret (results_cell_row rfl _ _ (w.heap.size + 1) 29 _ (0, 0) _ rfl (mid_row _ _ _ _ _) Try.underlying29 rfl opSize) rfl ⟨rfl, mid_bel _ _ _ _⟩
set_option maxHeartbeats 1000000 in
theorem plain_9 : Calls Try.prog 11 #[opV 9 a b o n A m c] w fun e w' => e = .returned (opV 9 a ⟨#[]⟩ 0 n none 0 0) ∧ Below w.heap.size w w' := by
  go_enter Try.func11, Try.ntmps11
  go_wp2
  exact bodyPost_ret (results_cell_row rfl _ _ (w.heap.size + 1) 29 _ (0, 0) _ rfl (mid_row _ _ _ _ _) Try.underlying29 rfl opSize) rfl ⟨rfl, mid_bel _ _ _ _⟩
set_option maxHeartbeats 1000000 in
theorem plain_0 (d : Int) (h3 : (d == 3) = false) (h6 : (d == 6) = false) (h7 : (d == 7) = false) (h8 : (d == 8) = false) (h9 : (d == 9) = false) (h13 : (d != 13) = true) : Calls Try.prog 11 #[opV d a b o n A m c] w fun e w' => e = .returned (opV d a ⟨#[]⟩ 0 0 none 0 0) ∧ Below w.heap.size w w' := by
  go_enter Try.func11, Try.ntmps11
  go_wp2
  exact bodyPost_ret (results_cell_row rfl _ _ (w.heap.size + 1) 29 _ (0, 0) _ rfl (mid_row _ _ _ _ _) Try.underlying29 rfl opSize) rfl ⟨rfl, mid_bel _ _ _ _⟩
end
end Go.Proofs.Ytadiamgoglodbaa.Opk
