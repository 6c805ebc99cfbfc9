/- The document's device: New, Go. No statement is proved here. -/
import Derived.Test.YtechlhmmgabikaaDk12
namespace Go.Proofs.Ytechlhmmgabikaa.Dk
open Go.RowKit Go.Proofs.Ytechlhmmgabikaa.Mem Go.Proofs.Ytechlhmmgabikaa.Open Go.Proofs.Ytechlhmmgabikaa.Kind Go.Proofs.Ytechlhmmgabikaa.Blk Go.Proofs.Ytechlhmmgabikaa.App
set_option linter.unusedVariables false
set_option linter.unusedSimpArgs false
abbrev rC (A : Option Addr) (n c : Nat) (fu : Int) (off : Bool) (wr rd : Int) : Array Value := #[.slice A n c, .int .i64 fu, .bool off, .int .i64 wr, .int .i64 rd]
theorem results_cell_tmp2 {P : Program} {fn : Func} {p t2 t3 : Tmp} {ty : TypeId} (h : fn.results = #[.cell p ty, .tmp t2, .tmp t3]) (tmps : Array Value) (w : World) (g : Nat) (t : TypeId) (cs : Array Value) (fr : Nat × Nat) (d : TypeDesc)
    (hp : tmps.getD p undef = .pointer (some ⟨g, 0, none⟩)) (hg : w.heap[g]? = some (.cells cs t fr))
    (hu : P.underlying ty = some d) (hd : (match d with | .struct _ | .array _ _ => true | _ => false) = true) (hi : (P.info? ty).map (·.size) = some cs.size) :
    (results fn tmps).run P w = .ok (.tuple #[.agg cs, tmps.getD t2 undef, tmps.getD t3 undef]) w := by
  have hp' : tmps[p]?.getD undef = .pointer (some ⟨g, 0, none⟩) := by simpa using hp
  simp [results, h, hp', asAddr, run_loadVar_row w g t ty cs fr d hg hu hd hi]
theorem last_row (w : World) (p q : Obj) (T : TypeId) (r : Array Value) : Row (((w.alloc p).alloc q).alloc (.cells r T)) (w.heap.size + 1 + 1) T r := by
  have h := Row.new ((w.alloc p).alloc q) T r
  rwa [show ((w.alloc p).alloc q).heap.size = w.heap.size + 1 + 1 from by simp] at h
theorem bel3 (w : World) (p q r : Obj) : Below w.heap.size w (((w.alloc p).alloc q).alloc r) := (((Below.refl _ _).alloc (Nat.le_refl _) _).alloc (by simp) _).alloc (by simp; omega) _
theorem rC_one (A : Option Addr) (n c : Nat) (fu : Int) (off : Bool) (wr rd : Int) : (rC A n c fu off wr rd).all (·.oneCell') = true := by simp [rC, Value.oneCell']
theorem rSize : (Try.prog.info? 46).map (·.size) = some 5 := by kernel_rfl
section
variable (A : Option Addr) (n c : Nat) (fu : Int) (off : Bool) (wr rd : Int) (no : Int) (b : Nat) (w : World)
set_option maxHeartbeats 1000000 in
theorem go_2p (h : 0 ≤ no) : Calls Try.prog 22 #[.agg (rC A n c fu off wr rd), .agg (stC 2 no b)] w fun e w' => e = .returned (.tuple #[.agg (rC A n c no off wr rd), .int .u8 0, .int .i64 0]) ∧ Below w.heap.size w w' := by
  go_enter Try.func22, Try.ntmps22
  go_wp2
  exact bodyPost_ret (results_cell_tmp2 rfl _ _ (w.heap.size + 1 + 1) 46 _ (0, 0) _ rfl (last_row _ _ _ _ _) Try.underlying46 rfl rSize) rfl ⟨rfl, bel3 _ _ _ _⟩
set_option maxHeartbeats 1000000 in
theorem go_2n (h : no < 0) : Calls Try.prog 22 #[.agg (rC A n c fu off wr rd), .agg (stC 2 no b)] w fun e w' => e = .returned (.tuple #[.agg (rC A n c (-1) off wr rd), .int .u8 0, .int .i64 0]) ∧ Below w.heap.size w w' := by
  go_enter Try.func22, Try.ntmps22
  go_wp2
  exact bodyPost_ret (results_cell_tmp2 rfl _ _ (w.heap.size + 1 + 1) 46 _ (0, 0) _ rfl (last_row _ _ _ _ _) Try.underlying46 rfl rSize) rfl ⟨rfl, bel3 _ _ _ _⟩
set_option maxHeartbeats 1000000 in
theorem go_3 : Calls Try.prog 22 #[.agg (rC A n c fu off wr rd), .agg (stC 3 no b)] w fun e w' => e = .returned (.tuple #[.agg (rC A n c (-1) false wr rd), .int .u8 0, .int .i64 0]) ∧ Below w.heap.size w w' := by
  go_enter Try.func22, Try.ntmps22
  go_wp2
  exact bodyPost_ret (results_cell_tmp2 rfl _ _ (w.heap.size + 1 + 1) 46 _ (0, 0) _ rfl (last_row _ _ _ _ _) Try.underlying46 rfl rSize) rfl ⟨rfl, bel3 _ _ _ _⟩
set_option maxHeartbeats 1000000 in
theorem go_off (d : Int) (h2 : (d == 2) = false) (h3 : (d == 3) = false) : Calls Try.prog 22 #[.agg (rC A n c fu true wr rd), .agg (stC d no b)] w fun e w' => e = .returned (.tuple #[.agg (rC A n c fu true wr rd), .int .u8 0, .int .i64 12]) ∧ Below w.heap.size w w' := by
  go_enter Try.func22, Try.ntmps22
  go_wp2
  exact bodyPost_ret (results_cell_tmp2 rfl _ _ (w.heap.size + 1 + 1) 46 _ (0, 0) _ rfl (last_row _ _ _ _ _) Try.underlying46 rfl rSize) rfl ⟨rfl, bel3 _ _ _ _⟩
set_option maxHeartbeats 1000000 in
theorem go_neg (d : Int) (h2 : (d == 2) = false) (h3 : (d == 3) = false) (h : no < 0) : Calls Try.prog 22 #[.agg (rC A n c fu false wr rd), .agg (stC d no b)] w fun e w' => e = .returned (.tuple #[.agg (rC A n c fu false wr rd), .int .u8 0, .int .i64 2]) ∧ Below w.heap.size w w' := by
  go_enter Try.func22, Try.ntmps22
  go_wp2
  exact bodyPost_ret (results_cell_tmp2 rfl _ _ (w.heap.size + 1 + 1) 46 _ (0, 0) _ rfl (last_row _ _ _ _ _) Try.underlying46 rfl rSize) rfl ⟨rfl, bel3 _ _ _ _⟩
set_option maxHeartbeats 1000000 in
theorem go_far (d : Int) (h2 : (d == 2) = false) (h3 : (d == 3) = false) (h0 : 0 ≤ no) (h : (n : Int) ≤ no) : Calls Try.prog 22 #[.agg (rC A n c fu false wr rd), .agg (stC d no b)] w fun e w' => e = .returned (.tuple #[.agg (rC A n c fu false wr rd), .int .u8 0, .int .i64 2]) ∧ Below w.heap.size w w' := by
  go_enter Try.func22, Try.ntmps22
  go_wp2
  exact bodyPost_ret (results_cell_tmp2 rfl _ _ (w.heap.size + 1 + 1) 46 _ (0, 0) _ rfl (last_row _ _ _ _ _) Try.underlying46 rfl rSize) rfl ⟨rfl, bel3 _ _ _ _⟩
set_option maxHeartbeats 1000000 in
theorem go_cut0 (i : Nat) (h : i < n) : Calls Try.prog 22 #[.agg (rC A n c 0 false wr rd), .agg (stC 1 i b)] w fun e w' => e = .returned (.tuple #[.agg (rC A n c 0 true wr rd), .int .u8 0, .int .i64 12]) ∧ Below w.heap.size w w' := by
  go_enter Try.func22, Try.ntmps22
  go_wp2
  exact bodyPost_ret (results_cell_tmp2 rfl _ _ (w.heap.size + 1 + 1) 46 _ (0, 0) _ rfl (last_row _ _ _ _ _) Try.underlying46 rfl rSize) rfl ⟨rfl, bel3 _ _ _ _⟩
end
end Go.Proofs.Ytechlhmmgabikaa.Dk
