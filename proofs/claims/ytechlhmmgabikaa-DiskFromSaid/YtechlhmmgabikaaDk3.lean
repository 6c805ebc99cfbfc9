/- Contracts of disk.New, may, Down, Size, Writes, Reads. No statement is proved here. -/
import Derived.Test.YtechlhmmgabikaaDk2
namespace Go.Proofs.Ytechlhmmgabikaa.Dk
open Go.RowKit Go.Proofs.Ytechlhmmgabikaa.Mem Go.Proofs.Ytechlhmmgabikaa.Open Go.Proofs.Ytechlhmmgabikaa.Kind Go.Proofs.Ytechlhmmgabikaa.Blk
set_option linter.unusedVariables false
set_option linter.unusedSimpArgs false
theorem ret_num {a b : Int} (h : a = b) : Ending.returned (.int .i64 a) = .returned (.int .i64 b) := by rw [h]
theorem dev_cells {w : World} {d g : Nat} {s : Dv} (h : Dev w d g s) : w.cell? ⟨d, 0, none⟩ = some (.slice (some ⟨g, 0, none⟩) s.bs.length s.cap) ∧ w.cell? ⟨d, 1, none⟩ = some (.int .i64 s.fuse) ∧ w.cell? ⟨d, 2, none⟩ = some (.bool s.lit) ∧
    w.cell? ⟨d, 3, none⟩ = some (.bool s.off) ∧ w.cell? ⟨d, 4, none⟩ = some (.int .i64 s.wr) ∧ w.cell? ⟨d, 5, none⟩ = some (.int .i64 s.rd) :=
  ⟨h.1.cell 0 rfl, h.1.cell 1 rfl, h.1.cell 2 rfl, h.1.cell 3 rfl, h.1.cell 4 rfl, h.1.cell 5 rfl⟩
def fresh (N : Nat) : Dv := ⟨List.replicate N 0, 0, false, false, 0, 0, N⟩
set_option maxHeartbeats 1000000 in
set_option maxRecDepth 100000 in
theorem new_any (n : Int) (N : Nat) (hN : (n ≤ 16 ∧ N = 16) ∨ (16 < n ∧ n < 512 ∧ n = N) ∨ (512 ≤ n ∧ N = 512)) (w : World) :
    Calls Try.prog 12 #[.int .i64 n] w fun e w' => ∃ d, e = .returned (.pointer (some ⟨d, 0, none⟩)) ∧ ∃ g, Dev w' d g (fresh N) ∧ w.heap.size ≤ d ∧ w.heap.size ≤ g ∧ Below w.heap.size w w' := by
  have hfin : ∀ (w3 : World), Bks w3 w.heap.size (List.replicate N 0) → Below w.heap.size w w3 → w.heap.size < w3.heap.size → Dev (w3.alloc (.cells #[.slice (some ⟨w.heap.size, 0, none⟩) N N, .int .i64 0, .bool false, .bool false, .int .i64 0, .int .i64 0] 89)) w3.heap.size w.heap.size (fresh N) := by
    intro w3 h1 h2 h3
    refine ⟨?_, h1.keep (Below.heap_alloc w3 _ _ h1.2.2) (by simp), by omega⟩
    have := Row.new w3 89 #[.slice (some ⟨w.heap.size, 0, none⟩) N N, .int .i64 0, .bool false, .bool false, .int .i64 0, .int .i64 0]
    show Row _ _ _ #[.slice _ (List.replicate N 0).length N, _, _, _, _, _]
    rw [List.length_replicate]
    exact this
  have HF := Lib.hid hfin
  clear hfin
  have hN9 : N ≤ 1000 := by omega
  have h5 : (n < 16 ∧ N = 16) ∨ (n = 16 ∧ N = 16) ∨ (16 < n ∧ n < 512 ∧ n = (N : Int)) ∨ (n = 512 ∧ N = 512) ∨ (512 < n ∧ N = 512) := by omega
  clear hN
  rcases h5 with ⟨h1, rfl⟩ | ⟨rfl, rfl⟩ | ⟨h1, h2, rfl⟩ | ⟨rfl, rfl⟩ | ⟨h1, rfl⟩
  all_goals
    go_enter Try.func12, Try.ntmps12
    go_wp2_with (at_make; refine wpList_makeB rfl rfl _ _ rfl _ rfl rfl hN9 ?_; intro w3 hbk hb3 hsz3)
    go_ret
    refine ⟨w3.heap.size, rfl, w.heap.size, ?_, by omega, by omega, hb3.alloc (by omega) _⟩
    exact HF.out w3 hbk hb3 hsz3
/-- Why a block can not be gone to. -/
def mayE (s : Dv) (no : Int) : Int := if s.off then 12 else if no < 0 ∨ (s.bs.length : Int) ≤ no then 2 else 0
theorem may_any (d g : Nat) (s : Dv) (no : Int) (w : World) (hd : Dev w d g s) (hl : s.bs.length ≤ 1000) :
    Calls Try.prog 49 #[.pointer (some ⟨d, 0, none⟩), .int .i64 no] w fun e w' => e = .returned (.int .i64 (mayE s no)) ∧ w' = w := by
  obtain ⟨c0, _, _, c3, _, _⟩ := dev_cells hd
  have HM : Hid (mayE s no = if s.off then 12 else if no < 0 ∨ (s.bs.length : Int) ≤ no then 2 else 0) := Lib.hid rfl
  clear hd
  generalize mayE s no = r at *
  obtain ⟨bs, fuse, lit, off, wr, rd, cap⟩ := s
  simp only at c0 c3 HM hl
  generalize bs.length = n at *
  cases off with
  | true =>
    go_enter Try.func49, Try.ntmps49
    go_wp2
    go_ret
    exact ⟨ret_num (by rw [HM.out]; rfl), rfl⟩
  | false =>
    replace HM : Hid (r = if no < 0 ∨ (n : Int) ≤ no then 2 else 0) := HM
    by_cases h1 : no < 0
    · rw [if_pos (.inl h1)] at HM
      go_enter Try.func49, Try.ntmps49
      go_wp2
      go_ret
      exact ⟨ret_num HM.out.symm, rfl⟩
    by_cases h2 : (n : Int) ≤ no
    · rw [if_pos (.inr h2)] at HM
      go_enter Try.func49, Try.ntmps49
      go_wp2
      go_ret
      exact ⟨ret_num HM.out.symm, rfl⟩
    · rw [if_neg (by omega)] at HM
      go_enter Try.func49, Try.ntmps49
      go_wp2
      go_ret
      exact ⟨ret_num HM.out.symm, rfl⟩
theorem writes_any (d g : Nat) (s : Dv) (w : World) (hd : Dev w d g s) :
    Calls Try.prog 16 #[.pointer (some ⟨d, 0, none⟩)] w fun e w' => e = .returned (.int .i64 s.wr) ∧ w' = w := by
  obtain ⟨c0, c1, c2, c3, c4, c5⟩ := dev_cells hd
  clear hd
  go_enter Try.func16, Try.ntmps16
  go_wp2
  go_ret
  exact ⟨rfl, rfl⟩
theorem reads_any (d g : Nat) (s : Dv) (w : World) (hd : Dev w d g s) :
    Calls Try.prog 17 #[.pointer (some ⟨d, 0, none⟩)] w fun e w' => e = .returned (.int .i64 s.rd) ∧ w' = w := by
  obtain ⟨c0, c1, c2, c3, c4, c5⟩ := dev_cells hd
  clear hd
  go_enter Try.func17, Try.ntmps17
  go_wp2
  go_ret
  exact ⟨rfl, rfl⟩
theorem size_any (d g : Nat) (s : Dv) (w : World) (hd : Dev w d g s) :
    Calls Try.prog 23 #[.pointer (some ⟨d, 0, none⟩)] w fun e w' => e = .returned (.int .i64 s.bs.length) ∧ w' = w := by
  obtain ⟨c0, c1, c2, c3, c4, c5⟩ := dev_cells hd
  clear hd
  go_enter Try.func23, Try.ntmps23
  go_wp2
  go_ret
  exact ⟨rfl, rfl⟩
theorem down_any (d g : Nat) (s : Dv) (w : World) (hd : Dev w d g s) :
    Calls Try.prog 20 #[.pointer (some ⟨d, 0, none⟩)] w fun e w' => e = .returned (.bool s.off) ∧ w' = w := by
  obtain ⟨c0, c1, c2, c3, c4, c5⟩ := dev_cells hd
  clear hd
  go_enter Try.func20, Try.ntmps20
  go_wp2
  go_ret
  exact ⟨rfl, rfl⟩
end Go.Proofs.Ytechlhmmgabikaa.Dk
