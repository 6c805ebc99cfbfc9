/- Fuse, Up; Read and Write as steps. No statement is proved here. -/
import Derived.Test.YtechlhmmgabikaaDk6
namespace Go.Proofs.Ytechlhmmgabikaa.Dk
open Go.RowKit Go.Proofs.Ytechlhmmgabikaa.Mem Go.Proofs.Ytechlhmmgabikaa.Open Go.Proofs.Ytechlhmmgabikaa.Kind Go.Proofs.Ytechlhmmgabikaa.Blk
set_option linter.unusedVariables false
set_option linter.unusedSimpArgs false
theorem dev_lit {w : World} {d g : Nat} {s : Dv} (h : Dev w d g s) (f : Bool) : Dev (w.setCell ⟨d, 2, none⟩ (.bool f)) d g { s with lit := f } := ⟨(h.at_ 2 _).1, (h.at_ 2 _).2, h.2.2⟩
/-- Numbers that may be counted on. -/
def Ok (s : Dv) : Prop := s.bs.length ≤ 1000 ∧ 0 ≤ s.wr ∧ s.wr ≤ 1000000 ∧ 0 ≤ s.rd ∧ s.rd ≤ 1000000 ∧ (s.lit = true → 0 ≤ s.fuse ∧ s.fuse ≤ 9223372036854775807)
/-- A write: the device behind it. -/
def wrS (s : Dv) (no : Int) (x : Nat) : Dv := if mayE s no ≠ 0 then s else if s.lit = true ∧ s.fuse = 0 then { s with off := true } else if s.lit = true then { s with bs := s.bs.set no.toNat x, fuse := s.fuse - 1, wr := s.wr + 1 } else { s with bs := s.bs.set no.toNat x, wr := s.wr + 1 }
def wrE (s : Dv) (no : Int) : Int := if mayE s no ≠ 0 then mayE s no else if s.lit = true ∧ s.fuse = 0 then 12 else 0
theorem may_ok {s : Dv} {no : Int} (h : ¬ mayE s no ≠ 0) : s.off = false ∧ ∃ i : Nat, no = (i : Int) ∧ i < s.bs.length := by
  unfold mayE at h
  cases ho : s.off
  · rw [ho] at h
    simp only [Bool.false_eq_true, if_false] at h
    refine ⟨rfl, no.toNat, ?_, ?_⟩
    · split at h <;> omega
    · split at h <;> omega
  · rw [ho] at h
    simp at h
theorem write_any (d g : Nat) (s : Dv) (no : Int) (x : Nat) (w : World) (hd : Dev w d g s) (hs : Ok s) :
    Calls Try.prog 26 #[.pointer (some ⟨d, 0, none⟩), .int .i64 no, .agg (blk (full x))] w fun e w' => e = .returned (.int .i64 (wrE s no)) ∧ Dev w' d g (wrS s no x) ∧ Asd d g w w' := by
  obtain ⟨h1, h2, h3, h4, h5, h6⟩ := hs
  unfold wrS wrE
  by_cases hm : mayE s no ≠ 0
  · rw [if_pos hm, if_pos hm]
    refine (write_no d g s no x w hd h1 hm).mono ?_
    rintro e w' ⟨rfl, q1, q2⟩
    exact ⟨rfl, q1, Asd.of q2⟩
  rw [if_neg hm, if_neg hm]
  obtain ⟨ho, i, rfl, hi⟩ := may_ok hm
  by_cases hc : s.lit = true ∧ s.fuse = 0
  · rw [if_pos hc, if_pos hc]
    exact write_cut d g s i x w hd h1 hi ho hc.1 hc.2
  rw [if_neg hc, if_neg hc]
  by_cases hl : s.lit = true
  · rw [if_pos hl]
    have := h6 hl
    exact write_lit d g s i x w hd h1 hi ho hl ⟨by have : ¬ s.fuse = 0 := fun e => hc ⟨hl, e⟩; omega, this.2⟩ ⟨h2, h3⟩
  · rw [if_neg hl]
    exact write_ok d g s i x w hd h1 hi ho (by simpa using hl) ⟨h2, h3⟩
def rdS (s : Dv) (no : Int) : Dv := if mayE s no ≠ 0 then s else { s with rd := s.rd + 1 }
def rdV (s : Dv) (no : Int) : Nat := if mayE s no ≠ 0 then 0 else s.bs.getD no.toNat 0
theorem read_any (d g : Nat) (s : Dv) (no : Int) (w : World) (hd : Dev w d g s) (hs : Ok s) :
    Calls Try.prog 14 #[.pointer (some ⟨d, 0, none⟩), .int .i64 no] w fun e w' => e = .returned (.tuple #[.agg (blk (full (rdV s no))), .int .i64 (mayE s no)]) ∧ Dev w' d g (rdS s no) ∧ Asd d g w w' := by
  obtain ⟨h1, h2, h3, h4, h5, h6⟩ := hs
  unfold rdS rdV
  by_cases hm : mayE s no ≠ 0
  · rw [if_pos hm, if_pos hm]
    refine (read_no d g s no w hd h1 hm).mono ?_
    rintro e w' ⟨rfl, q1, q2⟩
    exact ⟨rfl, q1, Asd.of q2⟩
  rw [if_neg hm, if_neg hm]
  have hm0 : mayE s no = 0 := Classical.not_not.1 hm
  obtain ⟨ho, i, rfl, hi⟩ := may_ok hm
  rw [hm0, Int.toNat_natCast, List.getD_eq_getElem?_getD, List.getElem?_eq_getElem hi]
  exact read_ok d g s i w hd h1 hi ho ⟨h4, h5⟩
set_option maxHeartbeats 1000000 in
theorem up_any (d g : Nat) (s : Dv) (w : World) (hd : Dev w d g s) :
    Calls Try.prog 25 #[.pointer (some ⟨d, 0, none⟩)] w fun e w' => e = .returned (.tuple #[]) ∧ Dev w' d g { s with fuse := 0, lit := false, off := false } ∧ Asd d g w w' := by
  obtain ⟨e0, e1, e2, e3, e4, e5⟩ := dev_cells hd
  have f1 := hd.1.frozen 1
  have f2 := hd.1.frozen 2
  have f3 := hd.1.frozen 3
  have HD := Lib.hid hd
  clear hd
  go_enter Try.func25, Try.ntmps25
  go_wp2
  exact bodyPost_end (results_none rfl _ _ _) rfl ⟨rfl, dev_off (dev_lit (dev_fuse HD.out 0) false) false, (((Asd.refl d g w).cell 1 _).cell 2 _).cell 3 _⟩
def fuS (s : Dv) (n : Int) : Dv := { s with fuse := max n 0, lit := decide (0 ≤ n) }
set_option maxHeartbeats 1000000 in
theorem fuse_any (d g : Nat) (s : Dv) (n : Int) (w : World) (hd : Dev w d g s) :
    Calls Try.prog 18 #[.pointer (some ⟨d, 0, none⟩), .int .i64 n] w fun e w' => e = .returned (.tuple #[]) ∧ Dev w' d g (fuS s n) ∧ Asd d g w w' := by
  obtain ⟨e0, e1, e2, e3, e4, e5⟩ := dev_cells hd
  have f1 := hd.1.frozen 1
  have f2 := hd.1.frozen 2
  have HD := Lib.hid hd
  clear hd
  have h5 : n < 0 ∨ n = 0 ∨ 0 < n := by omega
  have HS : Hid (fuS s n = { s with fuse := max n 0, lit := decide (0 ≤ n) }) := Lib.hid rfl
  rcases h5 with h | rfl | h
  · have HF : Hid (fuS s n = { s with fuse := 0, lit := decide (0 ≤ n) }) := Lib.hid (by rw [HS.out, show max n 0 = 0 from by omega])
    clear HS
    go_enter Try.func18, Try.ntmps18
    go_wp2
    exact bodyPost_end (results_none rfl _ _ _) rfl ⟨rfl, by rw [HF.out]; exact dev_lit (dev_fuse HD.out 0) (decide (0 ≤ n)), ((Asd.refl d g w).cell 1 _).cell 2 _⟩
  · have HF : Hid (fuS s 0 = { s with fuse := 0, lit := true }) := Lib.hid (by rw [HS.out]; rfl)
    clear HS
    go_enter Try.func18, Try.ntmps18
    go_wp2
    exact bodyPost_end (results_none rfl _ _ _) rfl ⟨rfl, by rw [HF.out]; exact dev_lit (dev_fuse HD.out 0) true, ((Asd.refl d g w).cell 1 _).cell 2 _⟩
  · have HF : Hid (fuS s n = { s with fuse := n, lit := decide (0 ≤ n) }) := Lib.hid (by rw [HS.out, show max n 0 = n from by omega])
    clear HS
    go_enter Try.func18, Try.ntmps18
    go_wp2
    exact bodyPost_end (results_none rfl _ _ _) rfl ⟨rfl, by rw [HF.out]; exact dev_lit (dev_fuse HD.out n) (decide (0 ≤ n)), ((Asd.refl d g w).cell 1 _).cell 2 _⟩
end Go.Proofs.Ytechlhmmgabikaa.Dk
