/- Two devices; writes with a fuse and without. No statement is proved here. -/
import Derived.Test.YtechlhmmgabikaaDk11
import Derived.Laws.Shifts
import Derived.Laws.BitsLemmas
namespace Go.Proofs.Ytechlhmmgabikaa.Dk
open Go.RowKit Go.Proofs.Ytechlhmmgabikaa.Mem Go.Proofs.Ytechlhmmgabikaa.Open Go.Proofs.Ytechlhmmgabikaa.Kind Go.Proofs.Ytechlhmmgabikaa.Blk
set_option linter.unusedVariables false
set_option linter.unusedSimpArgs false
theorem Dev.other {w w' : World} {d g d' g' : Nat} {s : Dv} (h : Dev w d g s) (ha : Asd d' g' w w') (h1 : d ≠ d') (h2 : d ≠ g') (h3 : g ≠ d') (h4 : g ≠ g') : Dev w' d g s :=
  ⟨ha.kept h.1 h1 h2, h.2.1.keep (ha.block g h.2.1.2.2 h3 h4) ha.size, h.2.2⟩
def sX (j : Nat) (bs : List Nat) : Dv := ⟨bs, 0, false, false, j, 0, 20⟩
def sA (f k : Nat) (bs : List Nat) : Dv := ⟨bs, (f - k : Nat), true, decide (f < k), (min k f : Nat), 0, 20⟩
theorem plain_write (bs : List Nat) (m : Nat) (hm : m ≤ 1000) (hl : bs.length = 20) (i : Nat) (x : Nat) (h2 : i < 20) (d g : Nat) (w : World) (hd : Dev w d g (sX m bs)) (hx : x < 256) :
    Calls Try.prog 13 #[.pointer (some ⟨d, 0, none⟩), .agg (stC 1 i x)] w fun e w' => e = .returned (.tuple #[.agg (blk zblk), .int .i64 0]) ∧ Dev w' d g (sX (m + 1) (bs.set i x)) ∧ Asd d g w w' := by
  have hme : mayE (sX m bs) i = 0 := by
    unfold mayE sX
    simp only [Bool.false_eq_true, if_false]
    rw [if_neg (by simp only [hl]; omega)]
  have h := do_write d g (sX m bs) i x w hd ⟨by simp only [sX, hl]; omega, by simp only [sX]; omega, by simp only [sX]; omega, by simp [sX], by simp [sX], by simp [sX]⟩ hx
  unfold wrE wrS at h
  rw [hme] at h
  simpa [sX] using h
theorem fuse_write (bs : List Nat) (f k : Nat) (hf : f < 256) (hk : k ≤ 1000) (hl : bs.length = 20) (i : Nat) (x : Nat) (h2 : i < 20) (d g : Nat) (w : World) (hd : Dev w d g (sA f k bs)) (hx : x < 256) :
    Calls Try.prog 13 #[.pointer (some ⟨d, 0, none⟩), .agg (stC 1 i x)] w fun e w' => e = .returned (.tuple #[.agg (blk zblk), .int .i64 (if k < f then 0 else 12)]) ∧ Dev w' d g (sA f (k + 1) (if k < f then bs.set i x else bs)) ∧ Asd d g w w' := by
  have h := do_write d g (sA f k bs) i x w hd ⟨by simp only [sA, hl]; omega, by simp only [sA]; omega, by simp only [sA]; omega, by simp [sA], by simp [sA], by simp only [sA]; omega⟩ hx
  refine h.mono ?_
  rintro e w' ⟨rfl, h3, h4⟩
  have hmm : mayE (sA f k bs) i = if f < k then 12 else 0 := by
    unfold mayE sA
    simp only [decide_eq_true_eq]
    by_cases hfk : f < k
    · rw [if_pos hfk, if_pos hfk]
    · rw [if_neg hfk, if_neg hfk, if_neg (by simp only [hl]; omega)]
  unfold wrS at h3
  unfold wrE
  rcases Nat.lt_trichotomy k f with hlt | rfl | hgt
  · rw [if_neg (by omega : ¬ f < k)] at hmm
    have n1 : ¬ ((0 : Int) ≠ 0) := by omega
    have n2 : ¬ ((sA f k bs).lit = true ∧ (sA f k bs).fuse = 0) := by simp only [sA]; omega
    have n3 : (sA f k bs).lit = true := rfl
    rw [hmm, if_neg n1, if_neg n2, if_pos n3] at h3
    rw [hmm, if_neg n1, if_neg n2, if_pos hlt, if_pos hlt]
    refine ⟨rfl, ?_, h4⟩
    have e1 : ((f - k : Nat) : Int) - 1 = ((f - (k + 1) : Nat) : Int) := by omega
    have e2 : ((min k f : Nat) : Int) + 1 = ((min (k + 1) f : Nat) : Int) := by omega
    have e3 : decide (f < k) = decide (f < k + 1) := by rw [decide_eq_decide]; omega
    simp only [sA, e1, e2, Int.toNat_natCast] at h3
    unfold sA
    rw [← e3]
    exact h3
  · rw [if_neg (by omega : ¬ k < k)] at hmm
    have n1 : ¬ ((0 : Int) ≠ 0) := by omega
    have n2 : (sA k k bs).lit = true ∧ (sA k k bs).fuse = 0 := ⟨rfl, by show ((k - k : Nat) : Int) = 0; omega⟩
    rw [hmm, if_neg n1, if_pos n2] at h3
    rw [hmm, if_neg n1, if_pos n2, if_neg (by omega : ¬ k < k), if_neg (by omega : ¬ k < k)]
    refine ⟨rfl, ?_, h4⟩
    unfold sA at h3 ⊢
    have e1 : (k - (k + 1) : Nat) = k - k := by omega
    have e2 : min (k + 1) k = min k k := by omega
    rw [e1, e2, decide_eq_true (by omega : k < k + 1)]
    exact h3
  · rw [if_pos hgt] at hmm
    have n1 : (12 : Int) ≠ 0 := by omega
    rw [hmm, if_pos n1] at h3
    rw [hmm, if_pos n1, if_neg (by omega : ¬ k < f), if_neg (by omega : ¬ k < f)]
    refine ⟨rfl, ?_, h4⟩
    unfold sA at h3 ⊢
    rw [show (f - (k + 1) : Nat) = f - k from by omega, show min (k + 1) f = min k f from by omega, decide_eq_true (by omega : f < k + 1)]
    rw [decide_eq_true hgt] at h3
    exact h3
theorem fuse_new (f : Nat) : fuS (fresh 20) f = sA f 0 (List.replicate 20 0) := by
  unfold fuS fresh sA
  rw [show max (f : Int) 0 = ((f - 0 : Nat) : Int) from by omega, decide_eq_true (by omega), show decide (f < 0) = false from by simp, show min 0 f = 0 from by omega]
  rfl
theorem stInfo : (Try.prog.info? 28).map (fun i => (i.zero, i.size)) = some (some (.agg (stC 0 0 0)), 3) := by kernel_rfl
theorem stZero : ∀ w, (zeroValue 28).run Try.prog w = .ok (.agg (stC 0 0 0)) w := (zero_of_info stInfo).1
theorem stSize : (Try.prog.info? 28).map (·.size) = some 3 := (zero_of_info stInfo).2
theorem stC_one (k no : Int) (b : Nat) : (stC k no b).all (·.oneCell') = true := by simp [stC, Value.oneCell']
theorem rem20 (no : Int) : ∃ i : Nat, i < 20 ∧ IntKind.i64.wrap ((IntKind.u64.wrap no).tmod 20) = (i : Int) := by
  have h0 : 0 ≤ IntKind.u64.wrap no := wrap_u64_nonneg no
  rw [Int.tmod_eq_emod_of_nonneg h0]
  generalize IntKind.u64.wrap no = q at *
  refine ⟨(q % 20).toNat, by omega, ?_⟩
  rw [IntKind.wrap_i64]
  omega
end Go.Proofs.Ytechlhmmgabikaa.Dk
