/- The reference's rank is the rank. Plain laws. No statement is proved here. -/
import Derived.Test.YthgncnpemnlodaaPr
namespace Go.Proofs.Ythgncnpemnlodaa.Fl
open Go.RowKit Go.Proofs.Ythgncnpemnlodaa.Open Go.Proofs.Ythgncnpemnlodaa.Mem
set_option linter.unusedVariables false
/-- How many of the first ones stand ahead. -/
def cnt (l : List Nat) (i : Nat) : Nat → Nat
  | 0 => 0
  | k + 1 => cnt l i k + (if k ≠ i ∧ ahB l k i = true then 1 else 0)
/-- The row, when so many are laid. -/
def laid (l : List Nat) (n : Nat) : Nat → List Int
  | 0 => List.replicate n 0
  | i + 1 => (laid l n i).set (cnt l i n) (i : Int)
theorem laid_len (l : List Nat) (n i : Nat) : (laid l n i).length = n := by
  induction i with
  | zero => simp [laid]
  | succ i ih => simp [laid, ih]
theorem ahB_self (l : List Nat) (i : Nat) : ahB l i i = false := by unfold ahB; rw [ord_self]; simp
theorem cnt_le (l : List Nat) (i k : Nat) : cnt l i k ≤ k := by
  induction k with
  | zero => exact Nat.le_refl _
  | succ k ih => unfold cnt; split <;> omega
theorem cnt_count (l : List Nat) (i k : Nat) : cnt l i k = ((List.range k).map fun j : Nat => (j : Int)).countP fun x => ahB l x.toNat i := by
  induction k with
  | zero => rfl
  | succ k ih =>
    rw [List.range_succ, List.map_append, List.countP_append, ← ih]
    show cnt l i k + (if k ≠ i ∧ ahB l k i = true then 1 else 0) = _
    generalize cnt l i k = c
    by_cases e : k = i
    · subst e; simp [ahB_self]
    · cases h : ahB l k i <;> simp [e, h]
theorem rk_perm (l : List Nat) (k : Nat) : (rk l k).Perm ((List.range k).map fun j : Nat => (j : Int)) := by
  induction k with
  | zero => exact List.Perm.nil
  | succ k ih =>
    rw [List.range_succ, List.map_append]
    show (ins l (rk l k) k).Perm _
    unfold ins
    generalize posF l (rk l k) (wt l k) (rk l k).length = p
    refine List.perm_middle.trans ?_
    rw [List.take_append_drop]
    refine (List.Perm.cons _ ih).trans ?_
    exact (List.perm_append_singleton _ _).symm
theorem ah_not {l : List Nat} {i j : Int} (h : Ah l i j) : ¬ Ah l j i := by
  intro g
  have := ord_back (wt l i) (wt l j)
  rcases h with h | h <;> rcases g with g | g <;> omega
theorem cnt_at {l : List Nat} {n p i : Nat} (hp : p < (rk l n).length) (hi : (rk l n)[p] = (i : Int)) : cnt l i n = p := by
  rw [cnt_count, ← (rk_perm l n).countP_eq]
  have hs := List.pairwise_iff_getElem.1 (rk_sorted l n)
  have hr := rk_lt l n
  conv => lhs; rw [← List.take_append_drop p (rk l n)]
  rw [List.countP_append]
  have h1 : ((rk l n).take p).countP (fun x => ahB l x.toNat i) = p := by
    have : ((rk l n).take p).countP (fun x => ahB l x.toNat i) = ((rk l n).take p).length := by
      rw [List.countP_eq_length]
      intro x hx
      obtain ⟨q, hq, rfl⟩ := List.mem_iff_getElem.1 hx
      have hqp : q < p := by rw [List.length_take] at hq; omega
      rw [List.getElem_take, ahB_iff]
      have := hs q p (by omega) hp hqp
      have h0 := (hr _ (List.getElem_mem (show q < (rk l n).length by omega))).1
      rw [hi] at this
      rwa [Int.toNat_of_nonneg h0]
    rw [this, List.length_take]; omega
  have h2 : ((rk l n).drop p).countP (fun x => ahB l x.toNat i) = 0 := by
    rw [List.countP_eq_zero]
    intro x hx
    obtain ⟨q, hq, rfl⟩ := List.mem_iff_getElem.1 hx
    rw [List.length_drop] at hq
    rw [List.getElem_drop]
    have h0 := (hr _ (List.getElem_mem (show p + q < (rk l n).length by omega))).1
    intro h
    by_cases e : q = 0
    · subst e
      simp only [Nat.add_zero] at h
      rw [hi] at h
      simp only [Int.toNat_natCast] at h
      rw [ahB_self] at h; cases h
    · rw [ahB_iff, Int.toNat_of_nonneg h0] at h
      have := hs p (p + q) hp (by omega) (by omega)
      rw [hi] at this
      exact ah_not this h
  rw [h1, h2]
  rfl
theorem rk_has {l : List Nat} {n i : Nat} (h : i < n) : ∃ p, ∃ hp : p < (rk l n).length, (rk l n)[p] = (i : Int) := by
  have : (i : Int) ∈ rk l n := by
    rw [(rk_perm l n).mem_iff]
    exact List.mem_map.2 ⟨i, List.mem_range.2 h, rfl⟩
  obtain ⟨p, hp, e⟩ := List.mem_iff_getElem.1 this
  exact ⟨p, hp, e⟩
theorem cnt_lt {l : List Nat} {n i : Nat} (h : i < n) : cnt l i n < n := by
  obtain ⟨p, hp, e⟩ := rk_has (l := l) h
  rw [cnt_at hp e]
  have := rk_len l n
  omega
theorem cnt_inj {l : List Nat} {n i j : Nat} (hi : i < n) (hj : j < n) (h : cnt l i n = cnt l j n) : i = j := by
  obtain ⟨p, hp, e⟩ := rk_has (l := l) hi
  obtain ⟨q, hq, f⟩ := rk_has (l := l) hj
  rw [cnt_at hp e, cnt_at hq f] at h
  subst h
  rw [e] at f
  omega
theorem laid_at {l : List Nat} {n m : Nat} (hm : m ≤ n) : ∀ i, i < m → (laid l n m)[cnt l i n]? = some (i : Int) := by
  induction m with
  | zero => intro i h; omega
  | succ m ih =>
    intro i h
    show ((laid l n m).set (cnt l m n) (m : Int))[cnt l i n]? = _
    rw [List.getElem?_set]
    by_cases e : i = m
    · subst e
      rw [if_pos rfl, if_pos (by rw [laid_len]; exact cnt_lt (by omega))]
    · rw [if_neg (fun h2 => e (cnt_inj (by omega) (by omega) h2.symm))]
      exact ih (by omega) i (by omega)
theorem laid_rk (l : List Nat) (n : Nat) : laid l n n = rk l n := by
  have hl := rk_len l n
  have hl2 := laid_len l n n
  apply List.ext_getElem?
  intro p
  by_cases hp : p < n
  · have h := rk_lt l n _ (List.getElem_mem (show p < (rk l n).length by omega))
    have e : (rk l n)[p]'(by omega) = (((rk l n)[p]'(by omega)).toNat : Int) := by omega
    have hc := cnt_at (l := l) (n := n) (p := p) (i := ((rk l n)[p]'(by omega)).toNat) (by omega) e
    have := laid_at (l := l) (Nat.le_refl n) ((rk l n)[p]'(by omega)).toNat (by omega)
    rw [hc] at this
    rw [this, List.getElem?_eq_getElem (by omega), ← e]
  · rw [List.getElem?_eq_none (by omega), List.getElem?_eq_none (by omega)]
end Go.Proofs.Ythgncnpemnlodaa.Fl
