/- The patches between two blocks: plain laws. -/
import Derived.Test.YtoibdomcekainaaPatDi
namespace Go.Proofs.Ytoibdomcekainaa.Pat
open Go.RowKit Go.Proofs.Ytoibdomcekainaa.Mem Go.Proofs.Ytoibdomcekainaa.Open Go.Proofs.Ytoibdomcekainaa.Kind Go.Proofs.Ytoibdomcekainaa.Blk Go.Proofs.Ytoibdomcekainaa.App
set_option linter.unusedVariables false
set_option linter.unusedSimpArgs false
def coveredB (D : List Pt) (i : Nat) : Bool := D.any fun p => decide (p.1 ≤ (i : Int) ∧ (i : Int) < p.1 + p.2.length)
def sumL (D : List Pt) : Nat := (D.map fun p => p.2.length).sum
theorem sumL_concat (D : List Pt) (p : Pt) : sumL (D ++ [p]) = sumL D + p.2.length := by unfold sumL; simp
theorem coveredB_concat (D : List Pt) (p : Pt) (i : Nat) : coveredB (D ++ [p]) i = (coveredB D i || decide (p.1 ≤ (i : Int) ∧ (i : Int) < p.1 + p.2.length)) := by unfold coveredB; simp [List.any_append]
theorem coveredB_iff (D : List Pt) (i : Nat) : coveredB D i = true ↔ ∃ p ∈ D, p.1 ≤ (i : Int) ∧ (i : Int) < p.1 + p.2.length := by unfold coveredB; simp [List.any_eq_true]
structure DInv (a b : List Nat) (k : Nat) (D : List Pt) : Prop where
  each : ∀ p ∈ D, 0 ≤ p.1 ∧ 1 ≤ p.2.length ∧ p.1 + p.2.length ≤ k ∧ ∀ j, j < p.2.length → p.2.getD j 0 = b.getD (p.1.toNat + j) 0
  cov : ∀ i, i < k → coveredB D i = neqB a b i
  sum : sumL D = (List.range k).countP (neqB a b)
  apart : D.Pairwise fun (p q : Pt) => p.1 + (p.2.length : Int) < q.1
theorem count_succ (a b : List Nat) (k : Nat) : (List.range (k + 1)).countP (neqB a b) = (List.range k).countP (neqB a b) + if neqB a b k then 1 else 0 := by
  rw [List.range_succ, List.countP_append, List.countP_cons, List.countP_nil]
  omega
theorem bool_iff {x y : Bool} (h : x = true ↔ y = true) : x = y := by cases x <;> cases y <;> simp_all
theorem dinv (a b : List Nat) (k : Nat) : DInv a b k (diffK a b k) := by
  induction k with
  | zero => exact ⟨fun p h => by simp [diffK] at h, fun i h => by omega, rfl, List.Pairwise.nil⟩
  | succ k ih =>
    have hend : ∀ p ∈ diffK a b k, p.1 + p.2.length ≤ k := fun p hp => (ih.each p hp).2.2.1
    show DInv a b (k + 1) (if neqB a b k then (if startB a b k then diffK a b k ++ [((k : Int), [b.getD k 0])] else addLast (diffK a b k) (b.getD k 0)) else diffK a b k)
    have hnk : coveredB (diffK a b k) k = false := by
      cases h : coveredB (diffK a b k) k with
      | false => rfl
      | true =>
        obtain ⟨p, hp, h1, h2⟩ := (coveredB_iff _ _).1 h
        have := hend p hp
        omega
    cases hq : neqB a b k with
    | false =>
      rw [if_neg (by simp)]
      refine ⟨fun p hp => ?_, fun i hi => ?_, ?_, ih.apart⟩
      · obtain ⟨h1, h2, h3, h4⟩ := ih.each p hp
        exact ⟨h1, h2, by omega, h4⟩
      · by_cases e : i = k
        · subst e; rw [hnk, hq]
        · exact ih.cov i (by omega)
      · rw [count_succ, hq, ih.sum]; rfl
    | true =>
      rw [if_pos rfl]
      cases hs : startB a b k with
      | true =>
        rw [if_pos rfl]
        have hlt : ∀ p ∈ diffK a b k, p.1 + p.2.length < k := by
          intro p hp
          obtain ⟨h1, h2, h3, _⟩ := ih.each p hp
          rcases Nat.eq_zero_or_pos k with h0 | h0
          · omega
          · have hn : neqB a b (k - 1) = false := by
              unfold startB at hs
              have : (k == 0) = false := by rw [beq_eq_false_iff_ne]; omega
              rw [this] at hs
              simpa using hs
            have hc := ih.cov (k - 1) (by omega)
            rw [hn] at hc
            by_cases e : p.1 + p.2.length = k
            · have : coveredB (diffK a b k) (k - 1) = true := (coveredB_iff _ _).2 ⟨p, hp, by omega, by omega⟩
              rw [this] at hc; cases hc
            · omega
        refine ⟨fun p hp => ?_, fun i hi => ?_, ?_, ?_⟩
        · rcases List.mem_append.1 hp with hp | hp
          · obtain ⟨h1, h2, h3, h4⟩ := ih.each p hp
            exact ⟨h1, h2, by omega, h4⟩
          · simp at hp
            subst hp
            refine ⟨by simp, by simp, by simp, fun j hj => ?_⟩
            simp at hj
            subst hj
            simp
        · rw [coveredB_concat]
          by_cases e : i = k
          · subst e; rw [hq, decide_eq_true (by simp; omega), Bool.or_true]
          · rw [ih.cov i (by omega), decide_eq_false (by simp; omega), Bool.or_false]
        · rw [sumL_concat, count_succ, hq, ih.sum]; rfl
        · rw [List.pairwise_append]
          exact ⟨ih.apart, List.pairwise_singleton _ _, fun p hp q hq => by simp at hq; subst hq; exact hlt p hp⟩
      | false =>
        rw [if_neg (by simp)]
        have hk : 0 < k ∧ neqB a b (k - 1) = true := by
          unfold startB at hs
          simp at hs
          exact ⟨by omega, hs.2⟩
        have hc := ih.cov (k - 1) (by omega)
        rw [hk.2] at hc
        obtain ⟨p, hp, h1, h2⟩ := (coveredB_iff _ _).1 hc
        have hpe := hend p hp
        rcases List.eq_nil_or_concat (diffK a b k) with h0 | ⟨I, q, h0⟩
        · rw [h0] at hp; simp at hp
        · rw [List.concat_eq_append] at h0
          have hap := ih.apart
          have hsum := ih.sum
          have hcov := ih.cov
          have heach := ih.each
          rw [h0] at hp hend hap hsum hcov heach hnk ⊢
          obtain ⟨q1, q2⟩ := q
          have hqe := hend (q1, q2) (by simp)
          rw [List.pairwise_append] at hap
          have hlast : q1 + q2.length = k := by
            rcases List.mem_append.1 hp with hp | hp
            · have := hap.2.2 p hp (q1, q2) (by simp)
              obtain ⟨e1, e2, e3, _⟩ := heach (q1, q2) (by simp)
              simp at this e2 e3
              omega
            · simp at hp
              subst hp
              simp at hpe h2
              omega
          rw [addLast_concat]
          obtain ⟨e1, e2, e3, e4⟩ := heach (q1, q2) (by simp)
          refine ⟨fun p hp => ?_, fun i hi => ?_, ?_, ?_⟩
          · rcases List.mem_append.1 hp with hp | hp
            · obtain ⟨h1, h2, h3, h4⟩ := heach p (List.mem_append_left _ hp)
              exact ⟨h1, h2, by omega, h4⟩
            · simp at hp
              subst hp
              simp at e1 e2 e3 e4 ⊢
              refine ⟨e1, by omega, fun j hj => ?_⟩
              by_cases ej : j < q2.length
              · have := e4 j ej
                rw [List.getElem?_append_left ej]
                exact this
              · have : j = q2.length := by omega
                subst this
                rw [List.getElem?_append_right (Nat.le_refl _), Nat.sub_self]
                simp
                rw [show q1.toNat + q2.length = k from by omega]
          · rw [coveredB_concat]
            by_cases e : i = k
            · subst e; rw [hq, decide_eq_true (by simp; omega), Bool.or_true]
            · have := hcov i (by omega)
              rw [coveredB_concat] at this
              rw [← this]
              congr 1
              exact decide_eq_decide.2 (by simp; omega)
          · rw [sumL_concat] at hsum ⊢
            rw [count_succ, hq, ← hsum]
            simp
            omega
          · rw [List.pairwise_append]
            refine ⟨hap.1, List.pairwise_singleton _ _, fun p hp r hr => ?_⟩
            simp at hr
            subst hr
            exact hap.2.2 p hp (q1, q2) (by simp)
theorem getD_lt (l : List Nat) (i : Nat) (hi : i < l.length) : l[i]? = some (l.getD i 0) := by rw [List.getD_eq_getElem?_getD, List.getElem?_eq_getElem hi]; rfl
theorem allL_cov (src : List Nat) : ∀ (E : List Pt) (l : List Nat), l.length = 256 → (∀ p ∈ E, rightN p.1 p.2.length = true ∧ ∀ j, j < p.2.length → p.2.getD j 0 = src.getD (p.1.toNat + j) 0) → ∀ i, i < 256 → (allL l E)[i]? = some (if coveredB E i then src.getD i 0 else l.getD i 0) := by
  intro E
  induction E with
  | nil => intro l hl _ i hi; exact getD_lt l i (by omega)
  | cons p E ih =>
    intro l hl h i hi
    obtain ⟨hr, hd⟩ := h p List.mem_cons_self
    show (allL (layL l p.1 p.2) E)[i]? = _
    rw [ih _ (by rw [layL_length]; exact hl) (fun q hq => h q (List.mem_cons_of_mem _ hq)) i hi]
    have hg := layL_get l p.1 p.2 hl i
    rw [hr] at hg
    have hcc : coveredB (p :: E) i = (decide (p.1 ≤ (i : Int) ∧ (i : Int) < p.1 + p.2.length) || coveredB E i) := by unfold coveredB; rfl
    rw [hcc]
    cases hE : coveredB E i with
    | true => simp
    | false =>
      rw [Bool.or_false, if_neg (by simp), List.getD_eq_getElem?_getD, hg]
      have hr2 := (right_iff _ _).1 hr
      by_cases hc : p.1 ≤ (i : Int) ∧ (i : Int) < p.1 + p.2.length
      · rw [if_pos ⟨rfl, hc.1, hc.2⟩, decide_eq_true hc, if_pos rfl, Option.getD_some, hd _ (by omega)]
        rw [show p.1.toNat + (i - p.1.toNat) = i from by omega]
      · rw [if_neg (fun h => hc h.2), decide_eq_false hc, if_neg (by simp), List.getD_eq_getElem?_getD]
def backL (a : List Nat) (D : List Pt) : List Pt := D.map fun p => (wasA p.1 p.2.length, wasD a p.1 p.2.length)
theorem dinv_right {a b : List Nat} {D : List Pt} (h : DInv a b 256 D) : ∀ p ∈ D, rightN p.1 p.2.length = true := fun p hp => by
  obtain ⟨h1, h2, h3, _⟩ := h.each p hp
  exact (right_iff _ _).2 ⟨h2, by omega, h1, by omega⟩
theorem leads_law {a b : List Nat} {D : List Pt} (ha : a.length = 256) (hb : b.length = 256) (h : DInv a b 256 D) : allL a D = b := by
  refine ext256 (by rw [allL_length]; exact ha) hb fun i hi => ?_
  rw [allL_cov b D a ha (fun p hp => ⟨dinv_right h p hp, (h.each p hp).2.2.2⟩) i hi, h.cov i hi, getD_lt b i (by omega)]
  unfold neqB
  cases e : (a.getD i 0 != b.getD i 0) with
  | true => simp
  | false => rw [if_neg (by simp), bne_eq_false_iff_eq.1 e]
theorem back_each {a : List Nat} (ha : a.length = 256) {p : Pt} (hr : rightN p.1 p.2.length = true) : wasA p.1 p.2.length = p.1 ∧ (wasD a p.1 p.2.length).length = p.2.length ∧ ∀ j, j < p.2.length → (wasD a p.1 p.2.length).getD j 0 = a.getD (p.1.toNat + j) 0 := by
  have hw := wasD_length a p.1 p.2.length ha
  rw [hr, if_pos rfl] at hw
  refine ⟨by unfold wasA; rw [hr]; rfl, hw, fun j hj => ?_⟩
  have e2 : wasD a p.1 p.2.length = (a.drop p.1.toNat).take p.2.length := by unfold wasD; rw [hr]; rfl
  rw [e2, List.getD_eq_getElem?_getD, List.getElem?_take, if_pos hj, List.getElem?_drop, List.getD_eq_getElem?_getD]
theorem backs_law {a b : List Nat} {D : List Pt} (ha : a.length = 256) (hb : b.length = 256) (h : DInv a b 256 D) : allL b (backL a D) = a := by
  refine ext256 (by rw [allL_length]; exact hb) ha fun i hi => ?_
  have hcov : coveredB (backL a D) i = coveredB D i := by
    apply bool_iff
    rw [coveredB_iff, coveredB_iff]
    constructor
    · rintro ⟨q, hq, h1, h2⟩
      obtain ⟨p, hp, rfl⟩ := List.mem_map.1 hq
      obtain ⟨e1, e2, _⟩ := back_each ha (dinv_right h p hp)
      simp only [e1, e2] at h1 h2
      exact ⟨p, hp, h1, h2⟩
    · rintro ⟨p, hp, h1, h2⟩
      obtain ⟨e1, e2, _⟩ := back_each ha (dinv_right h p hp)
      exact ⟨_, List.mem_map.2 ⟨p, hp, rfl⟩, by simp only [e1]; exact h1, by simp only [e1, e2]; exact h2⟩
  rw [allL_cov a _ b hb (fun q hq => by
    obtain ⟨p, hp, rfl⟩ := List.mem_map.1 hq
    have hr := dinv_right h p hp
    obtain ⟨e1, e2, e3⟩ := back_each ha hr
    simp only [e1, e2]
    exact ⟨hr, e3⟩) i hi, hcov, h.cov i hi, getD_lt a i (by omega)]
  unfold neqB
  cases e : (a.getD i 0 != b.getD i 0) with
  | true => simp
  | false => rw [if_neg (by simp), bne_eq_false_iff_eq.1 e]
theorem bytes_law {a b : List Nat} {D : List Pt} (h : DInv a b 256 D) : bytesN D = sumL D := by
  rw [h.sum]
  unfold bytesN
  apply List.countP_congr
  intro i hi
  rw [List.mem_range] at hi
  rw [← h.cov i hi]
  have : covB D i = coveredB D i := by
    apply bool_iff
    rw [coveredB_iff]
    unfold covB inB
    rw [List.any_eq_true]
    constructor
    · rintro ⟨p, hp, h1⟩
      simp at h1
      exact ⟨p, hp, h1.2⟩
    · rintro ⟨p, hp, h1⟩
      exact ⟨p, hp, by simp [dinv_right h p hp]; exact h1⟩
  rw [this]
theorem empty_law {a b : List Nat} {D : List Pt} (ha : a.length = 256) (hb : b.length = 256) (h : DInv a b 256 D) : decide (D.length = 0) = decide (a = b) := by
  apply decide_eq_decide.2
  constructor
  · intro h0
    have := leads_law ha hb h
    rw [List.eq_nil_of_length_eq_zero h0] at this
    exact this
  · rintro rfl
    cases D with
    | nil => rfl
    | cons p D =>
      obtain ⟨h1, h2, h3, _⟩ := h.each p List.mem_cons_self
      have := h.cov p.1.toNat (by omega)
      rw [(coveredB_iff _ _).2 ⟨p, List.mem_cons_self, by omega, by omega⟩] at this
      unfold neqB at this
      simp at this
end Go.Proofs.Ytoibdomcekainaa.Pat
