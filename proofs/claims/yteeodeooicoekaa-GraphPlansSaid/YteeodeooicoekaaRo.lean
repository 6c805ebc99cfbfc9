/- What is left behind a block that is written. Plain laws. No statement is proved here. -/
import Derived.Test.YteeodeooicoekaaSw
import Derived.Test.YteeodeooicoekaaRp
namespace Go.Proofs.Yteeodeooicoekaa.Rd
set_option linter.unusedVariables false
set_option linter.unusedSimpArgs false
theorem rdy_sub {xs : List Chg} {b : Int} {i : Nat} : ∀ {k : Nat}, i ≤ k → ∀ n ∈ rdy xs b i, n ∈ rdy xs b k := by
  intro k
  induction k with
  | zero => intro h n hn; obtain rfl : i = 0 := by omega
            exact hn
  | succ k ih =>
    intro h n hn
    rcases Nat.lt_or_ge k i with h1 | h1
    · obtain rfl : i = k + 1 := by omega
      exact hn
    · have := ih h1 n hn
      rw [rdy]
      split
      · exact this
      · split
        · exact List.mem_append_left _ this
        · exact this
theorem rdy_sorted {xs : List Chg} (hs : (xs.map (·.id)).Pairwise (· < ·)) (b : Int) : ∀ k, k ≤ xs.length → (rdy xs b k).Pairwise (· < ·) := by
  intro k
  induction k with
  | zero => intro _; simp [rdy]
  | succ k ih =>
    intro hk
    have hk' : k < xs.length := by omega
    by_cases hc : xs[k].blk = b ∧ ∀ n ∈ waitK xs k xs[k], n ∈ rdy xs b k
    · rw [rdy_yes hk' hc.1 hc.2, List.pairwise_append]
      refine ⟨ih (by omega), List.pairwise_singleton _ _, fun m hm y hy => ?_⟩
      rw [List.mem_singleton] at hy
      subst hy
      obtain ⟨i, hi, hik, rfl, _⟩ := mem_rdy hm
      exact ids_get hs hk' hik
    · rw [rdy_no hk' hc]
      exact ih (by omega)
theorem mem_woS {xs : List Chg} {r : List Int} {x : Chg} : x ∈ woS xs r ↔ x ∈ xs ∧ x.id ∉ r := by
  unfold woS
  rw [List.mem_filter]
  simp
theorem may_wo {xs : List Chg} (h : mayF 0 xs = true) (r : List Int) : mayF 0 (woS xs r) = true := by
  obtain ⟨h1, h2, h3⟩ := mayF_iff.1 h
  exact mayF_iff.2 ⟨List.Pairwise.sublist (List.Sublist.map _ List.filter_sublist) h1, fun x hx => h2 x (mem_woS.1 hx).1, fun x hx => h3 x (mem_woS.1 hx).1⟩
theorem small_wo {xs : List Chg} (h : Small xs) (r : List Int) : Small (woS xs r) := fun x hx => h x (mem_woS.1 hx).1
theorem filter_two {α : Type} (p : α → Bool) : ∀ l : List α, (l.filter p).length + (l.filter fun x => !p x).length = l.length
  | [] => rfl
  | x :: l => by
    have := filter_two p l
    cases h : p x <;> simp [List.filter_cons, h] <;> omega
theorem ready_mem {xs : List Chg} {b n : Int} (hn : n ∈ readyS xs b) : ∃ i, ∃ hi : i < xs.length, xs[i].id = n ∧ xs[i].blk = b ∧ ∀ m ∈ waitK xs i xs[i], m ∈ readyS xs b := by
  unfold readyS at hn ⊢
  split at hn
  · rename_i hm
    obtain ⟨i, hi, h1, h2, h3, h4⟩ := mem_rdy hn
    exact ⟨i, hi, h2, h3, fun m hm' => by rw [if_pos hm]; exact rdy_sub (by omega) m (h4 m hm')⟩
  · simp at hn
theorem wo_len {xs : List Chg} (hm : mayF 0 xs = true) (b : Int) : (woS xs (readyS xs b)).length + (readyS xs b).length = xs.length := by
  have h1 := (mayF_iff.1 hm).1
  have hr : (xs.filter fun x => decide (x.id ∈ readyS xs b)).map (·.id) = readyS xs b := by
    refine sorted_ext (List.Pairwise.sublist (List.Sublist.map _ List.filter_sublist) h1) ?_ fun n => ?_
    · unfold readyS; rw [if_pos hm]; exact rdy_sorted h1 b _ (Nat.le_refl _)
    · constructor
      · intro h
        obtain ⟨x, hx, rfl⟩ := List.mem_map.1 h
        exact of_decide_eq_true (List.mem_filter.1 hx).2
      · intro h
        obtain ⟨i, hi, rfl, _⟩ := ready_mem h
        exact List.mem_map.2 ⟨xs[i], List.mem_filter.2 ⟨List.getElem_mem hi, decide_eq_true h⟩, rfl⟩
  have h2 := filter_two (fun x : Chg => decide (x.id ∈ readyS xs b)) xs
  have h3 : (readyS xs b).length = (xs.filter fun x => decide (x.id ∈ readyS xs b)).length := by
    have := congrArg List.length hr
    rw [List.length_map] at this
    exact this.symm
  unfold woS
  omega
theorem find_at : ∀ {xs : List Chg} {i : Nat}, (xs.map (·.id)).Pairwise (· < ·) → (h : i < xs.length) → findF xs[i].id xs = some xs[i]
  | x :: r, 0, _, _ => by simp [findF]
  | x :: r, i + 1, hs, h => by
    have hi : i < r.length := by simpa using h
    have h1 : x.id < r[i].id := by
      have := (List.pairwise_cons.1 hs).1 r[i].id (List.mem_map.2 ⟨r[i], List.getElem_mem hi, rfl⟩)
      exact this
    show (if x.id = r[i].id then some x else findF r[i].id r) = some r[i]
    rw [if_neg (by omega)]
    exact find_at (List.pairwise_cons.1 hs).2 hi
theorem ready_find {xs : List Chg} (hm : mayF 0 xs = true) {b n : Int} (hn : n ∈ readyS xs b) : ∃ y, findF n xs = some y ∧ y.blk = b ∧ ∀ m ∈ waitsS xs n, m ∈ readyS xs b := by
  obtain ⟨i, hi, rfl, h2, h3⟩ := ready_mem hn
  exact ⟨xs[i], find_at (mayF_iff.1 hm).1 hi, h2, by rw [waitsS_at hm hi]; exact h3⟩
theorem wo_waits {xs : List Chg} (hm : mayF 0 xs = true) (r : List Int) {x : Chg} (hx : x ∈ woS xs r) : ∀ m ∈ waitsS (woS xs r) x.id, m ∈ waitsS xs x.id := by
  intro m hmm
  have h1 := (mayF_iff.1 hm).1
  have hm2 := may_wo hm r
  have h2 := (mayF_iff.1 hm2).1
  obtain ⟨k, hk, rfl⟩ := List.mem_iff_getElem.1 hx
  obtain ⟨j, hj, hje⟩ := List.mem_iff_getElem.1 (mem_woS.1 hx).1
  rw [waitsS_at hm2 hk] at hmm
  obtain ⟨y, hy, hor, rfl⟩ := mem_waitK.1 hmm
  rw [← hje, waitsS_at hm hj, mem_waitK]
  refine ⟨y, ?_, by rw [hje]; exact hor, rfl⟩
  obtain ⟨i, hi, rfl⟩ := List.mem_take_iff_getElem.1 hy
  have hlt := ids_get h2 hk (show i < k by omega)
  obtain ⟨l, hl, hle⟩ := List.mem_iff_getElem.1 (mem_woS.1 (List.getElem_mem (show i < (woS xs r).length by omega))).1
  rw [← hle] at hlt ⊢
  rw [← hje] at hlt
  rw [List.mem_take_iff_getElem]
  refine ⟨l, ?_, rfl⟩
  rcases Nat.lt_trichotomy l j with h | rfl | h
  · omega
  · omega
  · have := ids_get h1 hl h; omega
end Go.Proofs.Yteeodeooicoekaa.Rd
