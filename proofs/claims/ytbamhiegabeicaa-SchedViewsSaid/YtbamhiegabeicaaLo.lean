/- Laws and contracts of several chapters, laid in one text. No statement is proved here. -/
import Derived.Test.YtbamhiegabeicaaSw
import Derived.Test.YtbamhiegabeicaaRp
import Derived.Test.YtbamhiegabeicaaLb
/- What is left behind a block that is written. Plain laws. No statement is proved here. -/
namespace Go.Proofs.Ytbamhiegabeicaa.Rd
set_option linter.unusedVariables false
set_option linter.unusedSimpArgs false
theorem rdy_sub {xs : List Chg} {b : Int} {i : Nat} : ∀ {k : Nat}, i ≤ k → ∀ n ∈ rdy xs b i, n ∈ rdy xs b k := by
  intro k
  induction k with
  | zero => intro h n hn; obtain rfl : i = 0 := by omega
            exact hn
  | succ k ih =>
    intro h n hn
    rcases Nat.lt_or_ge k i with h1 | h1
    · obtain rfl : i = k + 1 := by omega
      exact hn
    · have := ih h1 n hn
      rw [rdy]
      split
      · exact this
      · split
        · exact List.mem_append_left _ this
        · exact this
theorem rdy_sorted {xs : List Chg} (hs : (xs.map (·.id)).Pairwise (· < ·)) (b : Int) : ∀ k, k ≤ xs.length → (rdy xs b k).Pairwise (· < ·) := by
  intro k
  induction k with
  | zero => intro _; simp [rdy]
  | succ k ih =>
    intro hk
    have hk' : k < xs.length := by omega
    by_cases hc : xs[k].blk = b ∧ ∀ n ∈ waitK xs k xs[k], n ∈ rdy xs b k
    · rw [rdy_yes hk' hc.1 hc.2, List.pairwise_append]
      refine ⟨ih (by omega), List.pairwise_singleton _ _, fun m hm y hy => ?_⟩
      rw [List.mem_singleton] at hy
      subst hy
      obtain ⟨i, hi, hik, rfl, _⟩ := mem_rdy hm
      exact ids_get hs hk' hik
    · rw [rdy_no hk' hc]
      exact ih (by omega)
theorem mem_woS {xs : List Chg} {r : List Int} {x : Chg} : x ∈ woS xs r ↔ x ∈ xs ∧ x.id ∉ r := by
  unfold woS
  rw [List.mem_filter]
  simp
theorem may_wo {xs : List Chg} (h : mayF 0 xs = true) (r : List Int) : mayF 0 (woS xs r) = true := by
  obtain ⟨h1, h2, h3⟩ := mayF_iff.1 h
  exact mayF_iff.2 ⟨List.Pairwise.sublist (List.Sublist.map _ List.filter_sublist) h1, fun x hx => h2 x (mem_woS.1 hx).1, fun x hx => h3 x (mem_woS.1 hx).1⟩
theorem small_wo {xs : List Chg} (h : Small xs) (r : List Int) : Small (woS xs r) := fun x hx => h x (mem_woS.1 hx).1
theorem filter_two {α : Type} (p : α → Bool) : ∀ l : List α, (l.filter p).length + (l.filter fun x => !p x).length = l.length
  | [] => rfl
  | x :: l => by
    have := filter_two p l
    cases h : p x <;> simp [List.filter_cons, h] <;> omega
theorem ready_mem {xs : List Chg} {b n : Int} (hn : n ∈ readyS xs b) : ∃ i, ∃ hi : i < xs.length, xs[i].id = n ∧ xs[i].blk = b ∧ ∀ m ∈ waitK xs i xs[i], m ∈ readyS xs b := by
  unfold readyS at hn ⊢
  split at hn
  · rename_i hm
    obtain ⟨i, hi, h1, h2, h3, h4⟩ := mem_rdy hn
    exact ⟨i, hi, h2, h3, fun m hm' => by rw [if_pos hm]; exact rdy_sub (by omega) m (h4 m hm')⟩
  · simp at hn
theorem wo_len {xs : List Chg} (hm : mayF 0 xs = true) (b : Int) : (woS xs (readyS xs b)).length + (readyS xs b).length = xs.length := by
  have h1 := (mayF_iff.1 hm).1
  have hr : (xs.filter fun x => decide (x.id ∈ readyS xs b)).map (·.id) = readyS xs b := by
    refine sorted_ext (List.Pairwise.sublist (List.Sublist.map _ List.filter_sublist) h1) ?_ fun n => ?_
    · unfold readyS; rw [if_pos hm]; exact rdy_sorted h1 b _ (Nat.le_refl _)
    · constructor
      · intro h
        obtain ⟨x, hx, rfl⟩ := List.mem_map.1 h
        exact of_decide_eq_true (List.mem_filter.1 hx).2
      · intro h
        obtain ⟨i, hi, rfl, _⟩ := ready_mem h
        exact List.mem_map.2 ⟨xs[i], List.mem_filter.2 ⟨List.getElem_mem hi, decide_eq_true h⟩, rfl⟩
  have h2 := filter_two (fun x : Chg => decide (x.id ∈ readyS xs b)) xs
  have h3 : (readyS xs b).length = (xs.filter fun x => decide (x.id ∈ readyS xs b)).length := by
    have := congrArg List.length hr
    rw [List.length_map] at this
    exact this.symm
  unfold woS
  omega
theorem wo_waits {xs : List Chg} (hm : mayF 0 xs = true) (r : List Int) {x : Chg} (hx : x ∈ woS xs r) : ∀ m ∈ waitsS (woS xs r) x.id, m ∈ waitsS xs x.id := by
  intro m hmm
  have h1 := (mayF_iff.1 hm).1
  have hm2 := may_wo hm r
  have h2 := (mayF_iff.1 hm2).1
  obtain ⟨k, hk, rfl⟩ := List.mem_iff_getElem.1 hx
  obtain ⟨j, hj, hje⟩ := List.mem_iff_getElem.1 (mem_woS.1 hx).1
  rw [waitsS_at hm2 hk] at hmm
  obtain ⟨y, hy, hor, rfl⟩ := mem_waitK.1 hmm
  rw [← hje, waitsS_at hm hj, mem_waitK]
  refine ⟨y, ?_, by rw [hje]; exact hor, rfl⟩
  obtain ⟨i, hi, rfl⟩ := List.mem_take_iff_getElem.1 hy
  have hlt := ids_get h2 hk (show i < k by omega)
  obtain ⟨l, hl, hle⟩ := List.mem_iff_getElem.1 (mem_woS.1 (List.getElem_mem (show i < (woS xs r).length by omega))).1
  rw [← hle] at hlt ⊢
  rw [← hje] at hlt
  rw [List.mem_take_iff_getElem]
  refine ⟨l, ?_, rfl⟩
  rcases Nat.lt_trichotomy l j with h | rfl | h
  · omega
  · omega
  · have := ids_get h1 hl h; omega
end Go.Proofs.Ytbamhiegabeicaa.Rd

/- Laws and contracts of several chapters, laid in one text. No statement is proved here. -/
/- What a block is read as, and written as. Plain laws. No statement is proved here. -/
namespace Go.Proofs.Ytbamhiegabeicaa.Rd
open Go.Proofs.Ytbamhiegabeicaa.Pat
set_option linter.unusedVariables false
set_option linter.unusedSimpArgs false
def meet2 (x y : Chg) : Bool := meetB x.pa x.pd.length y.pa y.pd.length
theorem lay_swap {B : List Nat} (hl : B.length = 256) {x y : Chg} (hm : meet2 x y = false) : lay1 (lay1 B x) y = lay1 (lay1 B y) x := by
  unfold lay1
  apply List.ext_getElem?
  intro j
  rw [layL_get _ _ _ (by rw [layL_length]; exact hl), layL_get _ _ _ hl, layL_get _ _ _ (by rw [layL_length]; exact hl), layL_get _ _ _ hl]
  by_cases h1 : rightN x.pa x.pd.length = true ∧ x.pa ≤ j ∧ (j : Int) < x.pa + x.pd.length
  · by_cases h2 : rightN y.pa y.pd.length = true ∧ y.pa ≤ j ∧ (j : Int) < y.pa + y.pd.length
    · exfalso
      unfold meet2 meetB at hm
      rw [h1.1, h2.1] at hm
      simp at hm
      omega
    · rw [if_neg h2, if_pos h1, if_pos h1]
  · rw [if_neg h1, if_neg h1]
def imgF (B : List Nat) (xs : List Chg) (b : Int) : List Nat := laidF b (fun n => decide (n ∈ readyS xs b)) B xs
theorem imgF_len (B : List Nat) (xs : List Chg) (b : Int) : (imgF B xs b).length = B.length := laidF_len _ _ _ _
/-- Those of a block that are held. -/
def heldF (xs : List Chg) (b : Int) : List Int := if mayF 0 xs = true then (xs.filter (inBlk b fun n => !decide (n ∈ readyS xs b))).map (·.id) else []
theorem layAll_move (x : Chg) : ∀ (l : List Chg) (B : List Nat), B.length = 256 → (∀ y ∈ l, meet2 x y = false) → layAll (lay1 B x) l = lay1 (layAll B l) x
  | [], B, _, _ => rfl
  | y :: l, B, hl, h => by
    show layAll (lay1 (lay1 B x) y) l = lay1 (layAll (lay1 B y) l) x
    rw [lay_swap hl (h y List.mem_cons_self)]
    exact layAll_move x l (lay1 B y) (by rw [lay1_len]; exact hl) fun z hz => h z (List.mem_cons_of_mem _ hz)
theorem layAll_part (p : Chg → Bool) : ∀ (l : List Chg) (B : List Nat), B.length = 256 → l.Pairwise (fun x y => p x = false → p y = true → meet2 x y = false) →
    layAll (layAll B (l.filter p)) (l.filter fun x => !p x) = layAll B l
  | [], B, _, _ => rfl
  | x :: l, B, hl, h => by
    obtain ⟨h1, h2⟩ := List.pairwise_cons.1 h
    have ih := layAll_part p l (lay1 B x) (by rw [lay1_len]; exact hl) h2
    cases hp : p x with
    | true =>
      rw [List.filter_cons_of_pos hp, List.filter_cons_of_neg (by rw [hp]; simp)]
      exact ih
    | false =>
      rw [List.filter_cons_of_neg (by rw [hp]; simp), List.filter_cons_of_pos (by rw [hp]; rfl)]
      show layAll (lay1 (layAll B (l.filter p)) x) (l.filter fun x => !p x) = layAll (lay1 B x) l
      rw [← layAll_move x (l.filter p) B hl fun y hy => h1 y (List.mem_filter.1 hy).1 hp (List.mem_filter.1 hy).2]
      exact ih
theorem id_inj {xs : List Chg} (h : (xs.map (·.id)).Pairwise (· < ·)) {i j : Nat} (hi : i < xs.length) (hj : j < xs.length) (e : xs[i].id = xs[j].id) : i = j := by
  rcases Nat.lt_trichotomy i j with h1 | h1 | h1
  · have := ids_get h hj h1; omega
  · exact h1
  · have := ids_get h hi h1; omega
/-- A change that is ready has only ready ones of its block ahead of it that meet it. -/
theorem ready_apart {xs : List Chg} (hm : mayF 0 xs = true) (b : Int) : xs.Pairwise (fun x y => x.blk = b → y.blk = b → decide (x.id ∈ readyS xs b) = false → decide (y.id ∈ readyS xs b) = true → meet2 x y = false) := by
  rw [List.pairwise_iff_getElem]
  intro i j hi hj hij hbi hbj hni hyj
  have hni := of_decide_eq_false hni
  have hyj := of_decide_eq_true hyj
  obtain ⟨k, hk, e, _, hw⟩ := ready_mem hyj
  obtain rfl := id_inj (mayF_iff.1 hm).1 hk hj e
  cases hme : meet2 xs[i] xs[k] with
  | false => rfl
  | true =>
    refine absurd (hw xs[i].id (mem_waitK.2 ⟨xs[i], List.mem_take_iff_getElem.2 ⟨i, by omega, rfl⟩, .inl ?_, rfl⟩)) hni
    unfold metC
    rw [decide_eq_true (hbi.trans hbj.symm)]
    exact hme
theorem readyS_not {xs : List Chg} (h : mayF 0 xs = false) (b : Int) : readyS xs b = [] := by unfold readyS; rw [h]; rfl
theorem woS_nil (xs : List Chg) : woS xs [] = xs := by unfold woS; simp
theorem imgF_not {xs : List Chg} (h : mayF 0 xs = false) (B : List Nat) (b : Int) : imgF B xs b = B := by
  unfold imgF
  rw [laidF_eq, readyS_not h, List.filter_eq_nil_iff.2 (by intro x _; simp [inBlk])]
  rfl
theorem img_view {xs : List Chg} (hm : mayF 0 xs = true) (b : Int) {B : List Nat} (hl : B.length = 256) : viewF (imgF B xs b) (woS xs (readyS xs b)) b = viewF B xs b := by
  unfold viewF
  rw [if_pos hm, if_pos (may_wo hm _)]
  unfold imgF
  rw [laidF_eq, laidF_eq, laidF_eq]
  have := layAll_part (fun x => decide (x.id ∈ readyS xs b)) (xs.filter (inBlk b fun _ => true)) B hl (by
    rw [List.pairwise_filter]
    refine (ready_apart hm b).imp fun {x y} h hx hy => h ?_ ?_
    · simpa [inBlk] using hx
    · simpa [inBlk] using hy)
  rw [← this, List.filter_filter, List.filter_filter]
  congr 1
  · congr 1
    apply List.filter_congr
    intro x _
    unfold inBlk
    simp [Bool.and_comm]
  · unfold woS
    rw [List.filter_filter]
    apply List.filter_congr
    intro x _
    unfold inBlk
    simp [Bool.and_comm]
/-- A block's view, of what it is written as and what is left, is what it was. -/
theorem keeps_same (xs : List Chg) (b : Int) {B : List Nat} (hl : B.length = 256) : viewF (imgF B xs b) (woS xs (readyS xs b)) b = viewF B xs b := by
  cases hm : mayF 0 xs with
  | true => exact img_view hm b hl
  | false => rw [imgF_not hm, readyS_not hm, woS_nil]
theorem ready_blk {xs : List Chg} (hm : (xs.map (·.id)).Pairwise (· < ·)) {b : Int} {x : Chg} (hx : x ∈ xs) (hr : x.id ∈ readyS xs b) : x.blk = b := by
  obtain ⟨i, hi, e, hb, _⟩ := ready_mem hr
  obtain ⟨j, hj, rfl⟩ := List.mem_iff_getElem.1 hx
  obtain rfl := id_inj hm hi hj e
  exact hb
/-- No other block's view changes. -/
theorem keeps_other (xs : List Chg) {b c : Int} (hne : b ≠ c) (B : List Nat) : viewF B (woS xs (readyS xs b)) c = viewF B xs c := by
  cases hm : mayF 0 xs with
  | false => rw [readyS_not hm, woS_nil]
  | true =>
    unfold viewF
    rw [if_pos hm, if_pos (may_wo hm _), laidF_eq, laidF_eq]
    congr 1
    unfold woS
    rw [List.filter_filter]
    apply List.filter_congr
    intro x hx
    unfold inBlk
    by_cases hc : x.blk = c
    · have : x.id ∉ readyS xs b := fun hr => hne ((ready_blk (mayF_iff.1 hm).1 hx hr).symm.trans hc)
      simp [hc, this]
    · simp [hc]
theorem readyS_may {xs : List Chg} (h : mayF 0 xs = true) (b : Int) : readyS xs b = rdy xs b xs.length := by unfold readyS; rw [if_pos h]
end Go.Proofs.Ytbamhiegabeicaa.Rd

/- The bytes of what is seen. Plain laws. No statement is proved here. -/
namespace Go.Proofs.Ytbamhiegabeicaa.Rd
open Go.RowKit Go.Proofs.Ytbamhiegabeicaa.Mem Go.Proofs.Ytbamhiegabeicaa.Kind Go.Proofs.Ytbamhiegabeicaa.Pat
set_option linter.unusedVariables false
set_option linter.unusedSimpArgs false
def Bytes (l : List Nat) : Prop := ∀ x ∈ l, x < 256
theorem lay1_bytes {B : List Nat} (hl : B.length = 256) (hB : Bytes B) {x : Chg} (hx : Bytes x.pd) : Bytes (lay1 B x) := by
  intro y hy
  obtain ⟨j, hj, rfl⟩ := List.mem_iff_getElem.1 hy
  have h := layL_get B x.pa x.pd hl j
  rw [show layL B x.pa x.pd = lay1 B x from rfl, List.getElem?_eq_getElem hj] at h
  split at h
  · injection h with h
    rw [h, List.getD_eq_getElem?_getD]
    cases hd : x.pd[j - x.pa.toNat]? with
    | none => simp
    | some z => exact hx z (List.mem_of_getElem? hd)
  · exact hB _ (List.mem_of_getElem? h.symm)
theorem laidF_bytes (b : Int) (is : Int → Bool) : ∀ (xs : List Chg) (B : List Nat), B.length = 256 → Bytes B → (∀ x ∈ xs, Bytes x.pd) → Bytes (laidF b is B xs)
  | [], B, _, h, _ => h
  | x :: r, B, hl, hB, hx => by
    rw [laidF]
    split
    · exact laidF_bytes b is r _ ((lay1_len B x).trans hl) (lay1_bytes hl hB (hx x List.mem_cons_self)) fun y hy => hx y (List.mem_cons_of_mem _ hy)
    · exact laidF_bytes b is r _ hl hB fun y hy => hx y (List.mem_cons_of_mem _ hy)
theorem imgF_bytes {xs : List Chg} {b : Int} {B : List Nat} (hl : B.length = 256) (hB : Bytes B) (hx : ∀ x ∈ xs, Bytes x.pd) : Bytes (imgF B xs b) := laidF_bytes _ _ _ _ hl hB hx
end Go.Proofs.Ytbamhiegabeicaa.Rd



