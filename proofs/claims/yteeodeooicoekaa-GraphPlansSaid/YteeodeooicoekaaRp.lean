/- Plain laws on lists of changes. No program in sight; no statement is proved here. -/
import Derived.Test.YteeodeooicoekaaWt
namespace Go.Proofs.Yteeodeooicoekaa.Rd
open Go.Proofs.Yteeodeooicoekaa.Pat
set_option linter.unusedVariables false
set_option linter.unusedSimpArgs false
theorem riseF_iff {e : Int} : ∀ {was : Int} {l : List Int}, riseF e was l = true ↔ l.Pairwise (· < ·) ∧ ∀ n ∈ l, was < n ∧ n < e := by
  intro was l
  induction l generalizing was with
  | nil => simp [riseF]
  | cons n r ih =>
    simp only [riseF, Bool.and_eq_true, Bool.not_eq_true', decide_eq_false_iff_not, ih, List.pairwise_cons, List.mem_cons]
    constructor
    · rintro ⟨⟨h1, h2⟩, h3, h4⟩
      refine ⟨⟨fun a ha => (h4 a ha).1, h3⟩, fun a ha => ?_⟩
      rcases ha with rfl | ha
      · omega
      · have := h4 a ha; omega
    · rintro ⟨⟨h1, h2⟩, h3⟩
      have := h3 n (.inl rfl)
      exact ⟨⟨by omega, by omega⟩, h2, fun a ha => ⟨h1 a ha, (h3 a (.inr ha)).2⟩⟩
/-- What each change of a list that may be is. -/
def okC (x : Chg) : Prop := 0 ≤ x.blk ∧ rightN x.pa x.pd.length = true ∧ riseF x.id 0 x.needs = true
theorem mayF_iff : ∀ {was : Int} {xs : List Chg}, mayF was xs = true ↔ (xs.map (·.id)).Pairwise (· < ·) ∧ (∀ x ∈ xs, was < x.id) ∧ ∀ x ∈ xs, okC x := by
  intro was xs
  induction xs generalizing was with
  | nil => simp [mayF]
  | cons n r ih =>
    simp only [mayF, Bool.and_eq_true, Bool.not_eq_true', decide_eq_false_iff_not, ih, List.map_cons, List.pairwise_cons, List.mem_cons, List.mem_map]
    constructor
    · rintro ⟨⟨⟨⟨h1, h2⟩, h3⟩, h4⟩, h5, h6, h7⟩
      refine ⟨⟨?_, h5⟩, ?_, ?_⟩
      · rintro a ⟨x, hx, rfl⟩; exact h6 x hx
      · rintro x (rfl | hx)
        · omega
        · have := h6 x hx; omega
      · rintro x (rfl | hx)
        · exact ⟨by omega, h3, h4⟩
        · exact h7 x hx
    · rintro ⟨⟨h1, h2⟩, h3, h4⟩
      obtain ⟨a1, a2, a3⟩ := h4 n (.inl rfl)
      exact ⟨⟨⟨⟨by have := h3 n (.inl rfl); omega, by omega⟩, a2⟩, a3⟩, h2, fun x hx => h1 _ ⟨x, hx, rfl⟩, fun x hx => h4 x (.inr hx)⟩
theorem sorted_ext {l1 l2 : List Int} (h1 : l1.Pairwise (· < ·)) (h2 : l2.Pairwise (· < ·)) (h : ∀ x, x ∈ l1 ↔ x ∈ l2) : l1 = l2 := by
  induction l1 generalizing l2 with
  | nil =>
    cases l2 with
    | nil => rfl
    | cons b r => exact absurd ((h b).2 List.mem_cons_self) (by simp)
  | cons a r ih =>
    cases l2 with
    | nil => exact absurd ((h a).1 List.mem_cons_self) (by simp)
    | cons b s =>
      obtain ⟨p1, p2⟩ := List.pairwise_cons.1 h1
      obtain ⟨q1, q2⟩ := List.pairwise_cons.1 h2
      have hab : a = b := by
        rcases List.mem_cons.1 ((h a).1 List.mem_cons_self) with e | e
        · exact e
        · rcases List.mem_cons.1 ((h b).2 List.mem_cons_self) with e' | e'
          · exact e'.symm
          · have := q1 a e; have := p1 b e'; omega
      subst hab
      rw [ih p2 q2 fun x => ⟨fun hx => ?_, fun hx => ?_⟩]
      · rcases List.mem_cons.1 ((h x).1 (List.mem_cons_of_mem _ hx)) with e | e
        · have := p1 x hx; omega
        · exact e
      · rcases List.mem_cons.1 ((h x).2 (List.mem_cons_of_mem _ hx)) with e | e
        · have := q1 x hx; omega
        · exact e
/-! ### a number into numbers that rise -/
theorem mem_putL {l : List Int} {y x : Int} : x ∈ putL l y ↔ x = y ∨ x ∈ l := by
  unfold putL
  split
  · rename_i h
    have hy := List.mem_of_getElem? h
    exact ⟨.inr, fun h => h.elim (fun e => e ▸ hy) id⟩
  · rw [List.mem_append, List.mem_cons]
    have : x ∈ l ↔ x ∈ l.take (cutF l y l.length) ∨ x ∈ l.drop (cutF l y l.length) := by rw [← List.mem_append, List.take_append_drop]
    rw [this]
    constructor
    · rintro (h | rfl | h)
      · exact .inr (.inl h)
      · exact .inl rfl
      · exact .inr (.inr h)
    · rintro (rfl | h | h)
      · exact .inr (.inl rfl)
      · exact .inl h
      · exact .inr (.inr h)
theorem cutF_ge (l : List Int) (y : Int) : ∀ m, m ≤ l.length → ∀ i, cutF l y m ≤ i → i < m → y ≤ l.getD i 0 := by
  intro m
  induction m with
  | zero => intro _ i _ h; omega
  | succ m ih =>
    intro hm i h1 h2
    unfold cutF at h1
    split at h1
    · rename_i hy
      by_cases e : i = m
      · rw [e]; exact hy
      · exact ih (by omega) i h1 (by omega)
    · omega
theorem cutF_lt (l : List Int) (y : Int) : ∀ m, 0 < cutF l y m → l.getD (cutF l y m - 1) 0 < y := by
  intro m
  induction m with
  | zero => intro h; simp [cutF] at h
  | succ m ih =>
    unfold cutF
    split
    · exact ih
    · rename_i hy; intro _; rw [Nat.add_sub_cancel]; omega
theorem getD_of {l : List Int} {i : Nat} (h : i < l.length) : l.getD i 0 = l[i] := by rw [List.getD_eq_getElem?_getD, List.getElem?_eq_getElem h]; rfl
theorem sorted_putL {l : List Int} (y : Int) (h : l.Pairwise (· < ·)) : (putL l y).Pairwise (· < ·) := by
  unfold putL
  split
  · exact h
  · rename_i hne
    have hle := cutF_le l y l.length
    have hlt := cutF_lt l y l.length
    have hge := cutF_ge l y l.length (Nat.le_refl _)
    have hp := List.pairwise_iff_getElem.1 h
    generalize cutF l y l.length = p at *
    have hlow : ∀ a ∈ l.take p, a < y := by
      intro a ha
      obtain ⟨i, hi, rfl⟩ := List.mem_iff_getElem.1 ha
      rw [List.length_take] at hi
      rw [List.getElem_take]
      have h1 := hlt (by omega)
      rw [getD_of (by omega)] at h1
      by_cases e : i = p - 1
      · subst e; exact h1
      · have := hp i (p - 1) (by omega) (by omega) (by omega); omega
    have hhigh : ∀ a ∈ l.drop p, y < a := by
      intro a ha
      obtain ⟨i, hi, rfl⟩ := List.mem_iff_getElem.1 ha
      rw [List.length_drop] at hi
      rw [List.getElem_drop]
      have h1 := hge p (Nat.le_refl _) (by omega)
      rw [getD_of (by omega)] at h1
      have h2 : l[p]'(by omega) ≠ y := fun e => hne (by rw [List.getElem?_eq_getElem (by omega), e])
      by_cases e : i = 0
      · subst e; simp only [Nat.add_zero]; omega
      · have := hp p (p + i) (by omega) (by omega) (by omega); omega
    rw [List.pairwise_append, List.pairwise_cons]
    refine ⟨h.sublist (List.take_sublist _ _), ⟨hhigh, h.sublist (List.drop_sublist _ _)⟩, fun a ha b hb => ?_⟩
    rcases List.mem_cons.1 hb with rfl | hb
    · exact hlow a ha
    · have := hlow a ha; have := hhigh b hb; omega
theorem wN_spec {f : Int → Int} : ∀ {l out : List Int}, out.Pairwise (· < ·) → (wN f l out).Pairwise (· < ·) ∧ ∀ x, x ∈ wN f l out ↔ x ∈ out ∨ x ∈ l ∧ f x ≠ 0 := by
  intro l
  induction l with
  | nil => intro out h; exact ⟨h, fun x => by simp [wN]⟩
  | cons n r ih =>
    intro out h
    unfold wN
    by_cases hf : f n = 0
    · rw [if_pos hf]
      refine ⟨(ih h).1, fun x => ?_⟩
      rw [(ih h).2 x, List.mem_cons]
      constructor
      · rintro (h1 | ⟨h1, h2⟩)
        · exact .inl h1
        · exact .inr ⟨.inr h1, h2⟩
      · rintro (h1 | ⟨rfl | h1, h2⟩)
        · exact .inl h1
        · exact absurd hf h2
        · exact .inr ⟨h1, h2⟩
    · rw [if_neg hf]
      have hs := sorted_putL n h
      refine ⟨(ih hs).1, fun x => ?_⟩
      rw [(ih hs).2 x, mem_putL, List.mem_cons]
      constructor
      · rintro ((rfl | h1) | ⟨h1, h2⟩)
        · exact .inr ⟨.inl rfl, hf⟩
        · exact .inl h1
        · exact .inr ⟨.inr h1, h2⟩
      · rintro (h1 | ⟨rfl | h1, h2⟩)
        · exact .inl (.inr h1)
        · exact .inl (.inl rfl)
        · exact .inr ⟨h1, h2⟩
theorem wM_spec {t : Chg} : ∀ {l : List Chg} {out : List Int}, out.Pairwise (· < ·) → (wM t l out).Pairwise (· < ·) ∧ ∀ x, x ∈ wM t l out ↔ x ∈ out ∨ ∃ c ∈ l, metC c t = true ∧ c.id = x := by
  intro l
  induction l with
  | nil => intro out h; exact ⟨h, fun x => by simp [wM]⟩
  | cons n r ih =>
    intro out h
    unfold wM
    cases hf : metC n t
    · rw [if_neg (by simp)]
      refine ⟨(ih h).1, fun x => ?_⟩
      rw [(ih h).2 x]
      constructor
      · rintro (h1 | ⟨c, h1, h2⟩)
        · exact .inl h1
        · exact .inr ⟨c, List.mem_cons_of_mem _ h1, h2⟩
      · rintro (h1 | ⟨c, h1, h2, h3⟩)
        · exact .inl h1
        · rcases List.mem_cons.1 h1 with rfl | h1
          · rw [hf] at h2; cases h2
          · exact .inr ⟨c, h1, h2, h3⟩
    · rw [if_pos rfl]
      have hs := sorted_putL n.id h
      refine ⟨(ih hs).1, fun x => ?_⟩
      rw [(ih hs).2 x, mem_putL]
      constructor
      · rintro ((rfl | h1) | ⟨c, h1, h2⟩)
        · exact .inr ⟨n, List.mem_cons_self, hf, rfl⟩
        · exact .inl h1
        · exact .inr ⟨c, List.mem_cons_of_mem _ h1, h2⟩
      · rintro (h1 | ⟨c, h1, h2, h3⟩)
        · exact .inl (.inr h1)
        · rcases List.mem_cons.1 h1 with rfl | h1
          · exact .inl (.inl h3.symm)
          · exact .inr ⟨c, h1, h2, h3⟩
/-! ### places -/
theorem idxF_not {id : Int} : ∀ {xs : List Chg} {k : Nat} {f : Int → Int}, (∀ x ∈ xs, x.id ≠ id) → idxF xs k f id = f id := by
  intro xs
  induction xs with
  | nil => intro k f _; rfl
  | cons x r ih =>
    intro k f h
    unfold idxF
    rw [ih fun y hy => h y (List.mem_cons_of_mem _ hy), upd_ne _ _ (h x List.mem_cons_self).symm]
theorem idxF_at : ∀ {xs : List Chg} {k : Nat} {f : Int → Int} {i : Nat}, (xs.map (·.id)).Pairwise (· < ·) → (h : i < xs.length) → idxF xs k f xs[i].id = (k + i : Nat) + 1 := by
  intro xs
  induction xs with
  | nil => intro k f i _ h; simp at h
  | cons x r ih =>
    intro k f i hp h
    rw [List.map_cons, List.pairwise_cons] at hp
    unfold idxF
    cases i with
    | zero =>
      rw [List.getElem_cons_zero, idxF_not, upd_same]
      · simp
      · intro y hy e
        have := hp.1 y.id (List.mem_map.2 ⟨y, hy, rfl⟩)
        omega
    | succ i =>
      rw [List.getElem_cons_succ, ih hp.2 (by simpa using h)]
      rw [show k + 1 + i = k + (i + 1) from by omega]
theorem placeF_not {id : Int} : ∀ {xs : List Chg} {k : Nat}, (∀ x ∈ xs, x.id ≠ id) → placeF id xs k = -1 := by
  intro xs
  induction xs with
  | nil => intro k _; rfl
  | cons x r ih =>
    intro k h
    unfold placeF
    rw [if_neg (h x List.mem_cons_self), ih fun y hy => h y (List.mem_cons_of_mem _ hy)]
theorem placeF_at : ∀ {xs : List Chg} {k i : Nat}, (xs.map (·.id)).Pairwise (· < ·) → (h : i < xs.length) → placeF xs[i].id xs k = (k + i : Nat) := by
  intro xs
  induction xs with
  | nil => intro k i _ h; simp at h
  | cons x r ih =>
    intro k i hp h
    rw [List.map_cons, List.pairwise_cons] at hp
    unfold placeF
    cases i with
    | zero => rw [List.getElem_cons_zero, if_pos rfl]; simp
    | succ i =>
      rw [List.getElem_cons_succ, if_neg, ih hp.2 (by simpa using h), show k + 1 + i = k + (i + 1) from by omega]
      intro e
      have := hp.1 (r[i]'(by simpa using h)).id (List.mem_map.2 ⟨_, List.getElem_mem _, rfl⟩)
      omega
theorem has_or {xs : List Chg} (id : Int) : (∀ x ∈ xs, x.id ≠ id) ∨ ∃ i, ∃ h : i < xs.length, xs[i].id = id := by
  by_cases h : ∃ x ∈ xs, x.id = id
  · obtain ⟨x, hx, e⟩ := h
    obtain ⟨i, hi, rfl⟩ := List.mem_iff_getElem.1 hx
    exact .inr ⟨i, hi, e⟩
  · exact .inl fun x hx e => h ⟨x, hx, e⟩
/-! ### for whom a change waits -/
def waitK (xs : List Chg) (k : Nat) (t : Chg) : List Int := ((xs.take k).filter fun x => metC x t || decide (x.id ∈ t.needs)).map (·.id)
theorem mem_waitK {xs : List Chg} {k : Nat} {t : Chg} {n : Int} : n ∈ waitK xs k t ↔ ∃ x ∈ xs.take k, (metC x t = true ∨ x.id ∈ t.needs) ∧ x.id = n := by
  unfold waitK
  simp only [List.mem_map, List.mem_filter, Bool.or_eq_true, decide_eq_true_eq]
  constructor
  · rintro ⟨x, ⟨h1, h2⟩, h3⟩; exact ⟨x, h1, h2, h3⟩
  · rintro ⟨x, h1, h2, h3⟩; exact ⟨x, ⟨h1, h2⟩, h3⟩
theorem ids_get {xs : List Chg} (h : (xs.map (·.id)).Pairwise (· < ·)) {i j : Nat} (hj : j < xs.length) (hij : i < j) : (xs[i]'(by omega)).id < xs[j].id := by
  have := List.pairwise_iff_getElem.1 h i j (by simp; omega) (by simpa using hj) hij
  simpa using this
theorem waits_eq {xs : List Chg} (hm : mayF 0 xs = true) {k : Nat} (hk : k < xs.length) : wP xs k xs[k] (idxF xs 0 fun _ => 0) = waitK xs k xs[k] := by
  obtain ⟨h1, h2, h3⟩ := mayF_iff.1 hm
  obtain ⟨_, _, hr⟩ := h3 _ (List.getElem_mem hk)
  obtain ⟨_, hn⟩ := riseF_iff.1 hr
  have s1 := wN_spec (f := idxF xs 0 fun _ => 0) (l := xs[k].needs) (out := []) List.Pairwise.nil
  have s2 := wM_spec (t := xs[k]) (l := xs.take k) s1.1
  refine sorted_ext s2.1 ?_ fun n => ?_
  · unfold waitK
    refine (List.Pairwise.sublist (List.Sublist.map _ ((List.filter_sublist).trans (List.take_sublist _ _))) h1)
  · rw [wP, s2.2 n, s1.2 n, mem_waitK]
    constructor
    · rintro ((h | ⟨h, hf⟩) | ⟨c, hc, hmt, e⟩)
      · simp at h
      · rcases has_or (xs := xs) n with hno | ⟨i, hi, e⟩
        · exact absurd (idxF_not hno) hf
        · refine ⟨xs[i], ?_, .inr (e ▸ h), e⟩
          have := (hn n h).2
          have hik : i < k := by
            rcases Nat.lt_trichotomy i k with h | rfl | h
            · exact h
            · omega
            · have := ids_get h1 hi h; omega
          rw [List.mem_take_iff_getElem]
          exact ⟨i, by omega, rfl⟩
      · exact ⟨c, hc, .inl hmt, e⟩
    · rintro ⟨x, hx, hor, rfl⟩
      rcases hor with h | h
      · exact .inr ⟨x, hx, h, rfl⟩
      · refine .inl (.inr ⟨h, ?_⟩)
        obtain ⟨i, hi, rfl⟩ := List.mem_iff_getElem.1 (List.mem_of_mem_take hx)
        rw [idxF_at h1 hi]
        omega
/-- For whom the change of a number waits. -/
def waitsS (xs : List Chg) (id : Int) : List Int := if mayF 0 xs = true ∧ 0 ≤ placeF id xs 0 then waitK xs (placeF id xs 0).toNat (xs.getD (placeF id xs 0).toNat ⟨0, 0, 0, [], []⟩) else []
theorem waitsS_at {xs : List Chg} (hm : mayF 0 xs = true) {k : Nat} (hk : k < xs.length) : waitsS xs xs[k].id = waitK xs k xs[k] := by
  unfold waitsS
  rw [placeF_at (mayF_iff.1 hm).1 hk, if_pos ⟨hm, by omega⟩, Nat.zero_add, Int.toNat_natCast, List.getD_eq_getElem?_getD, List.getElem?_eq_getElem hk]
  rfl
theorem waitsS_not {xs : List Chg} {id : Int} (h : ∀ x ∈ xs, x.id ≠ id) : waitsS xs id = [] := by
  unfold waitsS
  rw [placeF_not h, if_neg (by omega)]
theorem waitsS_may {xs : List Chg} {id : Int} (h : mayF 0 xs = false) : waitsS xs id = [] := by
  unfold waitsS
  rw [if_neg (by rw [h]; simp)]
/-- Those of the first k that are ready. -/
def rdy (xs : List Chg) (b : Int) : Nat → List Int
  | 0 => []
  | k + 1 => match xs[k]? with
    | none => rdy xs b k
    | some t => if t.blk = b ∧ ∀ n ∈ waitK xs k t, n ∈ rdy xs b k then rdy xs b k ++ [t.id] else rdy xs b k
def readyS (xs : List Chg) (b : Int) : List Int := if mayF 0 xs = true then rdy xs b xs.length else []
theorem rdy_yes {xs : List Chg} {b : Int} {k : Nat} (hk : k < xs.length) (h1 : xs[k].blk = b) (h2 : ∀ n ∈ waitK xs k xs[k], n ∈ rdy xs b k) : rdy xs b (k + 1) = rdy xs b k ++ [xs[k].id] := by
  rw [rdy, List.getElem?_eq_getElem hk]
  exact if_pos ⟨h1, h2⟩
theorem rdy_no {xs : List Chg} {b : Int} {k : Nat} (hk : k < xs.length) (h : ¬ (xs[k].blk = b ∧ ∀ n ∈ waitK xs k xs[k], n ∈ rdy xs b k)) : rdy xs b (k + 1) = rdy xs b k := by
  rw [rdy, List.getElem?_eq_getElem hk]
  exact if_neg h
theorem rdy_len (xs : List Chg) (b : Int) (k : Nat) : (rdy xs b k).length ≤ k := by
  induction k with
  | zero => simp [rdy]
  | succ k ih =>
    rw [rdy]
    split
    · omega
    · split
      · simp; omega
      · omega
theorem mem_rdy {xs : List Chg} {b : Int} {k : Nat} {n : Int} (h : n ∈ rdy xs b k) : ∃ i, ∃ hi : i < xs.length, i < k ∧ xs[i].id = n ∧ xs[i].blk = b ∧ ∀ m ∈ waitK xs i xs[i], m ∈ rdy xs b i := by
  induction k with
  | zero => simp [rdy] at h
  | succ k ih =>
    rw [rdy] at h
    split at h
    · obtain ⟨i, hi, h1, h2⟩ := ih h
      exact ⟨i, hi, by omega, h2⟩
    · rename_i t ht
      obtain ⟨hk, rfl⟩ := List.getElem?_eq_some_iff.1 ht
      split at h
      · rename_i hc
        rcases List.mem_append.1 h with h | h
        · obtain ⟨i, hi, h1, h2⟩ := ih h
          exact ⟨i, hi, by omega, h2⟩
        · simp at h
          exact ⟨k, hk, by omega, h.symm, hc.1, hc.2⟩
      · obtain ⟨i, hi, h1, h2⟩ := ih h
        exact ⟨i, hi, by omega, h2⟩
end Go.Proofs.Yteeodeooicoekaa.Rd
