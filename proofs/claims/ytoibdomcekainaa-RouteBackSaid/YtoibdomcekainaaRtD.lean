/- Paths parted and joined: plain laws. -/
import Derived.Test.YtoibdomcekainaaRtC
namespace Go.Proofs.Ytoibdomcekainaa.Rt
open Go.RowKit Go.Proofs.Ytoibdomcekainaa.Mem Go.Proofs.Ytoibdomcekainaa.Open Go.Proofs.Ytoibdomcekainaa.Same Go.Proofs.Ytoibdomcekainaa.Kind
set_option linter.unusedVariables false
set_option linter.unusedSimpArgs false
def bl (s : ByteArray) : List UInt8 := s.data.toList
theorem bl_inj {x y : ByteArray} (h : bl x = bl y) : x = y := Go.WideShapes.bytes_inj h
theorem bl_append (x y : ByteArray) : bl (x ++ y) = bl x ++ bl y := by unfold bl; rw [ByteArray.data_append, Array.toList_append]
theorem bl_len (x : ByteArray) : (bl x).length = x.size := by unfold bl; simp
theorem bl_extract (s : ByteArray) (b i : Nat) : bl (s.extract b i) = ((bl s).drop b).take (i - b) := by
  unfold bl
  rw [ByteArray.data_extract, Array.toList_extract]
theorem bl_get (s : ByteArray) (i : Nat) (hi : i < s.size) : (bl s)[i]? = some s[i] := by
  rw [List.getElem?_eq_getElem (by rw [bl_len]; exact hi)]
  rfl
def jl (xs : List (List UInt8)) : List UInt8 := xs.flatMap fun p => 47 :: p
theorem jl_cons (p : List UInt8) (xs : List (List UInt8)) : jl (p :: xs) = 47 :: (p ++ jl xs) := by unfold jl; rw [List.flatMap_cons]; rfl
theorem jl_append (xs ys : List (List UInt8)) : jl (xs ++ ys) = jl xs ++ jl ys := by unfold jl; rw [List.flatMap_append]
theorem bl_foldl (xs : List ByteArray) (s : ByteArray) : bl (xs.foldl (fun s p => s ++ (slash ++ p)) s) = bl s ++ jl (xs.map bl) := by
  induction xs generalizing s with
  | nil => simp [jl]
  | cons p xs ih =>
    rw [List.foldl_cons, ih, bl_append, bl_append, List.map_cons, jl_cons, List.append_assoc]
    rfl
theorem bl_join (xs : List ByteArray) : bl (joinS xs) = jl (xs.map bl) := by
  unfold joinS
  rw [bl_foldl]
  rfl
theorem jl_btw (s : ByteArray) : ∀ (n b i : Nat), s.size - i = n → b ≤ i → i ≤ s.size → 0 < i → jl ((btw s b i).map bl) = 47 :: (bl s).drop b := by
  intro n
  induction n with
  | zero =>
    intro b i h hb hi _
    rw [btw_end (by omega), List.map_cons, List.map_nil, jl_cons, bl_extract, List.take_of_length_le (by rw [List.length_drop, bl_len]; exact Nat.le_refl _)]
    simp [jl]
  | succ n ih =>
    intro b i h hb hi h0
    have hlt : i < s.size := by omega
    by_cases hc : s[i] = 47 ∧ 0 < i
    · rw [btw_cut hlt hc.1 hc.2, List.map_cons, jl_cons, ih (i + 1) (i + 1) (by omega) (Nat.le_refl _) (by omega) (by omega), bl_extract]
      congr 1
      have e : (bl s).drop i = 47 :: (bl s).drop (i + 1) := by
        have hl : i < (bl s).length := by rw [bl_len]; exact hlt
        rw [List.drop_eq_getElem_cons hl]
        have hg := bl_get s i hlt
        rw [List.getElem?_eq_getElem hl, hc.1] at hg
        rw [Option.some.inj hg]
      rw [← e]
      have : (bl s).drop i = ((bl s).drop b).drop (i - b) := by rw [List.drop_drop]; congr 1; omega
      rw [this, List.take_append_drop]
    · rw [btw_go hlt hc]
      exact ih b (i + 1) (by omega) (by omega) (by omega) (by omega)
theorem btw_ne (s : ByteArray) (b i : Nat) : btw s b i ≠ [] := by
  induction h : s.size - i generalizing b i with
  | zero => rw [btw_end (by omega)]; simp
  | succ n ih =>
    by_cases hc : s[i]'(by omega) = 47 ∧ 0 < i
    · rw [btw_cut (by omega) hc.1 hc.2]; simp
    · rw [btw_go (by omega) hc]; exact ih b (i + 1) (by omega)
/-- The parts have no strokes. -/
theorem btw_free (s : ByteArray) : ∀ (n b i : Nat), s.size - i = n → b ≤ i → i ≤ s.size → 0 < i → (∀ c ∈ ((bl s).drop b).take (i - b), c ≠ 47) → ∀ p ∈ btw s b i, ∀ c ∈ bl p, c ≠ 47 := by
  intro n
  induction n with
  | zero =>
    intro b i h hb hi _ hf p hp
    rw [btw_end (by omega)] at hp
    simp at hp
    subst hp
    rw [bl_extract, show s.size - b = i - b from by omega]
    exact hf
  | succ n ih =>
    intro b i h hb hi h0 hf p hp
    have hlt : i < s.size := by omega
    by_cases hc : s[i] = 47 ∧ 0 < i
    · rw [btw_cut hlt hc.1 hc.2] at hp
      rcases List.mem_cons.1 hp with rfl | hp
      · rw [bl_extract]; exact hf
      · exact ih (i + 1) (i + 1) (by omega) (Nat.le_refl _) (by omega) (by omega) (by simp) p hp
    · rw [btw_go hlt hc] at hp
      refine ih b (i + 1) (by omega) (by omega) (by omega) (by omega) ?_ p hp
      intro c hcm
      rw [show i + 1 - b = (i - b) + 1 from by omega, List.take_add_one] at hcm
      rcases List.mem_append.1 hcm with hcm | hcm
      · exact hf c hcm
      · rw [List.getElem?_drop, show b + (i - b) = i from by omega, bl_get s i hlt] at hcm
        simp at hcm
        subst hcm
        exact fun e => hc ⟨e, h0⟩
theorem jl_head (xs : List (List UInt8)) : jl xs = [] ∨ ∃ r, jl xs = 47 :: r := by
  cases xs with
  | nil => exact .inl rfl
  | cons p xs => exact .inr ⟨_, jl_cons p xs⟩
theorem free_cut {p q r t : List UInt8} (hp : ∀ c ∈ p, c ≠ 47) (hq : ∀ c ∈ q, c ≠ 47) (hr : r = [] ∨ ∃ z, r = 47 :: z) (ht : t = [] ∨ ∃ z, t = 47 :: z) (h : p ++ r = q ++ t) : p = q ∧ r = t := by
  induction p generalizing q with
  | nil =>
    cases q with
    | nil => exact ⟨rfl, h⟩
    | cons c q =>
      exfalso
      rcases hr with rfl | ⟨z, rfl⟩
      · simp at h
      · simp at h; exact hq c (by simp) h.1.symm
  | cons a p ih =>
    cases q with
    | nil =>
      exfalso
      rcases ht with rfl | ⟨z, rfl⟩
      · simp at h
      · simp at h; exact hp a (by simp) h.1
    | cons c q =>
      simp at h
      obtain ⟨e1, e2⟩ := ih (fun c hc => hp c (List.mem_cons_of_mem _ hc)) (fun c hc => hq c (List.mem_cons_of_mem _ hc)) h.2
      exact ⟨by rw [h.1, e1], e2⟩
theorem jl_inj : ∀ (xs ys : List (List UInt8)), (∀ p ∈ xs, ∀ c ∈ p, c ≠ 47) → (∀ p ∈ ys, ∀ c ∈ p, c ≠ 47) → jl xs = jl ys → xs = ys := by
  intro xs
  induction xs with
  | nil =>
    intro ys _ _ h
    cases ys with
    | nil => rfl
    | cons q ys => rw [jl_cons] at h; simp [jl] at h
  | cons p xs ih =>
    intro ys hx hy h
    cases ys with
    | nil => rw [jl_cons] at h; simp [jl] at h
    | cons q ys =>
      rw [jl_cons, jl_cons] at h
      injection h with _ h
      obtain ⟨e1, e2⟩ := free_cut (hx p List.mem_cons_self) (hy q List.mem_cons_self) (jl_head xs) (jl_head ys) h
      rw [e1, ih ys (fun p hp => hx p (List.mem_cons_of_mem _ hp)) (fun p hp => hy p (List.mem_cons_of_mem _ hp)) e2]
theorem begs_iff {s : ByteArray} (h : begs s = true) : ∃ h0 : 0 < s.size, s.size ≤ 200 ∧ s[0] = 47 := by
  unfold begs at h
  by_cases h0 : 0 < s.size
  · rw [dif_pos h0, Bool.and_eq_true, decide_eq_true_eq, decide_eq_true_eq] at h
    exact ⟨h0, h.1, h.2⟩
  · rw [dif_neg h0] at h; cases h
theorem btw_zero {s : ByteArray} (h0 : 0 < s.size) : btw s 1 0 = btw s 1 1 := btw_go h0 (fun e => by omega)
theorem join_btw {s : ByteArray} (h0 : 0 < s.size) (h47 : s[0] = 47) : joinS (btw s 1 0) = s := by
  apply bl_inj
  rw [bl_join, btw_zero h0, jl_btw s _ 1 1 rfl (Nat.le_refl _) h0 (by omega)]
  have hl : 0 < (bl s).length := by rw [bl_len]; exact h0
  have := List.drop_eq_getElem_cons hl
  rw [List.drop_zero] at this
  have hg := bl_get s 0 h0
  rw [List.getElem?_eq_getElem hl, h47] at hg
  rw [Option.some.inj hg] at this
  exact this.symm
theorem splitE_zero {s : ByteArray} (h : splitE s = 0) : begs s = true ∧ (s = slash ∨ (s ≠ slash ∧ (btw s 1 0).any em = false ∧ (btw s 1 0).all nameB = true)) := by
  unfold splitE at h
  cases hb : begs s with
  | false => rw [hb] at h; simp at h
  | true =>
    rw [hb, if_pos rfl] at h
    refine ⟨rfl, ?_⟩
    by_cases e : s = slash
    · exact .inl e
    · rw [if_neg e] at h
      cases h1 : (btw s 1 0).any em with
      | true => rw [h1] at h; simp at h
      | false =>
        rw [h1] at h
        cases h2 : (btw s 1 0).all nameB with
        | true => exact .inr ⟨e, rfl, rfl⟩
        | false => rw [h2] at h; simp at h
theorem back_law {s : ByteArray} (h : splitE s = 0) : joinE (splitL s) = 0 ∧ joinT (splitL s) = s := by
  obtain ⟨hb, hc⟩ := splitE_zero h
  obtain ⟨h0, h200, h47⟩ := begs_iff hb
  rcases hc with e | ⟨e, h1, h2⟩
  · rw [(splitE_slash hb e).2, e]
    exact joinE_none rfl rfl
  · rw [(splitE_ok hb e h1 h2).2]
    have hj := join_btw h0 h47
    obtain ⟨q1, q2⟩ := joinE_ok (xs := btw s 1 0) h2 (by rw [hj]; omega) (by rw [hj]; omega)
    exact ⟨q1, by rw [q2, hj]⟩
theorem joinE_zero {xs : List ByteArray} (h : joinE xs = 0) : xs.all nameB = true ∧ ¬ 200 < (joinS xs).size := by
  unfold joinE at h
  cases hb : xs.all nameB with
  | false => rw [hb] at h; simp at h
  | true =>
    rw [hb, if_pos rfl] at h
    refine ⟨rfl, fun h2 => ?_⟩
    rw [if_pos h2] at h
    cases h
theorem joinT_bad {xs : List ByteArray} (h : joinE xs ≠ 0) : joinT xs = ⟨#[]⟩ := by unfold joinT; rw [if_neg h]
theorem name_free {s : ByteArray} (h : nameB s = true) : (∀ c ∈ bl s, c ≠ 47) ∧ em s = false := by
  unfold nameB at h
  rw [Bool.and_eq_true, Bool.and_eq_true, Bool.and_eq_true, Bool.and_eq_true] at h
  refine ⟨fun c hc e => ?_, decide_eq_false (by have := of_decide_eq_true h.1.1.1.1; omega)⟩
  have h5 := h.2
  have : s.data.toList.any badC = true := List.any_eq_true.2 ⟨c, hc, by rw [e]; rfl⟩
  rw [this] at h5
  cases h5
theorem again_law {xs : List ByteArray} (h : joinE xs = 0) : splitE (joinT xs) = 0 ∧ splitL (joinT xs) = xs := by
  obtain ⟨hall, hsz⟩ := joinE_zero h
  cases xs with
  | nil => exact splitE_slash rfl rfl
  | cons p xs =>
    have hne : (joinS (p :: xs)).size ≠ 0 := fun e => by have := (joinS_zero _).1 e; cases this
    rw [(joinE_ok hall hsz hne).2]
    have hbl := bl_join (p :: xs)
    rw [List.map_cons, jl_cons] at hbl
    have hfree : ∀ q ∈ p :: xs, nameB q = true := fun q hq => List.all_eq_true.1 hall q hq
    generalize hs : joinS (p :: xs) = s at *
    have h0 : 0 < s.size := by omega
    have h47 : s[0] = 47 := by
      have hg := bl_get s 0 h0
      rw [hbl] at hg
      simp at hg
      exact hg.symm
    have hb : begs s = true := by unfold begs; rw [dif_pos h0, decide_eq_true (by omega), decide_eq_true h47]; rfl
    have hp1 := (name_free (hfree p List.mem_cons_self)).2
    have hns : s ≠ slash := fun e => by
      rw [e] at hbl
      have hl := congrArg List.length hbl
      rw [List.length_cons, List.length_append, bl_len, bl_len] at hl
      have : p.size ≠ 0 := of_decide_eq_false hp1
      have hss : slash.size = 1 := rfl
      omega
    have hbtw : btw s 1 0 = p :: xs := by
      have hj := join_btw h0 h47
      have e1 := congrArg bl hj
      rw [← hs, bl_join, bl_join, hs] at e1
      have e2 := jl_inj _ _ (fun q hq => by
        obtain ⟨r, hr, rfl⟩ := List.mem_map.1 hq
        rw [btw_zero h0] at hr
        exact btw_free s _ 1 1 rfl (Nat.le_refl _) h0 (by omega) (by simp) r hr) (fun q hq => by
        obtain ⟨r, hr, rfl⟩ := List.mem_map.1 hq
        exact (name_free (hfree r hr)).1) e1
      have inj : ∀ (l m : List ByteArray), l.map bl = m.map bl → l = m := by
        intro l
        induction l with
        | nil => intro m h; cases m with | nil => rfl | cons _ _ => simp at h
        | cons a l ih =>
          intro m h
          cases m with
          | nil => simp at h
          | cons c m =>
            rw [List.map_cons, List.map_cons] at h
            injection h with h1 h2
            rw [bl_inj h1, ih m h2]
      exact inj _ _ e2
    have := splitE_ok hb hns (by rw [hbtw]; exact any_none fun j hj => (name_free (hfree _ (List.getElem_mem hj))).2) (by rw [hbtw]; exact hall)
    exact ⟨this.1, this.2.trans hbtw⟩
end Go.Proofs.Ytoibdomcekainaa.Rt
