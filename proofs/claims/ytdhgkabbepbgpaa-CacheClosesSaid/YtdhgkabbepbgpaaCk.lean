/- What is done is on the device, in order; what was needed is done: plain laws. No statement is proved here. -/
import Derived.Test.YtdhgkabbepbgpaaCv
namespace Go.Proofs.Ytdhgkabbepbgpaa.Cb
open Go.RowKit Go.Proofs.Ytdhgkabbepbgpaa.Mem Go.Proofs.Ytdhgkabbepbgpaa.Open Go.Proofs.Ytdhgkabbepbgpaa.Kind Go.Proofs.Ytdhgkabbepbgpaa.Blk Go.Proofs.Ytdhgkabbepbgpaa.App Go.Proofs.Ytdhgkabbepbgpaa.Pat Go.Proofs.Ytdhgkabbepbgpaa.Rd
open Go.Proofs.Ytdhgkabbepbgpaa.Db (Dv Dev Asd Bks)
set_option linter.unusedVariables false
set_option linter.unusedSimpArgs false
theorem doneB_iff {s : St} {n : Int} : doneB s n = true ↔ 1 ≤ n ∧ n ≤ s.last ∧ ∀ x ∈ s.xs, x.id ≠ n := by
  unfold doneB goneB
  rw [Bool.and_eq_true, Bool.and_eq_true, decide_eq_true_iff, decide_eq_true_iff, List.all_eq_true]
  constructor
  · rintro ⟨⟨h1, h2⟩, h3⟩
    exact ⟨h1, h2, fun x hx => by simpa using h3 x hx⟩
  · rintro ⟨h1, h2, h3⟩
    exact ⟨⟨h1, h2⟩, fun x hx => by simpa using h3 x hx⟩
def strip (x : Chg) : Chg := { x with needs := [] }
theorem lay1_strip (B : List Nat) (x : Chg) : lay1 B (strip x) = lay1 B x := rfl
theorem laidF_strip (b : Int) (is : Int → Bool) : ∀ (xs : List Chg) (B : List Nat), laidF b is B (xs.map strip) = laidF b is B xs
  | [], B => rfl
  | x :: r, B => by
    show laidF b is (if (strip x).blk = b ∧ is (strip x).id = true then lay1 B (strip x) else B) (r.map strip) = _
    rw [laidF_strip b is r]
    rfl
theorem laidF_congr {b : Int} {p q : Int → Bool} : ∀ {xs : List Chg} (B : List Nat), (∀ x ∈ xs, x.blk = b → p x.id = q x.id) → laidF b p B xs = laidF b q B xs
  | [], B, h => rfl
  | x :: r, B, h => by
    rw [laidF, laidF, laidF_congr _ fun y hy => h y (List.mem_cons_of_mem _ hy)]
    by_cases hb : x.blk = b
    · rw [h x List.mem_cons_self hb]
    · rw [if_neg (fun e => hb e.1), if_neg (fun e => hb e.1)]
theorem filter_strip (p : Int → Bool) (xs : List Chg) : (xs.filter fun x => p x.id).map strip = (xs.map strip).filter fun x => p x.id := by
  rw [List.filter_map]
  rfl
/-- All that was put (numbered; with the needs that were told), beside a cache. -/
structure Cl (s : St) (A : List Chg) : Prop where
  len : (A.length : Int) = s.last
  ids : ∀ k, ∀ h : k < A.length, A[k].id = (k : Int) + 1
  sub : s.xs.map strip = (A.filter fun a => !doneB s a.id).map strip
  nd : ∀ x ∈ s.xs, ∀ a ∈ A, a.id = x.id → ∀ n ∈ a.needs, 1 ≤ n ∧ n < a.id ∧ (n ∈ x.needs ∨ doneB s n = true)
  dn : ∀ a ∈ A, doneB s a.id = true → ∀ n ∈ a.needs, doneB s n = true
  ap : A.Pairwise (fun x y => x.blk = y.blk → doneB s x.id = false → doneB s y.id = true → meet2 x y = false)
  bl : ∀ a ∈ A, 0 ≤ a.blk ∧ a.blk < 16
  bs : ∀ i : Nat, i < 16 → s.dv.bs[i]? = some (laidF i (doneB s) zblk A)
theorem Cl.new : Cl (newS (Db.fresh 16)) [] where
  len := rfl
  ids := fun k h => absurd h (Nat.not_lt_zero _)
  sub := rfl
  nd := fun x hx => by cases hx
  dn := fun a ha => by cases ha
  ap := List.Pairwise.nil
  bl := fun a ha => by cases ha
  bs := fun i hi => by
    show (List.replicate 16 zblk)[i]? = _
    rw [List.getElem?_replicate, if_pos hi]
    rfl
theorem Cl.same {s t : St} {A : List Chg} (h : Cl s A) (h1 : t.xs = s.xs) (h2 : t.last = s.last) (h3 : t.dv.bs = s.dv.bs) : Cl t A := by
  have hD : doneB t = doneB s := by funext n; unfold doneB; rw [h1, h2]
  exact ⟨by rw [h2]; exact h.len, h.ids, by rw [hD, h1]; exact h.sub, by rw [hD, h1]; exact h.nd, by rw [hD]; exact h.dn, by rw [hD]; exact h.ap, h.bl, by rw [hD, h3]; exact h.bs⟩
theorem Cl.undone {s : St} {A : List Chg} (h : Cl s A) {a : Chg} (ha : a ∈ A) (hd : doneB s a.id = false) : ∃ x ∈ s.xs, strip x = strip a := by
  have : strip a ∈ s.xs.map strip := by
    rw [h.sub]
    exact List.mem_map.2 ⟨a, List.mem_filter.2 ⟨ha, by rw [hd]; rfl⟩, rfl⟩
  obtain ⟨x, h1, h2⟩ := List.mem_map.1 this
  exact ⟨x, h1, h2⟩
theorem strip_eq {x a : Chg} (h : strip x = strip a) : x.id = a.id ∧ x.blk = a.blk ∧ x.pa = a.pa ∧ x.pd = a.pd := by
  unfold strip at h
  injection h with h1 h2 h3 h4 h5
  exact ⟨h1, h2, h3, h4⟩
theorem ids_uniq {xs : List Chg} (hm : mayF 0 xs = true) {x y : Chg} (hx : x ∈ xs) (hy : y ∈ xs) (e : x.id = y.id) : x = y := by
  obtain ⟨i, hi, rfl⟩ := List.mem_iff_getElem.1 hx
  obtain ⟨j, hj, rfl⟩ := List.mem_iff_getElem.1 hy
  obtain rfl := id_inj (mayF_iff.1 hm).1 hi hj e
  rfl
theorem woS_filter (xs : List Chg) (R : List Int) : woS xs R = xs.filter fun x => !decide (x.id ∈ R) := by
  unfold woS
  apply List.filter_congr
  intro x _
  by_cases h : x.id ∈ R <;> simp [h]
/-- What is ready is written. -/
theorem Cl.fl {s t : St} {A : List Chg} (hi : Inv s) (h : Cl s A) {no : Nat} (hno : no < 16) (hx : t.xs = woS s.xs (readyS s.xs no)) (hl : t.last = s.last) (hb : t.dv.bs = s.dv.bs.set no (imgF (s.dv.bs.getD no zblk) s.xs no)) : Cl t A := by
  obtain ⟨m1, m2, m3⟩ := mayF_iff.1 hi.may
  obtain ⟨R, hR⟩ : ∃ R, readyS s.xs no = R := ⟨_, rfl⟩
  rw [hR] at hx
  have hrm : ∀ n ∈ R, ∃ i, ∃ hi : i < s.xs.length, s.xs[i].id = n ∧ s.xs[i].blk = no ∧ ∀ m ∈ waitK s.xs i s.xs[i], m ∈ R := fun n hn => by
    rw [← hR] at hn ⊢
    exact ready_mem hn
  have hD : ∀ n, doneB t n = (doneB s n || decide (n ∈ R)) := fun n => by
    rw [Bool.eq_iff_iff, Bool.or_eq_true, decide_eq_true_iff, doneB_iff, doneB_iff, hl, hx]
    constructor
    · rintro ⟨h1, h2, h3⟩
      by_cases hn : n ∈ R
      · exact .inr hn
      · exact .inl ⟨h1, h2, fun x hx e => h3 x (mem_woS.2 ⟨hx, by rw [e]; exact hn⟩) e⟩
    · rintro (⟨h1, h2, h3⟩ | hn)
      · exact ⟨h1, h2, fun x hx => h3 x (mem_woS.1 hx).1⟩
      · obtain ⟨i, hil, e, _⟩ := hrm n hn
        have hmem := List.getElem_mem hil
        refine ⟨?_, ?_, fun x hx e => (mem_woS.1 hx).2 (by rw [e]; exact hn)⟩
        · have := m2 _ hmem; omega
        · have := hi.ids _ hmem; omega
  have hDm : ∀ n, doneB s n = true → doneB t n = true := fun n hn => by rw [hD, hn]; rfl
  have hDR : ∀ n, n ∈ R → doneB t n = true := fun n hn => by rw [hD, decide_eq_true hn, Bool.or_true]
  have hDf : ∀ n, doneB t n = false → doneB s n = false ∧ n ∉ R := fun n hn => by
    rw [hD, Bool.or_eq_false_iff, decide_eq_false_iff_not] at hn
    exact hn
  -- a ready one among all
  have hra : ∀ a ∈ A, doneB s a.id = false → a.id ∈ R → ∃ i, ∃ hi : i < s.xs.length, strip s.xs[i] = strip a ∧ a.blk = no ∧ ∀ m ∈ waitK s.xs i s.xs[i], m ∈ R := fun a ha hd hr => by
    obtain ⟨i, hil, e, hbl, hw⟩ := hrm _ hr
    obtain ⟨x, hx, hs⟩ := h.undone ha hd
    obtain rfl := ids_uniq hi.may hx (List.getElem_mem hil) (by rw [(strip_eq hs).1, e])
    exact ⟨i, hil, hs, by rw [← (strip_eq hs).2.1]; exact hbl, hw⟩
  have hap : A.Pairwise (fun x y => x.blk = y.blk → doneB t x.id = false → doneB t y.id = true → meet2 x y = false) := by
    rw [List.pairwise_iff_getElem]
    intro i j hi' hj hij hbb hdx hdy
    obtain ⟨hsx, hrx⟩ := hDf _ hdx
    by_cases hsy : doneB s A[j].id = true
    · exact List.pairwise_iff_getElem.1 h.ap i j hi' hj hij hbb hsx hsy
    · have hsy : doneB s A[j].id = false := by simpa using hsy
      have hry : A[j].id ∈ R := by
        rw [hD, hsy, Bool.false_or, decide_eq_true_iff] at hdy
        exact hdy
      obtain ⟨k, hk, hsk, hbk, hw⟩ := hra _ (List.getElem_mem hj) hsy hry
      obtain ⟨x, hx', hsx'⟩ := h.undone (List.getElem_mem hi') hsx
      obtain ⟨l, hl', rfl⟩ := List.mem_iff_getElem.1 hx'
      cases hme : meet2 A[i] A[j] with
      | false => rfl
      | true =>
        exfalso
        obtain ⟨x1, x2, x3, x4⟩ := strip_eq hsx'
        obtain ⟨y1, y2, y3, y4⟩ := strip_eq hsk
        have hlk : l < k := by
          have e1 := h.ids i hi'
          have e2 := h.ids j hj
          rcases Nat.lt_trichotomy l k with q | q | q
          · exact q
          · subst q; omega
          · have := ids_get m1 hl' q; omega
        refine hrx ?_
        rw [← x1]
        refine hw _ (mem_waitK.2 ⟨s.xs[l], List.mem_take_iff_getElem.2 ⟨l, by omega, rfl⟩, .inl ?_, rfl⟩)
        unfold metC
        rw [decide_eq_true (by rw [x2, y2]; exact hbb)]
        have : meet2 s.xs[l] s.xs[k] = meet2 A[i] A[j] := by unfold meet2; rw [x3, x4, y3, y4]
        rw [hme] at this
        exact this
  refine ⟨by rw [hl]; exact h.len, h.ids, ?_, ?_, ?_, hap, h.bl, ?_⟩
  · rw [hx, woS_filter, filter_strip (fun n => !decide (n ∈ R)), h.sub, ← filter_strip (fun n => !decide (n ∈ R)), List.filter_filter]
    congr 1
    apply List.filter_congr
    intro a _
    rw [hD]
    cases doneB s a.id <;> simp
  · intro x hx' a ha e n hn
    rw [hx] at hx'
    obtain ⟨n1, n2, n3⟩ := h.nd x (mem_woS.1 hx').1 a ha e n hn
    exact ⟨n1, n2, n3.imp id (hDm n)⟩
  · intro a ha hd n hn
    by_cases hs : doneB s a.id = true
    · exact hDm _ (h.dn a ha hs n hn)
    · have hs : doneB s a.id = false := by simpa using hs
      have hr : a.id ∈ R := by
        rw [hD, hs, Bool.false_or, decide_eq_true_iff] at hd
        exact hd
      obtain ⟨k, hk, hsk, hbk, hw⟩ := hra a ha hs hr
      obtain ⟨n1, n2, n3⟩ := h.nd _ (List.getElem_mem hk) a ha (strip_eq hsk).1.symm n hn
      rcases n3 with n3 | n3
      · by_cases hdn : doneB s n = true
        · exact hDm _ hdn
        · have hex : ∃ y ∈ s.xs, y.id = n := Classical.byContradiction fun hno2 => hdn (doneB_iff.2 ⟨n1, by
            have := hi.ids _ (List.getElem_mem hk)
            have := (strip_eq hsk).1
            omega, fun y hy e => hno2 ⟨y, hy, e⟩⟩)
          obtain ⟨y, hy, rfl⟩ := hex
          obtain ⟨l, hl', rfl⟩ := List.mem_iff_getElem.1 hy
          refine hDR _ (hw _ (mem_waitK.2 ⟨s.xs[l], List.mem_take_iff_getElem.2 ⟨l, ?_, rfl⟩, .inr n3, rfl⟩))
          have e1 := (strip_eq hsk).1
          rcases Nat.lt_trichotomy l k with q | q | q
          · omega
          · subst q; omega
          · have := ids_get m1 hl' q; omega
      · exact hDm _ n3
  · intro i hi16
    have h16 := hi.len
    rw [hb, List.getElem?_set]
    by_cases hq : no = i
    · subst hq
      rw [if_pos rfl, if_pos (by omega)]
      congr 1
      have hB : s.dv.bs.getD no zblk = laidF no (doneB s) zblk A := by rw [List.getD_eq_getElem?_getD, h.bs no hi16]; rfl
      unfold imgF
      rw [hB, hR, ← laidF_strip _ _ s.xs, h.sub, laidF_strip, laidF_eq, laidF_eq, laidF_eq, List.filter_filter]
      have hp := layAll_part (fun x => doneB s x.id) (A.filter (inBlk no (doneB t))) zblk zblk_length (by
        rw [List.pairwise_filter]
        refine h.ap.imp fun {x y} hxy hx hy hdx hdy => hxy ?_ hdx hdy
        unfold inBlk at hx hy
        simp at hx hy
        rw [hx.1, hy.1])
      rw [← hp, List.filter_filter, List.filter_filter]
      congr 1
      · congr 1
        apply List.filter_congr
        intro a _
        unfold inBlk
        rw [hD]
        cases doneB s a.id <;> simp
      · apply List.filter_congr
        intro a _
        unfold inBlk
        rw [hD]
        cases doneB s a.id <;> simp
    · rw [if_neg hq, h.bs i hi16]
      congr 1
      refine laidF_congr _ fun a ha hbl => ?_
      rw [hD]
      cases hs : doneB s a.id with
      | true => rfl
      | false =>
        rw [Bool.false_or]
        symm
        rw [decide_eq_false_iff_not]
        intro hr
        obtain ⟨k, hk, hsk, hbk, hw⟩ := hra a ha hs hr
        omega
theorem Cl.flS {s : St} {A : List Chg} (hi : Inv s) (h : Cl s A) (no : Int) : Cl (flS s no) A := by
  unfold Cb.flS
  split
  · rename_i hq
    split
    · rename_i hE
      obtain ⟨e1, _, _⟩ := wr_bad hE (flB s no)
      exact h.same (t := { s with dv := Db.wrS s.dv no (flB s no) }) rfl rfl e1
    · rename_i hE
      have hE0 : Db.wrE s.dv no = 0 := Classical.not_not.1 hE
      obtain ⟨e1, _, _⟩ := wr_good hE0 (flB s no)
      have hr := hi.kn no hq.1
      obtain ⟨k, rfl⟩ : ∃ k : Nat, no = (k : Int) := ⟨no.toNat, by omega⟩
      exact h.fl (t := { s with dv := Db.wrS s.dv k (flB s k), xs := woS s.xs (readyS s.xs k) }) hi (no := k) (by omega) rfl rfl e1
  · exact h
theorem Cl.upG : ∀ (f : Nat) {s : St} {A : List Chg} (hi : Inv s) (h : Cl s A) (id : Int), Cl (upG f s id).1 A
  | 0, s, A, hi, h, id => h
  | f + 1, s, A, hi, h, id => by
    unfold Cb.upG
    split
    · exact h
    · split
      · split
        · exact Cl.upG f (flS_inv hi _) (h.flS hi _) id
        · exact h.flS hi _
      · exact h
theorem insG_has (xs : List Int) (y : Int) : y ∈ insG xs y ∧ ∀ x ∈ xs, x ∈ insG xs y := by
  unfold insG
  split
  · rename_i h
    refine ⟨?_, fun x hx => hx⟩
    have hle := cutG_le xs y xs.length
    rw [← h.2, getD_of (by omega)]
    exact List.getElem_mem _
  · refine ⟨by simp, fun x hx => ?_⟩
    rw [← List.take_append_drop (cutG xs y xs.length) xs] at hx
    rcases List.mem_append.1 hx with h | h
    · exact List.mem_append_left _ h
    · exact List.mem_append_right _ (List.mem_cons_of_mem _ h)
theorem neF_all {last : Int} {dn : Int → Bool} : ∀ {ns out l : List Int}, neF last dn ns out = some l → (∀ n ∈ ns, 1 ≤ n ∧ n ≤ last ∧ (n ∈ l ∨ dn n = true)) ∧ ∀ n ∈ out, n ∈ l
  | [], out, l, h => by injection h with h; subst h; exact ⟨fun n hn => (by cases hn), fun n hn => hn⟩
  | n :: r, out, l, h => by
    unfold neF at h
    by_cases h1 : n < 1 ∨ last < n
    · rw [if_pos h1] at h; cases h
    rw [if_neg h1] at h
    by_cases h2 : dn n = true
    · rw [if_pos h2] at h
      obtain ⟨i1, i2⟩ := neF_all h
      refine ⟨fun m hm => ?_, i2⟩
      rcases List.mem_cons.1 hm with rfl | hm
      · exact ⟨by omega, by omega, .inr h2⟩
      · exact i1 m hm
    · rw [if_neg h2] at h
      obtain ⟨i1, i2⟩ := neF_all h
      refine ⟨fun m hm => ?_, fun m hm => i2 m ((insG_has out n).2 m hm)⟩
      rcases List.mem_cons.1 hm with rfl | hm
      · exact ⟨by omega, by omega, .inl (i2 m (insG_has out m).1)⟩
      · exact i1 m hm
theorem Cl.put {s : St} {A : List Chg} (hi : Inv s) (h : Cl s A) {no pa : Int} {pd : List Nat} {ns : List Int} (hE : pE s no pa pd ns = 0) (hno : 0 ≤ no ∧ no < 16) : Cl (pS s no pa pd ns) (A ++ [⟨s.last + 1, no, pa, pd, ns⟩]) := by
  obtain ⟨_, ⟨l, hl⟩, _⟩ := pE_ok hE
  have hS : pS s no pa pd ns = { kS s no with last := s.last + 1, xs := s.xs ++ [⟨s.last + 1, no, pa, pd, l⟩] } := by
    unfold pS; rw [if_pos hE, hl]; rfl
  rw [hS]
  have hl0 := hi.last0
  obtain ⟨na, _⟩ := neF_all hl
  obtain ⟨t, ht⟩ : ∃ t : St, t = { kS s no with last := s.last + 1, xs := s.xs ++ [⟨s.last + 1, no, pa, pd, l⟩] } := ⟨_, rfl⟩
  rw [← ht]
  have t1 : t.last = s.last + 1 := by rw [ht]
  have t2 : t.xs = s.xs ++ [⟨s.last + 1, no, pa, pd, l⟩] := by rw [ht]
  have t3 : t.dv.bs = s.dv.bs := by rw [ht]; exact kS_bs s no
  clear ht hS
  have hD : doneB t = doneB s := by
    funext n
    rw [Bool.eq_iff_iff, doneB_iff, doneB_iff, t1, t2]
    constructor
    · rintro ⟨h1, h2, h3⟩
      have h4 : s.last + 1 ≠ n := h3 ⟨s.last + 1, no, pa, pd, l⟩ (by simp)
      exact ⟨h1, by omega, fun x hx => h3 x (List.mem_append_left _ hx)⟩
    · rintro ⟨h1, h2, h3⟩
      refine ⟨h1, by omega, fun x hx => ?_⟩
      rcases List.mem_append.1 hx with hx | hx
      · exact h3 x hx
      · rw [List.mem_singleton] at hx; subst hx; show s.last + 1 ≠ n; omega
  have hf : doneB s (s.last + 1) = false := by
    cases hq : doneB s (s.last + 1) with
    | false => rfl
    | true => have := (doneB_iff.1 hq).2.1; omega
  have hA : ∀ a ∈ A, a.id ≤ s.last := fun a ha => by
    obtain ⟨k, hk, rfl⟩ := List.mem_iff_getElem.1 ha
    have := h.ids k hk
    have := h.len
    omega
  have hlen := h.len
  refine ⟨?_, fun k hk => ?_, ?_, ?_, ?_, ?_, ?_, ?_⟩
  · rw [t1, List.length_append, List.length_singleton]; omega
  · rw [List.length_append, List.length_singleton] at hk
    by_cases hq : k < A.length
    · rw [List.getElem_append_left hq]; exact h.ids k hq
    · obtain rfl : k = A.length := by omega
      rw [List.getElem_concat_length rfl]
      show s.last + 1 = _
      omega
  · rw [t2, hD, List.map_append, List.filter_append, List.map_append, h.sub]
    congr 1
    rw [List.filter_cons_of_pos (by show (!doneB s (s.last + 1)) = true; rw [hf]; rfl)]
    rfl
  · intro x hx a ha e n hn
    rw [t2] at hx
    rw [hD]
    rcases List.mem_append.1 hx with hx | hx
    · rcases List.mem_append.1 ha with ha | ha
      · exact h.nd x hx a ha e n hn
      · rw [List.mem_singleton] at ha; subst ha
        have := hi.ids x hx
        have e : s.last + 1 = x.id := e
        omega
    · rw [List.mem_singleton] at hx; subst hx
      rcases List.mem_append.1 ha with ha | ha
      · have := hA a ha
        have e : a.id = s.last + 1 := e
        omega
      · rw [List.mem_singleton] at ha; subst ha
        obtain ⟨n1, n2, n3⟩ := na n hn
        exact ⟨n1, by show n < s.last + 1; omega, n3⟩
  · intro a ha hd n hn
    rw [hD] at hd ⊢
    rcases List.mem_append.1 ha with ha | ha
    · exact h.dn a ha hd n hn
    · rw [List.mem_singleton] at ha; subst ha
      have hd : doneB s (s.last + 1) = true := hd
      rw [hf] at hd
      cases hd
  · rw [hD, List.pairwise_append]
    refine ⟨h.ap, List.pairwise_singleton _ _, fun x hx y hy _ _ hd => ?_⟩
    rw [List.mem_singleton] at hy; subst hy
    have hd : doneB s (s.last + 1) = true := hd
    rw [hf] at hd
    cases hd
  · intro a ha
    rcases List.mem_append.1 ha with ha | ha
    · exact h.bl a ha
    · rw [List.mem_singleton] at ha; subst ha; exact hno
  · intro i hi16
    rw [t3, hD, laidF_app, if_neg (fun e => by have e2 : doneB s (s.last + 1) = true := e.2; rw [hf] at e2; cases e2)]
    exact h.bs i hi16
theorem Cl.goS {s : St} {A : List Chg} (hi : Inv s) (h : Cl s A) (x : Chg) : Cl (goS s x) (if x.id = 0 ∧ goE s x = 0 then A ++ [{ x with id := s.last + 1 }] else A) := by
  by_cases q0 : x.id = 0
  · by_cases hE : goE s x = 0
    · rw [if_pos ⟨q0, hE⟩]
      obtain ⟨_, p2, p3⟩ := goS_put hi q0 hE
      unfold goE at hE
      rw [if_pos q0] at hE
      unfold Cb.goS
      rw [if_pos q0]
      exact h.put hi hE ⟨p2, p3⟩
    · rw [if_neg (fun e => hE e.2)]
      unfold goE at hE
      rw [if_pos q0] at hE
      unfold Cb.goS
      rw [if_pos q0]
      unfold pS
      rw [if_neg hE]
      exact h
  · rw [if_neg (fun e => q0 e.1)]
    unfold Cb.goS
    rw [if_neg q0]
    split
    · exact h.flS hi _
    · split
      · exact Cl.upG _ hi h _
      · split
        · exact Cl.upG _ hi h _
        · split
          · exact h.same rfl rfl rfl
          · split
            · exact h.same rfl rfl rfl
            · exact h
end Go.Proofs.Ytdhgkabbepbgpaa.Cb
