/- What holds of a cache goes on to hold: plain laws; the contracts of Upto and Sync. No statement is proved here. -/
import Derived.Test.YtbamhiegabeicaaGreatCf
namespace Go.Proofs.YtbamhiegabeicaaGreat.Cb
open Go.RowKit Go.Proofs.YtbamhiegabeicaaGreat.Mem Go.Proofs.YtbamhiegabeicaaGreat.Open Go.Proofs.YtbamhiegabeicaaGreat.Kind Go.Proofs.YtbamhiegabeicaaGreat.Blk Go.Proofs.YtbamhiegabeicaaGreat.App Go.Proofs.YtbamhiegabeicaaGreat.Pat Go.Proofs.YtbamhiegabeicaaGreat.Rd
open Go.Proofs.YtbamhiegabeicaaGreat.Db (Dv Dev Asd)
set_option linter.unusedVariables false
set_option linter.unusedSimpArgs false
theorem newS_inv : Inv (newS (Db.fresh 16)) where
  len := by show (List.replicate 16 zblk).length = 16; rw [List.length_replicate]
  each := fun x hx => by have := List.eq_of_mem_replicate (show x ∈ List.replicate 16 zblk from hx); rw [this]; exact zblk_length
  byte := fun x hx => by have := List.eq_of_mem_replicate (show x ∈ List.replicate 16 zblk from hx); rw [this]; exact zblk_byte
  ok := ⟨by show (List.replicate 16 zblk).length ≤ 1000; rw [List.length_replicate]; decide, by show (0 : Int) ≤ 0; decide, by show (0 : Int) ≤ 1000000; decide, by show (0 : Int) ≤ 0; decide, by show (0 : Int) ≤ 1000000; decide, fun h => by cases h⟩
  cw := by show (0 : Int) + (([] : List Chg).length : Nat) ≤ 0; decide
  cr := by show (0 : Int) ≤ 100000; decide
  kn := fun x h => by cases h
  xk := fun x h => by cases h
  may := rfl
  small := fun x h => by cases h
  data := fun x h => by cases h
  ids := fun x h => by cases h
  last0 := by show (0 : Int) ≤ 0; decide
  last1 := by show (0 : Int) ≤ 1000; decide
  xl := by show 0 ≤ 1000; decide
theorem may_zero {s : Dv} {no : Int} (h : Db.mayE s no = 0) : s.off = false ∧ 0 ≤ no ∧ no < s.bs.length := by
  obtain ⟨h1, i, rfl, h3⟩ := Db.may_ok (s := s) (no := no) (fun e => e h)
  exact ⟨h1, by omega, by omega⟩
theorem kS_inv {s : St} (hi : Inv s) (no : Int) (hr : s.dv.rd < 100000) : Inv (kS s no) := by
  unfold kS
  split
  · exact hi
  · rename_i hq
    have h0 : Db.mayE s.dv no = 0 := Classical.byContradiction fun e => hq (.inr e)
    obtain ⟨h1, h2, h3⟩ := may_zero h0
    have hl := hi.len
    obtain ⟨o1, o2, o3, o4, o5, o6⟩ := hi.ok
    refine ⟨hi.len, hi.each, hi.byte, ⟨o1, o2, o3, by show 0 ≤ s.dv.rd + 1; omega, by show s.dv.rd + 1 ≤ 1000000; omega, o6⟩, hi.cw, by show s.dv.rd + 1 ≤ 100000; omega, fun x hx => ?_, fun x hx => ?_, hi.may, hi.small, hi.data, hi.ids, hi.last0, hi.last1, hi.xl⟩
    · simp only [Bool.or_eq_true, beq_iff_eq] at hx
      rcases hx with hx | rfl
      · exact hi.kn x hx
      · omega
    · show (s.K x.blk || x.blk == no) = true
      rw [hi.xk x hx]; rfl
theorem kS_rd (s : St) (no : Int) : (kS s no).dv.rd ≤ s.dv.rd + 1 ∧ s.dv.rd ≤ (kS s no).dv.rd := by
  unfold kS
  split
  · exact ⟨by omega, by omega⟩
  · exact ⟨Int.le_refl _, by show s.dv.rd ≤ s.dv.rd + 1; omega⟩
theorem kS_wr (s : St) (no : Int) : (kS s no).dv.wr = s.dv.wr := by unfold kS; split <;> rfl
theorem kS_K {s : St} {no : Int} (h : kE s no = 0) : (kS s no).K no = true := by
  unfold kE at h
  unfold kS
  by_cases hk : s.K no = true
  · rw [if_pos (.inl hk)]; exact hk
  · rw [if_neg hk] at h
    rw [if_neg (by rintro (e | e); exact hk e; exact e h)]
    show (s.K no || no == no) = true
    simp
theorem kS_Kmono {s : St} {no x : Int} (h : s.K x = true) : (kS s no).K x = true := by
  unfold kS
  split
  · exact h
  · show (s.K x || x == no) = true
    rw [h]; rfl
theorem sorted_insG {l : List Int} (y : Int) (h : l.Pairwise (· < ·)) : (insG l y).Pairwise (· < ·) := by
  have hle := cutG_le l y l.length
  have hge : ∀ m, m ≤ l.length → ∀ i, cutG l y m ≤ i → i < m → y < l.getD i 0 := by
    intro m
    induction m with
    | zero => intro _ i _ hi; omega
    | succ m ih =>
      intro hm i h1 h2
      unfold cutG at h1
      split at h1
      · rename_i hy
        by_cases he : i = m
        · subst he; exact hy
        · exact ih (by omega) i h1 (by omega)
      · omega
  have hlt : ∀ m, 0 < cutG l y m → l.getD (cutG l y m - 1) 0 ≤ y := by
    intro m
    induction m with
    | zero => intro h; simp [cutG] at h
    | succ m ih =>
      intro h0
      unfold cutG at h0 ⊢
      split
      · rename_i hy
        rw [if_pos hy] at h0
        exact ih h0
      · rename_i hy
        show l.getD (m + 1 - 1) 0 ≤ y
        rw [Nat.add_sub_cancel]
        omega
  unfold insG
  generalize hp : cutG l y l.length = p at *
  have hge' := hge l.length (Nat.le_refl _)
  have hlt' := hlt l.length
  rw [hp] at hge' hlt'
  split
  · exact h
  · rename_i hne
    rw [List.pairwise_append, List.pairwise_cons]
    refine ⟨h.sublist (List.take_sublist _ _), ⟨fun a ha => ?_, h.sublist (List.drop_sublist _ _)⟩, fun a ha b hb => ?_⟩
    · obtain ⟨i, hi, rfl⟩ := List.mem_iff_getElem.1 ha
      rw [List.length_drop] at hi
      have := hge' (p + i) (by omega) (by omega)
      rw [getD_of (by omega)] at this
      rw [List.getElem_drop]
      exact this
    · obtain ⟨i, hi, rfl⟩ := List.mem_iff_getElem.1 ha
      rw [List.length_take] at hi
      rw [List.getElem_take]
      have hpi := List.pairwise_iff_getElem.1 h
      rcases List.mem_cons.1 hb with rfl | hb
      · have h1 := hlt' (by omega)
        have h2 : l.getD (p - 1) 0 ≠ b := fun e => hne ⟨by omega, e⟩
        rw [getD_of (by omega)] at h1 h2
        by_cases he : i = p - 1
        · subst he; omega
        · have := hpi i (p - 1) (by omega) (by omega) (by omega); omega
      · obtain ⟨j, hj, rfl⟩ := List.mem_iff_getElem.1 hb
        rw [List.length_drop] at hj
        rw [List.getElem_drop]
        exact hpi i (p + j) (by omega) (by omega) (by omega)
theorem neF_sorted {last : Int} {dn : Int → Bool} : ∀ {ns out l : List Int}, neF last dn ns out = some l → out.Pairwise (· < ·) → l.Pairwise (· < ·)
  | [], out, l, h, ho => by injection h with h; subst h; exact ho
  | n :: r, out, l, h, ho => by
    unfold neF at h
    by_cases h1 : n < 1 ∨ last < n
    · rw [if_pos h1] at h; cases h
    rw [if_neg h1] at h
    by_cases h2 : dn n = true
    · rw [if_pos h2] at h; exact neF_sorted h ho
    · rw [if_neg h2] at h; exact neF_sorted h (sorted_insG n ho)
theorem pE_ok {s : St} {no pa : Int} {pd : List Nat} {ns : List Int} (h : pE s no pa pd ns = 0) : rightN pa pd.length = true ∧ (∃ l, neL s ns = some l) ∧ kE s no = 0 := by
  unfold pE at h
  by_cases h1 : rightN pa pd.length = false
  · rw [if_pos h1] at h; cases h
  rw [if_neg h1] at h
  by_cases h2 : (neL s ns).isSome = false
  · rw [if_pos h2] at h; cases h
  rw [if_neg h2] at h
  refine ⟨by simpa using h1, ?_, h⟩
  cases hq : neL s ns with
  | none => rw [hq] at h2; exact absurd rfl h2
  | some l => exact ⟨l, rfl⟩
theorem pS_inv {s : St} (hi : Inv s) {no pa : Int} {pd : List Nat} {ns : List Int} (hb : Bytes pd) (hpl : pd.length ≤ 300) (hl : ns.length ≤ 60) (hr : s.dv.rd < 100000) (hL : s.last < 1000) : Inv (pS s no pa pd ns) := by
  unfold pS
  split
  · rename_i h0
    obtain ⟨h1, ⟨l, h2⟩, h3⟩ := pE_ok h0
    have hk := kS_inv hi no hr
    have hx := kS_xs s no
    have hla := kS_last s no
    have hkn := kS_K h3
    rw [h2]
    show Inv { kS s no with last := s.last + 1, xs := s.xs ++ [⟨s.last + 1, no, pa, pd, l⟩] }
    have hxl : s.xs.length ≤ s.last := by
      have := hi.cw
      obtain ⟨_, o2, _⟩ := hi.ok
      omega
    have hl0 := hi.last0
    refine ⟨hk.len, hk.each, hk.byte, hk.ok, ?_, hk.cr, hk.kn, ?_, ?_, ?_, ?_, ?_, ?_, ?_, ?_⟩
    · show (kS s no).dv.wr + ((s.xs ++ [_]).length : Nat) ≤ s.last + 1
      have := hi.cw
      rw [kS_wr, List.length_append, List.length_singleton]
      omega
    · intro x hx'
      show (kS s no).K x.blk = true
      rcases List.mem_append.1 hx' with h | h
      · exact kS_Kmono (hi.xk x h)
      · rw [List.mem_singleton] at h; subst h; exact hkn
    · obtain ⟨m1, m2, m3⟩ := mayF_iff.1 hi.may
      refine mayF_iff.2 ⟨?_, ?_, ?_⟩
      · show ((s.xs ++ [(⟨s.last + 1, no, pa, pd, l⟩ : Chg)]).map (fun x : Chg => x.id)).Pairwise (· < ·)
        rw [List.map_append, List.pairwise_append]
        refine ⟨m1, by simp, fun a ha b hb => ?_⟩
        obtain ⟨x, hx1, rfl⟩ := List.mem_map.1 ha
        simp at hb
        subst hb
        have := hi.ids x hx1
        omega
      · intro x hx'
        rcases List.mem_append.1 hx' with h | h
        · exact m2 x h
        · rw [List.mem_singleton] at h; subst h; show 0 < s.last + 1; omega
      · intro x hx'
        rcases List.mem_append.1 hx' with h | h
        · exact m3 x h
        · rw [List.mem_singleton] at h
          subst h
          refine ⟨(hk.kn no hkn).1, h1, riseF_iff.2 ⟨neF_sorted h2 List.Pairwise.nil, fun n hn => ?_⟩⟩
          rcases neF_mem h2 n hn with h | ⟨h4, h5, _, _⟩
          · cases h
          · show 0 < n ∧ n < s.last + 1; omega
    · intro x hx'
      rcases List.mem_append.1 hx' with h | h
      · exact hi.small x h
      · rw [List.mem_singleton] at h
        subst h
        have := neF_len h2
        simp at this
        exact ⟨hpl, by show l.length ≤ 60; omega⟩
    · intro x hx'
      rcases List.mem_append.1 hx' with h | h
      · exact hi.data x h
      · rw [List.mem_singleton] at h; subst h; exact hb
    · intro x hx'
      show x.id ≤ s.last + 1
      rcases List.mem_append.1 hx' with h | h
      · have := hi.ids x h; omega
      · rw [List.mem_singleton] at h; subst h; exact Int.le_refl _
    · show 0 ≤ s.last + 1; omega
    · show s.last + 1 ≤ 1000; omega
    · show (s.xs ++ [_]).length ≤ 1000
      rw [List.length_append, List.length_singleton]
      omega
  · exact hi
theorem Bytes_set {l : List (List Nat)} {P : List Nat → Prop} (h : ∀ x ∈ l, P x) {i : Nat} {y : List Nat} (hy : P y) : ∀ x ∈ l.set i y, P x := fun x hx => by
  rcases List.mem_or_eq_of_mem_set hx with h1 | h1
  · exact h x h1
  · exact h1 ▸ hy
theorem getD_P {l : List (List Nat)} {P : List Nat → Prop} (h : ∀ x ∈ l, P x) (h0 : P zblk) (i : Nat) : P (l.getD i zblk) := by
  rw [List.getD_eq_getElem?_getD]
  cases hq : l[i]? with
  | none => exact h0
  | some x => exact h x (List.mem_of_getElem? hq)
theorem flB_len {s : St} (hi : Inv s) (no : Int) : (flB s no).length = 256 := (imgF_len _ _ _).trans (getD_mem _ _ hi.each)
theorem flB_bytes {s : St} (hi : Inv s) (no : Int) : Bytes (flB s no) := imgF_bytes (getD_mem _ _ hi.each) (getD_P hi.byte zblk_byte _) hi.data
theorem wrS_ok {s : Dv} (h : Db.Ok s) (no : Int) (x : List Nat) (hw : s.wr < 1000000) : Db.Ok (Db.wrS s no x) := by
  obtain ⟨h1, h2, h3, h4, h5, h6⟩ := h
  unfold Db.wrS
  split
  · exact ⟨h1, h2, h3, h4, h5, h6⟩
  · split
    · exact ⟨h1, h2, h3, h4, h5, h6⟩
    · rename_i hq
      split
      · rename_i hl
        refine ⟨by show (s.bs.set _ _).length ≤ 1000; rw [List.length_set]; exact h1, by show 0 ≤ s.wr + 1; omega, by show s.wr + 1 ≤ 1000000; omega, h4, h5, fun _ => ?_⟩
        have := h6 hl
        have : ¬ s.fuse = 0 := fun e => hq ⟨hl, e⟩
        exact ⟨by show 0 ≤ s.fuse - 1; omega, by show s.fuse - 1 ≤ _; omega⟩
      · rename_i hl
        exact ⟨by show (s.bs.set _ _).length ≤ 1000; rw [List.length_set]; exact h1, by show 0 ≤ s.wr + 1; omega, by show s.wr + 1 ≤ 1000000; omega, h4, h5, fun e => absurd e hl⟩
theorem flS_inv {s : St} (hi : Inv s) (no : Int) : Inv (flS s no) := by
  have hw0 : s.dv.wr ≤ 1000 := by have := hi.cw; have := hi.last1; omega
  have hok := wrS_ok hi.ok no (flB s no) (by omega)
  unfold flS
  split
  · rename_i hq
    split
    · rename_i hE
      obtain ⟨e1, e2, e3⟩ := wr_bad hE (flB s no)
      exact ⟨by show (Db.wrS _ _ _).bs.length = 16; rw [e1]; exact hi.len, by show ∀ x ∈ (Db.wrS _ _ _).bs, _; rw [e1]; exact hi.each, by show ∀ x ∈ (Db.wrS _ _ _).bs, _; rw [e1]; exact hi.byte, hok, by show (Db.wrS _ _ _).wr + _ ≤ _; rw [e2]; exact hi.cw, by show (Db.wrS _ _ _).rd ≤ _; rw [e3]; exact hi.cr, hi.kn, hi.xk, hi.may, hi.small, hi.data, hi.ids, hi.last0, hi.last1, hi.xl⟩
    · rename_i hE
      have hE0 : Db.wrE s.dv no = 0 := Classical.not_not.1 hE
      obtain ⟨e1, e2, e3⟩ := wr_good hE0 (flB s no)
      have hwl := wo_len hi.may no
      have hpos : 0 < (readyS s.xs no).length := by
        rcases Nat.eq_zero_or_pos (readyS s.xs no).length with h | h
        · exact absurd (List.eq_nil_of_length_eq_zero h) hq.2
        · exact h
      have hxl := hi.xl
      refine ⟨by show (Db.wrS _ _ _).bs.length = 16; rw [e1, List.length_set]; exact hi.len, by show ∀ x ∈ (Db.wrS _ _ _).bs, _; rw [e1]; exact Bytes_set hi.each (flB_len hi no), by show ∀ x ∈ (Db.wrS _ _ _).bs, _; rw [e1]; exact Bytes_set hi.byte (flB_bytes hi no), hok, ?_, by show (Db.wrS _ _ _).rd ≤ _; rw [e3]; exact hi.cr, hi.kn, fun x hx => hi.xk x (mem_woS.1 hx).1, may_wo hi.may _, small_wo hi.small _, fun x hx => hi.data x (mem_woS.1 hx).1, fun x hx => hi.ids x (mem_woS.1 hx).1, hi.last0, hi.last1, ?_⟩
      · show (Db.wrS _ _ _).wr + ((woS _ _).length : Nat) ≤ s.last
        have := hi.cw
        rw [e2]
        omega
      · show (woS _ _).length ≤ 1000
        omega
  · exact hi
theorem rdy_head {xs : List Chg} (h0 : 0 < xs.length) : ∀ k, ∃ r, rdy xs xs[0].blk (k + 1) = xs[0].id :: r := by
  intro k
  induction k with
  | zero => exact ⟨[], rdy_yes h0 rfl (by intro n hn; rw [waitK_zero] at hn; simp at hn)⟩
  | succ k ih =>
    obtain ⟨r, hr⟩ := ih
    rw [rdy]
    split
    · exact ⟨r, hr⟩
    · split
      · exact ⟨r ++ [_], by rw [hr]; rfl⟩
      · exact ⟨r, hr⟩
theorem ready_head {xs : List Chg} (hm : mayF 0 xs = true) (h0 : 0 < xs.length) : ∃ r, readyS xs xs[0].blk = xs[0].id :: r := by
  obtain ⟨n, hn⟩ : ∃ n, xs.length = n + 1 := ⟨xs.length - 1, by omega⟩
  obtain ⟨r, hr⟩ := rdy_head h0 n
  exact ⟨r, by unfold readyS; rw [if_pos hm, hn]; exact hr⟩
/-- A write of the first one's block leaves less. -/
theorem fl_less {s : St} (hi : Inv s) {x : Chg} {r : List Chg} (hx : s.xs = x :: r) (hE : flE s x.blk = 0) : (flS s x.blk).xs.length < s.xs.length := by
  have hk : s.K x.blk = true := hi.xk x (by rw [hx]; exact List.mem_cons_self)
  obtain ⟨q, hq⟩ := ready_head hi.may (by rw [hx]; simp)
  have hb : s.xs[0]'(by rw [hx]; simp) = x := by simp [hx]
  rw [hb] at hq
  have hne : readyS s.xs x.blk ≠ [] := by rw [hq]; simp
  have hE0 : Db.wrE s.dv x.blk = 0 := by unfold flE at hE; rw [if_pos ⟨hk, hne⟩] at hE; exact hE
  have hwl := wo_len hi.may x.blk
  unfold flS
  rw [if_pos ⟨hk, hne⟩, if_neg (fun e => e hE0)]
  show (woS _ _).length < _
  rw [hq] at hwl ⊢
  simp at hwl
  omega
/-- Blocks written until a number. -/
def upG : Nat → St → Int → St × Int
  | 0, s, _ => (s, 0)
  | f + 1, s, id => match s.xs with
    | [] => (s, 0)
    | x :: _ => if x.id ≤ id then (if flE s x.blk = 0 then upG f (flS s x.blk) id else (flS s x.blk, flE s x.blk)) else (s, 0)
def upS (s : St) (id : Int) : St := (upG (s.xs.length + 1) s id).1
def upE (s : St) (id : Int) : Int := (upG (s.xs.length + 1) s id).2
theorem upG_inv : ∀ (f : Nat) {s : St} (hi : Inv s) (id : Int), Inv (upG f s id).1
  | 0, s, hi, id => hi
  | f + 1, s, hi, id => by
    unfold upG
    split
    · exact hi
    · split
      · split
        · exact upG_inv f (flS_inv hi _) id
        · exact flS_inv hi _
      · exact hi
/-- More fuel than there are changes changes nothing. -/
theorem upG_more : ∀ (f : Nat) {s : St} (hi : Inv s) (id : Int), s.xs.length ≤ f → upG (f + 1) s id = upG f s id
  | 0, s, hi, id, h => by
    have : s.xs = [] := List.eq_nil_of_length_eq_zero (by omega)
    unfold upG
    rw [this]
  | f + 1, s, hi, id, h => by
    rw [upG, upG]
    cases hx : s.xs with
    | nil => rfl
    | cons x r =>
      dsimp only
      split
      · split
        · rename_i hE
          have := fl_less hi hx hE
          exact upG_more f (flS_inv hi _) id (by omega)
        · rfl
      · rfl
/-- The length of the list that lies in a cache. -/
def lenC (c : Nat) (w : World) : Nat := match w.cell? ⟨c, 2, none⟩ with
  | some (.slice _ n _) => n
  | _ => 0
theorem lenC_of {c : Nat} {w : World} {A : Option Addr} {n m : Nat} (h : w.cell? ⟨c, 2, none⟩ = some (.slice A n m)) : lenC c w = n := by
  unfold lenC; rw [h]
theorem lenC_ca {w : World} {c d g b : Nat} {N : Nat → Prop} {v : Value} {s : St} (h : Ca w c d g b N v s) : lenC c w = s.xs.length := by
  obtain ⟨_, _, c2, _⟩ := h.cells
  obtain ⟨A, n, rfl, _⟩ := h.list
  exact lenC_of c2
set_option maxHeartbeats 4000000 in
set_option maxRecDepth 100000 in
theorem Upto_any (id : Int) (c d g b : Nat) (N : Nat → Prop) (v : Value) (s : St) (w : World) (h : Ca w c d g b N v s) (hi : Inv s) :
    Calls Tryz.prog 43 #[.pointer (some ⟨c, 0, none⟩), .int .i64 id] w fun e w' => ∃ v', e = .returned (.int .i64 (upE s id)) ∧ Ca w' c d g b N v' (upS s id) ∧ Tn N c d g b w w' := by
  have HU : Hid (upG (s.xs.length + 1) s id = (upS s id, upE s id)) := Lib.hid rfl
  generalize upS s id = US at *
  generalize upE s id = UE at *
  have HC := Lib.hid h
  have HI := Lib.hid hi
  clear h hi
  go_enter Tryz.func43, Tryz.ntmps43
  go_wp2
  go_loopw [4] (fun e wr => e = .int .i64 0 ∧ ∃ (v' : Value) (S : St), Ca wr c d g b N v' S ∧ Hid (Inv S) ∧ Tn N c d g b w wr ∧ Hid (upG (S.xs.length + 1) S id = (US, UE))) (fun _ wr => lenC c wr)
  case atStart => exact ⟨rfl, v, s, HC.out, HI, Tn.refl _ _ _ _ _ _, HU⟩
  case round =>
    obtain ⟨rfl, v', S, hc, HIS, ht, hu⟩ := hrel
    obtain ⟨c0, c1, c2, c3⟩ := hc.cells
    obtain ⟨A, n, rfl, hn1, hn2, hn3, hx⟩ := hc.list
    have HC := Lib.hid hc
    have HT := Lib.hid ht
    clear hc ht c0 c1 c3 HU HI
    cases hS : S.xs with
    | nil =>
      have hu2 : upG (S.xs.length + 1) S id = (S, 0) := by unfold upG; rw [hS]
      have HE : Hid (S = US ∧ (0 : Int) = UE) := Lib.hid (by rw [hu2] at hu; have := hu.out; injection this with a b; exact ⟨a, b⟩)
      rw [hS] at c2
      clear hu hu2 hx
      go_wp2
      go_ret
      first | exact ⟨_, by rw [← HE.out.2]; rfl, by rw [← HE.out.1]; exact HC.out, HT.out⟩ | exact ⟨by rw [← HE.out.2]; rfl, ⟨_, by rw [← HE.out.1]; exact HC.out⟩, HT.out⟩
    | cons x r =>
      have hlen : S.xs.length = r.length + 1 := by rw [hS]; rfl
      obtain ⟨gx, ox, rfl, hgx⟩ := ch_form hx (by omega)
      obtain ⟨A1, c1', A2, c2', hat⟩ := ch_at hx 0 (by omega)
      have hx0 : S.xs[0]'(by omega) = x := by simp [hS]
      rw [hx0] at hat
      have e0 : wr.cell? ⟨gx, ox, none⟩ = some (.int .i64 x.id) := by have := hat.v0; rwa [Nat.zero_mul, Nat.add_zero] at this
      have e1 : wr.cell? ⟨gx, ox + 1, none⟩ = some (.int .i64 x.blk) := by have := hat.v1; rwa [Nat.zero_mul, Nat.add_zero] at this
      have hwb := hat.ok.2.1
      rw [hlen] at c2
      have hl9 : r.length + 1 ≤ 9223372036854775807 := by have := hx.2.1; rw [hlen] at this; exact this
      by_cases hid : x.id ≤ id
      · have CF := Lib.hid (Flush_any x.blk hwb c d g b N _ S wr HC.out HIS.out)
        have HL := Lib.hid (lenC_ca HC.out)
        have hu2 : upG (S.xs.length + 1) S id = if flE S x.blk = 0 then upG S.xs.length (flS S x.blk) id else (flS S x.blk, flE S x.blk) := by
          rw [upG, hS]
          dsimp only
          rw [if_pos hid]
        by_cases hE : flE S x.blk = 0
        · have hless := fl_less HIS.out hS hE
          have HU2 : Hid (upG ((flS S x.blk).xs.length + 1) (flS S x.blk) id = (US, UE)) := Lib.hid (by
            have h3 : ∀ k, upG ((flS S x.blk).xs.length + 1 + k) (flS S x.blk) id = upG ((flS S x.blk).xs.length + 1) (flS S x.blk) id := by
              intro k
              clear hu hu2
              induction k with
              | zero => rfl
              | succ k ih => rw [← ih]; exact upG_more ((flS S x.blk).xs.length + 1 + k) (flS_inv HIS.out _) id (by omega)
            rw [← h3 (S.xs.length - ((flS S x.blk).xs.length + 1)), show (flS S x.blk).xs.length + 1 + (S.xs.length - ((flS S x.blk).xs.length + 1)) = S.xs.length from by omega, ← hu.out, hu2, if_pos hE])
          have HI2 := Lib.hid (flS_inv HIS.out x.blk)
          rw [hE] at CF
          have HLESS := Lib.hid hless
          clear hu hu2 hE hat hx hless
          generalize flS S x.blk = S2 at *
          go_wp2_with fail
          refine CF.out.mono ?_
          rintro e w2 ⟨v2, rfl, hc2, ht2⟩
          have HC2 := Lib.hid hc2
          have HT2 := Lib.hid (HT.out.trans ht2)
          have HL2 := Lib.hid (lenC_ca hc2)
          clear hc2 ht2 CF c2 e0 e1
          go_wp2
          go_roundw
          case rel => exact ⟨rfl, v2, S2, HC2.out, HI2, HT2.out, HU2⟩
          case measure => rw [HL.out, HL2.out]; exact HLESS.out
        · have hEb : (flE S x.blk == 0) = false := by rw [beq_eq_false_iff_ne]; exact hE
          have HE2 : Hid (flS S x.blk = US ∧ flE S x.blk = UE) := Lib.hid (by rw [hu2, if_neg hE] at hu; have := hu.out; injection this with a b; exact ⟨a, b⟩)
          clear hu hu2 hE hat hx
          generalize flS S x.blk = S2 at *
          generalize flE S x.blk = E2 at *
          go_wp2_with fail
          refine CF.out.mono ?_
          rintro e w2 ⟨v2, rfl, hc2, ht2⟩
          have HC2 := Lib.hid hc2
          have HT2 := Lib.hid (HT.out.trans ht2)
          clear hc2 ht2 CF c2 e0 e1
          go_wp2
          go_ret
          exact ⟨v2, by rw [← HE2.out.2]; rfl, by rw [← HE2.out.1]; exact HC2.out, HT2.out⟩
      · have hu2 : upG (S.xs.length + 1) S id = (S, 0) := by
          rw [upG, hS]
          dsimp only
          rw [if_neg hid]
        have HE : Hid (S = US ∧ (0 : Int) = UE) := Lib.hid (by rw [hu2] at hu; have := hu.out; injection this with a b; exact ⟨a, b⟩)
        clear hu hu2 hat hx
        go_wp2
        go_ret
        first | exact ⟨_, by rw [← HE.out.2]; rfl, by rw [← HE.out.1]; exact HC.out, HT.out⟩ | exact ⟨by rw [← HE.out.2]; rfl, ⟨_, by rw [← HE.out.1]; exact HC.out⟩, HT.out⟩
theorem Sync_any (c d g b : Nat) (N : Nat → Prop) (v : Value) (s : St) (w : World) (h : Ca w c d g b N v s) (hi : Inv s) :
    Calls Tryz.prog 44 #[.pointer (some ⟨c, 0, none⟩)] w fun e w' => ∃ v', e = .returned (.int .i64 (upE s s.last)) ∧ Ca w' c d g b N v' (upS s s.last) ∧ Tn N c d g b w w' := by
  have CL := Lib.hid (Last_any c d g b N v s w h)
  have CU := Lib.hid (Upto_any s.last c d g b N v s w h hi)
  clear h hi
  generalize s.last = l at *
  go_enter Tryz.func44, Tryz.ntmps44
  go_wp2_with fail
  refine CL.out.mono ?_
  rintro e w2 ⟨rfl, rfl⟩
  go_wp2_with fail
  refine CU.out.mono ?_
  rintro e w3 ⟨v3, rfl, h3, t3⟩
  go_wp2
  go_ret
  exact ⟨v3, rfl, h3, t3⟩
end Go.Proofs.YtbamhiegabeicaaGreat.Cb

