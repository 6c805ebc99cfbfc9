/- What is seen of each block, and what holds behind each step: plain laws. No statement is proved here. -/
import Derived.Test.YtbamhiegabeicaaGreatCs
namespace Go.Proofs.YtbamhiegabeicaaGreat.Cb
open Go.RowKit Go.Proofs.YtbamhiegabeicaaGreat.Mem Go.Proofs.YtbamhiegabeicaaGreat.Open Go.Proofs.YtbamhiegabeicaaGreat.Kind Go.Proofs.YtbamhiegabeicaaGreat.Blk Go.Proofs.YtbamhiegabeicaaGreat.App Go.Proofs.YtbamhiegabeicaaGreat.Pat Go.Proofs.YtbamhiegabeicaaGreat.Rd
open Go.Proofs.YtbamhiegabeicaaGreat.Db (Dv Dev Asd Bks)
set_option linter.unusedVariables false
set_option linter.unusedSimpArgs false
/-- A block as it is seen. -/
def seen (s : St) (i : Int) : List Nat := laidF i (fun _ => true) (s.dv.bs.getD i.toNat zblk) s.xs
theorem fu_ok {s : Dv} (h : Db.Ok s) {n : Int} (hn : n ≤ 9223372036854775807) : Db.Ok (Db.fuS s n) :=
  ⟨h.1, h.2.1, h.2.2.1, h.2.2.2.1, h.2.2.2.2.1, fun e => by
    have e2 : decide (0 ≤ n) = true := e
    have := of_decide_eq_true e2
    show 0 ≤ max n 0 ∧ max n 0 ≤ _
    omega⟩
theorem dv_inv {s : St} (hi : Inv s) {dv : Dv} (h1 : dv.bs = s.dv.bs) (h2 : dv.wr = s.dv.wr) (h3 : dv.rd = s.dv.rd) (h4 : Db.Ok dv) : Inv { s with dv := dv } :=
  ⟨by show dv.bs.length = 16; rw [h1]; exact hi.len, by show ∀ x ∈ dv.bs, _; rw [h1]; exact hi.each, by show ∀ x ∈ dv.bs, _; rw [h1]; exact hi.byte, h4, by show dv.wr + _ ≤ _; rw [h2]; exact hi.cw, by show dv.rd ≤ _; rw [h3]; exact hi.cr, hi.kn, hi.xk, hi.may, hi.small, hi.data, hi.ids, hi.last0, hi.last1, hi.xl⟩
theorem up_ok {s : Dv} (h : Db.Ok s) : Db.Ok { s with fuse := 0, lit := false, off := false } := ⟨h.1, h.2.1, h.2.2.1, h.2.2.2.1, h.2.2.2.2.1, fun e => by cases e⟩
theorem goS_inv {s : St} (hi : Inv s) {x : Chg} (hb : Bytes x.pd) (hp : x.pd.length ≤ 300) (hn : x.needs.length ≤ 20) (hw : WfI x.blk) (hr : s.dv.rd < 100000) (hL : s.last < 1000) : Inv (goS s x) := by
  unfold goS
  split
  · exact pS_inv hi hb hp (by omega) hr hL
  · split
    · exact flS_inv hi _
    · split
      · exact upG_inv _ hi _
      · split
        · exact upG_inv _ hi _
        · split
          · exact dv_inv hi rfl rfl rfl (fu_ok hi.ok ((wf_iff _).1 hw).2)
          · split
            · exact dv_inv hi rfl rfl rfl (up_ok hi.ok)
            · exact hi
theorem flS_rd (s : St) (no : Int) : (flS s no).dv.rd = s.dv.rd ∧ (flS s no).last = s.last := by
  unfold flS
  split
  · split
    · rename_i hE; exact ⟨(wr_bad hE _).2.2, rfl⟩
    · rename_i hE; exact ⟨(wr_good (Classical.not_not.1 hE) _).2.2, rfl⟩
  · exact ⟨rfl, rfl⟩
theorem upG_rd : ∀ (f : Nat) (s : St) (id : Int), (upG f s id).1.dv.rd = s.dv.rd ∧ (upG f s id).1.last = s.last
  | 0, s, id => ⟨rfl, rfl⟩
  | f + 1, s, id => by
    unfold upG
    split
    · exact ⟨rfl, rfl⟩
    · split
      · split
        · obtain ⟨h1, h2⟩ := upG_rd f (flS s _) id
          exact ⟨h1.trans (flS_rd s _).1, h2.trans (flS_rd s _).2⟩
        · exact flS_rd s _
      · exact ⟨rfl, rfl⟩
theorem pS_rd (s : St) (no pa : Int) (pd : List Nat) (ns : List Int) : (pS s no pa pd ns).dv.rd ≤ s.dv.rd + 1 ∧ (pS s no pa pd ns).last ≤ s.last + 1 := by
  unfold pS
  split
  · exact ⟨(kS_rd s no).1, Int.le_refl _⟩
  · exact ⟨by omega, by omega⟩
theorem goS_rd (s : St) (x : Chg) : (goS s x).dv.rd ≤ s.dv.rd + 1 ∧ (goS s x).last ≤ s.last + 1 := by
  unfold goS
  split
  · exact pS_rd _ _ _ _ _
  · split
    · have := flS_rd s x.blk; omega
    · split
      · have := upG_rd (s.xs.length + 1) s x.blk; unfold upS; omega
      · split
        · have := upG_rd (s.xs.length + 1) s s.last; unfold upS; omega
        · split
          · exact ⟨by show s.dv.rd ≤ _; omega, by show s.last ≤ _; omega⟩
          · split
            · exact ⟨by show s.dv.rd ≤ _; omega, by show s.last ≤ _; omega⟩
            · exact ⟨by omega, by omega⟩
theorem Ca.setCells {w : World} {c d g b : Nat} {N : Nat → Prop} {v : Value} {s : St} (h : Ca w c d g b N v s) {k : Nat} (hk : Far N c d g b k) (o : Nat) (vs : List Value) : Ca (w.setCells k o vs) c d g b N v s :=
  h.keep (fun j _ hj => Db.setCells_heap k vs o w j (fun e => hj (e ▸ hk))) (by rw [Db.setCells_size]; exact Nat.le_refl _)
theorem Bks.below {w w' : World} {g : Nat} {bs : List (List Nat)} (h : Bks w g bs) (hb : Below w.heap.size w w') : Bks w' g bs := h.keep (hb.block g h.2.2) hb.size
theorem Bks.tn {w w' : World} {c d g b k : Nat} {N : Nat → Prop} {bs : List (List Nat)} (h : Bks w k bs) (ht : Tn N c d g b w w') (hk : Far N c d g b k) : Bks w' k bs := h.keep (ht.block k hk) ht.size
/-- The power is on, and stays on. -/
def Lit (s : St) : Prop := s.dv.lit = false ∧ s.dv.off = false
theorem Lit.kS {s : St} (h : Lit s) (no : Int) : Lit (kS s no) := by unfold Cb.kS; split; exact h; exact h
theorem Lit.pS {s : St} (h : Lit s) (no pa : Int) (pd : List Nat) (ns : List Int) : Lit (pS s no pa pd ns) := by
  unfold Cb.pS
  split
  · exact h.kS no
  · exact h
theorem Lit.wrS {s : Dv} (h : s.lit = false ∧ s.off = false) (no : Int) (x : List Nat) : (Db.wrS s no x).lit = false ∧ (Db.wrS s no x).off = false := by
  unfold Db.wrS
  split
  · exact h
  · rw [h.1, if_neg (by simp), if_neg (by simp)]
    exact ⟨rfl, h.2⟩
theorem Lit.flS {s : St} (h : Lit s) (no : Int) : Lit (flS s no) := by
  unfold Cb.flS
  split
  · split
    · exact Lit.wrS h _ _
    · exact Lit.wrS h _ _
  · exact h
theorem Lit.upG : ∀ (f : Nat) {s : St} (h : Lit s) (id : Int), Lit (upG f s id).1
  | 0, s, h, id => h
  | f + 1, s, h, id => by
    unfold Cb.upG
    split
    · exact h
    · split
      · split
        · exact Lit.upG f (h.flS _) id
        · exact h.flS _
      · exact h
theorem Lit.goS {s : St} (h : Lit s) {x : Chg} (hx : x.id ≠ 4) : Lit (goS s x) := by
  unfold Cb.goS
  split
  · exact h.pS _ _ _ _
  · split
    · exact h.flS _
    · split
      · exact Lit.upG _ h _
      · split
        · exact Lit.upG _ h _
        · split
          · exact ⟨rfl, rfl⟩
          · exact h
/-- No write fails. -/
theorem Lit.flE {s : St} (h : Lit s) (hi : Inv s) (no : Int) : flE s no = 0 := by
  unfold Cb.flE
  split
  · rename_i hq
    have hr := hi.kn no hq.1
    have hl := hi.len
    have hm : Db.mayE s.dv no = 0 := by
      unfold Db.mayE
      rw [h.2, if_neg (by simp), if_neg (by omega)]
    unfold Db.wrE
    rw [if_neg (fun e => e hm), h.1, if_neg (by simp)]
  · rfl
theorem Lit.up {f : Nat} : ∀ {s : St} (h : Lit s) (hi : Inv s) (id : Int), s.xs.length < f → (∀ x ∈ s.xs, x.id ≤ id) → (Cb.upG f s id).2 = 0 ∧ (Cb.upG f s id).1.xs = [] := by
  induction f with
  | zero => intro s h hi id hl; omega
  | succ f ih =>
    intro s h hi id hl hx
    unfold Cb.upG
    cases hS : s.xs with
    | nil => exact ⟨rfl, hS⟩
    | cons x r =>
      dsimp only
      have hE := h.flE hi x.blk
      rw [if_pos (hx x (by rw [hS]; exact List.mem_cons_self)), if_pos hE]
      have hless := fl_less hi hS hE
      refine ih (h.flS _) (flS_inv hi _) id (by omega) (fun y hy => hx y ?_)
      unfold Cb.flS at hy
      split at hy
      · split at hy
        · exact hy
        · exact (mem_woS.1 hy).1
      · exact hy
theorem Lit.upS {s : St} (h : Lit s) (hi : Inv s) : upE s s.last = 0 ∧ (upS s s.last).xs = [] := h.up hi s.last (by omega) hi.ids
theorem insG_has (xs : List Int) (y : Int) : y ∈ insG xs y ∧ ∀ x ∈ xs, x ∈ insG xs y := by
  unfold insG
  split
  · rename_i h
    refine ⟨?_, fun x hx => hx⟩
    have hle := cutG_le xs y xs.length
    rw [← h.2, getD_of (by omega)]
    exact List.getElem_mem _
  · refine ⟨by simp, fun x hx => ?_⟩
    rw [← List.take_append_drop (cutG xs y xs.length) xs] at hx
    rcases List.mem_append.1 hx with h | h
    · exact List.mem_append_left _ h
    · exact List.mem_append_right _ (List.mem_cons_of_mem _ h)
theorem neF_all {last : Int} {dn : Int → Bool} : ∀ {ns out l : List Int}, neF last dn ns out = some l → (∀ n ∈ ns, 1 ≤ n ∧ n ≤ last ∧ (n ∈ l ∨ dn n = true)) ∧ ∀ n ∈ out, n ∈ l
  | [], out, l, h => by injection h with h; subst h; exact ⟨fun n hn => (by cases hn), fun n hn => hn⟩
  | n :: r, out, l, h => by
    unfold neF at h
    by_cases h1 : n < 1 ∨ last < n
    · rw [if_pos h1] at h; cases h
    rw [if_neg h1] at h
    by_cases h2 : dn n = true
    · rw [if_pos h2] at h
      obtain ⟨i1, i2⟩ := neF_all h
      refine ⟨fun m hm => ?_, i2⟩
      rcases List.mem_cons.1 hm with rfl | hm
      · exact ⟨by omega, by omega, .inr h2⟩
      · exact i1 m hm
    · rw [if_neg h2] at h
      obtain ⟨i1, i2⟩ := neF_all h
      refine ⟨fun m hm => ?_, fun m hm => i2 m ((insG_has out n).2 m hm)⟩
      rcases List.mem_cons.1 hm with rfl | hm
      · exact ⟨by omega, by omega, .inl (i2 m (insG_has out m).1)⟩
      · exact i1 m hm
end Go.Proofs.YtbamhiegabeicaaGreat.Cb

