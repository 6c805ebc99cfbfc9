/- What is seen of each block, and what holds behind each step: plain laws. No statement is proved here. -/
import Derived.Test.YtbamhiegabeicaaCs
namespace Go.Proofs.Ytbamhiegabeicaa.Cb
open Go.RowKit Go.Proofs.Ytbamhiegabeicaa.Mem Go.Proofs.Ytbamhiegabeicaa.Open Go.Proofs.Ytbamhiegabeicaa.Kind Go.Proofs.Ytbamhiegabeicaa.Blk Go.Proofs.Ytbamhiegabeicaa.App Go.Proofs.Ytbamhiegabeicaa.Pat Go.Proofs.Ytbamhiegabeicaa.Rd
open Go.Proofs.Ytbamhiegabeicaa.Db (Dv Dev Asd Bks)
set_option linter.unusedVariables false
set_option linter.unusedSimpArgs false
/-- A block as it is seen. -/
def seen (s : St) (i : Int) : List Nat := laidF i (fun _ => true) (s.dv.bs.getD i.toNat zblk) s.xs
theorem seen_len {s : St} (hi : Inv s) (i : Int) : (seen s i).length = 256 := by unfold seen; rw [laidF_len]; exact getD_mem _ _ hi.each
theorem seen_same {s t : St} (h1 : t.dv.bs = s.dv.bs) (h2 : t.xs = s.xs) (i : Int) : seen t i = seen s i := by unfold seen; rw [h1, h2]
theorem seen_pS {s : St} {no pa : Int} {pd : List Nat} {ns : List Int} (h : pE s no pa pd ns = 0) (i : Int) : seen (pS s no pa pd ns) i = if i = no then layL (seen s i) pa pd else seen s i := by
  obtain ⟨_, ⟨l, hl⟩, _⟩ := pE_ok h
  have hS : pS s no pa pd ns = { kS s no with last := s.last + 1, xs := s.xs ++ [⟨s.last + 1, no, pa, pd, (neL s ns).getD []⟩] } := if_pos h
  rw [hS]
  unfold seen
  show laidF i _ ((kS s no).dv.bs.getD _ _) (s.xs ++ [_]) = _
  rw [laidF_app, kS_bs]
  by_cases hq : i = no
  · rw [if_pos hq, if_pos ⟨hq.symm, rfl⟩]; rfl
  · rw [if_neg hq, if_neg (fun e => hq e.1.symm)]
theorem view_laid {xs : List Chg} (h : mayF 0 xs = true) (B : List Nat) (b : Int) : viewF B xs b = laidF b (fun _ => true) B xs := if_pos h
theorem seen_flS {s : St} (hi : Inv s) (no : Int) {i : Int} (h0 : 0 ≤ i) : seen (flS s no) i = seen s i := by
  unfold flS
  split
  · rename_i hq
    split
    · rename_i hE
      obtain ⟨e1, _, _⟩ := wr_bad hE (flB s no)
      exact seen_same (s := s) (t := { s with dv := Db.wrS s.dv no (flB s no) }) e1 rfl i
    · rename_i hE
      have hE0 : Db.wrE s.dv no = 0 := Classical.not_not.1 hE
      obtain ⟨e1, _, _⟩ := wr_good hE0 (flB s no)
      have hr := hi.kn no hq.1
      have hlen := hi.len
      have hm2 := may_wo hi.may (readyS s.xs no)
      show laidF i _ ((Db.wrS s.dv no (flB s no)).bs.getD i.toNat zblk) (woS s.xs (readyS s.xs no)) = laidF i _ (s.dv.bs.getD i.toNat zblk) s.xs
      rw [e1, getD_set (by omega)]
      by_cases hii : i = no
      · subst hii
        rw [if_pos rfl, ← view_laid hm2, ← view_laid hi.may]
        exact keeps_same s.xs i (getD_mem _ _ hi.each)
      · rw [if_neg (by omega), ← view_laid hm2, ← view_laid hi.may]
        exact keeps_other s.xs (fun e => hii e.symm) _
  · rfl
theorem seen_upG : ∀ (f : Nat) {s : St} (hi : Inv s) (id : Int) {i : Int} (h0 : 0 ≤ i), seen (upG f s id).1 i = seen s i
  | 0, s, hi, id, i, h0 => rfl
  | f + 1, s, hi, id, i, h0 => by
    unfold upG
    split
    · rfl
    · split
      · split
        · rw [seen_upG f (flS_inv hi _) id h0, seen_flS hi _ h0]
        · exact seen_flS hi _ h0
      · rfl
theorem seen_goS {s : St} (hi : Inv s) (x : Chg) {i : Int} (h0 : 0 ≤ i) : seen (goS s x) i = if x.id = 0 ∧ goE s x = 0 ∧ i = x.blk then layL (seen s i) x.pa x.pd else seen s i := by
  by_cases q0 : x.id = 0
  · unfold goS goE
    rw [if_pos q0, if_pos q0]
    by_cases hE : pE s x.blk x.pa x.pd x.needs = 0
    · rw [seen_pS hE]
      by_cases hq : i = x.blk
      · rw [if_pos hq, if_pos ⟨q0, hE, hq⟩]
      · rw [if_neg hq, if_neg (fun e => hq e.2.2)]
    · rw [if_neg (fun e => hE e.2.1)]
      unfold pS
      rw [if_neg hE]
  · have hR : (if x.id = 0 ∧ goE s x = 0 ∧ i = x.blk then layL (seen s i) x.pa x.pd else seen s i) = seen s i := if_neg (fun e => q0 e.1)
    rw [hR]
    unfold goS
    rw [if_neg q0]
    split
    · exact seen_flS hi _ h0
    · split
      · exact seen_upG _ hi _ h0
      · split
        · exact seen_upG _ hi _ h0
        · split
          · rfl
          · split
            · rfl
            · rfl
theorem fu_ok {s : Dv} (h : Db.Ok s) {n : Int} (hn : n ≤ 9223372036854775807) : Db.Ok (Db.fuS s n) :=
  ⟨h.1, h.2.1, h.2.2.1, h.2.2.2.1, h.2.2.2.2.1, fun e => by
    have e2 : decide (0 ≤ n) = true := e
    have := of_decide_eq_true e2
    show 0 ≤ max n 0 ∧ max n 0 ≤ _
    omega⟩
theorem dv_inv {s : St} (hi : Inv s) {dv : Dv} (h1 : dv.bs = s.dv.bs) (h2 : dv.wr = s.dv.wr) (h3 : dv.rd = s.dv.rd) (h4 : Db.Ok dv) : Inv { s with dv := dv } :=
  ⟨by show dv.bs.length = 16; rw [h1]; exact hi.len, by show ∀ x ∈ dv.bs, _; rw [h1]; exact hi.each, by show ∀ x ∈ dv.bs, _; rw [h1]; exact hi.byte, h4, by show dv.wr + _ ≤ _; rw [h2]; exact hi.cw, by show dv.rd ≤ _; rw [h3]; exact hi.cr, hi.kn, hi.xk, hi.may, hi.small, hi.data, hi.ids, hi.last0, hi.last1, hi.xl⟩
theorem up_ok {s : Dv} (h : Db.Ok s) : Db.Ok { s with fuse := 0, lit := false, off := false } := ⟨h.1, h.2.1, h.2.2.1, h.2.2.2.1, h.2.2.2.2.1, fun e => by cases e⟩
theorem goS_inv {s : St} (hi : Inv s) {x : Chg} (hb : Bytes x.pd) (hp : x.pd.length ≤ 300) (hn : x.needs.length ≤ 20) (hw : WfI x.blk) (hr : s.dv.rd < 100000) (hL : s.last < 1000) : Inv (goS s x) := by
  unfold goS
  split
  · exact pS_inv hi hb hp (by omega) hr hL
  · split
    · exact flS_inv hi _
    · split
      · exact upG_inv _ hi _
      · split
        · exact upG_inv _ hi _
        · split
          · exact dv_inv hi rfl rfl rfl (fu_ok hi.ok ((wf_iff _).1 hw).2)
          · split
            · exact dv_inv hi rfl rfl rfl (up_ok hi.ok)
            · exact hi
theorem flS_rd (s : St) (no : Int) : (flS s no).dv.rd = s.dv.rd ∧ (flS s no).last = s.last := by
  unfold flS
  split
  · split
    · rename_i hE; exact ⟨(wr_bad hE _).2.2, rfl⟩
    · rename_i hE; exact ⟨(wr_good (Classical.not_not.1 hE) _).2.2, rfl⟩
  · exact ⟨rfl, rfl⟩
theorem upG_rd : ∀ (f : Nat) (s : St) (id : Int), (upG f s id).1.dv.rd = s.dv.rd ∧ (upG f s id).1.last = s.last
  | 0, s, id => ⟨rfl, rfl⟩
  | f + 1, s, id => by
    unfold upG
    split
    · exact ⟨rfl, rfl⟩
    · split
      · split
        · obtain ⟨h1, h2⟩ := upG_rd f (flS s _) id
          exact ⟨h1.trans (flS_rd s _).1, h2.trans (flS_rd s _).2⟩
        · exact flS_rd s _
      · exact ⟨rfl, rfl⟩
theorem pS_rd (s : St) (no pa : Int) (pd : List Nat) (ns : List Int) : (pS s no pa pd ns).dv.rd ≤ s.dv.rd + 1 ∧ (pS s no pa pd ns).last ≤ s.last + 1 := by
  unfold pS
  split
  · exact ⟨(kS_rd s no).1, Int.le_refl _⟩
  · exact ⟨by omega, by omega⟩
theorem goS_rd (s : St) (x : Chg) : (goS s x).dv.rd ≤ s.dv.rd + 1 ∧ (goS s x).last ≤ s.last + 1 := by
  unfold goS
  split
  · exact pS_rd _ _ _ _ _
  · split
    · have := flS_rd s x.blk; omega
    · split
      · have := upG_rd (s.xs.length + 1) s x.blk; unfold upS; omega
      · split
        · have := upG_rd (s.xs.length + 1) s s.last; unfold upS; omega
        · split
          · exact ⟨by show s.dv.rd ≤ _; omega, by show s.last ≤ _; omega⟩
          · split
            · exact ⟨by show s.dv.rd ≤ _; omega, by show s.last ≤ _; omega⟩
            · exact ⟨by omega, by omega⟩
/-- A change that was put: its number, its block. -/
theorem goS_put {s : St} (hi : Inv s) {x : Chg} (h0 : x.id = 0) (hE : goE s x = 0) : 1 ≤ goN s x ∧ 0 ≤ x.blk ∧ x.blk < 16 := by
  unfold goE at hE
  unfold goN
  rw [if_pos h0] at hE ⊢
  obtain ⟨_, _, h3⟩ := pE_ok hE
  have hl := hi.last0
  refine ⟨by unfold pN; rw [if_pos hE]; omega, ?_⟩
  unfold kE at h3
  by_cases hk : s.K x.blk = true
  · exact hi.kn _ hk
  · rw [if_neg hk] at h3
    obtain ⟨_, h4, h5⟩ := may_zero h3
    have := hi.len
    omega
theorem Ca.setCells {w : World} {c d g b : Nat} {N : Nat → Prop} {v : Value} {s : St} (h : Ca w c d g b N v s) {k : Nat} (hk : Far N c d g b k) (o : Nat) (vs : List Value) : Ca (w.setCells k o vs) c d g b N v s :=
  h.keep (fun j _ hj => Db.setCells_heap k vs o w j (fun e => hj (e ▸ hk))) (by rw [Db.setCells_size]; exact Nat.le_refl _)
theorem below_setCells {B k : Nat} {a w : World} (h : Below B a w) (hk : B ≤ k) (o : Nat) (vs : List Value) : Below B a (w.setCells k o vs) :=
  ⟨(Db.setCells_rest k vs o w).1.trans h.os, (Db.setCells_rest k vs o w).2.1.trans h.tape, (Db.setCells_rest k vs o w).2.2.trans h.output, by rw [Db.setCells_size]; exact h.size, fun j hj => (Db.setCells_heap k vs o w j (by omega)).trans (h.block j hj)⟩
theorem Bks.below {w w' : World} {g : Nat} {bs : List (List Nat)} (h : Bks w g bs) (hb : Below w.heap.size w w') : Bks w' g bs := h.keep (hb.block g h.2.2) hb.size
theorem Bks.tn {w w' : World} {c d g b k : Nat} {N : Nat → Prop} {bs : List (List Nat)} (h : Bks w k bs) (ht : Tn N c d g b w w') (hk : Far N c d g b k) : Bks w' k bs := h.keep (ht.block k hk) ht.size
/-- Sixteen blocks of noughts, in one. -/
theorem arrInfo : (Try.prog.info? 43).map (fun i => (i.zero, i.size)) = some (some (.agg (blk (List.replicate 4096 0))), 4096) := by kernel_rfl
theorem arrZero : ∀ w, (zeroValue 43).run Try.prog w = .ok (.agg (blk (List.replicate 4096 0))) w := (zero_of_info arrInfo).1
theorem bks_arr (w : World) (T : TypeId) : Bks (w.alloc (.cells (blk (List.replicate 4096 0)) T)) w.heap.size (List.replicate 16 zblk) := by
  have hh : Row (w.alloc (.cells (blk (List.replicate 4096 0)) T)) w.heap.size T (blk (List.replicate 4096 0)) := Row.new _ _ _
  have hc : ∀ i, i < 4096 → (blk (List.replicate 4096 0))[i]? = some (V8 0) := fun i hi => by
    have h1 : i < (List.replicate 4096 0).length := by rw [List.length_replicate]; exact hi
    rw [blk_get _ _ h1]
    show some (Value.int .u8 (((List.replicate 4096 0)[i]'h1 : Nat) : Int)) = _
    rw [List.getElem_replicate]
    rfl
  refine ⟨fun i x hx => ?_, fun j hj => ?_, hh.lt⟩
  · have hi : i < 16 := by have := (List.getElem?_eq_some_iff.1 hx).1; simpa using this
    obtain rfl : x = zblk := by rw [List.getElem?_replicate, if_pos hi] at hx; injection hx with hx; exact hx.symm
    refine ⟨zblk_length, fun j v hv => ?_⟩
    have hj : j < 256 := by have := (List.getElem?_eq_some_iff.1 hv).1; rwa [Db.full_len zblk_length] at this
    have hv2 : v = V8 0 := by
      have : (blk zblk).toList[j]? = some (V8 0) := by rw [Array.getElem?_toList]; exact Db.zblk_get j hj
      rw [this] at hv
      injection hv with hv
      exact hv.symm
    subst hv2
    exact hh.cell _ (hc _ (by omega))
  · rw [List.length_replicate] at hj
    rw [Nat.zero_add]
    exact ⟨by rw [hh.cell j (hc j (by omega))]; rfl, hh.frozen j⟩
theorem seen_kS (s : St) (no i : Int) : seen (kS s no) i = seen s i := seen_same (kS_bs s no) (kS_xs s no) i
theorem kS_off (s : St) (no : Int) : (kS s no).dv.off = s.dv.off := by unfold kS; split <;> rfl
theorem kE_in {s : St} (hi : Inv s) {i : Nat} (h : i < 16) (ho : s.dv.off = false) : kE s i = 0 := by
  unfold kE
  split
  · rfl
  · unfold Db.mayE
    have := hi.len
    rw [ho, if_neg (by simp), if_neg (by omega)]
theorem gV_seen {s : St} {i : Int} (h : kE s i = 0) : gV s i = seen s i := if_neg (fun e => e h)
/-- The power is on, and stays on. -/
def Lit (s : St) : Prop := s.dv.lit = false ∧ s.dv.off = false
theorem Lit.kS {s : St} (h : Lit s) (no : Int) : Lit (kS s no) := by unfold Cb.kS; split; exact h; exact h
theorem Lit.pS {s : St} (h : Lit s) (no pa : Int) (pd : List Nat) (ns : List Int) : Lit (pS s no pa pd ns) := by
  unfold Cb.pS
  split
  · exact h.kS no
  · exact h
theorem Lit.wrS {s : Dv} (h : s.lit = false ∧ s.off = false) (no : Int) (x : List Nat) : (Db.wrS s no x).lit = false ∧ (Db.wrS s no x).off = false := by
  unfold Db.wrS
  split
  · exact h
  · rw [h.1, if_neg (by simp), if_neg (by simp)]
    exact ⟨rfl, h.2⟩
theorem Lit.flS {s : St} (h : Lit s) (no : Int) : Lit (flS s no) := by
  unfold Cb.flS
  split
  · split
    · exact Lit.wrS h _ _
    · exact Lit.wrS h _ _
  · exact h
theorem Lit.upG : ∀ (f : Nat) {s : St} (h : Lit s) (id : Int), Lit (upG f s id).1
  | 0, s, h, id => h
  | f + 1, s, h, id => by
    unfold Cb.upG
    split
    · exact h
    · split
      · split
        · exact Lit.upG f (h.flS _) id
        · exact h.flS _
      · exact h
theorem Lit.goS {s : St} (h : Lit s) {x : Chg} (hx : x.id ≠ 4) : Lit (goS s x) := by
  unfold Cb.goS
  split
  · exact h.pS _ _ _ _
  · split
    · exact h.flS _
    · split
      · exact Lit.upG _ h _
      · split
        · exact Lit.upG _ h _
        · split
          · exact ⟨rfl, rfl⟩
          · exact h
/-- No write fails. -/
theorem Lit.flE {s : St} (h : Lit s) (hi : Inv s) (no : Int) : flE s no = 0 := by
  unfold Cb.flE
  split
  · rename_i hq
    have hr := hi.kn no hq.1
    have hl := hi.len
    have hm : Db.mayE s.dv no = 0 := by
      unfold Db.mayE
      rw [h.2, if_neg (by simp), if_neg (by omega)]
    unfold Db.wrE
    rw [if_neg (fun e => e hm), h.1, if_neg (by simp)]
  · rfl
theorem Lit.up {f : Nat} : ∀ {s : St} (h : Lit s) (hi : Inv s) (id : Int), s.xs.length < f → (∀ x ∈ s.xs, x.id ≤ id) → (Cb.upG f s id).2 = 0 ∧ (Cb.upG f s id).1.xs = [] := by
  induction f with
  | zero => intro s h hi id hl; omega
  | succ f ih =>
    intro s h hi id hl hx
    unfold Cb.upG
    cases hS : s.xs with
    | nil => exact ⟨rfl, hS⟩
    | cons x r =>
      dsimp only
      have hE := h.flE hi x.blk
      rw [if_pos (hx x (by rw [hS]; exact List.mem_cons_self)), if_pos hE]
      have hless := fl_less hi hS hE
      refine ih (h.flS _) (flS_inv hi _) id (by omega) (fun y hy => hx y ?_)
      unfold Cb.flS at hy
      split at hy
      · split at hy
        · exact hy
        · exact (mem_woS.1 hy).1
      · exact hy
theorem Lit.upS {s : St} (h : Lit s) (hi : Inv s) : upE s s.last = 0 ∧ (upS s s.last).xs = [] := h.up hi s.last (by omega) hi.ids
theorem insG_has (xs : List Int) (y : Int) : y ∈ insG xs y ∧ ∀ x ∈ xs, x ∈ insG xs y := by
  unfold insG
  split
  · rename_i h
    refine ⟨?_, fun x hx => hx⟩
    have hle := cutG_le xs y xs.length
    rw [← h.2, getD_of (by omega)]
    exact List.getElem_mem _
  · refine ⟨by simp, fun x hx => ?_⟩
    rw [← List.take_append_drop (cutG xs y xs.length) xs] at hx
    rcases List.mem_append.1 hx with h | h
    · exact List.mem_append_left _ h
    · exact List.mem_append_right _ (List.mem_cons_of_mem _ h)
theorem neF_all {last : Int} {dn : Int → Bool} : ∀ {ns out l : List Int}, neF last dn ns out = some l → (∀ n ∈ ns, 1 ≤ n ∧ n ≤ last ∧ (n ∈ l ∨ dn n = true)) ∧ ∀ n ∈ out, n ∈ l
  | [], out, l, h => by injection h with h; subst h; exact ⟨fun n hn => (by cases hn), fun n hn => hn⟩
  | n :: r, out, l, h => by
    unfold neF at h
    by_cases h1 : n < 1 ∨ last < n
    · rw [if_pos h1] at h; cases h
    rw [if_neg h1] at h
    by_cases h2 : dn n = true
    · rw [if_pos h2] at h
      obtain ⟨i1, i2⟩ := neF_all h
      refine ⟨fun m hm => ?_, i2⟩
      rcases List.mem_cons.1 hm with rfl | hm
      · exact ⟨by omega, by omega, .inr h2⟩
      · exact i1 m hm
    · rw [if_neg h2] at h
      obtain ⟨i1, i2⟩ := neF_all h
      refine ⟨fun m hm => ?_, fun m hm => i2 m ((insG_has out n).2 m hm)⟩
      rcases List.mem_cons.1 hm with rfl | hm
      · exact ⟨by omega, by omega, .inl (i2 m (insG_has out m).1)⟩
      · exact i1 m hm
end Go.Proofs.Ytbamhiegabeicaa.Cb

