/- Any step, of both devices. No statement is proved here. -/
import Derived.Test.YtechlhmmgabikaaDk16
namespace Go.Proofs.Ytechlhmmgabikaa.Dk
open Go.RowKit Go.Proofs.Ytechlhmmgabikaa.Mem Go.Proofs.Ytechlhmmgabikaa.Open Go.Proofs.Ytechlhmmgabikaa.Kind Go.Proofs.Ytechlhmmgabikaa.Blk Go.Proofs.Ytechlhmmgabikaa.App
set_option linter.unusedVariables false
set_option linter.unusedSimpArgs false
set_option maxHeartbeats 1000000 in
set_option maxRecDepth 100000 in
theorem newref_any (n : Int) (N : Nat) (hN : (n ≤ 16 ∧ N = 16) ∨ (16 < n ∧ n < 512 ∧ n = N) ∨ (512 ≤ n ∧ N = 512)) (w : World) :
    Calls Try.prog 21 #[.int .i64 n] w fun e w' => ∃ g' c', e = .returned (.agg (rC (some ⟨g', 0, none⟩) N c' (-1) false 0 0)) ∧ By w' (some ⟨g', 0, none⟩) (fresh N).bs ∧ Below w.heap.size w w' ∧ w.heap.size ≤ g' := by
  have hbN : 1 * N ≤ 281474976710656 := by omega
  have hN8 : N ≤ 9223372036854775807 := by omega
  have h5 : (n < 16 ∧ N = 16) ∨ (n = 16 ∧ N = 16) ∨ (16 < n ∧ n < 512 ∧ n = (N : Int)) ∨ (n = 512 ∧ N = 512) ∨ (512 < n ∧ N = 512) := by omega
  clear hN
  have R0 := Row.new w 46 #[.slice none 0 0, .int .i64 0, .bool false, .int .i64 0, .int .i64 0]
  have HB0 : Below w.heap.size w (w.alloc (.cells #[.slice none 0 0, .int .i64 0, .bool false, .int .i64 0, .int .i64 0] 46)) := (Below.refl _ _).alloc (Nat.le_refl _) _
  rcases h5 with ⟨h1, rfl⟩ | ⟨rfl, rfl⟩ | ⟨h1, h2, rfl⟩ | ⟨rfl, rfl⟩ | ⟨h1, rfl⟩
  all_goals
    go_enter Try.func21, Try.ntmps21
    go_wp2_with (first
      | (at_make; refine wpList_make rfl 44 _ _ rfl _ 5 V8 0 1 Try.underlying44 u8Info rfl _ rfl rfl hbN hN8 (Nat.le_refl _) ?_; intro w1 hown1 hbel1 hlt1; have r1 := R0.below hbel1; have hb1 := HB0.trans (hbel1.mono HB0.size))
      | (with_reducible refine wpList_storeRow rfl 46 _ _ rfl w.heap.size rfl (rC _ _ _ (-1) false 0 0) rfl #[.slice none 0 0, .int .i64 0, .bool false, .int .i64 0, .int .i64 0] 46 5 rSize rfl rfl (rC_one _ _ _ _ _ _ _) r1 ?_))
    obtain ⟨A5, c5, hv5, _, _, _, hby⟩ := own_byF hown1 (fun x hx => by rw [List.mem_replicate] at hx; omega)
    injection hv5 with e1 e2 e3
    subst e1
    first | refine bodyPost_ret (results_cell_row rfl _ _ w.heap.size 46 _ (0, 0) _ rfl (r1.set _) Try.underlying46 rfl rSize) rfl ⟨w.heap.size + 1, ⟨_, rfl⟩, ?_, below_setRow hb1 (Nat.le_refl _) _, Nat.le_succ _⟩ | refine bodyPost_ret (results_cell_row rfl _ _ w.heap.size 46 _ (0, 0) _ rfl (r1.set _) Try.underlying46 rfl rSize) rfl ⟨w.heap.size + 1, _, rfl, ?_, below_setRow hb1 (Nat.le_refl _) _, Nat.le_succ _⟩
    have hsz : (w.alloc (.cells #[.slice none 0 0, .int .i64 0, .bool false, .int .i64 0, .int .i64 0] 46)).heap.size = w.heap.size + 1 := by simp
    rw [hsz] at hby
    exact (hby.stay fun k hk => by rw [setRow_other _ _ _ _ (by omega)]).mono fun k hk => by simpa using hk.2
/-- A step: the device behind it, the error, what was read. -/
def stS (s : Dv) (x : StD) : Dv := if x.d = 0 then rdS s x.no else if x.d = 1 then wrS s x.no x.b else if x.d = 2 then fuS s x.no else { s with fuse := 0, lit := false, off := false }
def stE (s : Dv) (x : StD) : Int := if x.d = 0 then mayE s x.no else if x.d = 1 then wrE s x.no else 0
def stV (s : Dv) (x : StD) : Nat := if x.d = 0 then rdV s x.no else 0
theorem do_any (d g : Nat) (s : Dv) (x : StD) (w : World) (hd : Dev w d g s) (hs : Ok s) (hx : StOk x) (h0 : 0 ≤ x.d) (h3 : x.d ≤ 3) :
    Calls Try.prog 13 #[.pointer (some ⟨d, 0, none⟩), .agg (stC x.d x.no x.b)] w fun e w' => e = .returned (.tuple #[.agg (blk (full (stV s x))), .int .i64 (stE s x)]) ∧ Dev w' d g (stS s x) ∧ Asd d g w w' := by
  obtain ⟨k, no, b⟩ := x
  simp only at h0 h3
  unfold stS stE stV
  simp only
  have h4 : k = 0 ∨ k = 1 ∨ k = 2 ∨ k = 3 := by omega
  rcases h4 with rfl | rfl | rfl | rfl
  · exact do_read d g s no b w hd hs
  · exact do_write d g s no b w hd hs hx.2.2
  · exact do_fuse d g s no b w hd hs
  · exact do_up d g s no b w hd hs
/-- Numbers that may be counted on, by a bound. -/
def OkM (s : Dv) (m : Nat) : Prop := s.bs.length ≤ 1000 ∧ 0 ≤ s.wr ∧ s.wr ≤ m ∧ 0 ≤ s.rd ∧ s.rd ≤ m ∧ (s.lit = true → 0 ≤ s.fuse ∧ s.fuse ≤ 9223372036854775807)
theorem OkM.ok {s : Dv} {m : Nat} (h : OkM s m) (hm : m ≤ 1000000) : Ok s := ⟨h.1, h.2.1, by have := h.2.2.1; omega, h.2.2.2.1, by have := h.2.2.2.2.1; omega, h.2.2.2.2.2⟩
theorem OkM.more {s : Dv} {m : Nat} (h : OkM s m) : OkM s (m + 1) := ⟨h.1, h.2.1, by have := h.2.2.1; omega, h.2.2.2.1, by have := h.2.2.2.2.1; omega, h.2.2.2.2.2⟩
theorem stV_lt {s : Dv} {x : StD} (h : ∀ b ∈ s.bs, b < 256) : stV s x < 256 := by
  unfold stV rdV
  split
  · split
    · decide
    · rw [List.getD_eq_getElem?_getD]
      cases hq : s.bs[x.no.toNat]? with
      | none => decide
      | some q => exact h q (List.mem_of_getElem? hq)
  · decide
theorem OkM.step {s : Dv} {m : Nat} {x : StD} (h : OkM s m) (hx : StOk x) : OkM (stS s x) (m + 1) ∧ (stS s x).bs.length = s.bs.length := by
  obtain ⟨h1, h2, h3, h4, h5, h6⟩ := h
  have hno : x.no ≤ 9223372036854775807 := by
    have := hx.2.1
    simp [Lit.wf, IntKind.min, IntKind.max, IntKind.signed, IntKind.bits] at this
    omega
  have keep : OkM s (m + 1) := ⟨h1, h2, by omega, h4, by omega, h6⟩
  unfold stS rdS wrS fuS
  split
  · split
    · exact ⟨keep, rfl⟩
    · exact ⟨⟨h1, h2, by simp only []; omega, by simp only []; omega, by simp only []; omega, h6⟩, rfl⟩
  · split
    · split
      · exact ⟨keep, rfl⟩
      · split
        · exact ⟨keep, rfl⟩
        · split
          · rename_i hc hl
            have := h6 hl
            exact ⟨⟨by simp only [List.length_set]; exact h1, by simp only []; omega, by simp only []; omega, h4, by simp only []; omega, fun _ => ⟨by simp only []; have : ¬ s.fuse = 0 := fun e => hc ⟨hl, e⟩; omega, by simp only []; omega⟩⟩, by simp only [List.length_set]⟩
          · exact ⟨⟨by simp only [List.length_set]; exact h1, by simp only []; omega, by simp only []; omega, h4, by simp only []; omega, h6⟩, by simp only [List.length_set]⟩
    · split
      · exact ⟨⟨h1, h2, by simp only []; omega, h4, by simp only []; omega, fun hl => ⟨by simp only []; omega, by simp only []; omega⟩⟩, rfl⟩
      · exact ⟨⟨h1, h2, by simp only []; omega, h4, by simp only []; omega, fun hl => by simp at hl⟩, rfl⟩
/-- The document's fuse. -/
def rfu (s : Dv) : Int := if s.lit then s.fuse else -1
theorem goref_any (s : Dv) (x : StD) (ga c : Nat) (w : World) (hb : By w (some ⟨ga, 0, none⟩) s.bs) (hs : Ok s) (hx : StOk x) (h0 : 0 ≤ x.d) (h3 : x.d ≤ 3) :
    Calls Try.prog 22 #[.agg (rC (some ⟨ga, 0, none⟩) s.bs.length c (rfu s) s.off s.wr s.rd), .agg (stC x.d x.no x.b)] w fun e w' => ∃ g' c', e = .returned (.tuple #[.agg (rC (some ⟨g', 0, none⟩) s.bs.length c' (rfu (stS s x)) (stS s x).off (stS s x).wr (stS s x).rd), .int .u8 (stV s x), .int .i64 (stE s x)]) ∧ By w' (some ⟨g', 0, none⟩) (stS s x).bs ∧ (g' = ga ∨ w.heap.size ≤ g') ∧ Below w.heap.size w w' := by
  obtain ⟨k, no, b⟩ := x
  simp only at h0 h3
  obtain ⟨g1, g2, g3, g4, g5, g6⟩ := hs
  have hbx : b < 256 := hx.2.2
  have refused : ∀ d : Int, (d == 2) = false → (d == 3) = false → mayE s no ≠ 0 → Calls Try.prog 22 #[.agg (rC (some ⟨ga, 0, none⟩) s.bs.length c (rfu s) s.off s.wr s.rd), .agg (stC d no b)] w fun e w' => ∃ g' c', e = .returned (.tuple #[.agg (rC (some ⟨g', 0, none⟩) s.bs.length c' (rfu s) s.off s.wr s.rd), .int .u8 (0 : Nat), .int .i64 (mayE s no)]) ∧ By w' (some ⟨g', 0, none⟩) s.bs ∧ (g' = ga ∨ w.heap.size ≤ g') ∧ Below w.heap.size w w' := by
    intro d h2 h3 hm
    cases ho : s.off with
    | true =>
      have e3 : mayE s no = 12 := by unfold mayE; rw [ho]; rfl
      rw [e3]
      exact (go_off _ s.bs.length c (rfu s) s.wr s.rd no b w d h2 h3).mono fun e w' ⟨h1, h2⟩ => ⟨ga, c, h1, hb.below h2, .inl rfl, h2⟩
    | false =>
      have e3 : mayE s no = if no < 0 ∨ (s.bs.length : Int) ≤ no then 2 else 0 := by unfold mayE; rw [ho]; rfl
      by_cases hn : no < 0
      · rw [e3, if_pos (.inl hn)]
        exact (go_neg _ s.bs.length c (rfu s) s.wr s.rd no b w d h2 h3 hn).mono fun e w' ⟨h1, h2⟩ => ⟨ga, c, h1, hb.below h2, .inl rfl, h2⟩
      · by_cases hf : (s.bs.length : Int) ≤ no
        · rw [e3, if_pos (.inr hf)]
          exact (go_far _ s.bs.length c (rfu s) s.wr s.rd no b w d h2 h3 (by omega) hf).mono fun e w' ⟨h1, h2⟩ => ⟨ga, c, h1, hb.below h2, .inl rfl, h2⟩
        · exact absurd (by rw [e3, if_neg (by omega)]) hm
  have h4 : k = 0 ∨ k = 1 ∨ k = 2 ∨ k = 3 := by omega
  unfold stS stE stV
  simp only
  rcases h4 with rfl | rfl | rfl | rfl
  · show Calls _ _ _ _ fun e w' => ∃ g' c', e = .returned (.tuple #[.agg (rC (some ⟨g', 0, none⟩) s.bs.length c' (rfu (rdS s no)) (rdS s no).off (rdS s no).wr (rdS s no).rd), .int .u8 (rdV s no), .int .i64 (mayE s no)]) ∧ By w' (some ⟨g', 0, none⟩) (rdS s no).bs ∧ (g' = ga ∨ w.heap.size ≤ g') ∧ Below w.heap.size w w'
    by_cases hm : mayE s no ≠ 0
    · have e1 : rdS s no = s := if_pos hm
      have e2 : rdV s no = 0 := if_pos hm
      rw [e1, e2]
      exact refused 0 rfl rfl hm
    · obtain ⟨ho, i, rfl, hi⟩ := may_ok hm
      have e1 : rdS s i = { s with rd := s.rd + 1 } := if_neg hm
      have e2 : rdV s i = s.bs[i] := (if_neg hm).trans (by rw [Int.toNat_natCast, List.getD_eq_getElem?_getD, List.getElem?_eq_getElem hi]; rfl)
      rw [e1, e2, Classical.not_not.1 hm]
      rw [ho]
      exact (go_read (rfu s) s.wr s.rd b w _ c s.bs hb ⟨g4, g5⟩ i hi).mono fun e w' ⟨h1, h2⟩ => ⟨ga, c, by rw [h1]; rfl, hb.below h2, .inl rfl, h2⟩
  · show Calls _ _ _ _ fun e w' => ∃ g' c', e = .returned (.tuple #[.agg (rC (some ⟨g', 0, none⟩) s.bs.length c' (rfu (wrS s no b)) (wrS s no b).off (wrS s no b).wr (wrS s no b).rd), .int .u8 (0 : Nat), .int .i64 (wrE s no)]) ∧ By w' (some ⟨g', 0, none⟩) (wrS s no b).bs ∧ (g' = ga ∨ w.heap.size ≤ g') ∧ Below w.heap.size w w'
    by_cases hm : mayE s no ≠ 0
    · have e1 : wrS s no b = s := if_pos hm
      have e2 : wrE s no = mayE s no := if_pos hm
      rw [e1, e2]
      exact refused 1 rfl rfl hm
    · obtain ⟨ho, i, rfl, hi⟩ := may_ok hm
      by_cases hl : s.lit = true
      · by_cases hz : s.fuse = 0
        · have e1 : wrS s i b = { s with off := true } := (if_neg hm).trans (if_pos ⟨hl, hz⟩)
          have e2 : wrE s i = 12 := (if_neg hm).trans (if_pos ⟨hl, hz⟩)
          have e3 : rfu s = 0 := (if_pos hl).trans hz
          have e4 : rfu { s with off := true } = 0 := e3
          rw [e1, e2, ho, e3, e4]
          exact (go_cut0 _ s.bs.length c s.wr s.rd b w i hi).mono fun e w' ⟨h1, h2⟩ => ⟨ga, c, h1, hb.below h2, .inl rfl, h2⟩
        · have e1 : wrS s i b = { s with bs := s.bs.set i b, fuse := s.fuse - 1, wr := s.wr + 1 } := (if_neg hm).trans ((if_neg fun h => hz h.2).trans (if_pos hl))
          have e2 : wrE s i = 0 := (if_neg hm).trans (if_neg fun h => hz h.2)
          have e3 : rfu s = s.fuse := if_pos hl
          have e4 : rfu { s with bs := s.bs.set i b, fuse := s.fuse - 1, wr := s.wr + 1 } = s.fuse - 1 := if_pos hl
          rw [e1, e2, e4, e3, ho]
          have hf := g6 hl
          exact (go_w2 s.wr s.rd b w _ c s.bs hb (fun h => by cases h) g1 ⟨g2, g3⟩ i hi hbx s.fuse ⟨by omega, hf.2⟩).mono fun e w' ⟨g3, c3, h1, h2, h3, h4⟩ => ⟨_, c3, h1, by simpa only [By, List.length_set] using h2, .inr h4, h3⟩
      · have e1 : wrS s i b = { s with bs := s.bs.set i b, wr := s.wr + 1 } := (if_neg hm).trans ((if_neg fun h => hl h.1).trans (if_neg hl))
        have e2 : wrE s i = 0 := (if_neg hm).trans (if_neg fun h => hl h.1)
        have e3 : rfu s = -1 := if_neg hl
        have e4 : rfu { s with bs := s.bs.set i b, wr := s.wr + 1 } = -1 := if_neg hl
        rw [e1, e2, e4, e3, ho]
        exact (go_w1 s.wr s.rd b w _ c s.bs hb (fun h => by cases h) g1 ⟨g2, g3⟩ i hi hbx).mono fun e w' ⟨g3, c3, h1, h2, h3, h4⟩ => ⟨_, c3, h1, by simpa only [By, List.length_set] using h2, .inr h4, h3⟩
  · show Calls _ _ _ _ fun e w' => ∃ g' c', e = .returned (.tuple #[.agg (rC (some ⟨g', 0, none⟩) s.bs.length c' (rfu (fuS s no)) s.off s.wr s.rd), .int .u8 (0 : Nat), .int .i64 0]) ∧ By w' (some ⟨g', 0, none⟩) s.bs ∧ (g' = ga ∨ w.heap.size ≤ g') ∧ Below w.heap.size w w'
    by_cases hn : no < 0
    · have e4 : rfu (fuS s no) = -1 := if_neg (by unfold fuS; simp; omega)
      rw [e4]
      exact (go_2n _ s.bs.length c (rfu s) s.off s.wr s.rd no b w hn).mono fun e w' ⟨h1, h2⟩ => ⟨ga, c, h1, hb.below h2, .inl rfl, h2⟩
    · have e4 : rfu (fuS s no) = no := (if_pos (by unfold fuS; simp; omega)).trans (by unfold fuS; simp; omega)
      rw [e4]
      exact (go_2p _ s.bs.length c (rfu s) s.off s.wr s.rd no b w (by omega)).mono fun e w' ⟨h1, h2⟩ => ⟨ga, c, h1, hb.below h2, .inl rfl, h2⟩
  · show Calls _ _ _ _ fun e w' => ∃ g' c', e = .returned (.tuple #[.agg (rC (some ⟨g', 0, none⟩) s.bs.length c' (-1) false s.wr s.rd), .int .u8 (0 : Nat), .int .i64 0]) ∧ By w' (some ⟨g', 0, none⟩) s.bs ∧ (g' = ga ∨ w.heap.size ≤ g') ∧ Below w.heap.size w w'
    exact (go_3 _ s.bs.length c (rfu s) s.off s.wr s.rd no b w).mono fun e w' ⟨h1, h2⟩ => ⟨ga, c, h1, hb.below h2, .inl rfl, h2⟩
end Go.Proofs.Ytechlhmmgabikaa.Dk
