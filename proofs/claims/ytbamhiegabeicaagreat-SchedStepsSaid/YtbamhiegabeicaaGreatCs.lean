/- Laws and contracts of several chapters, laid in one text. No statement is proved here. -/
import Derived.Test.YtbamhiegabeicaaGreatCi
/- The example of chapter 12; caches that are nil. No statement is proved here. -/
namespace Go.Proofs.YtbamhiegabeicaaGreat.Cb
open Go.RowKit Go.Proofs.YtbamhiegabeicaaGreat.Mem Go.Proofs.YtbamhiegabeicaaGreat.Open Go.Proofs.YtbamhiegabeicaaGreat.Kind Go.Proofs.YtbamhiegabeicaaGreat.Blk Go.Proofs.YtbamhiegabeicaaGreat.App Go.Proofs.YtbamhiegabeicaaGreat.Pat Go.Proofs.YtbamhiegabeicaaGreat.Rd
open Go.Proofs.YtbamhiegabeicaaGreat.Db (Dv Dev Asd)
set_option linter.unusedVariables false
set_option linter.unusedSimpArgs false
def t0 : St := newS (Db.fresh 16)
def t1 : St := pS t0 3 0 [9] []
def t2 : St := pS t1 4 0 [9] [1]
def t3 : St := flS t2 4
def t4 : St := { t3 with dv := { t3.dv with rd := t3.dv.rd + 1 } }
def t5 : St := flS t4 3
def t6 : St := flS t5 4
def t7 : St := { t6 with dv := { t6.dv with rd := t6.dv.rd + 1 } }
theorem t1_n : pN t0 3 0 [9] [] = 1 := by kernel_rfl
theorem t1_e : pE t0 3 0 [9] [] = 0 := by kernel_rfl
theorem t2_n : pN t1 4 0 [9] [1] = 2 := by kernel_rfl
theorem t2_e : pE t1 4 0 [9] [1] = 0 := by kernel_rfl
theorem i0 : Inv t0 := newS_inv
theorem by9 : Bytes [9] := by unfold Bytes; intro x hx; simp at hx; omega
theorem i1 : Inv t1 := pS_inv i0 by9 (by simp) (by simp) (by have : t0.dv.rd = 0 := (by kernel_rfl); omega) (by have : t0.last = 0 := (by kernel_rfl); omega)
theorem i2 : Inv t2 := pS_inv i1 by9 (by simp) (by simp) (by have : t1.dv.rd = 1 := (by kernel_rfl); omega) (by have : t1.last = 1 := (by kernel_rfl); omega)
theorem i3 : Inv t3 := flS_inv i2 4
/-- A row of bytes, in blocks of a set. -/
theorem rw_at {α : Type} {k : Kd α} (hf : Flat k) {w : World} {S : Nat → Prop} {g o n : Nat} {xs : List α} (h : Rw k w (All w) (some ⟨g, o, none⟩) n xs) (hS : S g) : Rw k w S (some ⟨g, o, none⟩) n xs := by
  obtain ⟨h1, h2, h3⟩ := h
  refine ⟨h1, h2, ?_⟩
  rcases h3 with h0 | ⟨g', o', e, _, hlt, hc⟩
  · exact .inl h0
  · injection e with e
    injection e with e1 e2
    subst e1 e2
    exact .inr ⟨g, o, rfl, hS, hlt, fun i x hx => by obtain ⟨cs, c1, c2⟩ := hc i x hx; exact ⟨cs, hf _ _ _ _ x cs c1, c2⟩⟩
/-! ### caches that are nil -/
/-- Put, on a patch that lies in a row. -/
theorem Put_row (no : Int) (hno : WfI no) (k : Nat) (pd : List Nat) (hb : Bytes pd) (hpl : pd.length ≤ 300) (A2 : Option Addr) (cn : Nat) (ns : List Int) (c d g b : Nat) (N : Nat → Prop) (v : Value) (s : St) (w : World) (h : Ca w c d g b N v s) (hi : Inv s)
    (hr : Row w k 5 (blk pd)) (hk : Far N c d g b k) (hn : Is w A2 ns) (hl : ns.length ≤ 60) :
    Calls Tryz.prog 13 #[.pointer (some ⟨c, 0, none⟩), .int .i64 no, .agg #[.int .i64 0, .slice (some ⟨k, 0, none⟩) pd.length pd.length], .slice A2 ns.length cn] w fun e w' => ∃ v', e = .returned (.tuple #[.int .i64 (pN s no 0 pd ns), .int .i64 (pE s no 0 pd ns)]) ∧ Ca w' c d g b N v' (pS s no 0 pd ns) ∧ Tn N c d g b w w' :=
  Put_any no hno 0 rfl _ _ pd A2 cn ns c d g b N v s w h hi (rw_at flat_byte (by_row hr hb (by unfold M63; omega)) ⟨h.lt k hk.n, hk.c, hk.d, hk.g, hk.b⟩) (fun e => by cases e) hpl hn hl
end Go.Proofs.YtbamhiegabeicaaGreat.Cb

/- Steps of a script, as they are read; the contracts of Much and Go of chapter 12. No statement is proved here. -/
namespace Go.Proofs.YtbamhiegabeicaaGreat.Cb
open Go.RowKit Go.Proofs.YtbamhiegabeicaaGreat.Mem Go.Proofs.YtbamhiegabeicaaGreat.Open Go.Proofs.YtbamhiegabeicaaGreat.Kind Go.Proofs.YtbamhiegabeicaaGreat.Blk Go.Proofs.YtbamhiegabeicaaGreat.App Go.Proofs.YtbamhiegabeicaaGreat.Pat Go.Proofs.YtbamhiegabeicaaGreat.Rd
open Go.Proofs.YtbamhiegabeicaaGreat.Db (Dv Dev Asd)
set_option linter.unusedVariables false
set_option linter.unusedSimpArgs false
theorem chs_bytes {w : World} {A : Option Addr} {xs : List Chg} (h : Chs w A xs) : ∀ x ∈ xs, Bytes x.pd := by
  intro x hx
  obtain ⟨i, hi, rfl⟩ := List.mem_iff_getElem.1 hx
  obtain ⟨g, o, rfl, hg⟩ := ch_form h (by omega)
  obtain ⟨A1, c1, A2, c2, hat⟩ := ch_at h i hi
  exact hat.p.2.2.2.lt_byte
/-- More than is gone through? -/
def bigT (x : Chg) : Bool := decide (300 < x.pd.length) || decide (20 < x.needs.length)
def muchT (xs : List Chg) (m : Nat) : Bool := decide (m < xs.length) || xs.any bigT
theorem muchT_no {xs : List Chg} {m : Nat} (h : muchT xs m = false) : xs.length ≤ m ∧ ∀ x ∈ xs, x.pd.length ≤ 300 ∧ x.needs.length ≤ 20 := by
  unfold muchT at h
  rw [Bool.or_eq_false_iff, decide_eq_false_iff_not, List.any_eq_false] at h
  refine ⟨by omega, fun x hx => ?_⟩
  have := h.2 x hx
  unfold bigT at this
  simp at this
  omega
set_option maxHeartbeats 1000000 in
theorem muchT_any (A : Option Addr) (c : Nat) (xs : List Chg) (m : Nat) (w : World) (hx : Chs w A xs) (hm : m ≤ 1000) :
    Calls Tryz.prog 4 #[.slice A xs.length c, .int .i64 (m : Int)] w fun r w' => r = .returned (.bool (muchT xs m)) ∧ Below w.heap.size w w' := by
  have hl := hx.2.1
  unfold M63 at hl
  go_enter Tryz.func4, Tryz.ntmps4
  by_cases h20 : m < xs.length
  · have HV : Hid (muchT xs m = true) := by show _ = _; unfold muchT; rw [decide_eq_true h20]; rfl
    go_wp2
    go_ret
    exact ⟨ret_bool HV.out.symm, Below.refl _ _⟩
  have hm0 : muchT xs m = xs.any bigT := by unfold muchT; rw [decide_eq_false h20]; rfl
  rw [hm0]
  clear hm0
  go_wp2
  go_loopw [5] (fun i wr => ∃ (k : Nat), k ≤ xs.length ∧ i = .int .i64 k ∧ Hid (xs.any bigT = (xs.drop k).any bigT) ∧ Below w.heap.size w wr) (fun i _ => xs.length - (intOf i).toNat)
  case atStart => exact ⟨0, by omega, rfl, Lib.hid rfl, Below.refl _ _⟩
  case round =>
    obtain ⟨k, hk, rfl, hv, hbr⟩ := hrel
    by_cases hlt : k < xs.length
    · obtain ⟨g, o, rfl, hg⟩ := ch_form hx (by omega)
      obtain ⟨A1, c1, A2, c2, hat0⟩ := ch_at hx k hlt
      have hc3 := (hbr.cell (p := ⟨g, o + k * 5 + 2 + 1, none⟩) hg).trans hat0.v3
      have hc4 := (hbr.cell (p := ⟨g, o + k * 5 + 4, none⟩) hg).trans hat0.v4
      have l1 : xs[k].pd.length ≤ 9223372036854775807 := hat0.p.2.2.2.2.1
      have l2 : xs[k].needs.length ≤ 9223372036854775807 := hat0.n.2.2.2.2.1
      have hv := hv.out
      rw [drop_at hlt, List.any_cons] at hv
      clear hat0
      generalize xs[k] = x at *
      by_cases h1 : 300 < x.pd.length
      · have HV : Hid (xs.any bigT = true) := Lib.hid (hv.trans (by unfold bigT; rw [decide_eq_true h1]; rfl))
        clear hv
        go_wp2
        go_ret
        exact ⟨ret_bool HV.out.symm, hbr⟩
      by_cases h2 : 20 < x.needs.length
      · have HV : Hid (xs.any bigT = true) := Lib.hid (hv.trans (by unfold bigT; rw [decide_eq_true h2, Bool.or_true]; rfl))
        clear hv
        go_wp2
        go_ret
        exact ⟨ret_bool HV.out.symm, hbr⟩
      · have HV : Hid (xs.any bigT = (xs.drop (k + 1)).any bigT) := Lib.hid (hv.trans (by unfold bigT; rw [decide_eq_false h1, decide_eq_false h2]; rfl))
        clear hv
        go_wp2
        go_roundw
        case rel => exact ⟨k + 1, by omega, by go_num, HV, hbr⟩
        case measure => simp [intOf]; omega
    · obtain rfl : k = xs.length := by omega
      have hv := hv.out
      rw [drop_end] at hv
      have HV : Hid (xs.any bigT = false) := Lib.hid hv
      clear hv
      go_wp2
      go_ret
      exact ⟨ret_bool HV.out.symm, hbr⟩
/-- A step: the cache behind it, the number, the error. -/
def goS (s : St) (x : Chg) : St :=
  if x.id = 0 then pS s x.blk x.pa x.pd x.needs else if x.id = 1 then flS s x.blk else if x.id = 2 then upS s x.blk else if x.id = 3 then upS s s.last
  else if x.id = 4 then { s with dv := Db.fuS s.dv x.blk } else if x.id = 5 then { s with dv := { s.dv with fuse := 0, lit := false, off := false } } else s
def goN (s : St) (x : Chg) : Int := if x.id = 0 then pN s x.blk x.pa x.pd x.needs else 0
def goE (s : St) (x : Chg) : Int :=
  if x.id = 0 then pE s x.blk x.pa x.pd x.needs else if x.id = 1 then flE s x.blk else if x.id = 2 then upE s x.blk else if x.id = 3 then upE s s.last else 0
theorem Tn.newer {w w' w'' : World} {c d g b : Nat} {N : Nat → Prop} (h : Tn N c d g b w w') (hb : Below w'.heap.size w' w'') (hl : ∀ j, N j → j < w.heap.size) : Tn N c d g b w w'' :=
  h.trans ⟨hb.os, hb.tape, hb.output, hb.size, fun k hk => hb.block k (Nat.lt_of_lt_of_le (hl k hk.n) h.size)⟩
set_option maxHeartbeats 4000000 in
set_option maxRecDepth 100000 in
theorem Go_any (x : Chg) (A : Option Addr) (cp : Nat) (A2 : Option Addr) (cn : Nat) (c d g b : Nat) (N : Nat → Prop) (v : Value) (s : St) (w : World) (h : Ca w c d g b N v s) (hi : Inv s) (hx : ChS w x A cp A2 cn) (hp : x.pd.length ≤ 300) (hn : x.needs.length ≤ 20) :
    Calls Tryz.prog 17 #[.pointer (some ⟨c, 0, none⟩), .pointer (some ⟨d, 0, none⟩), .agg (chC x A cp A2 cn)] w fun e w' => ∃ v', e = .returned (.tuple #[.int .i64 (goN s x), .int .i64 (goE s x)]) ∧ Ca w' c d g b N v' (goS s x) ∧ Tn N c d g b w w' := by
  have b0 : Below w.heap.size w (w.alloc (.cells (chC x A cp A2 cn) 49)) := bb0 _ _
  have RP : Row (w.alloc (.cells (chC x A cp A2 cn) 49)) w.heap.size 49 (chC x A cp A2 cn) := Row.new _ _ _
  have HH := Lib.hid h
  have hc1 := h.grow b0
  have HT1 := Lib.hid (h.tn b0)
  have HX1 := Lib.hid (hx.below b0)
  have HI := Lib.hid hi
  obtain ⟨w1, hw1⟩ : ∃ w1, w1 = w.alloc (.cells (chC x A cp A2 cn) 49) := ⟨_, rfl⟩
  obtain ⟨N1, hN1⟩ : ∃ N1 : Nat → Prop, N1 = fun j => N j ∨ (w.heap.size ≤ j ∧ j < (w.alloc (.cells (chC x A cp A2 cn) 49)).heap.size) := ⟨_, rfl⟩
  rw [← hN1] at hc1
  have hsub : ∀ j, N j → N1 j := fun j hj => by rw [hN1]; exact .inl hj
  have FB : Far N1 c d g b w.heap.size := ⟨by rw [hN1]; exact .inr ⟨Nat.le_refl _, by simp⟩, by have := h.row.lt; omega, by have := h.dev.1.lt; omega, by have := h.dev.2.1.2.2; omega, by have := h.map.lt; omega⟩
  rw [← hw1] at hc1 RP HT1 HX1
  have HC1 := Lib.hid hc1
  have HW1 := Lib.hid hw1
  have k0 : w1.cell? ⟨w.heap.size, 0, none⟩ = some (.int .i64 x.id) := RP.cell 0 rfl
  have k1 : w1.cell? ⟨w.heap.size, 1, none⟩ = some (.int .i64 x.blk) := RP.cell 1 rfl
  have hno := hx.ok.2.1
  have HS : Hid (goS s x = if x.id = 0 then pS s x.blk x.pa x.pd x.needs else if x.id = 1 then flS s x.blk else if x.id = 2 then upS s x.blk else if x.id = 3 then upS s s.last else if x.id = 4 then { s with dv := Db.fuS s.dv x.blk } else if x.id = 5 then { s with dv := { s.dv with fuse := 0, lit := false, off := false } } else s) := Lib.hid rfl
  have HE : Hid (goE s x = if x.id = 0 then pE s x.blk x.pa x.pd x.needs else if x.id = 1 then flE s x.blk else if x.id = 2 then upE s x.blk else if x.id = 3 then upE s s.last else 0) := Lib.hid rfl
  have HN : Hid (goN s x = if x.id = 0 then pN s x.blk x.pa x.pd x.needs else 0) := Lib.hid rfl
  generalize goS s x = S2 at *
  generalize goE s x = E2 at *
  generalize goN s x = N2 at *
  have HP := Lib.hid hp
  have HNL := Lib.hid hn
  clear h hi hx hc1 hN1 hw1 b0 hp hn
  by_cases q0 : x.id = 0
  · have HS2 : Hid (S2 = pS s x.blk x.pa x.pd x.needs) := Lib.hid (HS.out.trans (if_pos q0))
    have HE2 : Hid (E2 = pE s x.blk x.pa x.pd x.needs) := Lib.hid (HE.out.trans (if_pos q0))
    have HN2 : Hid (N2 = pN s x.blk x.pa x.pd x.needs) := Lib.hid (HN.out.trans (if_pos q0))
    have b0 : (x.id == 0) = true := by rw [q0]; rfl
    have hLTN : ∀ j, N1 j → j < w1.drew.heap.size := HC1.out.lt
    have RPd := RP.drew
    have HC1D := Lib.hid (HC1.out.below (Below.refl _ _).drew)
    have HX1D := Lib.hid (HX1.out.below (Below.refl _ _).drew)
    have HTD := Lib.hid (HT1.out.trans ((HC1.out.weak hsub HH.out.Nc HH.out.Nd HH.out.Ng HH.out.Nb).tn (Below.refl _ _).drew))
    clear q0 HS HE HN k1 RP
    go_enter Tryz.func17, Tryz.ntmps17
    go_wp2_with fail
    rw [← HW1.out]
    refine wp_region_held_drew (S := fun w' => Cb.Tn N1 c d g b (w1.drew) w') (by kernel_rfl) ?hb7 (fun hHeld => ?rest7)
    case hb7 =>
      exact Cb.Tn.refl _ _ _ _ _ _
    case' rest7 => skip
    have hCl := fun (wS : World) (hSw : Cb.Tn N1 c d g b (w1.drew) wS) => And.intro ((Cb.Tn.row hSw FB RPd).cell 1 rfl) <| And.intro ((Cb.Tn.row hSw FB RPd).cell 2 rfl) <| And.intro ((Cb.Tn.row hSw FB RPd).cell 3 rfl) <| (Cb.Tn.row hSw FB RPd).cell 4 rfl
    replace hCl := Go.Lib.hid hCl
    refine Mem.tkV 0 ?v8 ?y8 ?r8
    case y8 => (intro w hSw; clear hSw; go_simp; try with_reducible rfl)
    refine Mem.tkV 1 ?v9 ?y9 ?r9
    case y9 => (intro w hSw; clear hSw; go_simp; try with_reducible rfl)
    refine Mem.tkV 2 ?v10 ?y10 ?r10
    case y10 => (intro w hSw; obtain ⟨hT0, hT1, hT2, hT3⟩ := hCl.out w hSw; clear hSw; go_simp; try with_reducible rfl)
    try simp only [Mem.pa, Mem.pb, Mem.pc, Act.put, Mem.pd, Mem.pe, Mem.pf]
    refine Mem.tkV 3 ?v11 ?y11 ?r11
    case y11 => (intro w hSw; clear hSw; go_simp; try with_reducible rfl)
    refine Mem.tkV 4 ?v12 ?y12 ?r12
    case y12 => (intro w hSw; obtain ⟨hT0, hT1, hT2, hT3⟩ := hCl.out w hSw; clear hSw; go_simp; try with_reducible rfl)
    refine Mem.tkV 6 ?v13 ?y13 ?r13
    case y13 => (intro w hSw; clear hSw; go_simp; try with_reducible rfl)
    try simp only [Mem.pa, Mem.pb, Mem.pc, Act.put, Mem.pd, Mem.pe, Mem.pf]
    refine Mem.tkV 7 ?v14 ?y14 ?r14
    case y14 => (intro w hSw; obtain ⟨hT0, hT1, hT2, hT3⟩ := hCl.out w hSw; clear hSw; go_simp; try with_reducible rfl)
    try simp only [Mem.pa, Mem.pb, Mem.pc, Act.put, Mem.pd, Mem.pe, Mem.pf]
    refine wpAnyH_ready (rs := [5]) (by kernel_rfl) (by simp) ?_
    refine AllReadyH.cons rfl (fun K hK => ?_) AllReadyH.nil
    go_simp
    (refine (to_any x.pa A cp x.pd _ HX1D.out.p4 HX1D.out.p3 (by have := HP.out; omega)).mono ?_; rintro e wb ⟨A', c', rfl, k1', k2', k3', hf, hbl⟩; have HCB := Lib.hid (HC1D.out.below hbl); have HFB := Lib.hid hf; have HNB := Lib.hid (HX1D.out.n4.below hbl); clear hf)
    try go_wp2_with fail
    have hSnew := Cb.Tn.newer hHeld hbl hLTN
    refine hK.out _ _ ?_ (fun hHeld2 => ?_)
    · exact hSnew
    clear hbl
    clear hK K hHeld hSnew
    have hHeld := hHeld2
    clear hHeld2
    try simp only [Mem.pa, Mem.pb, Mem.pc, Act.put, Mem.pd, Mem.pe, Mem.pf]
    refine wpAnyH_ready (rs := [8]) (by kernel_rfl) (by simp) ?_
    refine AllReadyH.cons rfl (fun K hK => ?_) AllReadyH.nil
    go_simp
    (refine (Put_any x.blk hno x.pa HX1D.out.ok.2.2 A' c' x.pd A2 cn x.needs c d g b N1 v s _ HCB.out HI.out (HFB.out.mono (fun j hj => ⟨hj.2, by have := HC1D.out.row.lt; omega, by have := HC1D.out.dev.1.lt; omega, by have := HC1D.out.dev.2.1.2.2; omega, by have := HC1D.out.map.lt; omega⟩)) k3' HP.out HNB.out (by have := HNL.out; omega)).mono ?_; rintro e wp ⟨v', rfl, hc', ht'⟩; have hSnew := hHeld.trans ht'; have HC' := Lib.hid hc'; clear hc' ht')
    try go_wp2_with fail
    refine hK.out _ _ ?_ (fun hHeld2 => ?_)
    · exact hSnew
    clear hK K hHeld hSnew
    have hHeld := hHeld2
    clear hHeld2
    try simp only [Mem.pa, Mem.pb, Mem.pc, Act.put, Mem.pd, Mem.pe, Mem.pf]
    refine Mem.tkV 9 ?v15 ?y15 ?r15
    case y15 => (intro w hSw; clear hSw; go_simp; try with_reducible rfl)
    refine Mem.tkV 10 ?v16 ?y16 ?r16
    case y16 => (intro w hSw; clear hSw; go_simp; try with_reducible rfl)
    refine Mem.tkV 11 ?v17 ?y17 ?r17
    case y17 => (intro w hSw; clear hSw; go_simp; try with_reducible rfl)
    try simp only [Mem.pa, Mem.pb, Mem.pc, Act.put, Mem.pd, Mem.pe, Mem.pf]
    refine Mem.tkV 12 ?v18 ?y18 ?r18
    case y18 => (intro w hSw; clear hSw; go_simp; try with_reducible rfl)
    refine Mem.tkV 13 ?v19 ?y19 ?r19
    case y19 => (intro w hSw; clear hSw; go_simp; try with_reducible rfl)
    try simp only [Mem.pa, Mem.pb, Mem.pc, Act.put, Mem.pd, Mem.pe, Mem.pf]
    refine wpAnyH_done (by kernel_rfl) ?_ _
    clear hCl
    go_wp2_with fail
    refine bodyPost_ret (results_tmp2 rfl _ _ _) rfl ?_
    exact ⟨v', by rw [HN2.out, HE2.out]; rfl, by rw [HS2.out]; exact HC'.out.weak hsub HH.out.Nc HH.out.Nd HH.out.Ng HH.out.Nb, HTD.out.trans (hHeld.weak hsub)⟩
  have b0 : (x.id == 0) = false := beq_eq_false_iff_ne.2 q0
  have HN2 : Hid (N2 = 0) := Lib.hid (HN.out.trans (if_neg q0))
  rw [if_neg q0] at HS HE
  by_cases q1 : x.id = 1
  · have HS2 : Hid (S2 = flS s x.blk) := Lib.hid (HS.out.trans (if_pos q1))
    have HE2 : Hid (E2 = flE s x.blk) := Lib.hid (HE.out.trans (if_pos q1))
    have b1 : (x.id == 1) = true := by rw [q1]; rfl
    have C := Lib.hid (Flush_any x.blk hno c d g b N1 v s w1 HC1.out HI.out)
    clear q0 q1 HS HE HN
    go_enter Tryz.func17, Tryz.ntmps17
    go_wp2_with fail
    rw [← HW1.out]
    refine C.out.mono ?_
    rintro e w2 ⟨v2, rfl, hc2, ht2⟩
    have HC2 := Lib.hid (hc2.weak hsub HH.out.Nc HH.out.Nd HH.out.Ng HH.out.Nb)
    have HT2 := Lib.hid (HT1.out.trans (ht2.weak hsub))
    clear hc2 ht2 C k0 k1
    go_wp2
    refine bodyPost_ret (results_tmp2 rfl _ _ _) rfl ?_
    exact ⟨v2, by rw [HN2.out, HE2.out]; rfl, by rw [HS2.out]; exact HC2.out, HT2.out⟩
  have b1 : (x.id == 1) = false := beq_eq_false_iff_ne.2 q1
  rw [if_neg q1] at HS HE
  by_cases q2 : x.id = 2
  · have HS2 : Hid (S2 = upS s x.blk) := Lib.hid (HS.out.trans (if_pos q2))
    have HE2 : Hid (E2 = upE s x.blk) := Lib.hid (HE.out.trans (if_pos q2))
    have b2 : (x.id == 2) = true := by rw [q2]; rfl
    have C := Lib.hid (Upto_any x.blk c d g b N1 v s w1 HC1.out HI.out)
    clear q0 q1 q2 HS HE HN
    go_enter Tryz.func17, Tryz.ntmps17
    go_wp2_with fail
    rw [← HW1.out]
    refine C.out.mono ?_
    rintro e w2 ⟨v2, rfl, hc2, ht2⟩
    have HC2 := Lib.hid (hc2.weak hsub HH.out.Nc HH.out.Nd HH.out.Ng HH.out.Nb)
    have HT2 := Lib.hid (HT1.out.trans (ht2.weak hsub))
    clear hc2 ht2 C k0 k1
    go_wp2
    refine bodyPost_ret (results_tmp2 rfl _ _ _) rfl ?_
    exact ⟨v2, by rw [HN2.out, HE2.out]; rfl, by rw [HS2.out]; exact HC2.out, HT2.out⟩
  have b2 : (x.id == 2) = false := beq_eq_false_iff_ne.2 q2
  rw [if_neg q2] at HS HE
  by_cases q3 : x.id = 3
  · have HS2 : Hid (S2 = upS s s.last) := Lib.hid (HS.out.trans (if_pos q3))
    have HE2 : Hid (E2 = upE s s.last) := Lib.hid (HE.out.trans (if_pos q3))
    have b3 : (x.id == 3) = true := by rw [q3]; rfl
    have C := Lib.hid (Sync_any c d g b N1 v s w1 HC1.out HI.out)
    clear q0 q1 q2 q3 HS HE HN
    go_enter Tryz.func17, Tryz.ntmps17
    go_wp2_with fail
    rw [← HW1.out]
    refine C.out.mono ?_
    rintro e w2 ⟨v2, rfl, hc2, ht2⟩
    have HC2 := Lib.hid (hc2.weak hsub HH.out.Nc HH.out.Nd HH.out.Ng HH.out.Nb)
    have HT2 := Lib.hid (HT1.out.trans (ht2.weak hsub))
    clear hc2 ht2 C k0 k1
    go_wp2
    refine bodyPost_ret (results_tmp2 rfl _ _ _) rfl ?_
    exact ⟨v2, by rw [HN2.out, HE2.out]; rfl, by rw [HS2.out]; exact HC2.out, HT2.out⟩
  have b3 : (x.id == 3) = false := beq_eq_false_iff_ne.2 q3
  rw [if_neg q3] at HS HE
  have HE2 : Hid (E2 = 0) := HE
  by_cases q4 : x.id = 4
  · have HS2 : Hid (S2 = { s with dv := Db.fuS s.dv x.blk }) := Lib.hid (HS.out.trans (if_pos q4))
    have b4 : (x.id == 4) = true := by rw [q4]; rfl
    have C := Lib.hid (Db.fuse_any d g s.dv x.blk w1 HC1.out.dev)
    clear q0 q1 q2 q3 q4 HS HE HN
    go_enter Tryz.func17, Tryz.ntmps17
    go_wp2_with fail
    rw [← HW1.out]
    refine C.out.mono ?_
    rintro e w2 ⟨rfl, hd2, ha2⟩
    have HC2 := Lib.hid ((HC1.out.dev' ha2 hd2 (Nat.le_refl _) (fun _ => rfl)).weak hsub HH.out.Nc HH.out.Nd HH.out.Ng HH.out.Nb)
    have HT2 := Lib.hid (HT1.out.trans ((HC1.out.tnd ha2).weak hsub))
    clear hd2 ha2 C k0 k1
    go_wp2
    refine bodyPost_ret (results_tmp2 rfl _ _ _) rfl ?_
    exact ⟨v, by rw [HN2.out, HE2.out]; rfl, by rw [HS2.out]; exact HC2.out, HT2.out⟩
  have b4 : (x.id == 4) = false := beq_eq_false_iff_ne.2 q4
  rw [if_neg q4] at HS
  by_cases q5 : x.id = 5
  · have HS2 : Hid (S2 = { s with dv := { s.dv with fuse := 0, lit := false, off := false } }) := Lib.hid (HS.out.trans (if_pos q5))
    have b5 : (x.id == 5) = true := by rw [q5]; rfl
    have C := Lib.hid (Db.up_any d g s.dv w1 HC1.out.dev)
    clear q0 q1 q2 q3 q4 q5 HS HE HN
    go_enter Tryz.func17, Tryz.ntmps17
    go_wp2_with fail
    rw [← HW1.out]
    refine C.out.mono ?_
    rintro e w2 ⟨rfl, hd2, ha2⟩
    have HC2 := Lib.hid ((HC1.out.dev' ha2 hd2 (Nat.le_refl _) (fun _ => rfl)).weak hsub HH.out.Nc HH.out.Nd HH.out.Ng HH.out.Nb)
    have HT2 := Lib.hid (HT1.out.trans ((HC1.out.tnd ha2).weak hsub))
    clear hd2 ha2 C k0 k1
    go_wp2
    refine bodyPost_ret (results_tmp2 rfl _ _ _) rfl ?_
    exact ⟨v, by rw [HN2.out, HE2.out]; rfl, by rw [HS2.out]; exact HC2.out, HT2.out⟩
  · have b5 : (x.id == 5) = false := beq_eq_false_iff_ne.2 q5
    have HS2 : Hid (S2 = s) := Lib.hid (HS.out.trans (if_neg q5))
    have HC2 := Lib.hid (HC1.out.weak hsub HH.out.Nc HH.out.Nd HH.out.Ng HH.out.Nb)
    clear q0 q1 q2 q3 q4 q5 HS HE HN
    go_enter Tryz.func17, Tryz.ntmps17
    go_wp2
    refine bodyPost_ret (results_tmp2 rfl _ _ _) rfl ?_
    exact ⟨v, by rw [HN2.out, HE2.out]; rfl, by rw [HS2.out]; have := HC2.out; rw [HW1.out] at this; exact this, by have := HT1.out; rw [HW1.out] at this; exact this⟩
end Go.Proofs.YtbamhiegabeicaaGreat.Cb


