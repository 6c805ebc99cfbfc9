/- The document's Put. No statement is proved here. -/
import Derived.Test.YtbamhiegabeicaaGreatCm
namespace Go.Proofs.YtbamhiegabeicaaGreat.Cb
open Go.RowKit Go.Proofs.YtbamhiegabeicaaGreat.Mem Go.Proofs.YtbamhiegabeicaaGreat.Open Go.Proofs.YtbamhiegabeicaaGreat.Kind Go.Proofs.YtbamhiegabeicaaGreat.Blk Go.Proofs.YtbamhiegabeicaaGreat.App Go.Proofs.YtbamhiegabeicaaGreat.Pat Go.Proofs.YtbamhiegabeicaaGreat.Rd
open Go.Proofs.YtbamhiegabeicaaGreat.Db (Dv Dev Asd Bks)
set_option linter.unusedVariables false
set_option linter.unusedSimpArgs false
/-- Nothing but one cell has changed, of what there was. -/
structure Lk (c i : Nat) (W w' : World) : Prop where
  os : w'.os = W.os
  tape : w'.tape = W.tape
  output : w'.output = W.output
  size : W.heap.size ≤ w'.heap.size
  block : ∀ k, k < W.heap.size → k ≠ c → w'.heap[k]? = W.heap[k]?
  cl : ∀ j v, j ≠ i → W.cell? ⟨c, j, none⟩ = some v → w'.cell? ⟨c, j, none⟩ = some v
section
variable {c i : Nat} {W w1 w2 : World}
theorem Lk.refl (c i : Nat) (W : World) : Lk c i W W := ⟨rfl, rfl, rfl, Nat.le_refl _, fun _ _ _ => rfl, fun _ _ _ h => h⟩
theorem Lk.kept {k : Nat} {T : TypeId} {cs : Array Value} (h : Lk c i W w1) (hr : Row W k T cs) (h1 : k ≠ c) : Row w1 k T cs := (h.block k hr.lt h1).trans hr
theorem Lk.at_ {p : Addr} {v : Value} (h : Lk c i W w1) (hc : W.cell? p = some v) (h1 : p.block ≠ c) : w1.cell? p = some v := by
  have hlt := World.block_lt_of_cell? W p hc
  have e := h.block p.block hlt h1
  simp only [World.cell?, e] at hc ⊢
  exact hc
theorem Lk.below (h : Lk c i W w1) (hb : Below w1.heap.size w1 w2) (hc : c < W.heap.size) : Lk c i W w2 :=
  ⟨hb.os.trans h.os, hb.tape.trans h.tape, hb.output.trans h.output, Nat.le_trans h.size hb.size, fun k h1 h2 => (hb.block k (Nat.lt_of_lt_of_le h1 h.size)).trans (h.block k h1 h2),
    fun j v h1 h2 => (hb.cell (p := ⟨c, j, none⟩) (Nat.lt_of_lt_of_le hc h.size)).trans (h.cl j v h1 h2)⟩
theorem Lk.grown {row : Option Nat} (h : Lk c i W w1) (hg : w1.grownBy w2 row) (hr : ∀ k, row = some k → W.heap.size ≤ k) (hc : c < W.heap.size) : Lk c i W w2 :=
  ⟨hg.os.trans h.os, hg.tape.trans h.tape, hg.output.trans h.output, Nat.le_trans h.size hg.size, fun k h1 h2 => (hg.block k (Nat.lt_of_lt_of_le h1 h.size) (fun e => by have := hr k e.symm; omega)).trans (h.block k h1 h2),
    fun j v h1 h2 => (cell_of_heap (hg.block c (Nat.lt_of_lt_of_le hc h.size) (fun e => by have := hr c e.symm; omega)) j).trans (h.cl j v h1 h2)⟩
theorem Lk.set (h : Lk c i W w1) (u : Value) : Lk c i W (w1.setCell ⟨c, i, none⟩ u) :=
  ⟨h.os, h.tape, h.output, by simpa [World.setCell] using h.size, fun k h1 h2 => (Below.heap_setCell w1 ⟨c, i, none⟩ u k h2).trans (h.block k h1 h2), fun j v h1 h2 => by
    have := h.cl j v h1 h2
    rw [← this]
    exact World.cell?_setCell_other w1 _ _ _ (by intro e; injection e with _ e; omega)⟩
end
/-! ### the needs, counted up -/
def upL (dn : Int → Bool) (ns : List Int) : Nat → List Int
  | 0 => []
  | m + 1 => if decide (((m : Int) + 1) ∈ ns) = true ∧ dn ((m : Int) + 1) = false then upL dn ns m ++ [(m : Int) + 1] else upL dn ns m
theorem upL_mem {dn : Int → Bool} {ns : List Int} : ∀ {m : Nat} {n : Int}, n ∈ upL dn ns m ↔ 1 ≤ n ∧ n ≤ m ∧ n ∈ ns ∧ dn n = false
  | 0, n => by
    constructor
    · intro h; cases h
    · intro h; omega
  | m + 1, n => by
    unfold upL
    by_cases hq : decide (((m : Int) + 1) ∈ ns) = true ∧ dn ((m : Int) + 1) = false
    · rw [if_pos hq, List.mem_append, upL_mem, List.mem_singleton]
      constructor
      · rintro (⟨h1, h2, h3, h4⟩ | rfl)
        · exact ⟨h1, by omega, h3, h4⟩
        · exact ⟨by omega, by omega, of_decide_eq_true hq.1, hq.2⟩
      · rintro ⟨h1, h2, h3, h4⟩
        by_cases h5 : n = (m : Int) + 1
        · exact .inr h5
        · exact .inl ⟨h1, by omega, h3, h4⟩
    · rw [if_neg hq, upL_mem]
      constructor
      · rintro ⟨h1, h2, h3, h4⟩
        exact ⟨h1, by omega, h3, h4⟩
      · rintro ⟨h1, h2, h3, h4⟩
        refine ⟨h1, ?_, h3, h4⟩
        by_cases h5 : n = (m : Int) + 1
        · subst h5; exact absurd ⟨decide_eq_true h3, h4⟩ hq
        · omega
theorem upL_sorted (dn : Int → Bool) (ns : List Int) : ∀ m : Nat, (upL dn ns m).Pairwise (· < ·)
  | 0 => List.Pairwise.nil
  | m + 1 => by
    unfold upL
    split
    · rw [List.pairwise_append]
      refine ⟨upL_sorted dn ns m, List.pairwise_singleton _ _, fun a ha b hb => ?_⟩
      rw [List.mem_singleton] at hb
      have := (upL_mem.1 ha).2.1
      omega
    · exact upL_sorted dn ns m
theorem upL_len (dn : Int → Bool) (ns : List Int) : ∀ m : Nat, (upL dn ns m).length ≤ m
  | 0 => Nat.le_refl _
  | m + 1 => by
    unfold upL
    have := upL_len dn ns m
    split
    · rw [List.length_append, List.length_singleton]; omega
    · omega
theorem neF_some {last : Int} {dn : Int → Bool} : ∀ {ns out : List Int}, (∀ n ∈ ns, 1 ≤ n ∧ n ≤ last) → ∃ l, neF last dn ns out = some l
  | [], out, _ => ⟨out, rfl⟩
  | n :: r, out, h => by
    unfold neF
    have := h n List.mem_cons_self
    rw [if_neg (by omega)]
    split
    · exact neF_some fun m hm => h m (List.mem_cons_of_mem _ hm)
    · exact neF_some fun m hm => h m (List.mem_cons_of_mem _ hm)
theorem neF_none {last : Int} {dn : Int → Bool} {ns out : List Int} (h : ∃ n ∈ ns, n < 1 ∨ last < n) : neF last dn ns out = none := by
  cases hq : neF last dn ns out with
  | none => rfl
  | some l =>
    obtain ⟨n, hn, hb⟩ := h
    have := (neF_all hq).1 n hn
    omega
theorem ne_up {s : St} {ns : List Int} (hl0 : 0 ≤ s.last) (h : ∀ n ∈ ns, 1 ≤ n ∧ n ≤ s.last) : neL s ns = some (upL (doneB s) ns s.last.toNat) := by
  obtain ⟨l, hl⟩ := neF_some (dn := doneB s) (out := []) h
  unfold neL
  rw [hl]
  congr 1
  refine sorted_ext (neF_sorted hl List.Pairwise.nil) (upL_sorted _ _ _) fun n => ?_
  rw [upL_mem]
  constructor
  · intro hn
    rcases neF_mem hl n hn with h1 | ⟨h1, h2, h3, h4⟩
    · cases h1
    · exact ⟨h1, by omega, h4, h3⟩
  · rintro ⟨h1, h2, h3, h4⟩
    rcases ((neF_all hl).1 n h3).2.2 with h5 | h5
    · exact h5
    · rw [h4] at h5; cases h5
theorem wp_load1 {P : Program} {o : Oper} {a : Act} {w : World} {K : Act → World → Prop} {Q : Exit → Act → World → Prop} (ty e : TypeId) (x : Operand) (ho : o.op = .load ty x) (p : Addr) (hx : a.eval x = .pointer (some p)) (v : Value) (hc : w.cell? p = some v) (hu : P.underlying ty = some (.slice e)) (h : K (a.put o.dst v) w) : o.wp P a w K Q := by
  have hagg : (isAgg ty).run P w = .ok false w := by
    unfold isAgg
    rw [Sem.run_bind, run_underlying hu w]
    rfl
  have hl : (load p).run P w = .ok v w := by simp [load, Sem.run, hc]
  have hr : (loadVar ty p).run P w = .ok v w := by
    unfold loadVar
    rw [Sem.run_bind, hagg]
    simpa using hl
  unfold Oper.wp execOp
  simp only [ho, hx, Instr.loadAt, Instr.sureAddr, Sem.run_bind, Sem.run_pure, Result.andThen_ok, hr]
  exact h
theorem Lk.undrew {c i : Nat} {W w : World} (h : Lk c i W.drew w) : Lk c i W w := ⟨h.os, h.tape, h.output, h.size, h.block, h.cl⟩
theorem lk_stay {α : Type} {k : Kd α} {N : Nat → Prop} {W w : World} {r i n : Nat} {A : Option Addr} {xs : List α} (hL : Lk r i W w) (hr : N r) (h : Rw k W (Out2 N W) A n xs) : Rw k w (Out2 N W) A n xs := Rw.stay (w := W) (fun b hb => hL.block b hb.1 (fun e => hb.2 (e ▸ hr))) h
theorem lk_list {α : Type} {k : Kd α} {N : Nat → Prop} {W w : World} {r i n g : Nat} {A : Option Addr} {xs : List α} (hL : Lk r i W w) (hr : N r) (h : Rw k W (Out2 N W) A n xs) (hg : W.heap.size ≤ g) : Rw (kN k N) w (fun b => some b ≠ (Value.slice (some ⟨g, 0, none⟩) 0 0).ownBlock ∧ b < w.heap.size) A n xs := by
  have h2 := lk_stay hL hr h
  refine ⟨h2.1, h2.2.1, ?_⟩
  have hz := hL.size
  have hb : ∀ b, Out2 N W b → some b ≠ (Value.slice (some ⟨g, 0, none⟩) 0 0).ownBlock ∧ b < w.heap.size := fun b hb => ⟨by have := hb.1; simp [Value.ownBlock]; omega, by have := hb.1; omega⟩
  rcases h2.2.2 with h0 | ⟨g', o, hA, hg', hlt, hc⟩
  · exact .inl h0
  · exact .inr ⟨g', o, hA, hb _ hg', hlt, fun j x hx => by obtain ⟨cs, h1, h3⟩ := hc j x hx; exact ⟨cs, k.mono (fun b hb' => ⟨hb b hb', hb'.2⟩) h1, h3⟩⟩
theorem bb3 (w : World) (o o2 o3 : Obj) : Below w.heap.size w (((w.alloc o).alloc o2).alloc o3) := (bb2 w o o2).alloc (bb2 w o o2).size _
theorem row3 (w : World) (o o2 : Obj) (T : TypeId) (cs : Array Value) : Row (((w.alloc o).alloc o2).alloc (.cells cs T)) (w.heap.size + 1 + 1) T cs := by
  have := Row.new ((w.alloc o).alloc o2) T cs
  rwa [show ((w.alloc o).alloc o2).heap.size = w.heap.size + 1 + 1 from by simp] at this
set_option maxHeartbeats 2000000 in
set_option maxRecDepth 100000 in
theorem RPut_any (N : Nat → Prop) (x : Chg) (A : Option Addr) (cp : Nat) (A2 : Option Addr) (cn : Nat) (p : Rp) (s : St) (w : World) (h : Rc N w p s) (hN : ∀ b, N b → b < w.heap.size) (hi : Inv s) (hx : ChS w x A cp A2 cn) (hpd : Rw kByte w (Out2 N w) A x.pd.length x.pd) (hnl : x.needs.length ≤ 60) (hlast : s.last < 1000) :
    Calls Tryz.prog 47 #[.agg (rcP p s), .agg (chC x A cp A2 cn)] w fun e w' => ∃ p', e = .returned (.tuple #[.agg (rcP p' (pS s x.blk x.pa x.pd x.needs)), .int .i64 (pN s x.blk x.pa x.pd x.needs), .int .i64 (pE s x.blk x.pa x.pd x.needs)]) ∧ Rc N w' p' (pS s x.blk x.pa x.pd x.needs) ∧ Below w.heap.size w w' := by
  obtain ⟨AB, cB, AL, cL, AK, cK⟩ := p
  change Calls Tryz.prog 47 #[.agg (rcC AB cB AL s.xs.length cL AK cK s.last (rfu s.dv) s.dv.off s.dv.wr), .agg (chC x A cp A2 cn)] w _
  have b3 := bb3 w (.cells (rcC AB cB AL s.xs.length cL AK cK s.last (rfu s.dv) s.dv.off s.dv.wr) 32) (.cells (chC x A cp A2 cn) 49) (.cells rcZ 32)
  have R2 : Row (((w.alloc (.cells (rcC AB cB AL s.xs.length cL AK cK s.last (rfu s.dv) s.dv.off s.dv.wr) 32)).alloc (.cells (chC x A cp A2 cn) 49)).alloc (.cells rcZ 32)) w.heap.size 32 (rcC AB cB AL s.xs.length cL AK cK s.last (rfu s.dv) s.dv.off s.dv.wr) := ((Row.new _ _ _).alloc _).alloc _
  have R3 := (row2 w (.cells (rcC AB cB AL s.xs.length cL AK cK s.last (rfu s.dv) s.dv.off s.dv.wr) 32) 49 (chC x A cp A2 cn)).alloc (.cells rcZ 32)
  have R4 := row3 w (.cells (rcC AB cB AL s.xs.length cL AK cK s.last (rfu s.dv) s.dv.off s.dv.wr) 32) (.cells (chC x A cp A2 cn) 49) 32 rcZ
  obtain ⟨N2, hN2e⟩ : ∃ N2 : Nat → Prop, N2 = fun b => N b ∨ b = w.heap.size ∨ b = w.heap.size + 1 ∨ b = w.heap.size + 1 + 1 := ⟨_, rfl⟩
  have HN2L : Hid (∀ k, N2 k → k < w.heap.size + 3) := Lib.hid (fun k hk => by rw [hN2e] at hk; rcases hk with h | h | h | h; have := hN k h; omega; omega; omega; omega)
  have HN2 : Hid (∀ k, N k ∨ k = w.heap.size ∨ k = w.heap.size + 1 ∨ k = w.heap.size + 1 + 1 → N2 k) := Lib.hid (fun k hk => by rw [hN2e]; exact hk)
  have hN3 : ∀ k, k < w.heap.size → ¬ N k → ¬ N2 k := fun k h1 h2 h3 => by rw [hN2e] at h3; rcases h3 with h | h | h | h; exact h2 h; omega; omega; omega
  have HRC := Lib.hid (h.go (N' := N2) (fun k h1 _ => b3.block k h1) b3.size hN3)
  have HPD := Lib.hid (Rw.out2 (N' := N2) hpd (fun k h1 _ => b3.block k h1) b3.size hN3)
  have HX := Lib.hid (hx.below b3)
  have HR2 := Lib.hid R2
  have HR3 := Lib.hid R3
  have HR4 := Lib.hid R4
  have HB3 := Lib.hid b3
  have HI := Lib.hid hi
  have HXOK := Lib.hid hx.ok
  have HXC : Hid (x.pd.length ≤ cp ∧ cp ≤ M63 ∧ (A = none → cp = 0)) := Lib.hid ⟨hx.p1, hx.p2, hx.p3⟩
  have hp9 : x.pd.length ≤ M63 := hx.p4.2.1
  have HPS0 : Hid (pE s x.blk x.pa x.pd x.needs ≠ 0 → pS s x.blk x.pa x.pd x.needs = s ∧ pN s x.blk x.pa x.pd x.needs = 0) := Lib.hid (fun hq => ⟨if_neg hq, if_neg hq⟩)
  have HPE : Hid (pE s x.blk x.pa x.pd x.needs = if rightN x.pa x.pd.length = false then 1 else if (neL s x.needs).isSome = false then 1 else kE s x.blk) := Lib.hid rfl
  have HPG : Hid (∀ L, neL s x.needs = some L → pE s x.blk x.pa x.pd x.needs = 0 → pS s x.blk x.pa x.pd x.needs = { kS s x.blk with last := s.last + 1, xs := s.xs ++ [⟨s.last + 1, x.blk, x.pa, x.pd, L⟩] } ∧ pN s x.blk x.pa x.pd x.needs = s.last + 1) := Lib.hid (fun L hL hq => ⟨by unfold pS; rw [if_pos hq, hL]; rfl, if_pos hq⟩)
  generalize pS s x.blk x.pa x.pd x.needs = PS at *
  generalize pN s x.blk x.pa x.pd x.needs = PN at *
  generalize pE s x.blk x.pa x.pd x.needs = PE at *
  clear h hi hx hpd R2 R3 R4 b3 hN2e hN3 hN
  have CR := Lib.hid (fun w' => right_any x.pa A x.pd.length cp w' hp9)
  go_enter Tryz.func47, Tryz.ntmps47
  go_wp2_with fail
  refine (CR.out _).mono ?_
  rintro e w4 ⟨rfl, hb4⟩
  have R2Z := Lib.hid (HR2.out.below hb4)
  have R3Z := Lib.hid (HR3.out.below hb4)
  have R4Z := Lib.hid (HR4.out.below hb4)
  have RCZ := Lib.hid (HRC.out.below hb4)
  have BZ := Lib.hid (HB3.out.trans (hb4.mono HB3.out.size))
  have XZ := Lib.hid (HX.out.below hb4)
  have PDZ := Lib.hid (Rw.out2 HPD.out (fun k h1 _ => hb4.block k h1) hb4.size (fun _ _ h => h))
  clear hb4 HR2 HR3 HR4 HRC HB3 HX HPD CR
  cases hr : rightN x.pa x.pd.length with
  | false =>
    have hpe : PE = 1 := HPE.out.trans (if_pos hr)
    have HPS : Hid (PS = s) := Lib.hid (HPS0.out (by rw [hpe]; decide)).1
    have HPN : Hid (PN = 0) := Lib.hid (HPS0.out (by rw [hpe]; decide)).2
    subst hpe
    clear hr HPE HPG
    go_wp2_with (first
      | (with_reducible refine wpList_ldC rfl _ rfl _ rfl _ rfl R2Z.out ?_)
      | (with_reducible refine wpList_storeRow rfl 32 _ _ rfl (w.heap.size + 1 + 1) rfl (rcC AB cB AL s.xs.length cL AK cK s.last (rfu s.dv) s.dv.off s.dv.wr) rfl rcZ 32 7 rcSize rfl rfl (rcC_one _ _ _ _ _ _ _ _ _ _ _) R4Z.out ?_))
    refine bodyPost_ret (v := .tuple #[.agg (rcC AB cB AL s.xs.length cL AK cK s.last (rfu s.dv) s.dv.off s.dv.wr), .int .i64 0, .int .i64 1]) (Rd.results_cell_2 (p := 4) (t2 := 5) (t3 := 6) rfl _ _ (w.heap.size + 1 + 1) 32 (rcC AB cB AL s.xs.length cL AK cK s.last (rfu s.dv) s.dv.off s.dv.wr) (0, 0) _ rfl (R4Z.out.set _) Tryz.underlying32 rfl rcSize) rfl ?_
    exact ⟨⟨AB, cB, AL, cL, AK, cK⟩, by rw [HPN.out, HPS.out], by rw [HPS.out]; exact RCZ.out.go (fun b h1 h2 => setRow_other _ _ _ _ (fun e => h2 (HN2.out b (.inr (.inr (.inr e)))))) (by simp) (fun b _ h2 e => h2 (HN2.out b (.inl e))), below_setRow BZ.out (by omega) _⟩
  | true =>
    have HPE2 : Hid (PE = if (neL s x.needs).isSome = false then 1 else kE s x.blk) := Lib.hid (HPE.out.trans (if_neg (by rw [hr]; simp)))
    clear hr HPE
    have HR2W := R2Z
    have HR3W := R3Z
    have HR4W := R4Z
    have HRCW := RCZ
    have HBW := BZ
    have HXW := XZ
    have HPDW := PDZ
    clear R2Z R3Z R4Z RCZ BZ XZ PDZ
    have q4 : w4.cell? ⟨w.heap.size + 1, 4, none⟩ = some (.slice A2 x.needs.length cn) := HR3W.out.cell 4 rfl
    have hl9 : x.needs.length ≤ 9223372036854775807 := HXW.out.n4.2.1
    go_wp2_with fail
    go_loopw [7] (fun i wr => ∃ (k : Nat), k ≤ x.needs.length ∧ i = .int .i64 k ∧ Hid (∀ n ∈ x.needs.take k, 1 ≤ n ∧ n ≤ s.last) ∧ Below w4.heap.size w4 wr) (fun i _ => x.needs.length - (intOf i).toNat)
    case atStart => exact ⟨0, by omega, rfl, Lib.hid (fun n hn => by cases hn), Below.refl _ _⟩
    case round =>
      obtain ⟨k, hk, rfl, hin, hbr⟩ := hrel
      have hs4 : w.heap.size + 1 + 1 < w4.heap.size := Row.lt HR4W.out
      by_cases hlt : k < x.needs.length
      · obtain ⟨g1, o1, rfl, hg1, hc0⟩ := is_at HXW.out.n4 k hlt
        have hc1 : wr.cell? ⟨g1, o1 + k, none⟩ = some (.int .i64 x.needs[k]) := (hbr.cell (p := ⟨g1, o1 + k, none⟩) hg1).trans hc0
        have r2 := HR2W.out.below hbr
        have r3 := HR3W.out.below hbr
        have q4 : wr.cell? ⟨w.heap.size + 1, 4, none⟩ = some (.slice (some ⟨g1, o1, none⟩) x.needs.length cn) := r3.cell 4 rfl
        have hmem : x.needs[k] ∈ x.needs := List.getElem_mem hlt
        have hTK := Lib.hid (take_next hlt)
        have hgr : g1 < wr.heap.size := Nat.lt_of_lt_of_le hg1 hbr.size
        have hsr : w.heap.size + 1 + 1 < wr.heap.size := Nat.lt_of_lt_of_le hs4 hbr.size
        generalize x.needs[k] = y at *
        have r2d := r2.drew
        have r3d := r3.drew
        have hc1d : wr.drew.cell? ⟨g1, o1 + k, none⟩ = some (.int .i64 y) := hc1
        have HBR := Lib.hid hbr
        clear hc0 hc1 r2 r3 hbr
        by_cases hy : y < 1 ∨ s.last < y
        · have hpe : PE = 1 := HPE2.out.trans (by
            have : neL s x.needs = none := neF_none ⟨y, hmem, hy⟩
            rw [this]; rfl)
          have HPS : Hid (PS = s) := Lib.hid (HPS0.out (by rw [hpe]; decide)).1
          have HPN : Hid (PN = 0) := Lib.hid (HPS0.out (by rw [hpe]; decide)).2
          subst hpe
          clear hin HPE2 HPG hmem hTK
          have hbd : Below w4.heap.size w4 wr.drew := HBR.out.drew
          by_cases h0 : y < 1
          · have d1 : decide (y < 1) = true := decide_eq_true h0
            go_wp2_with fail
            clear q4
            refine wp_region_held_drew (S := Go.RowKit.Below ((wr.drew).heap.size) (wr.drew)) (by kernel_rfl) ?hb13 (fun hHeld => ?rest13)
            case hb13 =>
              exact Go.RowKit.Below.refl _ _
            case' rest13 => skip
            have hCl := fun (wS : World) (hSw : Go.RowKit.Below ((wr.drew).heap.size) (wr.drew) wS) => And.intro ((Mem.bl_row hSw r2d (by first | exact Mem.Row.lt r2d | omega | (simp <;> omega))).cell 2 rfl) <| And.intro ((Mem.bl_row hSw r3d (by first | exact Mem.Row.lt r3d | omega | (simp <;> omega))).cell 4 rfl) <| Mem.bl_cell hSw hc1d (by first | omega | (dsimp only; omega) | exact World.block_lt_of_cell? _ _ hc1d | (simp <;> omega))
            replace hCl := Go.Lib.hid hCl
            refine Mem.tkV 0 ?v14 ?y14 ?r14
            case y14 => (intro w hSw; clear hSw; go_simp; try with_reducible rfl)
            refine Mem.tkV 1 ?v15 ?y15 ?r15
            case y15 => (intro w hSw; obtain ⟨hT0, hT1, hT2⟩ := hCl.out w hSw; clear hSw; go_simp; try with_reducible rfl)
            refine Mem.tkV 2 ?v16 ?y16 ?r16
            case y16 => (intro w hSw; clear hSw; go_simp; try with_reducible rfl)
            try simp only [Mem.pa, Mem.pb, Mem.pc, Act.put, Mem.pd, Mem.pe, Mem.pf]
            refine Mem.tkV 3 ?v17 ?y17 ?r17
            case y17 => (intro w hSw; clear hSw; go_simp; try with_reducible rfl)
            refine Mem.tkV 4 ?v18 ?y18 ?r18
            case y18 => (intro w hSw; obtain ⟨hT0, hT1, hT2⟩ := hCl.out w hSw; clear hSw; go_simp; try with_reducible rfl)
            refine Mem.tkV 5 ?v19 ?y19 ?r19
            case y19 => (intro w hSw; clear hSw; go_simp; try with_reducible rfl)
            try simp only [Mem.pa, Mem.pb, Mem.pc, Act.put, Mem.pd, Mem.pe, Mem.pf]
            refine Mem.tkV 6 ?v20 ?y20 ?r20
            case y20 => (intro w hSw; clear hSw; go_simp; try with_reducible rfl)
            try simp only [Mem.pa, Mem.pb, Mem.pc, Act.put, Mem.pd, Mem.pe, Mem.pf]
            first | refine Mem.tkN 7 ?r21 | (refine Mem.tkV 7 ?v21 ?y21 ?r21; case y21 => (intro w hSw; clear hSw; go_simp; try with_reducible rfl))
            try simp only [Mem.pa, Mem.pb, Mem.pc, Act.put, Mem.pd, Mem.pe, Mem.pf]
            first | refine Mem.tkN 8 ?r22 | (refine Mem.tkV 8 ?v22 ?y22 ?r22; case y22 => (intro w hSw; obtain ⟨hT0, hT1, hT2⟩ := hCl.out w hSw; clear hSw; go_simp; try with_reducible rfl))
            try simp only [Mem.pa, Mem.pb, Mem.pc, Act.put, Mem.pd, Mem.pe, Mem.pf]
            first | refine Mem.tkN 9 ?r23 | (refine Mem.tkV 9 ?v23 ?y23 ?r23; case y23 => (intro w hSw; clear hSw; go_simp; try with_reducible rfl))
            try simp only [Mem.pa, Mem.pb, Mem.pc, Act.put, Mem.pd, Mem.pe, Mem.pf]
            first | refine Mem.tkN 10 ?r24 | (refine Mem.tkV 10 ?v24 ?y24 ?r24; case y24 => (intro w hSw; clear hSw; go_simp; try with_reducible rfl))
            try simp only [Mem.pa, Mem.pb, Mem.pc, Act.put, Mem.pd, Mem.pe, Mem.pf]
            first | refine Mem.tkN 11 ?r25 | (refine Mem.tkV 11 ?v25 ?y25 ?r25; case y25 => (intro w hSw; obtain ⟨hT0, hT1, hT2⟩ := hCl.out w hSw; clear hSw; go_simp; try with_reducible rfl))
            try simp only [Mem.pa, Mem.pb, Mem.pc, Act.put, Mem.pd, Mem.pe, Mem.pf]
            first | refine Mem.tkN 12 ?r26 | (refine Mem.tkV 12 ?v26 ?y26 ?r26; case y26 => (intro w hSw; clear hSw; go_simp; try with_reducible rfl))
            try simp only [Mem.pa, Mem.pb, Mem.pc, Act.put, Mem.pd, Mem.pe, Mem.pf]
            first | refine Mem.tkN 13 ?r27 | (refine Mem.tkV 13 ?v27 ?y27 ?r27; case y27 => (intro w hSw; obtain ⟨hT0, hT1, hT2⟩ := hCl.out w hSw; clear hSw; go_simp; try with_reducible rfl))
            try simp only [Mem.pa, Mem.pb, Mem.pc, Act.put, Mem.pd, Mem.pe, Mem.pf]
            first | refine Mem.tkN 14 ?r28 | (refine Mem.tkV 14 ?v28 ?y28 ?r28; case y28 => (intro w hSw; clear hSw; go_simp; try with_reducible rfl))
            refine Mem.tkV 15 ?v29 ?y29 ?r29
            case y29 => (intro w hSw; clear hSw; go_simp; try with_reducible rfl)
            try simp only [Mem.pa, Mem.pb, Mem.pc, Act.put, Mem.pd, Mem.pe, Mem.pf]
            refine wpAnyH_done (by kernel_rfl) ?_ _
            clear hCl
            have hbz := hbd.trans (hHeld.mono hbd.size)
            have R2Z := Lib.hid (HR2W.out.below hbz)
            have R4Z := Lib.hid (HR4W.out.below hbz)
            have RCZ := Lib.hid (HRCW.out.below hbz)
            have BZ := Lib.hid (HBW.out.trans (hbz.mono HBW.out.size))
            clear hbz
            go_wp2_with (first
              | (with_reducible refine wpList_ldC rfl _ rfl _ rfl _ rfl R2Z.out ?_)
              | (with_reducible refine wpList_storeRow rfl 32 _ _ rfl (w.heap.size + 1 + 1) rfl (rcC AB cB AL s.xs.length cL AK cK s.last (rfu s.dv) s.dv.off s.dv.wr) rfl rcZ 32 7 rcSize rfl rfl (rcC_one _ _ _ _ _ _ _ _ _ _ _) R4Z.out ?_))
            refine bodyPost_ret (v := .tuple #[.agg (rcC AB cB AL s.xs.length cL AK cK s.last (rfu s.dv) s.dv.off s.dv.wr), .int .i64 0, .int .i64 1]) (Rd.results_cell_2 (p := 4) (t2 := 5) (t3 := 6) rfl _ _ (w.heap.size + 1 + 1) 32 (rcC AB cB AL s.xs.length cL AK cK s.last (rfu s.dv) s.dv.off s.dv.wr) (0, 0) _ rfl (R4Z.out.set _) Tryz.underlying32 rfl rcSize) rfl ?_
            exact ⟨⟨AB, cB, AL, cL, AK, cK⟩, by rw [HPN.out, HPS.out], by rw [HPS.out]; exact RCZ.out.go (fun b h1 h2 => setRow_other _ _ _ _ (fun e => h2 (HN2.out b (.inr (.inr (.inr e)))))) (by simp) (fun b _ h2 e => h2 (HN2.out b (.inl e))), below_setRow BZ.out (by omega) _⟩
          · have d1 : decide (y < 1) = false := decide_eq_false h0
            have d2 : decide (s.last < y) = true := decide_eq_true (by omega)
            go_wp2_with fail
            clear q4
            refine wp_region_held_drew (S := Go.RowKit.Below ((wr.drew).heap.size) (wr.drew)) (by kernel_rfl) ?hb42 (fun hHeld => ?rest42)
            case hb42 =>
              exact Go.RowKit.Below.refl _ _
            case' rest42 => skip
            have hCl := fun (wS : World) (hSw : Go.RowKit.Below ((wr.drew).heap.size) (wr.drew) wS) => And.intro ((Mem.bl_row hSw r2d (by first | exact Mem.Row.lt r2d | omega | (simp <;> omega))).cell 2 rfl) <| And.intro ((Mem.bl_row hSw r3d (by first | exact Mem.Row.lt r3d | omega | (simp <;> omega))).cell 4 rfl) <| Mem.bl_cell hSw hc1d (by first | omega | (dsimp only; omega) | exact World.block_lt_of_cell? _ _ hc1d | (simp <;> omega))
            replace hCl := Go.Lib.hid hCl
            refine Mem.tkV 0 ?v43 ?y43 ?r43
            case y43 => (intro w hSw; clear hSw; go_simp; try with_reducible rfl)
            refine Mem.tkV 1 ?v44 ?y44 ?r44
            case y44 => (intro w hSw; obtain ⟨hT0, hT1, hT2⟩ := hCl.out w hSw; clear hSw; go_simp; try with_reducible rfl)
            refine Mem.tkV 2 ?v45 ?y45 ?r45
            case y45 => (intro w hSw; clear hSw; go_simp; try with_reducible rfl)
            try simp only [Mem.pa, Mem.pb, Mem.pc, Act.put, Mem.pd, Mem.pe, Mem.pf]
            refine Mem.tkV 3 ?v46 ?y46 ?r46
            case y46 => (intro w hSw; clear hSw; go_simp; try with_reducible rfl)
            refine Mem.tkV 4 ?v47 ?y47 ?r47
            case y47 => (intro w hSw; obtain ⟨hT0, hT1, hT2⟩ := hCl.out w hSw; clear hSw; go_simp; try with_reducible rfl)
            refine Mem.tkV 5 ?v48 ?y48 ?r48
            case y48 => (intro w hSw; clear hSw; go_simp; try with_reducible rfl)
            try simp only [Mem.pa, Mem.pb, Mem.pc, Act.put, Mem.pd, Mem.pe, Mem.pf]
            refine Mem.tkV 6 ?v49 ?y49 ?r49
            case y49 => (intro w hSw; clear hSw; go_simp; try with_reducible rfl)
            try simp only [Mem.pa, Mem.pb, Mem.pc, Act.put, Mem.pd, Mem.pe, Mem.pf]
            first | refine Mem.tkN 7 ?r50 | (refine Mem.tkV 7 ?v50 ?y50 ?r50; case y50 => (intro w hSw; clear hSw; go_simp; try with_reducible rfl))
            try simp only [Mem.pa, Mem.pb, Mem.pc, Act.put, Mem.pd, Mem.pe, Mem.pf]
            first | refine Mem.tkN 8 ?r51 | (refine Mem.tkV 8 ?v51 ?y51 ?r51; case y51 => (intro w hSw; obtain ⟨hT0, hT1, hT2⟩ := hCl.out w hSw; clear hSw; go_simp; try with_reducible rfl))
            try simp only [Mem.pa, Mem.pb, Mem.pc, Act.put, Mem.pd, Mem.pe, Mem.pf]
            first | refine Mem.tkN 9 ?r52 | (refine Mem.tkV 9 ?v52 ?y52 ?r52; case y52 => (intro w hSw; clear hSw; go_simp; try with_reducible rfl))
            try simp only [Mem.pa, Mem.pb, Mem.pc, Act.put, Mem.pd, Mem.pe, Mem.pf]
            first | refine Mem.tkN 10 ?r53 | (refine Mem.tkV 10 ?v53 ?y53 ?r53; case y53 => (intro w hSw; clear hSw; go_simp; try with_reducible rfl))
            try simp only [Mem.pa, Mem.pb, Mem.pc, Act.put, Mem.pd, Mem.pe, Mem.pf]
            first | refine Mem.tkN 11 ?r54 | (refine Mem.tkV 11 ?v54 ?y54 ?r54; case y54 => (intro w hSw; obtain ⟨hT0, hT1, hT2⟩ := hCl.out w hSw; clear hSw; go_simp; try with_reducible rfl))
            try simp only [Mem.pa, Mem.pb, Mem.pc, Act.put, Mem.pd, Mem.pe, Mem.pf]
            first | refine Mem.tkN 12 ?r55 | (refine Mem.tkV 12 ?v55 ?y55 ?r55; case y55 => (intro w hSw; clear hSw; go_simp; try with_reducible rfl))
            try simp only [Mem.pa, Mem.pb, Mem.pc, Act.put, Mem.pd, Mem.pe, Mem.pf]
            first | refine Mem.tkN 13 ?r56 | (refine Mem.tkV 13 ?v56 ?y56 ?r56; case y56 => (intro w hSw; obtain ⟨hT0, hT1, hT2⟩ := hCl.out w hSw; clear hSw; go_simp; try with_reducible rfl))
            try simp only [Mem.pa, Mem.pb, Mem.pc, Act.put, Mem.pd, Mem.pe, Mem.pf]
            first | refine Mem.tkN 14 ?r57 | (refine Mem.tkV 14 ?v57 ?y57 ?r57; case y57 => (intro w hSw; clear hSw; go_simp; try with_reducible rfl))
            refine Mem.tkV 15 ?v58 ?y58 ?r58
            case y58 => (intro w hSw; clear hSw; go_simp; try with_reducible rfl)
            try simp only [Mem.pa, Mem.pb, Mem.pc, Act.put, Mem.pd, Mem.pe, Mem.pf]
            refine wpAnyH_done (by kernel_rfl) ?_ _
            clear hCl
            have hbz := hbd.trans (hHeld.mono hbd.size)
            have R2Z := Lib.hid (HR2W.out.below hbz)
            have R4Z := Lib.hid (HR4W.out.below hbz)
            have RCZ := Lib.hid (HRCW.out.below hbz)
            have BZ := Lib.hid (HBW.out.trans (hbz.mono HBW.out.size))
            clear hbz
            go_wp2_with (first
              | (with_reducible refine wpList_ldC rfl _ rfl _ rfl _ rfl R2Z.out ?_)
              | (with_reducible refine wpList_storeRow rfl 32 _ _ rfl (w.heap.size + 1 + 1) rfl (rcC AB cB AL s.xs.length cL AK cK s.last (rfu s.dv) s.dv.off s.dv.wr) rfl rcZ 32 7 rcSize rfl rfl (rcC_one _ _ _ _ _ _ _ _ _ _ _) R4Z.out ?_))
            refine bodyPost_ret (v := .tuple #[.agg (rcC AB cB AL s.xs.length cL AK cK s.last (rfu s.dv) s.dv.off s.dv.wr), .int .i64 0, .int .i64 1]) (Rd.results_cell_2 (p := 4) (t2 := 5) (t3 := 6) rfl _ _ (w.heap.size + 1 + 1) 32 (rcC AB cB AL s.xs.length cL AK cK s.last (rfu s.dv) s.dv.off s.dv.wr) (0, 0) _ rfl (R4Z.out.set _) Tryz.underlying32 rfl rcSize) rfl ?_
            exact ⟨⟨AB, cB, AL, cL, AK, cK⟩, by rw [HPN.out, HPS.out], by rw [HPS.out]; exact RCZ.out.go (fun b h1 h2 => setRow_other _ _ _ _ (fun e => h2 (HN2.out b (.inr (.inr (.inr e)))))) (by simp) (fun b _ h2 e => h2 (HN2.out b (.inl e))), below_setRow BZ.out (by omega) _⟩
        · have d1 : decide (y < 1) = false := decide_eq_false (by omega)
          have d2 : decide (s.last < y) = false := decide_eq_false (by omega)
          have HIN2 : Hid (∀ n ∈ x.needs.take (k + 1), 1 ≤ n ∧ n ≤ s.last) := Lib.hid (fun n hn => by
            rw [hTK.out] at hn
            rcases List.mem_append.1 hn with h | h
            · exact hin.out n h
            · rw [List.mem_singleton] at h; subst h; omega)
          clear hin hTK hmem hy
          go_wp2_with fail
          clear q4
          refine wp_region_held_drew (S := Go.RowKit.Below ((wr.drew).heap.size) (wr.drew)) (by kernel_rfl) ?hb64 (fun hHeld => ?rest64)
          case hb64 =>
            exact Go.RowKit.Below.refl _ _
          case' rest64 => skip
          have hCl := fun (wS : World) (hSw : Go.RowKit.Below ((wr.drew).heap.size) (wr.drew) wS) => And.intro ((Mem.bl_row hSw r2d (by first | exact Mem.Row.lt r2d | omega | (simp <;> omega))).cell 2 rfl) <| And.intro ((Mem.bl_row hSw r3d (by first | exact Mem.Row.lt r3d | omega | (simp <;> omega))).cell 4 rfl) <| Mem.bl_cell hSw hc1d (by first | omega | (dsimp only; omega) | exact World.block_lt_of_cell? _ _ hc1d | (simp <;> omega))
          replace hCl := Go.Lib.hid hCl
          refine Mem.tkV 0 ?v65 ?y65 ?r65
          case y65 => (intro w hSw; clear hSw; go_simp; try with_reducible rfl)
          refine Mem.tkV 1 ?v66 ?y66 ?r66
          case y66 => (intro w hSw; obtain ⟨hT0, hT1, hT2⟩ := hCl.out w hSw; clear hSw; go_simp; try with_reducible rfl)
          refine Mem.tkV 2 ?v67 ?y67 ?r67
          case y67 => (intro w hSw; clear hSw; go_simp; try with_reducible rfl)
          try simp only [Mem.pa, Mem.pb, Mem.pc, Act.put, Mem.pd, Mem.pe, Mem.pf]
          refine Mem.tkV 3 ?v68 ?y68 ?r68
          case y68 => (intro w hSw; clear hSw; go_simp; try with_reducible rfl)
          refine Mem.tkV 4 ?v69 ?y69 ?r69
          case y69 => (intro w hSw; obtain ⟨hT0, hT1, hT2⟩ := hCl.out w hSw; clear hSw; go_simp; try with_reducible rfl)
          refine Mem.tkV 5 ?v70 ?y70 ?r70
          case y70 => (intro w hSw; clear hSw; go_simp; try with_reducible rfl)
          try simp only [Mem.pa, Mem.pb, Mem.pc, Act.put, Mem.pd, Mem.pe, Mem.pf]
          refine Mem.tkV 6 ?v71 ?y71 ?r71
          case y71 => (intro w hSw; clear hSw; go_simp; try with_reducible rfl)
          try simp only [Mem.pa, Mem.pb, Mem.pc, Act.put, Mem.pd, Mem.pe, Mem.pf]
          first | refine Mem.tkN 7 ?r72 | (refine Mem.tkV 7 ?v72 ?y72 ?r72; case y72 => (intro w hSw; clear hSw; go_simp; try with_reducible rfl))
          try simp only [Mem.pa, Mem.pb, Mem.pc, Act.put, Mem.pd, Mem.pe, Mem.pf]
          first | refine Mem.tkN 8 ?r73 | (refine Mem.tkV 8 ?v73 ?y73 ?r73; case y73 => (intro w hSw; obtain ⟨hT0, hT1, hT2⟩ := hCl.out w hSw; clear hSw; go_simp; try with_reducible rfl))
          try simp only [Mem.pa, Mem.pb, Mem.pc, Act.put, Mem.pd, Mem.pe, Mem.pf]
          first | refine Mem.tkN 9 ?r74 | (refine Mem.tkV 9 ?v74 ?y74 ?r74; case y74 => (intro w hSw; clear hSw; go_simp; try with_reducible rfl))
          try simp only [Mem.pa, Mem.pb, Mem.pc, Act.put, Mem.pd, Mem.pe, Mem.pf]
          first | refine Mem.tkN 10 ?r75 | (refine Mem.tkV 10 ?v75 ?y75 ?r75; case y75 => (intro w hSw; clear hSw; go_simp; try with_reducible rfl))
          try simp only [Mem.pa, Mem.pb, Mem.pc, Act.put, Mem.pd, Mem.pe, Mem.pf]
          first | refine Mem.tkN 11 ?r76 | (refine Mem.tkV 11 ?v76 ?y76 ?r76; case y76 => (intro w hSw; obtain ⟨hT0, hT1, hT2⟩ := hCl.out w hSw; clear hSw; go_simp; try with_reducible rfl))
          try simp only [Mem.pa, Mem.pb, Mem.pc, Act.put, Mem.pd, Mem.pe, Mem.pf]
          first | refine Mem.tkN 12 ?r77 | (refine Mem.tkV 12 ?v77 ?y77 ?r77; case y77 => (intro w hSw; clear hSw; go_simp; try with_reducible rfl))
          try simp only [Mem.pa, Mem.pb, Mem.pc, Act.put, Mem.pd, Mem.pe, Mem.pf]
          first | refine Mem.tkN 13 ?r78 | (refine Mem.tkV 13 ?v78 ?y78 ?r78; case y78 => (intro w hSw; obtain ⟨hT0, hT1, hT2⟩ := hCl.out w hSw; clear hSw; go_simp; try with_reducible rfl))
          try simp only [Mem.pa, Mem.pb, Mem.pc, Act.put, Mem.pd, Mem.pe, Mem.pf]
          first | refine Mem.tkN 14 ?r79 | (refine Mem.tkV 14 ?v79 ?y79 ?r79; case y79 => (intro w hSw; clear hSw; go_simp; try with_reducible rfl))
          refine Mem.tkV 15 ?v80 ?y80 ?r80
          case y80 => (intro w hSw; clear hSw; go_simp; try with_reducible rfl)
          try simp only [Mem.pa, Mem.pb, Mem.pc, Act.put, Mem.pd, Mem.pe, Mem.pf]
          refine wpAnyH_done (by kernel_rfl) ?_ _
          clear hCl
          go_wp2_with fail
          go_roundw
          case rel => exact ⟨k + 1, by omega, by go_num, HIN2, HBR.out.drew.trans (hHeld.mono HBR.out.size)⟩
          case measure => simp [intOf]; omega
      · obtain rfl : k = x.needs.length := by omega
        obtain ⟨L, hLs, hLe⟩ : ∃ L, neL s x.needs = some L ∧ L = upL (doneB s) x.needs s.last.toNat := ⟨_, ne_up HI.out.last0 (by have := hin.out; rw [List.take_length] at this; exact this), rfl⟩
        have HPE3 : Hid (PE = kE s x.blk) := Lib.hid (HPE2.out.trans (by rw [hLs]; rfl))
        have HPG2 : Hid (PE = 0 → PS = { kS s x.blk with last := s.last + 1, xs := s.xs ++ [⟨s.last + 1, x.blk, x.pa, x.pd, L⟩] } ∧ PN = s.last + 1) := Lib.hid (HPG.out L hLs)
        have HLE := Lib.hid hLe
        have r2 := HR2W.out.below hbr
        have r3 := HR3W.out.below hbr
        have q4 : wr.cell? ⟨w.heap.size + 1, 4, none⟩ = some (.slice A2 x.needs.length cn) := r3.cell 4 rfl
        have HR2V := Lib.hid r2
        have HR3V := Lib.hid r3
        have HR4V := Lib.hid (HR4W.out.below hbr)
        have HRCV := Lib.hid (HRCW.out.below hbr)
        have HBV := Lib.hid (HBW.out.trans (hbr.mono HBW.out.size))
        have HXV := Lib.hid (HXW.out.below hbr)
        have HPDV := Lib.hid (Rw.out2 HPDW.out (fun k h1 _ => hbr.block k h1) hbr.size (fun _ _ h => h))
        have hl0 := HI.out.last0
        clear hLs hLe hin HPE2 HPG r2 r3 hbr HR2W HR3W HR4W HRCW HBW HXW HPDW
        generalize wr = w5 at *
        have k2 : w5.cell? ⟨w.heap.size, 2, none⟩ = some (.int .i64 s.last) := HR2V.out.cell 2 rfl
        go_wp2_with fail
        go_loopw [8, 9] (fun v i wr => ∃ (m : Nat), (m : Int) ≤ s.last ∧ i = .int .i64 ((m : Int) + 1) ∧ Ns wr w5.heap.size v (upL (doneB s) x.needs m) ∧ Below w5.heap.size w5 wr) (fun _ i _ => (s.last + 1 - intOf i).toNat)
        case atStart => exact ⟨0, by omega, rfl, Own.nil _ _ _ _, Below.refl _ _⟩
        case round =>
          obtain ⟨m, hm, rfl, hown, hbr⟩ := hrel
          have r2 := HR2V.out.below hbr
          have r3 := HR3V.out.below hbr
          have k2 : wr.cell? ⟨w.heap.size, 2, none⟩ = some (.int .i64 s.last) := r2.cell 2 rfl
          have q4 : wr.cell? ⟨w.heap.size + 1, 4, none⟩ = some (.slice A2 x.needs.length cn) := r3.cell 4 rfl
          have hul := upL_len (doneB s) x.needs m
          by_cases hlt : (m : Int) + 1 ≤ s.last
          · have CI := Lib.hid (in_any A2 cn x.needs ((m : Int) + 1) wr (HXV.out.n4.below hbr))
            have CDN := Lib.hid (fun w' (hb : Below wr.heap.size wr w') => RDone_any N2 ((m : Int) + 1) ⟨AB, cB, AL, cL, AK, cK⟩ s w' ((HRCV.out.below hbr).below hb))
            have HUP : Hid (upL (doneB s) x.needs (m + 1) = if decide (((m : Int) + 1) ∈ x.needs) = true ∧ doneB s ((m : Int) + 1) = false then upL (doneB s) x.needs m ++ [(m : Int) + 1] else upL (doneB s) x.needs m) := Lib.hid rfl
            obtain ⟨U, hU⟩ : ∃ U, upL (doneB s) x.needs m = U := ⟨_, rfl⟩
            rw [hU] at hown hul HUP
            generalize doneB s ((m : Int) + 1) = D at *
            generalize decide (((m : Int) + 1) ∈ x.needs) = I at *
            have HOWN := Lib.hid hown
            have HBR := Lib.hid hbr
            have HR2R := Lib.hid r2
            have hB := hbr.size
            clear hown hbr r2 r3 hU
            go_wp2_with fail
            refine CI.out.mono ?_
            rintro e w6 ⟨rfl, hb6⟩
            have HOWN6 := Lib.hid (HOWN.out.below hb6)
            have HBR6 := Lib.hid (HBR.out.trans (hb6.mono HBR.out.size))
            have HR26 := Lib.hid (HR2R.out.below hb6)
            have CD6 := Lib.hid (CDN.out w6 hb6)
            have hB6 := HBR6.out.size
            clear hb6 CI CDN HOWN HBR HR2R k2 q4
            cases I with
            | false =>
              have HU2 : Hid (upL (doneB s) x.needs (m + 1) = U) := Lib.hid (HUP.out.trans (if_neg (fun e => by cases e.1)))
              clear HUP CD6
              go_wp2_with fail
              go_roundw
              case rel => exact ⟨m + 1, by omega, by go_num, by rw [HU2.out]; exact HOWN6.out, HBR6.out⟩
              case measure => simp [intOf]; omega
            | true =>
              have k0 := HR26.out.cell 0 rfl
              have k1 := HR26.out.cell 1 rfl
              have k2 := HR26.out.cell 2 rfl
              have k3 := HR26.out.cell 3 rfl
              have k4 := HR26.out.cell 4 rfl
              have k5 := HR26.out.cell 5 rfl
              have k6 := HR26.out.cell 6 rfl
              go_wp2_with fail
              refine CD6.out.mono ?_
              rintro e w7 ⟨rfl, hb7⟩
              have HOWN7 := Lib.hid (HOWN6.out.below hb7)
              have HBR7 := Lib.hid (HBR6.out.trans (hb7.mono HBR6.out.size))
              have hB7 := HBR7.out.size
              clear hb7 CD6 HOWN6 HBR6 HR26 k0 k1 k2 k3 k4 k5 k6 hB6
              cases D with
              | true =>
                have HU2 : Hid (upL (doneB s) x.needs (m + 1) = U) := Lib.hid (HUP.out.trans (if_neg (fun e => by cases e.2)))
                clear HUP
                go_wp2_with fail
                go_roundw
                case rel => exact ⟨m + 1, by omega, by go_num, by rw [HU2.out]; exact HOWN7.out, HBR7.out⟩
                case measure => simp [intOf]; omega
              | false =>
                have HU2 : Hid (upL (doneB s) x.needs (m + 1) = U ++ [(m : Int) + 1]) := Lib.hid (HUP.out.trans (if_pos (by simp)))
                clear HUP
                have hc1 : (w7.alloc (.cells #[.int .i64 ((m : Int) + 1)] 3)).cell? ⟨w7.heap.size, 0, none⟩ = some (.int .i64 ((m : Int) + 1)) := by
                  rw [cell_of_row _ _ _ _ _ _ (heap_alloc_new w7 _)]; rfl
                go_wp2_with (at_builtin; go_loud (refine wpList_app1 rfl _ _ 47 rfl w5.heap.size 3 (.int .i64 0) 8 V64 Tryz.underlying47 intInfo3 rfl _ U ((m : Int) + 1) rfl _ w7.heap.size rfl (HOWN7.out.alloc _) hc1 rfl (by omega) (by omega) (by simp; omega) ?_); intro v1 w8 hown8 hbel8 hg8)
                have HOWN8 := Lib.hid hown8
                have HBR8 := Lib.hid ((HBR7.out.alloc hB7 (.cells #[.int .i64 ((m : Int) + 1)] 3)).trans hbel8)
                clear hown8 hbel8 hg8 hc1
                go_wp2_with fail
                go_roundw
                case rel => exact ⟨m + 1, by omega, by go_num, by rw [HU2.out]; exact HOWN8.out, HBR8.out⟩
                case measure => simp [intOf]; omega
          · obtain rfl : s.last.toNat = m := by omega
            rw [← HLE.out] at hown
            have hLw : ∀ n ∈ L, WfI n := fun n hn => by
              rw [HLE.out, upL_mem] at hn
              exact (wf_iff _).2 ⟨by omega, by omega⟩
            obtain ⟨A8, c8, rfl, y1, y2, y3, hi8⟩ := own_isF hown hLw
            have HI8 := Lib.hid hi8
            have hll : L.length ≤ 1000 := by rw [HLE.out]; have := upL_len (doneB s) x.needs s.last.toNat; omega
            have r2 := HR2V.out.below hbr
            have r3 := HR3V.out.below hbr
            have k2 : wr.cell? ⟨w.heap.size, 2, none⟩ = some (.int .i64 s.last) := r2.cell 2 rfl
            have k31 : wr.cell? ⟨w.heap.size + 1, 1, none⟩ = some (.int .i64 x.blk) := r3.cell 1 rfl
            have CK := Lib.hid (RKnown_any N2 x.blk ⟨AB, cB, AL, cL, AK, cK⟩ s wr (HRCV.out.below hbr) (fun b hb => by have := HN2L.out b hb; have := Row.lt HR4V.out; have := hbr.size; omega) HI.out)
            have HR2U := Lib.hid r2
            have HR3U := Lib.hid r3
            have HR4U := Lib.hid (HR4V.out.below hbr)
            have HRCU := Lib.hid (HRCV.out.below hbr)
            have HBU := Lib.hid (HBV.out.trans (hbr.mono HBV.out.size))
            have HPDU := Lib.hid (Rw.out2 HPDV.out (fun k h1 _ => hbr.block k h1) hbr.size (fun _ _ h => h))
            have hs5 : w.heap.size + 1 + 1 < w5.heap.size := Row.lt HR4V.out
            have hsr : w5.heap.size ≤ wr.heap.size := hbr.size
            clear hown hi8 r2 r3 hbr HR2V HR3V HR4V HRCV HBV HXV HPDV hul hm hlt q4 hLw
            have hkS := fun (hq : PE ≠ 0) => HPS0.out hq
            have e_xs := kS_xs s x.blk
            have e_last := kS_last s x.blk
            rw [← HPE3.out] at CK
            obtain ⟨S2, hS2⟩ : ∃ S2, kS s x.blk = S2 := ⟨_, rfl⟩
            rw [hS2] at CK e_xs e_last HPG2
            have HEX := Lib.hid e_xs
            have HEL := Lib.hid e_last
            clear hS2 e_xs e_last HPE3
            go_wp2_with (with_reducible refine wpList_ldC rfl _ rfl _ rfl _ rfl HR2U.out ?_)
            refine CK.out.mono ?_
            rintro e w6 ⟨⟨AB2, cB2, AL2, cL2, AK2, cK2⟩, rfl, hR2, hb6⟩
            have hs6 : w5.heap.size ≤ w6.heap.size := Nat.le_trans hsr hb6.size
            have HB6 := Lib.hid hb6
            have HRP := Lib.hid hR2
            clear hb6 hR2 CK k2 k31
            by_cases hq : PE = 0
            · obtain ⟨hps, hpn⟩ := HPG2.out hq
              have HPS := Lib.hid hps
              have HPN := Lib.hid hpn
              subst hq
              clear hps hpn hkS HPG2
              go_wp2_with fail
              have hwr2 : wrap64 (S2.last + 1) = s.last + 1 := by rw [HEL.out]; unfold wrap64; omega
              rw [hwr2, HEX.out]
              obtain ⟨W, hW⟩ : ∃ W, W = w6.alloc (.cells (rcC AB2 cB2 AL2 s.xs.length cL2 AK2 cK2 (s.last + 1) (rfu S2.dv) S2.dv.off S2.dv.wr) 32) := ⟨_, rfl⟩
              have b9 : Below w6.heap.size w6 W := by rw [hW]; exact bb0 _ _
              have hr10 : Row W w6.heap.size 32 (rcC AB2 cB2 AL2 s.xs.length cL2 AK2 cK2 (s.last + 1) (rfu S2.dv) S2.dv.off S2.dv.wr) := by rw [hW]; exact Row.new _ _ _
              have hb9 := HB6.out.trans (b9.mono HB6.out.size)
              obtain ⟨r10, hr10e⟩ : ∃ r10, w6.heap.size = r10 := ⟨_, rfl⟩
              obtain ⟨N3, hN3e⟩ : ∃ N3 : Nat → Prop, N3 = fun b => N2 b ∨ b = r10 := ⟨_, rfl⟩
              have hN3r : N3 r10 := by rw [hN3e]; exact .inr rfl
              have hN23 : ∀ b, N2 b → N3 b := fun b hb => by rw [hN3e]; exact .inl hb
              have hN3L : ∀ b, N3 b → b < w.heap.size + 3 ∨ b = r10 := fun b hb => by rw [hN3e] at hb; rcases hb with h | h; exact .inl (HN2L.out b h); exact .inr h
              have hRC3 : Rc N3 W ⟨AB2, cB2, AL2, cL2, AK2, cK2⟩ S2 := by rw [hN3e, ← hr10e]; exact HRP.out.fresh b9 (Nat.le_refl _)
              have hlst := hRC3.list
              rw [HEX.out] at hlst
              have HLST := Lib.hid hlst
              have hlc2 : AL2 = none → cL2 = 0 := hRC3.lc
              have HRC3 := Lib.hid hRC3
              have HPD3 : Hid (Rw kByte W (Out2 N3 W) A x.pd.length x.pd) := Lib.hid (Rw.out2 HPDU.out (fun k h1 _ => hb9.block k h1) hb9.size (fun b h1 h2 h3 => by rw [hN3e] at h3; rcases h3 with h | h; exact h2 h; have := HB6.out.size; omega))
              have HI3 : Hid (Rw (kInt .i64) W (Out2 N3 W) A8 L.length L) := Lib.hid ((Rw.stay (w := wr) (fun b hb => hb9.block b hb.2) HI8.out).mono fun b hb => ⟨Nat.lt_of_lt_of_le hb.2 hb9.size, fun h3 => by have h1 := hb.1; have h2 := hb.2; have := HB6.out.size; rcases hN3L b h3 with h | h <;> omega⟩)
              have hr3 := HR3U.out.below hb9
              have HR4T := Lib.hid (HR4U.out.below hb9)
              have HBT := Lib.hid (HBU.out.trans (hb9.mono HBU.out.size))
              have hok : ChOk (⟨s.last + 1, x.blk, x.pa, x.pd, L⟩ : Chg) := ⟨(wf_iff _).2 ⟨by show -_ ≤ s.last + 1; omega, by show s.last + 1 ≤ _; omega⟩, HXOK.out.2.1, HXOK.out.2.2⟩
              have HOK := Lib.hid hok
              have hrw10 : r10 < W.heap.size := by rw [← hr10e]; exact hr10.lt
              have hrw10d : r10 < W.drew.heap.size := hrw10
              have hw10 : w.heap.size + 1 + 1 < r10 := by omega
              have hsl : s.xs.length ≤ 1000 := HI.out.xl
              rw [← hW, hr10e]
              rw [hr10e] at hr10
              have hq2 : W.drew.cell? ⟨r10, 2, none⟩ = some (.int .i64 (s.last + 1)) := hr10.cell 2 rfl
              have hr3d := hr3.drew
              have HR10 := Lib.hid hr10.drew
              have HW := Lib.hid hW
              clear hW b9 hb9 hr10 hRC3 hlst hr3 hok HB6 HR2U HR3U HR4U HRCU HBU HPDU HI8 HRP hwr2 hN3e
              go_cut [10] (fun s10 w' => s10 = .pointer (some ⟨r10, 0, none⟩) ∧ ∃ A9 c9, Row w' r10 32 (rcC AB2 cB2 A9 (s.xs.length + 1) c9 AK2 cK2 (s.last + 1) (rfu S2.dv) S2.dv.off S2.dv.wr) ∧ Rw kChg w' (Out2 N3 w') A9 (s.xs.length + 1) (s.xs ++ [⟨s.last + 1, x.blk, x.pa, x.pd, L⟩]) ∧ (A9 = none → c9 = 0) ∧ Lk r10 1 W w')
              case first =>
                have hr10 := HR10.out
                have hll : (s.xs ++ [(⟨s.last + 1, x.blk, x.pa, x.pd, L⟩ : Chg)]).length = s.xs.length + 1 := by simp
                have HLL := Lib.hid hll
                clear hll
                refine wp_region_held_drew (S := fun w' => Cb.Lk r10 1 (W.drew) w') (by kernel_rfl) ?hb91 (fun hHeld => ?rest91)
                case hb91 =>
                  exact Cb.Lk.refl _ _ _
                case' rest91 => skip
                have hCl := fun (wS : World) (hSw : Cb.Lk r10 1 (W.drew) wS) => And.intro (Cb.Lk.cl hSw _ _ (by decide) hq2) <| And.intro ((Cb.Lk.kept hSw hr3d (by omega)).cell 1 rfl) <| And.intro ((Cb.Lk.kept hSw hr3d (by omega)).cell 2 rfl) <| (Cb.Lk.kept hSw hr3d (by omega)).cell 3 rfl
                replace hCl := Go.Lib.hid hCl
                refine Mem.tkV 1 ?v92 ?y92 ?r92
                case y92 => (intro w hSw; clear hSw; go_simp; try with_reducible rfl)
                refine Mem.tkV 4 ?v93 ?y93 ?r93
                case y93 => (intro w hSw; clear hSw; go_simp; try with_reducible rfl)
                refine Mem.tkV 5 ?v94 ?y94 ?r94
                case y94 => (intro w hSw; obtain ⟨hT0, hT1, hT2, hT3⟩ := hCl.out w hSw; clear hSw; go_simp; try with_reducible rfl)
                try simp only [Mem.pa, Mem.pb, Mem.pc, Act.put, Mem.pd, Mem.pe, Mem.pf]
                refine Mem.tkV 6 ?v95 ?y95 ?r95
                case y95 => (intro w hSw; clear hSw; go_simp; try with_reducible rfl)
                refine Mem.tkV 7 ?v96 ?y96 ?r96
                case y96 => (intro w hSw; obtain ⟨hT0, hT1, hT2, hT3⟩ := hCl.out w hSw; clear hSw; go_simp; try with_reducible rfl)
                refine Mem.tkV 8 ?v97 ?y97 ?r97
                case y97 => (intro w hSw; clear hSw; go_simp; try with_reducible rfl)
                try simp only [Mem.pa, Mem.pb, Mem.pc, Act.put, Mem.pd, Mem.pe, Mem.pf]
                refine Mem.tkV 9 ?v98 ?y98 ?r98
                case y98 => (intro w hSw; obtain ⟨hT0, hT1, hT2, hT3⟩ := hCl.out w hSw; clear hSw; go_simp; try with_reducible rfl)
                refine Mem.tkV 10 ?v99 ?y99 ?r99
                case y99 => (intro w hSw; clear hSw; go_simp; try with_reducible rfl)
                refine Mem.tkV 11 ?v100 ?y100 ?r100
                case y100 => (intro w hSw; clear hSw; go_simp; try with_reducible rfl)
                try simp only [Mem.pa, Mem.pb, Mem.pc, Act.put, Mem.pd, Mem.pe, Mem.pf]
                refine wpAnyH_ready (rs := [0, 2, 12]) (by kernel_rfl) (by simp) ?_
                refine AllReadyH.cons rfl (fun K hK => ?_) ?_
                · skip
                  rw [if_pos (by rfl)]
                  refine wp_emptyK (B := W.heap.size) (kN kChg N3) 29 (by rfl) Tryz.underlying29 (by kernel_rfl) hHeld.size ?_; intro g5 wa hO5 hbl hg5; (try have hlt12 := Row.lt hr12); have hg5' : W.heap.size ≤ g5 := by rw [hg5]; exact hHeld.size
                  have hSnew := Cb.Lk.below hHeld hbl (by omega)
                  refine hK.out _ _ ?_ (fun hHeld2 => ?_)
                  · exact hSnew
                  try replace hO5 := hO5.below hbl
                  try replace hO7 := hO7.below hbl
                  try replace hr10 := hr10.below hbl
                  try replace hr12 := hr12.below hbl
                  clear hbl
                  clear hK K hHeld hSnew
                  have hHeld := hHeld2
                  clear hHeld2
                  try simp only [Mem.pa, Mem.pb, Mem.pc, Act.put, Mem.pd, Mem.pe, Mem.pf]
                  refine wpAnyH_ready (rs := [2, 12]) (by kernel_rfl) (by simp) ?_
                  refine AllReadyH.cons rfl (fun K hK => ?_) ?_
                  · skip
                    rw [if_pos (by rfl)]
                    refine wp_load1 29 97 _ (by rfl) ⟨r10, 1, none⟩ (by rfl) (.slice AL2 s.xs.length cL2) (hr10.cell 1 rfl) Tryz.underlying29 ?_; have hSnew := hHeld
                    refine hK.out _ _ ?_ (fun hHeld2 => ?_)
                    · exact hSnew
                    clear hK K hHeld hSnew
                    have hHeld := hHeld2
                    clear hHeld2
                    try simp only [Mem.pa, Mem.pb, Mem.pc, Act.put, Mem.pd, Mem.pe, Mem.pf]
                    refine wpAnyH_ready (rs := [3, 12]) (by kernel_rfl) (by simp) ?_
                    refine AllReadyH.cons rfl (fun K hK => ?_) ?_
                    · skip
                      rw [if_pos (by rfl)]
                      refine wp_appR (k := kN kChg N3) (v := .slice (some ⟨g5, 0, none⟩) 0 0) _ _ 29 (by rfl) (.agg chZ) 72 Tryz.underlying29 rchInfo3 rfl (show 0 < 5 by decide) (by rfl) AL2 cL2 (by rfl) hO5 (lk_list hHeld.undrew hN3r HLST.out hg5') hlc2 (by simp; omega) (by simp; omega) hHeld.size ?_; intro v7 w7 hO7 hg7 hat7; rw [List.nil_append] at hO7; have hSnew := hHeld.grown hg7 (fun k e => by simp [Value.ownBlock] at e; omega) hrw10; replace hr10 := gb_row hg7 hr10 (by simp [Value.ownBlock]; omega); (try replace hr12 := gb_row hg7 hr12 (by simp [Value.ownBlock]; omega)); clear hO5 hg7 hat7
                      refine hK.out _ _ ?_ (fun hHeld2 => ?_)
                      · exact hSnew
                      clear hK K hHeld hSnew
                      have hHeld := hHeld2
                      clear hHeld2
                      try simp only [Mem.pa, Mem.pb, Mem.pc, Act.put, Mem.pd, Mem.pe, Mem.pf]
                      refine wpAnyH_ready (rs := [12]) (by kernel_rfl) (by simp) ?_
                      refine AllReadyH.cons rfl (fun K hK => ?_) AllReadyH.nil
                      rw [if_pos (by rfl)]
                      refine wp_build1 29 97 _ (by rfl) 5 72 (.agg chZ) (chC (⟨s.last + 1, x.blk, x.pa, x.pd, L⟩ : Chg) A cp A8 c8) (by rfl) rfl (by decide) (by omega) Tryz.underlying29 rchInfo3 ?_; intro g6 wa hr12 hbl hg6; (try have hlt5 := (OwnK.lt hO5 g5 rfl).2)
                      have hSnew := Cb.Lk.below hHeld hbl (by omega)
                      refine hK.out _ _ ?_ (fun hHeld2 => ?_)
                      · exact hSnew
                      try replace hO5 := hO5.below hbl
                      try replace hO7 := hO7.below hbl
                      try replace hr10 := hr10.below hbl
                      try replace hr12 := hr12.below hbl
                      clear hbl
                      clear hK K hHeld hSnew
                      have hHeld := hHeld2
                      clear hHeld2
                      try simp only [Mem.pa, Mem.pb, Mem.pc, Act.put, Mem.pd, Mem.pe, Mem.pf]
                      refine wpAnyH_ready (rs := [13]) (by kernel_rfl) (by simp) ?_
                      refine AllReadyH.cons rfl (fun K hK => ?_) AllReadyH.nil
                      rw [if_pos (by rfl)]
                      refine wp_appK (k := kN kChg N3) _ _ 29 (by rfl) (.agg chZ) 72 Tryz.underlying29 rchInfo3 rfl (show 0 < 5 by decide) (by rfl) g6 1 (by rfl) hO7 97 (chC (⟨s.last + 1, x.blk, x.pa, x.pd, L⟩ : Chg) A cp A8 c8).toList (by rw [Array.toArray_toList]; exact hr12) (⟨s.last + 1, x.blk, x.pa, x.pd, L⟩ : Chg) (fun b => b < W.heap.size) (kChg_mk (S := Out2 N3 W) HOK.out HXC.out.1 HXC.out.2.1 HXC.out.2.2 (lk_stay hHeld.undrew hN3r HPD3.out) y1 y2 y3 (lk_stay hHeld.undrew hN3r HI3.out)) (fun b hb => ⟨fun e => by have h1 := (OwnK.lt hO7 b e.symm).1; have h2 : b < W.heap.size := hb; omega, Nat.lt_of_lt_of_le hb hHeld.size⟩) (by omega) (by omega) hHeld.size ?_; intro v8 w8 hO8 hg8 hat8; obtain ⟨A9, c9, rfl, z1, z2, z3, z4⟩ := own_out2 hO8 (fun k hk => by rcases hN3L k hk with h | h <;> omega); rw [HLL.out] at z4 ⊢; have hSnew := hHeld.grown hg8 (fun k e => (OwnK.lt hO7 k e).1) hrw10; replace hr10 := gb_row hg8 hr10 (fun e => by have := (OwnK.lt hO7 r10 e.symm).1; omega); have c1 := hr10.cell 1 rfl; have f1 := hr10.frozen 1; clear hO8 hg8 hat8 hO7 hr12
                      refine hK.out _ _ ?_ (fun hHeld2 => ?_)
                      · exact hSnew
                      clear hK K hHeld hSnew
                      have hHeld := hHeld2
                      clear hHeld2
                      try simp only [Mem.pa, Mem.pb, Mem.pc, Act.put, Mem.pd, Mem.pe, Mem.pf]
                      refine Mem.tkV 14 ?v101 ?y101 ?r101
                      case y101 => (intro w hSw; clear hSw; go_simp; try with_reducible rfl)
                      try simp only [Mem.pa, Mem.pb, Mem.pc, Act.put, Mem.pd, Mem.pe, Mem.pf]
                      refine wpAnyH_ready (rs := [15]) (by kernel_rfl) (by simp) ?_
                      refine AllReadyH.cons rfl (fun K hK => ?_) AllReadyH.nil
                      go_simp
                      have hSnew := hHeld.set (.slice A9 (s.xs.length + 1) c9)
                      try go_wp2_with fail
                      refine hK.out _ _ ?_ (fun hHeld2 => ?_)
                      · exact hSnew
                      clear hK K hHeld hSnew
                      have hHeld := hHeld2
                      clear hHeld2
                      try simp only [Mem.pa, Mem.pb, Mem.pc, Act.put, Mem.pd, Mem.pe, Mem.pf]
                      refine wpAnyH_done (by kernel_rfl) ?_ _
                      clear hCl
                      go_wp2_with fail
                      go_meet
                      case rel => exact ⟨rfl, A9, c9, hr10.put 1 _, Rw.out2 z4 (fun b _ h2 => Below.heap_setCell _ _ _ _ (fun e => h2 (e ▸ hN3r))) (by simp [World.setCell]) (fun _ _ h => h), z3, hHeld.undrew⟩
                    refine AllReadyH.cons rfl (fun K hK => ?_) ?_
                    · skip
                      rw [if_pos (by rfl)]
                      refine wp_build1 29 97 _ (by rfl) 5 72 (.agg chZ) (chC (⟨s.last + 1, x.blk, x.pa, x.pd, L⟩ : Chg) A cp A8 c8) (by rfl) rfl (by decide) (by omega) Tryz.underlying29 rchInfo3 ?_; intro g6 wa hr12 hbl hg6; (try have hlt5 := (OwnK.lt hO5 g5 rfl).2)
                      have hSnew := Cb.Lk.below hHeld hbl (by omega)
                      refine hK.out _ _ ?_ (fun hHeld2 => ?_)
                      · exact hSnew
                      try replace hO5 := hO5.below hbl
                      try replace hO7 := hO7.below hbl
                      try replace hr10 := hr10.below hbl
                      try replace hr12 := hr12.below hbl
                      clear hbl
                      clear hK K hHeld hSnew
                      have hHeld := hHeld2
                      clear hHeld2
                      try simp only [Mem.pa, Mem.pb, Mem.pc, Act.put, Mem.pd, Mem.pe, Mem.pf]
                      refine wpAnyH_ready (rs := [3]) (by kernel_rfl) (by simp) ?_
                      refine AllReadyH.cons rfl (fun K hK => ?_) AllReadyH.nil
                      rw [if_pos (by rfl)]
                      refine wp_appR (k := kN kChg N3) (v := .slice (some ⟨g5, 0, none⟩) 0 0) _ _ 29 (by rfl) (.agg chZ) 72 Tryz.underlying29 rchInfo3 rfl (show 0 < 5 by decide) (by rfl) AL2 cL2 (by rfl) hO5 (lk_list hHeld.undrew hN3r HLST.out hg5') hlc2 (by simp; omega) (by simp; omega) hHeld.size ?_; intro v7 w7 hO7 hg7 hat7; rw [List.nil_append] at hO7; have hSnew := hHeld.grown hg7 (fun k e => by simp [Value.ownBlock] at e; omega) hrw10; replace hr10 := gb_row hg7 hr10 (by simp [Value.ownBlock]; omega); (try replace hr12 := gb_row hg7 hr12 (by simp [Value.ownBlock]; omega)); clear hO5 hg7 hat7
                      refine hK.out _ _ ?_ (fun hHeld2 => ?_)
                      · exact hSnew
                      clear hK K hHeld hSnew
                      have hHeld := hHeld2
                      clear hHeld2
                      try simp only [Mem.pa, Mem.pb, Mem.pc, Act.put, Mem.pd, Mem.pe, Mem.pf]
                      refine wpAnyH_ready (rs := [13]) (by kernel_rfl) (by simp) ?_
                      refine AllReadyH.cons rfl (fun K hK => ?_) AllReadyH.nil
                      rw [if_pos (by rfl)]
                      refine wp_appK (k := kN kChg N3) _ _ 29 (by rfl) (.agg chZ) 72 Tryz.underlying29 rchInfo3 rfl (show 0 < 5 by decide) (by rfl) g6 1 (by rfl) hO7 97 (chC (⟨s.last + 1, x.blk, x.pa, x.pd, L⟩ : Chg) A cp A8 c8).toList (by rw [Array.toArray_toList]; exact hr12) (⟨s.last + 1, x.blk, x.pa, x.pd, L⟩ : Chg) (fun b => b < W.heap.size) (kChg_mk (S := Out2 N3 W) HOK.out HXC.out.1 HXC.out.2.1 HXC.out.2.2 (lk_stay hHeld.undrew hN3r HPD3.out) y1 y2 y3 (lk_stay hHeld.undrew hN3r HI3.out)) (fun b hb => ⟨fun e => by have h1 := (OwnK.lt hO7 b e.symm).1; have h2 : b < W.heap.size := hb; omega, Nat.lt_of_lt_of_le hb hHeld.size⟩) (by omega) (by omega) hHeld.size ?_; intro v8 w8 hO8 hg8 hat8; obtain ⟨A9, c9, rfl, z1, z2, z3, z4⟩ := own_out2 hO8 (fun k hk => by rcases hN3L k hk with h | h <;> omega); rw [HLL.out] at z4 ⊢; have hSnew := hHeld.grown hg8 (fun k e => (OwnK.lt hO7 k e).1) hrw10; replace hr10 := gb_row hg8 hr10 (fun e => by have := (OwnK.lt hO7 r10 e.symm).1; omega); have c1 := hr10.cell 1 rfl; have f1 := hr10.frozen 1; clear hO8 hg8 hat8 hO7 hr12
                      refine hK.out _ _ ?_ (fun hHeld2 => ?_)
                      · exact hSnew
                      clear hK K hHeld hSnew
                      have hHeld := hHeld2
                      clear hHeld2
                      try simp only [Mem.pa, Mem.pb, Mem.pc, Act.put, Mem.pd, Mem.pe, Mem.pf]
                      refine Mem.tkV 14 ?v102 ?y102 ?r102
                      case y102 => (intro w hSw; clear hSw; go_simp; try with_reducible rfl)
                      try simp only [Mem.pa, Mem.pb, Mem.pc, Act.put, Mem.pd, Mem.pe, Mem.pf]
                      refine wpAnyH_ready (rs := [15]) (by kernel_rfl) (by simp) ?_
                      refine AllReadyH.cons rfl (fun K hK => ?_) AllReadyH.nil
                      go_simp
                      have hSnew := hHeld.set (.slice A9 (s.xs.length + 1) c9)
                      try go_wp2_with fail
                      refine hK.out _ _ ?_ (fun hHeld2 => ?_)
                      · exact hSnew
                      clear hK K hHeld hSnew
                      have hHeld := hHeld2
                      clear hHeld2
                      try simp only [Mem.pa, Mem.pb, Mem.pc, Act.put, Mem.pd, Mem.pe, Mem.pf]
                      refine wpAnyH_done (by kernel_rfl) ?_ _
                      clear hCl
                      go_wp2_with fail
                      go_meet
                      case rel => exact ⟨rfl, A9, c9, hr10.put 1 _, Rw.out2 z4 (fun b _ h2 => Below.heap_setCell _ _ _ _ (fun e => h2 (e ▸ hN3r))) (by simp [World.setCell]) (fun _ _ h => h), z3, hHeld.undrew⟩
                    exact AllReadyH.nil
                  refine AllReadyH.cons rfl (fun K hK => ?_) ?_
                  · skip
                    rw [if_pos (by rfl)]
                    refine wp_build1 29 97 _ (by rfl) 5 72 (.agg chZ) (chC (⟨s.last + 1, x.blk, x.pa, x.pd, L⟩ : Chg) A cp A8 c8) (by rfl) rfl (by decide) (by omega) Tryz.underlying29 rchInfo3 ?_; intro g6 wa hr12 hbl hg6; (try have hlt5 := (OwnK.lt hO5 g5 rfl).2)
                    have hSnew := Cb.Lk.below hHeld hbl (by omega)
                    refine hK.out _ _ ?_ (fun hHeld2 => ?_)
                    · exact hSnew
                    try replace hO5 := hO5.below hbl
                    try replace hO7 := hO7.below hbl
                    try replace hr10 := hr10.below hbl
                    try replace hr12 := hr12.below hbl
                    clear hbl
                    clear hK K hHeld hSnew
                    have hHeld := hHeld2
                    clear hHeld2
                    try simp only [Mem.pa, Mem.pb, Mem.pc, Act.put, Mem.pd, Mem.pe, Mem.pf]
                    refine wpAnyH_ready (rs := [2]) (by kernel_rfl) (by simp) ?_
                    refine AllReadyH.cons rfl (fun K hK => ?_) AllReadyH.nil
                    rw [if_pos (by rfl)]
                    refine wp_load1 29 97 _ (by rfl) ⟨r10, 1, none⟩ (by rfl) (.slice AL2 s.xs.length cL2) (hr10.cell 1 rfl) Tryz.underlying29 ?_; have hSnew := hHeld
                    refine hK.out _ _ ?_ (fun hHeld2 => ?_)
                    · exact hSnew
                    clear hK K hHeld hSnew
                    have hHeld := hHeld2
                    clear hHeld2
                    try simp only [Mem.pa, Mem.pb, Mem.pc, Act.put, Mem.pd, Mem.pe, Mem.pf]
                    refine wpAnyH_ready (rs := [3]) (by kernel_rfl) (by simp) ?_
                    refine AllReadyH.cons rfl (fun K hK => ?_) AllReadyH.nil
                    rw [if_pos (by rfl)]
                    refine wp_appR (k := kN kChg N3) (v := .slice (some ⟨g5, 0, none⟩) 0 0) _ _ 29 (by rfl) (.agg chZ) 72 Tryz.underlying29 rchInfo3 rfl (show 0 < 5 by decide) (by rfl) AL2 cL2 (by rfl) hO5 (lk_list hHeld.undrew hN3r HLST.out hg5') hlc2 (by simp; omega) (by simp; omega) hHeld.size ?_; intro v7 w7 hO7 hg7 hat7; rw [List.nil_append] at hO7; have hSnew := hHeld.grown hg7 (fun k e => by simp [Value.ownBlock] at e; omega) hrw10; replace hr10 := gb_row hg7 hr10 (by simp [Value.ownBlock]; omega); (try replace hr12 := gb_row hg7 hr12 (by simp [Value.ownBlock]; omega)); clear hO5 hg7 hat7
                    refine hK.out _ _ ?_ (fun hHeld2 => ?_)
                    · exact hSnew
                    clear hK K hHeld hSnew
                    have hHeld := hHeld2
                    clear hHeld2
                    try simp only [Mem.pa, Mem.pb, Mem.pc, Act.put, Mem.pd, Mem.pe, Mem.pf]
                    refine wpAnyH_ready (rs := [13]) (by kernel_rfl) (by simp) ?_
                    refine AllReadyH.cons rfl (fun K hK => ?_) AllReadyH.nil
                    rw [if_pos (by rfl)]
                    refine wp_appK (k := kN kChg N3) _ _ 29 (by rfl) (.agg chZ) 72 Tryz.underlying29 rchInfo3 rfl (show 0 < 5 by decide) (by rfl) g6 1 (by rfl) hO7 97 (chC (⟨s.last + 1, x.blk, x.pa, x.pd, L⟩ : Chg) A cp A8 c8).toList (by rw [Array.toArray_toList]; exact hr12) (⟨s.last + 1, x.blk, x.pa, x.pd, L⟩ : Chg) (fun b => b < W.heap.size) (kChg_mk (S := Out2 N3 W) HOK.out HXC.out.1 HXC.out.2.1 HXC.out.2.2 (lk_stay hHeld.undrew hN3r HPD3.out) y1 y2 y3 (lk_stay hHeld.undrew hN3r HI3.out)) (fun b hb => ⟨fun e => by have h1 := (OwnK.lt hO7 b e.symm).1; have h2 : b < W.heap.size := hb; omega, Nat.lt_of_lt_of_le hb hHeld.size⟩) (by omega) (by omega) hHeld.size ?_; intro v8 w8 hO8 hg8 hat8; obtain ⟨A9, c9, rfl, z1, z2, z3, z4⟩ := own_out2 hO8 (fun k hk => by rcases hN3L k hk with h | h <;> omega); rw [HLL.out] at z4 ⊢; have hSnew := hHeld.grown hg8 (fun k e => (OwnK.lt hO7 k e).1) hrw10; replace hr10 := gb_row hg8 hr10 (fun e => by have := (OwnK.lt hO7 r10 e.symm).1; omega); have c1 := hr10.cell 1 rfl; have f1 := hr10.frozen 1; clear hO8 hg8 hat8 hO7 hr12
                    refine hK.out _ _ ?_ (fun hHeld2 => ?_)
                    · exact hSnew
                    clear hK K hHeld hSnew
                    have hHeld := hHeld2
                    clear hHeld2
                    try simp only [Mem.pa, Mem.pb, Mem.pc, Act.put, Mem.pd, Mem.pe, Mem.pf]
                    refine Mem.tkV 14 ?v103 ?y103 ?r103
                    case y103 => (intro w hSw; clear hSw; go_simp; try with_reducible rfl)
                    try simp only [Mem.pa, Mem.pb, Mem.pc, Act.put, Mem.pd, Mem.pe, Mem.pf]
                    refine wpAnyH_ready (rs := [15]) (by kernel_rfl) (by simp) ?_
                    refine AllReadyH.cons rfl (fun K hK => ?_) AllReadyH.nil
                    go_simp
                    have hSnew := hHeld.set (.slice A9 (s.xs.length + 1) c9)
                    try go_wp2_with fail
                    refine hK.out _ _ ?_ (fun hHeld2 => ?_)
                    · exact hSnew
                    clear hK K hHeld hSnew
                    have hHeld := hHeld2
                    clear hHeld2
                    try simp only [Mem.pa, Mem.pb, Mem.pc, Act.put, Mem.pd, Mem.pe, Mem.pf]
                    refine wpAnyH_done (by kernel_rfl) ?_ _
                    clear hCl
                    go_wp2_with fail
                    go_meet
                    case rel => exact ⟨rfl, A9, c9, hr10.put 1 _, Rw.out2 z4 (fun b _ h2 => Below.heap_setCell _ _ _ _ (fun e => h2 (e ▸ hN3r))) (by simp [World.setCell]) (fun _ _ h => h), z3, hHeld.undrew⟩
                  exact AllReadyH.nil
                refine AllReadyH.cons rfl (fun K hK => ?_) ?_
                · skip
                  rw [if_pos (by rfl)]
                  refine wp_load1 29 97 _ (by rfl) ⟨r10, 1, none⟩ (by rfl) (.slice AL2 s.xs.length cL2) (hr10.cell 1 rfl) Tryz.underlying29 ?_; have hSnew := hHeld
                  refine hK.out _ _ ?_ (fun hHeld2 => ?_)
                  · exact hSnew
                  clear hK K hHeld hSnew
                  have hHeld := hHeld2
                  clear hHeld2
                  try simp only [Mem.pa, Mem.pb, Mem.pc, Act.put, Mem.pd, Mem.pe, Mem.pf]
                  refine wpAnyH_ready (rs := [0, 12]) (by kernel_rfl) (by simp) ?_
                  refine AllReadyH.cons rfl (fun K hK => ?_) ?_
                  · skip
                    rw [if_pos (by rfl)]
                    refine wp_emptyK (B := W.heap.size) (kN kChg N3) 29 (by rfl) Tryz.underlying29 (by kernel_rfl) hHeld.size ?_; intro g5 wa hO5 hbl hg5; (try have hlt12 := Row.lt hr12); have hg5' : W.heap.size ≤ g5 := by rw [hg5]; exact hHeld.size
                    have hSnew := Cb.Lk.below hHeld hbl (by omega)
                    refine hK.out _ _ ?_ (fun hHeld2 => ?_)
                    · exact hSnew
                    try replace hO5 := hO5.below hbl
                    try replace hO7 := hO7.below hbl
                    try replace hr10 := hr10.below hbl
                    try replace hr12 := hr12.below hbl
                    clear hbl
                    clear hK K hHeld hSnew
                    have hHeld := hHeld2
                    clear hHeld2
                    try simp only [Mem.pa, Mem.pb, Mem.pc, Act.put, Mem.pd, Mem.pe, Mem.pf]
                    refine wpAnyH_ready (rs := [3, 12]) (by kernel_rfl) (by simp) ?_
                    refine AllReadyH.cons rfl (fun K hK => ?_) ?_
                    · skip
                      rw [if_pos (by rfl)]
                      refine wp_appR (k := kN kChg N3) (v := .slice (some ⟨g5, 0, none⟩) 0 0) _ _ 29 (by rfl) (.agg chZ) 72 Tryz.underlying29 rchInfo3 rfl (show 0 < 5 by decide) (by rfl) AL2 cL2 (by rfl) hO5 (lk_list hHeld.undrew hN3r HLST.out hg5') hlc2 (by simp; omega) (by simp; omega) hHeld.size ?_; intro v7 w7 hO7 hg7 hat7; rw [List.nil_append] at hO7; have hSnew := hHeld.grown hg7 (fun k e => by simp [Value.ownBlock] at e; omega) hrw10; replace hr10 := gb_row hg7 hr10 (by simp [Value.ownBlock]; omega); (try replace hr12 := gb_row hg7 hr12 (by simp [Value.ownBlock]; omega)); clear hO5 hg7 hat7
                      refine hK.out _ _ ?_ (fun hHeld2 => ?_)
                      · exact hSnew
                      clear hK K hHeld hSnew
                      have hHeld := hHeld2
                      clear hHeld2
                      try simp only [Mem.pa, Mem.pb, Mem.pc, Act.put, Mem.pd, Mem.pe, Mem.pf]
                      refine wpAnyH_ready (rs := [12]) (by kernel_rfl) (by simp) ?_
                      refine AllReadyH.cons rfl (fun K hK => ?_) AllReadyH.nil
                      rw [if_pos (by rfl)]
                      refine wp_build1 29 97 _ (by rfl) 5 72 (.agg chZ) (chC (⟨s.last + 1, x.blk, x.pa, x.pd, L⟩ : Chg) A cp A8 c8) (by rfl) rfl (by decide) (by omega) Tryz.underlying29 rchInfo3 ?_; intro g6 wa hr12 hbl hg6; (try have hlt5 := (OwnK.lt hO5 g5 rfl).2)
                      have hSnew := Cb.Lk.below hHeld hbl (by omega)
                      refine hK.out _ _ ?_ (fun hHeld2 => ?_)
                      · exact hSnew
                      try replace hO5 := hO5.below hbl
                      try replace hO7 := hO7.below hbl
                      try replace hr10 := hr10.below hbl
                      try replace hr12 := hr12.below hbl
                      clear hbl
                      clear hK K hHeld hSnew
                      have hHeld := hHeld2
                      clear hHeld2
                      try simp only [Mem.pa, Mem.pb, Mem.pc, Act.put, Mem.pd, Mem.pe, Mem.pf]
                      refine wpAnyH_ready (rs := [13]) (by kernel_rfl) (by simp) ?_
                      refine AllReadyH.cons rfl (fun K hK => ?_) AllReadyH.nil
                      rw [if_pos (by rfl)]
                      refine wp_appK (k := kN kChg N3) _ _ 29 (by rfl) (.agg chZ) 72 Tryz.underlying29 rchInfo3 rfl (show 0 < 5 by decide) (by rfl) g6 1 (by rfl) hO7 97 (chC (⟨s.last + 1, x.blk, x.pa, x.pd, L⟩ : Chg) A cp A8 c8).toList (by rw [Array.toArray_toList]; exact hr12) (⟨s.last + 1, x.blk, x.pa, x.pd, L⟩ : Chg) (fun b => b < W.heap.size) (kChg_mk (S := Out2 N3 W) HOK.out HXC.out.1 HXC.out.2.1 HXC.out.2.2 (lk_stay hHeld.undrew hN3r HPD3.out) y1 y2 y3 (lk_stay hHeld.undrew hN3r HI3.out)) (fun b hb => ⟨fun e => by have h1 := (OwnK.lt hO7 b e.symm).1; have h2 : b < W.heap.size := hb; omega, Nat.lt_of_lt_of_le hb hHeld.size⟩) (by omega) (by omega) hHeld.size ?_; intro v8 w8 hO8 hg8 hat8; obtain ⟨A9, c9, rfl, z1, z2, z3, z4⟩ := own_out2 hO8 (fun k hk => by rcases hN3L k hk with h | h <;> omega); rw [HLL.out] at z4 ⊢; have hSnew := hHeld.grown hg8 (fun k e => (OwnK.lt hO7 k e).1) hrw10; replace hr10 := gb_row hg8 hr10 (fun e => by have := (OwnK.lt hO7 r10 e.symm).1; omega); have c1 := hr10.cell 1 rfl; have f1 := hr10.frozen 1; clear hO8 hg8 hat8 hO7 hr12
                      refine hK.out _ _ ?_ (fun hHeld2 => ?_)
                      · exact hSnew
                      clear hK K hHeld hSnew
                      have hHeld := hHeld2
                      clear hHeld2
                      try simp only [Mem.pa, Mem.pb, Mem.pc, Act.put, Mem.pd, Mem.pe, Mem.pf]
                      refine Mem.tkV 14 ?v104 ?y104 ?r104
                      case y104 => (intro w hSw; clear hSw; go_simp; try with_reducible rfl)
                      try simp only [Mem.pa, Mem.pb, Mem.pc, Act.put, Mem.pd, Mem.pe, Mem.pf]
                      refine wpAnyH_ready (rs := [15]) (by kernel_rfl) (by simp) ?_
                      refine AllReadyH.cons rfl (fun K hK => ?_) AllReadyH.nil
                      go_simp
                      have hSnew := hHeld.set (.slice A9 (s.xs.length + 1) c9)
                      try go_wp2_with fail
                      refine hK.out _ _ ?_ (fun hHeld2 => ?_)
                      · exact hSnew
                      clear hK K hHeld hSnew
                      have hHeld := hHeld2
                      clear hHeld2
                      try simp only [Mem.pa, Mem.pb, Mem.pc, Act.put, Mem.pd, Mem.pe, Mem.pf]
                      refine wpAnyH_done (by kernel_rfl) ?_ _
                      clear hCl
                      go_wp2_with fail
                      go_meet
                      case rel => exact ⟨rfl, A9, c9, hr10.put 1 _, Rw.out2 z4 (fun b _ h2 => Below.heap_setCell _ _ _ _ (fun e => h2 (e ▸ hN3r))) (by simp [World.setCell]) (fun _ _ h => h), z3, hHeld.undrew⟩
                    refine AllReadyH.cons rfl (fun K hK => ?_) ?_
                    · skip
                      rw [if_pos (by rfl)]
                      refine wp_build1 29 97 _ (by rfl) 5 72 (.agg chZ) (chC (⟨s.last + 1, x.blk, x.pa, x.pd, L⟩ : Chg) A cp A8 c8) (by rfl) rfl (by decide) (by omega) Tryz.underlying29 rchInfo3 ?_; intro g6 wa hr12 hbl hg6; (try have hlt5 := (OwnK.lt hO5 g5 rfl).2)
                      have hSnew := Cb.Lk.below hHeld hbl (by omega)
                      refine hK.out _ _ ?_ (fun hHeld2 => ?_)
                      · exact hSnew
                      try replace hO5 := hO5.below hbl
                      try replace hO7 := hO7.below hbl
                      try replace hr10 := hr10.below hbl
                      try replace hr12 := hr12.below hbl
                      clear hbl
                      clear hK K hHeld hSnew
                      have hHeld := hHeld2
                      clear hHeld2
                      try simp only [Mem.pa, Mem.pb, Mem.pc, Act.put, Mem.pd, Mem.pe, Mem.pf]
                      refine wpAnyH_ready (rs := [3]) (by kernel_rfl) (by simp) ?_
                      refine AllReadyH.cons rfl (fun K hK => ?_) AllReadyH.nil
                      rw [if_pos (by rfl)]
                      refine wp_appR (k := kN kChg N3) (v := .slice (some ⟨g5, 0, none⟩) 0 0) _ _ 29 (by rfl) (.agg chZ) 72 Tryz.underlying29 rchInfo3 rfl (show 0 < 5 by decide) (by rfl) AL2 cL2 (by rfl) hO5 (lk_list hHeld.undrew hN3r HLST.out hg5') hlc2 (by simp; omega) (by simp; omega) hHeld.size ?_; intro v7 w7 hO7 hg7 hat7; rw [List.nil_append] at hO7; have hSnew := hHeld.grown hg7 (fun k e => by simp [Value.ownBlock] at e; omega) hrw10; replace hr10 := gb_row hg7 hr10 (by simp [Value.ownBlock]; omega); (try replace hr12 := gb_row hg7 hr12 (by simp [Value.ownBlock]; omega)); clear hO5 hg7 hat7
                      refine hK.out _ _ ?_ (fun hHeld2 => ?_)
                      · exact hSnew
                      clear hK K hHeld hSnew
                      have hHeld := hHeld2
                      clear hHeld2
                      try simp only [Mem.pa, Mem.pb, Mem.pc, Act.put, Mem.pd, Mem.pe, Mem.pf]
                      refine wpAnyH_ready (rs := [13]) (by kernel_rfl) (by simp) ?_
                      refine AllReadyH.cons rfl (fun K hK => ?_) AllReadyH.nil
                      rw [if_pos (by rfl)]
                      refine wp_appK (k := kN kChg N3) _ _ 29 (by rfl) (.agg chZ) 72 Tryz.underlying29 rchInfo3 rfl (show 0 < 5 by decide) (by rfl) g6 1 (by rfl) hO7 97 (chC (⟨s.last + 1, x.blk, x.pa, x.pd, L⟩ : Chg) A cp A8 c8).toList (by rw [Array.toArray_toList]; exact hr12) (⟨s.last + 1, x.blk, x.pa, x.pd, L⟩ : Chg) (fun b => b < W.heap.size) (kChg_mk (S := Out2 N3 W) HOK.out HXC.out.1 HXC.out.2.1 HXC.out.2.2 (lk_stay hHeld.undrew hN3r HPD3.out) y1 y2 y3 (lk_stay hHeld.undrew hN3r HI3.out)) (fun b hb => ⟨fun e => by have h1 := (OwnK.lt hO7 b e.symm).1; have h2 : b < W.heap.size := hb; omega, Nat.lt_of_lt_of_le hb hHeld.size⟩) (by omega) (by omega) hHeld.size ?_; intro v8 w8 hO8 hg8 hat8; obtain ⟨A9, c9, rfl, z1, z2, z3, z4⟩ := own_out2 hO8 (fun k hk => by rcases hN3L k hk with h | h <;> omega); rw [HLL.out] at z4 ⊢; have hSnew := hHeld.grown hg8 (fun k e => (OwnK.lt hO7 k e).1) hrw10; replace hr10 := gb_row hg8 hr10 (fun e => by have := (OwnK.lt hO7 r10 e.symm).1; omega); have c1 := hr10.cell 1 rfl; have f1 := hr10.frozen 1; clear hO8 hg8 hat8 hO7 hr12
                      refine hK.out _ _ ?_ (fun hHeld2 => ?_)
                      · exact hSnew
                      clear hK K hHeld hSnew
                      have hHeld := hHeld2
                      clear hHeld2
                      try simp only [Mem.pa, Mem.pb, Mem.pc, Act.put, Mem.pd, Mem.pe, Mem.pf]
                      refine Mem.tkV 14 ?v105 ?y105 ?r105
                      case y105 => (intro w hSw; clear hSw; go_simp; try with_reducible rfl)
                      try simp only [Mem.pa, Mem.pb, Mem.pc, Act.put, Mem.pd, Mem.pe, Mem.pf]
                      refine wpAnyH_ready (rs := [15]) (by kernel_rfl) (by simp) ?_
                      refine AllReadyH.cons rfl (fun K hK => ?_) AllReadyH.nil
                      go_simp
                      have hSnew := hHeld.set (.slice A9 (s.xs.length + 1) c9)
                      try go_wp2_with fail
                      refine hK.out _ _ ?_ (fun hHeld2 => ?_)
                      · exact hSnew
                      clear hK K hHeld hSnew
                      have hHeld := hHeld2
                      clear hHeld2
                      try simp only [Mem.pa, Mem.pb, Mem.pc, Act.put, Mem.pd, Mem.pe, Mem.pf]
                      refine wpAnyH_done (by kernel_rfl) ?_ _
                      clear hCl
                      go_wp2_with fail
                      go_meet
                      case rel => exact ⟨rfl, A9, c9, hr10.put 1 _, Rw.out2 z4 (fun b _ h2 => Below.heap_setCell _ _ _ _ (fun e => h2 (e ▸ hN3r))) (by simp [World.setCell]) (fun _ _ h => h), z3, hHeld.undrew⟩
                    exact AllReadyH.nil
                  refine AllReadyH.cons rfl (fun K hK => ?_) ?_
                  · skip
                    rw [if_pos (by rfl)]
                    refine wp_build1 29 97 _ (by rfl) 5 72 (.agg chZ) (chC (⟨s.last + 1, x.blk, x.pa, x.pd, L⟩ : Chg) A cp A8 c8) (by rfl) rfl (by decide) (by omega) Tryz.underlying29 rchInfo3 ?_; intro g6 wa hr12 hbl hg6; (try have hlt5 := (OwnK.lt hO5 g5 rfl).2)
                    have hSnew := Cb.Lk.below hHeld hbl (by omega)
                    refine hK.out _ _ ?_ (fun hHeld2 => ?_)
                    · exact hSnew
                    try replace hO5 := hO5.below hbl
                    try replace hO7 := hO7.below hbl
                    try replace hr10 := hr10.below hbl
                    try replace hr12 := hr12.below hbl
                    clear hbl
                    clear hK K hHeld hSnew
                    have hHeld := hHeld2
                    clear hHeld2
                    try simp only [Mem.pa, Mem.pb, Mem.pc, Act.put, Mem.pd, Mem.pe, Mem.pf]
                    refine wpAnyH_ready (rs := [0]) (by kernel_rfl) (by simp) ?_
                    refine AllReadyH.cons rfl (fun K hK => ?_) AllReadyH.nil
                    rw [if_pos (by rfl)]
                    refine wp_emptyK (B := W.heap.size) (kN kChg N3) 29 (by rfl) Tryz.underlying29 (by kernel_rfl) hHeld.size ?_; intro g5 wa hO5 hbl hg5; (try have hlt12 := Row.lt hr12); have hg5' : W.heap.size ≤ g5 := by rw [hg5]; exact hHeld.size
                    have hSnew := Cb.Lk.below hHeld hbl (by omega)
                    refine hK.out _ _ ?_ (fun hHeld2 => ?_)
                    · exact hSnew
                    try replace hO5 := hO5.below hbl
                    try replace hO7 := hO7.below hbl
                    try replace hr10 := hr10.below hbl
                    try replace hr12 := hr12.below hbl
                    clear hbl
                    clear hK K hHeld hSnew
                    have hHeld := hHeld2
                    clear hHeld2
                    try simp only [Mem.pa, Mem.pb, Mem.pc, Act.put, Mem.pd, Mem.pe, Mem.pf]
                    refine wpAnyH_ready (rs := [3]) (by kernel_rfl) (by simp) ?_
                    refine AllReadyH.cons rfl (fun K hK => ?_) AllReadyH.nil
                    rw [if_pos (by rfl)]
                    refine wp_appR (k := kN kChg N3) (v := .slice (some ⟨g5, 0, none⟩) 0 0) _ _ 29 (by rfl) (.agg chZ) 72 Tryz.underlying29 rchInfo3 rfl (show 0 < 5 by decide) (by rfl) AL2 cL2 (by rfl) hO5 (lk_list hHeld.undrew hN3r HLST.out hg5') hlc2 (by simp; omega) (by simp; omega) hHeld.size ?_; intro v7 w7 hO7 hg7 hat7; rw [List.nil_append] at hO7; have hSnew := hHeld.grown hg7 (fun k e => by simp [Value.ownBlock] at e; omega) hrw10; replace hr10 := gb_row hg7 hr10 (by simp [Value.ownBlock]; omega); (try replace hr12 := gb_row hg7 hr12 (by simp [Value.ownBlock]; omega)); clear hO5 hg7 hat7
                    refine hK.out _ _ ?_ (fun hHeld2 => ?_)
                    · exact hSnew
                    clear hK K hHeld hSnew
                    have hHeld := hHeld2
                    clear hHeld2
                    try simp only [Mem.pa, Mem.pb, Mem.pc, Act.put, Mem.pd, Mem.pe, Mem.pf]
                    refine wpAnyH_ready (rs := [13]) (by kernel_rfl) (by simp) ?_
                    refine AllReadyH.cons rfl (fun K hK => ?_) AllReadyH.nil
                    rw [if_pos (by rfl)]
                    refine wp_appK (k := kN kChg N3) _ _ 29 (by rfl) (.agg chZ) 72 Tryz.underlying29 rchInfo3 rfl (show 0 < 5 by decide) (by rfl) g6 1 (by rfl) hO7 97 (chC (⟨s.last + 1, x.blk, x.pa, x.pd, L⟩ : Chg) A cp A8 c8).toList (by rw [Array.toArray_toList]; exact hr12) (⟨s.last + 1, x.blk, x.pa, x.pd, L⟩ : Chg) (fun b => b < W.heap.size) (kChg_mk (S := Out2 N3 W) HOK.out HXC.out.1 HXC.out.2.1 HXC.out.2.2 (lk_stay hHeld.undrew hN3r HPD3.out) y1 y2 y3 (lk_stay hHeld.undrew hN3r HI3.out)) (fun b hb => ⟨fun e => by have h1 := (OwnK.lt hO7 b e.symm).1; have h2 : b < W.heap.size := hb; omega, Nat.lt_of_lt_of_le hb hHeld.size⟩) (by omega) (by omega) hHeld.size ?_; intro v8 w8 hO8 hg8 hat8; obtain ⟨A9, c9, rfl, z1, z2, z3, z4⟩ := own_out2 hO8 (fun k hk => by rcases hN3L k hk with h | h <;> omega); rw [HLL.out] at z4 ⊢; have hSnew := hHeld.grown hg8 (fun k e => (OwnK.lt hO7 k e).1) hrw10; replace hr10 := gb_row hg8 hr10 (fun e => by have := (OwnK.lt hO7 r10 e.symm).1; omega); have c1 := hr10.cell 1 rfl; have f1 := hr10.frozen 1; clear hO8 hg8 hat8 hO7 hr12
                    refine hK.out _ _ ?_ (fun hHeld2 => ?_)
                    · exact hSnew
                    clear hK K hHeld hSnew
                    have hHeld := hHeld2
                    clear hHeld2
                    try simp only [Mem.pa, Mem.pb, Mem.pc, Act.put, Mem.pd, Mem.pe, Mem.pf]
                    refine Mem.tkV 14 ?v106 ?y106 ?r106
                    case y106 => (intro w hSw; clear hSw; go_simp; try with_reducible rfl)
                    try simp only [Mem.pa, Mem.pb, Mem.pc, Act.put, Mem.pd, Mem.pe, Mem.pf]
                    refine wpAnyH_ready (rs := [15]) (by kernel_rfl) (by simp) ?_
                    refine AllReadyH.cons rfl (fun K hK => ?_) AllReadyH.nil
                    go_simp
                    have hSnew := hHeld.set (.slice A9 (s.xs.length + 1) c9)
                    try go_wp2_with fail
                    refine hK.out _ _ ?_ (fun hHeld2 => ?_)
                    · exact hSnew
                    clear hK K hHeld hSnew
                    have hHeld := hHeld2
                    clear hHeld2
                    try simp only [Mem.pa, Mem.pb, Mem.pc, Act.put, Mem.pd, Mem.pe, Mem.pf]
                    refine wpAnyH_done (by kernel_rfl) ?_ _
                    clear hCl
                    go_wp2_with fail
                    go_meet
                    case rel => exact ⟨rfl, A9, c9, hr10.put 1 _, Rw.out2 z4 (fun b _ h2 => Below.heap_setCell _ _ _ _ (fun e => h2 (e ▸ hN3r))) (by simp [World.setCell]) (fun _ _ h => h), z3, hHeld.undrew⟩
                  exact AllReadyH.nil
                refine AllReadyH.cons rfl (fun K hK => ?_) ?_
                · skip
                  rw [if_pos (by rfl)]
                  refine wp_build1 29 97 _ (by rfl) 5 72 (.agg chZ) (chC (⟨s.last + 1, x.blk, x.pa, x.pd, L⟩ : Chg) A cp A8 c8) (by rfl) rfl (by decide) (by omega) Tryz.underlying29 rchInfo3 ?_; intro g6 wa hr12 hbl hg6; (try have hlt5 := (OwnK.lt hO5 g5 rfl).2)
                  have hSnew := Cb.Lk.below hHeld hbl (by omega)
                  refine hK.out _ _ ?_ (fun hHeld2 => ?_)
                  · exact hSnew
                  try replace hO5 := hO5.below hbl
                  try replace hO7 := hO7.below hbl
                  try replace hr10 := hr10.below hbl
                  try replace hr12 := hr12.below hbl
                  clear hbl
                  clear hK K hHeld hSnew
                  have hHeld := hHeld2
                  clear hHeld2
                  try simp only [Mem.pa, Mem.pb, Mem.pc, Act.put, Mem.pd, Mem.pe, Mem.pf]
                  refine wpAnyH_ready (rs := [0, 2]) (by kernel_rfl) (by simp) ?_
                  refine AllReadyH.cons rfl (fun K hK => ?_) ?_
                  · skip
                    rw [if_pos (by rfl)]
                    refine wp_emptyK (B := W.heap.size) (kN kChg N3) 29 (by rfl) Tryz.underlying29 (by kernel_rfl) hHeld.size ?_; intro g5 wa hO5 hbl hg5; (try have hlt12 := Row.lt hr12); have hg5' : W.heap.size ≤ g5 := by rw [hg5]; exact hHeld.size
                    have hSnew := Cb.Lk.below hHeld hbl (by omega)
                    refine hK.out _ _ ?_ (fun hHeld2 => ?_)
                    · exact hSnew
                    try replace hO5 := hO5.below hbl
                    try replace hO7 := hO7.below hbl
                    try replace hr10 := hr10.below hbl
                    try replace hr12 := hr12.below hbl
                    clear hbl
                    clear hK K hHeld hSnew
                    have hHeld := hHeld2
                    clear hHeld2
                    try simp only [Mem.pa, Mem.pb, Mem.pc, Act.put, Mem.pd, Mem.pe, Mem.pf]
                    refine wpAnyH_ready (rs := [2]) (by kernel_rfl) (by simp) ?_
                    refine AllReadyH.cons rfl (fun K hK => ?_) AllReadyH.nil
                    rw [if_pos (by rfl)]
                    refine wp_load1 29 97 _ (by rfl) ⟨r10, 1, none⟩ (by rfl) (.slice AL2 s.xs.length cL2) (hr10.cell 1 rfl) Tryz.underlying29 ?_; have hSnew := hHeld
                    refine hK.out _ _ ?_ (fun hHeld2 => ?_)
                    · exact hSnew
                    clear hK K hHeld hSnew
                    have hHeld := hHeld2
                    clear hHeld2
                    try simp only [Mem.pa, Mem.pb, Mem.pc, Act.put, Mem.pd, Mem.pe, Mem.pf]
                    refine wpAnyH_ready (rs := [3]) (by kernel_rfl) (by simp) ?_
                    refine AllReadyH.cons rfl (fun K hK => ?_) AllReadyH.nil
                    rw [if_pos (by rfl)]
                    refine wp_appR (k := kN kChg N3) (v := .slice (some ⟨g5, 0, none⟩) 0 0) _ _ 29 (by rfl) (.agg chZ) 72 Tryz.underlying29 rchInfo3 rfl (show 0 < 5 by decide) (by rfl) AL2 cL2 (by rfl) hO5 (lk_list hHeld.undrew hN3r HLST.out hg5') hlc2 (by simp; omega) (by simp; omega) hHeld.size ?_; intro v7 w7 hO7 hg7 hat7; rw [List.nil_append] at hO7; have hSnew := hHeld.grown hg7 (fun k e => by simp [Value.ownBlock] at e; omega) hrw10; replace hr10 := gb_row hg7 hr10 (by simp [Value.ownBlock]; omega); (try replace hr12 := gb_row hg7 hr12 (by simp [Value.ownBlock]; omega)); clear hO5 hg7 hat7
                    refine hK.out _ _ ?_ (fun hHeld2 => ?_)
                    · exact hSnew
                    clear hK K hHeld hSnew
                    have hHeld := hHeld2
                    clear hHeld2
                    try simp only [Mem.pa, Mem.pb, Mem.pc, Act.put, Mem.pd, Mem.pe, Mem.pf]
                    refine wpAnyH_ready (rs := [13]) (by kernel_rfl) (by simp) ?_
                    refine AllReadyH.cons rfl (fun K hK => ?_) AllReadyH.nil
                    rw [if_pos (by rfl)]
                    refine wp_appK (k := kN kChg N3) _ _ 29 (by rfl) (.agg chZ) 72 Tryz.underlying29 rchInfo3 rfl (show 0 < 5 by decide) (by rfl) g6 1 (by rfl) hO7 97 (chC (⟨s.last + 1, x.blk, x.pa, x.pd, L⟩ : Chg) A cp A8 c8).toList (by rw [Array.toArray_toList]; exact hr12) (⟨s.last + 1, x.blk, x.pa, x.pd, L⟩ : Chg) (fun b => b < W.heap.size) (kChg_mk (S := Out2 N3 W) HOK.out HXC.out.1 HXC.out.2.1 HXC.out.2.2 (lk_stay hHeld.undrew hN3r HPD3.out) y1 y2 y3 (lk_stay hHeld.undrew hN3r HI3.out)) (fun b hb => ⟨fun e => by have h1 := (OwnK.lt hO7 b e.symm).1; have h2 : b < W.heap.size := hb; omega, Nat.lt_of_lt_of_le hb hHeld.size⟩) (by omega) (by omega) hHeld.size ?_; intro v8 w8 hO8 hg8 hat8; obtain ⟨A9, c9, rfl, z1, z2, z3, z4⟩ := own_out2 hO8 (fun k hk => by rcases hN3L k hk with h | h <;> omega); rw [HLL.out] at z4 ⊢; have hSnew := hHeld.grown hg8 (fun k e => (OwnK.lt hO7 k e).1) hrw10; replace hr10 := gb_row hg8 hr10 (fun e => by have := (OwnK.lt hO7 r10 e.symm).1; omega); have c1 := hr10.cell 1 rfl; have f1 := hr10.frozen 1; clear hO8 hg8 hat8 hO7 hr12
                    refine hK.out _ _ ?_ (fun hHeld2 => ?_)
                    · exact hSnew
                    clear hK K hHeld hSnew
                    have hHeld := hHeld2
                    clear hHeld2
                    try simp only [Mem.pa, Mem.pb, Mem.pc, Act.put, Mem.pd, Mem.pe, Mem.pf]
                    refine Mem.tkV 14 ?v107 ?y107 ?r107
                    case y107 => (intro w hSw; clear hSw; go_simp; try with_reducible rfl)
                    try simp only [Mem.pa, Mem.pb, Mem.pc, Act.put, Mem.pd, Mem.pe, Mem.pf]
                    refine wpAnyH_ready (rs := [15]) (by kernel_rfl) (by simp) ?_
                    refine AllReadyH.cons rfl (fun K hK => ?_) AllReadyH.nil
                    go_simp
                    have hSnew := hHeld.set (.slice A9 (s.xs.length + 1) c9)
                    try go_wp2_with fail
                    refine hK.out _ _ ?_ (fun hHeld2 => ?_)
                    · exact hSnew
                    clear hK K hHeld hSnew
                    have hHeld := hHeld2
                    clear hHeld2
                    try simp only [Mem.pa, Mem.pb, Mem.pc, Act.put, Mem.pd, Mem.pe, Mem.pf]
                    refine wpAnyH_done (by kernel_rfl) ?_ _
                    clear hCl
                    go_wp2_with fail
                    go_meet
                    case rel => exact ⟨rfl, A9, c9, hr10.put 1 _, Rw.out2 z4 (fun b _ h2 => Below.heap_setCell _ _ _ _ (fun e => h2 (e ▸ hN3r))) (by simp [World.setCell]) (fun _ _ h => h), z3, hHeld.undrew⟩
                  refine AllReadyH.cons rfl (fun K hK => ?_) ?_
                  · skip
                    rw [if_pos (by rfl)]
                    refine wp_load1 29 97 _ (by rfl) ⟨r10, 1, none⟩ (by rfl) (.slice AL2 s.xs.length cL2) (hr10.cell 1 rfl) Tryz.underlying29 ?_; have hSnew := hHeld
                    refine hK.out _ _ ?_ (fun hHeld2 => ?_)
                    · exact hSnew
                    clear hK K hHeld hSnew
                    have hHeld := hHeld2
                    clear hHeld2
                    try simp only [Mem.pa, Mem.pb, Mem.pc, Act.put, Mem.pd, Mem.pe, Mem.pf]
                    refine wpAnyH_ready (rs := [0]) (by kernel_rfl) (by simp) ?_
                    refine AllReadyH.cons rfl (fun K hK => ?_) AllReadyH.nil
                    rw [if_pos (by rfl)]
                    refine wp_emptyK (B := W.heap.size) (kN kChg N3) 29 (by rfl) Tryz.underlying29 (by kernel_rfl) hHeld.size ?_; intro g5 wa hO5 hbl hg5; (try have hlt12 := Row.lt hr12); have hg5' : W.heap.size ≤ g5 := by rw [hg5]; exact hHeld.size
                    have hSnew := Cb.Lk.below hHeld hbl (by omega)
                    refine hK.out _ _ ?_ (fun hHeld2 => ?_)
                    · exact hSnew
                    try replace hO5 := hO5.below hbl
                    try replace hO7 := hO7.below hbl
                    try replace hr10 := hr10.below hbl
                    try replace hr12 := hr12.below hbl
                    clear hbl
                    clear hK K hHeld hSnew
                    have hHeld := hHeld2
                    clear hHeld2
                    try simp only [Mem.pa, Mem.pb, Mem.pc, Act.put, Mem.pd, Mem.pe, Mem.pf]
                    refine wpAnyH_ready (rs := [3]) (by kernel_rfl) (by simp) ?_
                    refine AllReadyH.cons rfl (fun K hK => ?_) AllReadyH.nil
                    rw [if_pos (by rfl)]
                    refine wp_appR (k := kN kChg N3) (v := .slice (some ⟨g5, 0, none⟩) 0 0) _ _ 29 (by rfl) (.agg chZ) 72 Tryz.underlying29 rchInfo3 rfl (show 0 < 5 by decide) (by rfl) AL2 cL2 (by rfl) hO5 (lk_list hHeld.undrew hN3r HLST.out hg5') hlc2 (by simp; omega) (by simp; omega) hHeld.size ?_; intro v7 w7 hO7 hg7 hat7; rw [List.nil_append] at hO7; have hSnew := hHeld.grown hg7 (fun k e => by simp [Value.ownBlock] at e; omega) hrw10; replace hr10 := gb_row hg7 hr10 (by simp [Value.ownBlock]; omega); (try replace hr12 := gb_row hg7 hr12 (by simp [Value.ownBlock]; omega)); clear hO5 hg7 hat7
                    refine hK.out _ _ ?_ (fun hHeld2 => ?_)
                    · exact hSnew
                    clear hK K hHeld hSnew
                    have hHeld := hHeld2
                    clear hHeld2
                    try simp only [Mem.pa, Mem.pb, Mem.pc, Act.put, Mem.pd, Mem.pe, Mem.pf]
                    refine wpAnyH_ready (rs := [13]) (by kernel_rfl) (by simp) ?_
                    refine AllReadyH.cons rfl (fun K hK => ?_) AllReadyH.nil
                    rw [if_pos (by rfl)]
                    refine wp_appK (k := kN kChg N3) _ _ 29 (by rfl) (.agg chZ) 72 Tryz.underlying29 rchInfo3 rfl (show 0 < 5 by decide) (by rfl) g6 1 (by rfl) hO7 97 (chC (⟨s.last + 1, x.blk, x.pa, x.pd, L⟩ : Chg) A cp A8 c8).toList (by rw [Array.toArray_toList]; exact hr12) (⟨s.last + 1, x.blk, x.pa, x.pd, L⟩ : Chg) (fun b => b < W.heap.size) (kChg_mk (S := Out2 N3 W) HOK.out HXC.out.1 HXC.out.2.1 HXC.out.2.2 (lk_stay hHeld.undrew hN3r HPD3.out) y1 y2 y3 (lk_stay hHeld.undrew hN3r HI3.out)) (fun b hb => ⟨fun e => by have h1 := (OwnK.lt hO7 b e.symm).1; have h2 : b < W.heap.size := hb; omega, Nat.lt_of_lt_of_le hb hHeld.size⟩) (by omega) (by omega) hHeld.size ?_; intro v8 w8 hO8 hg8 hat8; obtain ⟨A9, c9, rfl, z1, z2, z3, z4⟩ := own_out2 hO8 (fun k hk => by rcases hN3L k hk with h | h <;> omega); rw [HLL.out] at z4 ⊢; have hSnew := hHeld.grown hg8 (fun k e => (OwnK.lt hO7 k e).1) hrw10; replace hr10 := gb_row hg8 hr10 (fun e => by have := (OwnK.lt hO7 r10 e.symm).1; omega); have c1 := hr10.cell 1 rfl; have f1 := hr10.frozen 1; clear hO8 hg8 hat8 hO7 hr12
                    refine hK.out _ _ ?_ (fun hHeld2 => ?_)
                    · exact hSnew
                    clear hK K hHeld hSnew
                    have hHeld := hHeld2
                    clear hHeld2
                    try simp only [Mem.pa, Mem.pb, Mem.pc, Act.put, Mem.pd, Mem.pe, Mem.pf]
                    refine Mem.tkV 14 ?v108 ?y108 ?r108
                    case y108 => (intro w hSw; clear hSw; go_simp; try with_reducible rfl)
                    try simp only [Mem.pa, Mem.pb, Mem.pc, Act.put, Mem.pd, Mem.pe, Mem.pf]
                    refine wpAnyH_ready (rs := [15]) (by kernel_rfl) (by simp) ?_
                    refine AllReadyH.cons rfl (fun K hK => ?_) AllReadyH.nil
                    go_simp
                    have hSnew := hHeld.set (.slice A9 (s.xs.length + 1) c9)
                    try go_wp2_with fail
                    refine hK.out _ _ ?_ (fun hHeld2 => ?_)
                    · exact hSnew
                    clear hK K hHeld hSnew
                    have hHeld := hHeld2
                    clear hHeld2
                    try simp only [Mem.pa, Mem.pb, Mem.pc, Act.put, Mem.pd, Mem.pe, Mem.pf]
                    refine wpAnyH_done (by kernel_rfl) ?_ _
                    clear hCl
                    go_wp2_with fail
                    go_meet
                    case rel => exact ⟨rfl, A9, c9, hr10.put 1 _, Rw.out2 z4 (fun b _ h2 => Below.heap_setCell _ _ _ _ (fun e => h2 (e ▸ hN3r))) (by simp [World.setCell]) (fun _ _ h => h), z3, hHeld.undrew⟩
                  exact AllReadyH.nil
                exact AllReadyH.nil
              case rest =>
                obtain ⟨rfl, A9, c9, hr10, hlst, hlc, hlk⟩ := hcut
                have q10 := hr10.drew
                have hr4 : Row wc (w.heap.size + 1 + 1) _ _ := hlk.kept HR4T.out (by omega)
                have hr4d := hr4.drew
                have HBC : Hid (Below w.heap.size w wc) := Lib.hid ⟨hlk.os.trans HBT.out.os, hlk.tape.trans HBT.out.tape, hlk.output.trans HBT.out.output, Nat.le_trans HBT.out.size hlk.size, fun b hb => (hlk.block b (Nat.lt_of_lt_of_le hb HBT.out.size) (by omega)).trans (HBT.out.block b hb)⟩
                have HBASE := Lib.hid (Rw.out2 (N' := N3) HRC3.out.base (fun b h1 h2 => hlk.block b h1 (fun e => h2 (e ▸ hN3r))) hlk.size (fun _ _ h => h))
                have HKN := Lib.hid (Rw.out2 (N' := N3) HRC3.out.knows (fun b h1 h2 => hlk.block b h1 (fun e => h2 (e ▸ hN3r))) hlk.size (fun _ _ h => h))
                have HLS := Lib.hid hlst
                have hll : (s.xs ++ [(⟨s.last + 1, x.blk, x.pa, x.pd, L⟩ : Chg)]).length = s.xs.length + 1 := by simp
                have HLL := Lib.hid hll
                clear hll hlst hlk hr10 hr4 HR10 HRC3 HR4T HBT HLST HPD3 HI3 hr3d hq2
                go_wp2_with fail
                refine wp_region_held_drew (S := fun w' => World.grownBy (wc.drew) w' (some ((w.heap.size + 1 + 1)))) (by kernel_rfl) ?hb126 (fun hHeld => ?rest126)
                case hb126 =>
                  exact Mem.gb_refl _ _
                case' rest126 => skip
                have hCl := fun (wS : World) (hSw : World.grownBy (wc.drew) wS (some ((w.heap.size + 1 + 1)))) => And.intro ((Mem.gb_row hSw q10 (by intro e; injection e with e; omega)).cell 0 rfl) <| And.intro ((Mem.gb_row hSw q10 (by intro e; injection e with e; omega)).cell 1 rfl) <| And.intro ((Mem.gb_row hSw q10 (by intro e; injection e with e; omega)).cell 2 rfl) <| And.intro ((Mem.gb_row hSw q10 (by intro e; injection e with e; omega)).cell 3 rfl) <| And.intro ((Mem.gb_row hSw q10 (by intro e; injection e with e; omega)).cell 4 rfl) <| And.intro ((Mem.gb_row hSw q10 (by intro e; injection e with e; omega)).cell 5 rfl) <| (Mem.gb_row hSw q10 (by intro e; injection e with e; omega)).cell 6 rfl
                replace hCl := Go.Lib.hid hCl
                refine Mem.tkV 0 ?v127 ?y127 ?r127
                case y127 => (intro w hSw; obtain ⟨hT0, hT1, hT2, hT3, hT4, hT5, hT6⟩ := hCl.out w hSw; clear hSw; go_simp; try with_reducible rfl)
                refine Mem.tkV 1 ?v128 ?y128 ?r128
                case y128 => (intro w hSw; clear hSw; go_simp; try with_reducible rfl)
                refine Mem.tkV 2 ?v129 ?y129 ?r129
                case y129 => (intro w hSw; obtain ⟨hT0, hT1, hT2, hT3, hT4, hT5, hT6⟩ := hCl.out w hSw; clear hSw; go_simp; try with_reducible rfl)
                try simp only [Mem.pa, Mem.pb, Mem.pc, Act.put, Mem.pd, Mem.pe, Mem.pf]
                refine wpAnyH_ready (rs := [3]) (by kernel_rfl) (by simp) ?_
                refine AllReadyH.cons rfl (fun K hK => ?_) AllReadyH.nil
                rw [if_pos (by rfl)]
                refine wp_storeRow _ _ _ (by rfl) (w.heap.size + 1 + 1) (by rfl) (rcC AB2 cB2 A9 (s.xs.length + 1) c9 AK2 cK2 (s.last + 1) (rfu S2.dv) S2.dv.off S2.dv.wr) (by rfl) rcZ 32 7 rcSize rfl rfl (rcC_one _ _ _ _ _ _ _ _ _ _ _) hr4d ?_; have hSnew := Mem.gb_setRow hHeld (rcC AB2 cB2 A9 (s.xs.length + 1) c9 AK2 cK2 (s.last + 1) (rfu S2.dv) S2.dv.off S2.dv.wr); have p3 := hr4d.set (rcC AB2 cB2 A9 (s.xs.length + 1) c9 AK2 cK2 (s.last + 1) (rfu S2.dv) S2.dv.off S2.dv.wr)
                refine hK.out _ _ ?_ (fun hHeld2 => ?_)
                · exact hSnew
                clear hK K hHeld hSnew
                have hHeld := hHeld2
                clear hHeld2
                try simp only [Mem.pa, Mem.pb, Mem.pc, Act.put, Mem.pd, Mem.pe, Mem.pf]
                refine Mem.tkV 4 ?v130 ?y130 ?r130
                case y130 => (intro w hSw; clear hSw; go_simp; try with_reducible rfl)
                refine Mem.tkV 5 ?v131 ?y131 ?r131
                case y131 => (intro w hSw; clear hSw; go_simp; try with_reducible rfl)
                try simp only [Mem.pa, Mem.pb, Mem.pc, Act.put, Mem.pd, Mem.pe, Mem.pf]
                refine wpAnyH_done (by kernel_rfl) ?_ _
                clear hCl
                go_wp2_with fail
                refine bodyPost_ret (v := .tuple #[.agg (rcC AB2 cB2 A9 (s.xs.length + 1) c9 AK2 cK2 (s.last + 1) (rfu S2.dv) S2.dv.off S2.dv.wr), .int .i64 (s.last + 1), .int .i64 0]) (Rd.results_cell_2 (p := 4) (t2 := 5) (t3 := 6) rfl _ _ (w.heap.size + 1 + 1) 32 (rcC AB2 cB2 A9 (s.xs.length + 1) c9 AK2 cK2 (s.last + 1) (rfu S2.dv) S2.dv.off S2.dv.wr) (0, 0) _ rfl p3 Tryz.underlying32 rfl rcSize) rfl ?_
                have hfr : ∀ b, ¬ N3 b → b < wc.heap.size → (wc.drew.setRow (w.heap.size + 1 + 1) (rcC AB2 cB2 A9 (s.xs.length + 1) c9 AK2 cK2 (s.last + 1) (rfu S2.dv) S2.dv.off S2.dv.wr)).heap[b]? = wc.heap[b]? := fun b h1 _ => setRow_other _ _ _ _ (fun e => h1 (hN23 b (HN2.out b (.inr (.inr (.inr e))))))
                have hz : wc.heap.size ≤ (wc.drew.setRow (w.heap.size + 1 + 1) (rcC AB2 cB2 A9 (s.xs.length + 1) c9 AK2 cK2 (s.last + 1) (rfu S2.dv) S2.dv.off S2.dv.wr)).heap.size := by simp
                have hNN : ∀ b, b < wc.heap.size → ¬ N3 b → ¬ N b := fun b _ h2 e => h2 (hN23 b (HN2.out b (.inl e)))
                have z1 := Rw.out2 (N' := N) HBASE.out (fun b h1 h2 => hfr b h2 h1) hz hNN
                have z2 := Rw.out2 (N' := N) HLS.out (fun b h1 h2 => hfr b h2 h1) hz hNN
                have z3 := Rw.out2 (N' := N) HKN.out (fun b h1 h2 => hfr b h2 h1) hz hNN
                refine ⟨⟨AB2, cB2, A9, c9, AK2, cK2⟩, ?_, ?_, ?_⟩
                · rw [HPN.out, HPS.out]
                  show _ = Ending.returned (.tuple #[.agg (rcC AB2 cB2 A9 (s.xs ++ [(⟨s.last + 1, x.blk, x.pa, x.pd, L⟩ : Chg)]).length c9 AK2 cK2 (s.last + 1) (rfu S2.dv) S2.dv.off S2.dv.wr), .int .i64 (s.last + 1), .int .i64 0])
                  rw [HLL.out]
                · rw [HPS.out]
                  exact ⟨z1, by show Rw kChg _ _ A9 (s.xs ++ [(⟨s.last + 1, x.blk, x.pa, x.pd, L⟩ : Chg)]).length _; rw [HLL.out]; exact z2, hlc, z3⟩
                · exact below_setRow (HBC.out.drew) (by omega) _
            · obtain ⟨hps, hpn⟩ := hkS hq
              have HPS := Lib.hid hps
              have HPN := Lib.hid hpn
              have hqb : (PE == 0) = false := beq_eq_false_iff_ne.2 hq
              have b9 : Below w6.heap.size w6 (w6.alloc (.cells (rcP ⟨AB2, cB2, AL2, cL2, AK2, cK2⟩ S2) 32)) := bb0 _ _
              have hb9 := HB6.out.trans (b9.mono HB6.out.size)
              have R2Z := Lib.hid (HR2U.out.below hb9)
              have R4Z := Lib.hid (HR4U.out.below hb9)
              have RCZ := Lib.hid (HRCU.out.below hb9)
              have BZ := Lib.hid (HBU.out.trans (hb9.mono HBU.out.size))
              clear hps hpn hkS HPG2 hq b9 hb9
              go_wp2_with (first
                | (with_reducible refine wpList_ldC rfl _ rfl _ rfl _ rfl R2Z.out ?_)
                | (with_reducible refine wpList_storeRow rfl 32 _ _ rfl (w.heap.size + 1 + 1) rfl (rcC AB cB AL s.xs.length cL AK cK s.last (rfu s.dv) s.dv.off s.dv.wr) rfl rcZ 32 7 rcSize rfl rfl (rcC_one _ _ _ _ _ _ _ _ _ _ _) R4Z.out ?_))
              refine bodyPost_ret (v := .tuple #[.agg (rcC AB cB AL s.xs.length cL AK cK s.last (rfu s.dv) s.dv.off s.dv.wr), .int .i64 0, .int .i64 PE]) (Rd.results_cell_2 (p := 4) (t2 := 5) (t3 := 6) rfl _ _ (w.heap.size + 1 + 1) 32 (rcC AB cB AL s.xs.length cL AK cK s.last (rfu s.dv) s.dv.off s.dv.wr) (0, 0) _ rfl (R4Z.out.set _) Tryz.underlying32 rfl rcSize) rfl ?_
              exact ⟨⟨AB, cB, AL, cL, AK, cK⟩, by rw [HPN.out, HPS.out], by rw [HPS.out]; exact RCZ.out.go (fun b h1 h2 => setRow_other _ _ _ _ (fun e => h2 (HN2.out b (.inr (.inr (.inr e)))))) (by simp) (fun b _ h2 e => h2 (HN2.out b (.inl e))), below_setRow BZ.out (by omega) _⟩
end Go.Proofs.YtbamhiegabeicaaGreat.Cb

