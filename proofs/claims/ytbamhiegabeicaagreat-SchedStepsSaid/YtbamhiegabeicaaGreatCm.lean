/- The document's Flush and Upto on a cache that is represented. No statement is proved here. -/
import Derived.Test.YtbamhiegabeicaaGreatCr
namespace Go.Proofs.YtbamhiegabeicaaGreat.Cb
open Go.RowKit Go.Proofs.YtbamhiegabeicaaGreat.Mem Go.Proofs.YtbamhiegabeicaaGreat.Open Go.Proofs.YtbamhiegabeicaaGreat.Kind Go.Proofs.YtbamhiegabeicaaGreat.Blk Go.Proofs.YtbamhiegabeicaaGreat.App Go.Proofs.YtbamhiegabeicaaGreat.Pat Go.Proofs.YtbamhiegabeicaaGreat.Rd
open Go.Proofs.YtbamhiegabeicaaGreat.Db (Dv Dev Asd Bks)
set_option linter.unusedVariables false
set_option linter.unusedSimpArgs false
theorem dv_off {d : Dv} (h : d.off = true) : { d with off := true } = d := by
  obtain ⟨bs, fuse, lit, off, wr, rd, cap⟩ := d
  dsimp only at h
  subst h
  rfl
theorem wr_cut {d : Dv} {k : Nat} (hk : k < d.bs.length) (x : List Nat) (h : d.off = true ∨ (d.off = false ∧ rfu d = 0)) : Db.wrE d k = 12 ∧ Db.wrS d k x = { d with off := true } := by
  rcases h with h | ⟨h, hf⟩
  · have hm : Db.mayE d k = 12 := by unfold Db.mayE; rw [h, if_pos rfl]
    unfold Db.wrE Db.wrS
    rw [hm, if_pos (by decide), if_pos (by decide), dv_off h]
    exact ⟨rfl, rfl⟩
  · have hm : Db.mayE d k = 0 := by unfold Db.mayE; rw [h, if_neg (by simp), if_neg (by omega)]
    have hl : d.lit = true ∧ d.fuse = 0 := by
      unfold rfu at hf
      split at hf
      · rename_i hl; exact ⟨hl, hf⟩
      · omega
    exact ⟨by unfold Db.wrE; rw [hm, if_neg (fun e => e rfl), if_pos hl], by unfold Db.wrS; rw [hm, if_neg (fun e => e rfl), if_pos hl]⟩
theorem wr_go {d : Dv} {k : Nat} (hk : k < d.bs.length) (x : List Nat) (h : ¬ (d.off = true ∨ (d.off = false ∧ rfu d = 0))) (hok : d.lit = true → 0 ≤ d.fuse) :
    Db.wrE d k = 0 ∧ (Db.wrS d k x).bs = d.bs.set k x ∧ (Db.wrS d k x).off = false ∧ (Db.wrS d k x).wr = d.wr + 1 ∧ rfu (Db.wrS d k x) = (if 0 < rfu d then rfu d - 1 else rfu d) := by
  have h1 : d.off = false := by cases hq : d.off with | false => rfl | true => exact absurd (.inl hq) h
  have h2 : rfu d ≠ 0 := fun e => h (.inr ⟨h1, e⟩)
  have hm : Db.mayE d k = 0 := by unfold Db.mayE; rw [h1, if_neg (by simp), if_neg (by omega)]
  have hl : ¬ (d.lit = true ∧ d.fuse = 0) := fun e => h2 (by unfold rfu; rw [if_pos e.1]; exact e.2)
  have e1 : Db.wrE d k = 0 := by unfold Db.wrE; rw [hm, if_neg (fun e => e rfl), if_neg hl]
  by_cases hq : d.lit = true
  · have e2 : Db.wrS d k x = { d with bs := d.bs.set k x, fuse := d.fuse - 1, wr := d.wr + 1 } := by
      unfold Db.wrS; rw [hm, if_neg (fun e => e rfl), if_neg hl, if_pos hq]; rfl
    have hf : rfu d = d.fuse := if_pos hq
    rw [e1, e2]
    refine ⟨rfl, rfl, h1, rfl, ?_⟩
    have := hok hq
    rw [hf, if_pos (by rw [hf] at h2; omega)]
    exact if_pos hq
  · have e2 : Db.wrS d k x = { d with bs := d.bs.set k x, wr := d.wr + 1 } := by
      unfold Db.wrS; rw [hm, if_neg (fun e => e rfl), if_neg hl, if_neg hq]; rfl
    have hf : rfu d = -1 := if_neg hq
    rw [e1, e2]
    refine ⟨rfl, rfl, h1, rfl, ?_⟩
    rw [hf, if_neg (by omega)]
    exact if_neg hq
theorem rfu_wf {d : Dv} (h : Db.Ok d) : WfI (rfu d) := by
  unfold rfu
  split
  · rename_i hl
    have := h.2.2.2.2.2 hl
    exact (wf_iff _).2 ⟨by omega, by omega⟩
  · exact (wf_iff _).2 ⟨by omega, by omega⟩
set_option maxHeartbeats 1000000 in
theorem RFlush_any (N : Nat → Prop) (no : Int) (p : Rp) (s : St) (w : World) (h : Rc N w p s) (hN : ∀ b, N b → b < w.heap.size) (hi : Inv s) :
    Calls Tryz.prog 21 #[.agg (rcP p s), .int .i64 no] w fun e w' => ∃ p', e = .returned (.tuple #[.agg (rcP p' (flS s no)), .int .i64 (flE s no)]) ∧ Rc N w' p' (flS s no) ∧ Below w.heap.size w w' := by
  obtain ⟨AB, cB, AL, cL, AK, cK⟩ := p
  have hx := h.chs
  have hlen := hi.len
  by_cases hr : readyS s.xs no = []
  · have e1 : flS s no = s := if_neg (fun e => e.2 hr)
    have e2 : flE s no = 0 := if_neg (fun e => e.2 hr)
    refine (flush_no AB cB AL cL AK cK s.last (rfu s.dv) s.dv.off s.dv.wr s.xs w no hx hi.xl hr).mono ?_
    rintro e w' ⟨rfl, hb⟩
    rw [e1, e2]
    exact ⟨⟨AB, cB, AL, cL, AK, cK⟩, rfl, h.below hb, hb⟩
  · obtain ⟨n, hn⟩ := List.exists_mem_of_ne_nil _ hr
    obtain ⟨i, hil, _, hbl, _⟩ := ready_mem hn
    have hK : s.K no = true := hbl ▸ hi.xk _ (List.getElem_mem hil)
    have hkn := hi.kn no hK
    obtain ⟨k, rfl⟩ : ∃ k : Nat, no = (k : Int) := ⟨no.toNat, by omega⟩
    have hk16 : k < 16 := by omega
    have eE : flE s k = Db.wrE s.dv k := if_pos ⟨hK, hr⟩
    have eS : flS s k = if Db.wrE s.dv k ≠ 0 then { s with dv := Db.wrS s.dv k (flB s k) } else { s with dv := Db.wrS s.dv k (flB s k), xs := woS s.xs (readyS s.xs k) } := if_pos ⟨hK, hr⟩
    by_cases hc : s.dv.off = true ∨ (s.dv.off = false ∧ rfu s.dv = 0)
    · obtain ⟨c1, c2⟩ := wr_cut (k := k) (by omega) (flB s k) hc
      rw [c1, if_pos (by decide), c2] at eS
      rw [c1] at eE
      refine (flush_cut AB cB AL cL AK cK s.last (rfu s.dv) s.dv.off s.dv.wr s.xs w k hx hi.xl hr hc).mono ?_
      rintro e w' ⟨rfl, hb⟩
      rw [eS, eE]
      have hR : Rc N w' ⟨AB, cB, AL, cL, AK, cK⟩ { s with dv := { s.dv with off := true } } := by
        have := h.below hb
        exact ⟨this.base, this.list, this.lc, this.knows⟩
      exact ⟨⟨AB, cB, AL, cL, AK, cK⟩, rfl, hR, hb⟩
    · obtain ⟨c1, c2, c3, c4, c5⟩ := wr_go (k := k) (by omega) (flB s k) hc (fun hl => (hi.ok.2.2.2.2.2 hl).1)
      rw [c1, if_neg (fun e => e rfl)] at eS
      rw [c1] at eE
      have h1 : s.dv.off = false := by cases hq : s.dv.off with | false => rfl | true => exact absurd (.inl hq) hc
      have h2 : rfu s.dv ≠ 0 := fun e => hc (.inr ⟨h1, e⟩)
      obtain ⟨gB, oB, hAB, hgB⟩ : ∃ gB oB, AB = some ⟨gB, oB, none⟩ ∧ gB < w.heap.size := by
        rcases h.base.2.2 with h0 | ⟨g, o, e, _, hlt, _⟩
        · omega
        · exact ⟨g, o, e, hlt⟩
      subst hAB
      have C := flush_ok cB AL cL AK cK s.last (rfu s.dv) s.dv.wr s.xs w N hN gB oB k s.dv.bs hk16 hlen h.base hgB hi.each h.list hi.xl hr h2 ⟨hi.ok.2.1, hi.ok.2.2.1⟩ (rfu_wf hi.ok)
      have HO := Lib.hid h1
      rw [← c5] at C
      have hfb : flB s k = imgF (s.dv.bs.getD k zblk) s.xs k := rfl
      rw [← hfb, ← c2, ← c4] at C
      rw [eS, eE]
      clear hfb
      obtain ⟨t, ht⟩ : ∃ t : St, t = { s with dv := Db.wrS s.dv k (flB s k), xs := woS s.xs (readyS s.xs k) } := ⟨_, rfl⟩
      have t1 : t.dv = Db.wrS s.dv k (flB s k) := by rw [ht]
      have t2 : t.xs = woS s.xs (readyS s.xs k) := by rw [ht]
      have t3 : t.K = s.K := by rw [ht]
      have t4 : t.last = s.last := by rw [ht]
      rw [← ht]
      have hkn2 := h.knows
      have hbelow := fun w' hb => (h.below (w' := w') hb).knows
      rw [← t1, ← t2] at C
      rw [← t3] at hbelow
      show Calls Tryz.prog 21 #[.agg (rcC (some ⟨gB, oB, none⟩) cB AL s.xs.length cL AK cK s.last (rfu s.dv) s.dv.off s.dv.wr), .int .i64 (k : Int)] w _
      rw [h1]
      refine C.mono ?_
      rintro e w' ⟨AB', cB', AL', cL', rfl, b1, b2, b3, hb⟩
      have t5 : t.dv.off = false := by rw [t1]; exact c3
      have hR : Rc N w' ⟨AB', cB', AL', cL', AK, cK⟩ t := ⟨b1, b2, b3, hbelow w' hb⟩
      refine ⟨⟨AB', cB', AL', cL', AK, cK⟩, ?_, hR, hb⟩
      show _ = Ending.returned (.tuple #[.agg (rcC AB' cB' AL' t.xs.length cL' AK cK t.last (rfu t.dv) t.dv.off t.dv.wr), .int .i64 0])
      rw [t5, t4]
/-- The same in the middle of a region: what came since lies apart. -/
theorem RFlush_held {N : Nat → Prop} {no : Int} {p : Rp} {s : St} {W0 W : World} (hH : Below W0.heap.size W0 W) (h : Rc N W0 p s) (hN : ∀ b, N b → b < W0.heap.size) (hi : Inv s) :
    Calls Tryz.prog 21 #[.agg (rcP p s), .int .i64 no] W fun e w' => ∃ p', e = .returned (.tuple #[.agg (rcP p' (flS s no)), .int .i64 (flE s no)]) ∧ Rc (fun b => N b ∨ (W0.heap.size ≤ b ∧ b < W.heap.size)) w' p' (flS s no) ∧ Below W.heap.size W w' :=
  RFlush_any (fun b => N b ∨ (W0.heap.size ≤ b ∧ b < W.heap.size)) no p s W (h.go (fun b h1 _ => hH.block b h1) hH.size (fun b h1 h2 e => by rcases e with e | e; exact h2 e; omega))
    (fun b e => by rcases e with e | e; exact Nat.lt_of_lt_of_le (hN b e) hH.size; exact e.2) hi
theorem Rc.fresh {N : Nat → Prop} {w w' : World} {p : Rp} {s : St} (h : Rc N w p s) (hb : Below w.heap.size w w') {g : Nat} (hg : w.heap.size ≤ g) : Rc (fun b => N b ∨ b = g) w' p s :=
  h.go (fun b h1 _ => hb.block b h1) hb.size (fun b h1 h2 e => by rcases e with e | e; exact h2 e; omega)
theorem Rc.store {N N' : Nat → Prop} {w : World} {p : Rp} {s : St} {g : Nat} (h : Rc N w p s) (cs : Array Value) (hg : N g) (hN : ∀ b, N' b → N b) : Rc N' (w.setRow g cs) p s :=
  h.go (fun b _ h2 => setRow_other _ _ _ _ (fun e => h2 (e ▸ hg))) (by simp) (fun b _ h2 e => h2 (hN b e))
theorem rcZero : ∀ w, (zeroValue 32).run Tryz.prog w = .ok (.agg rcZ) w := (zero_of_info (show (Tryz.prog.info? 32).map (fun i => (i.zero, i.size)) = some (some (.agg rcZ), 7) by kernel_rfl)).1
/-- The length of the list that lies in a box. -/
def lenR (b : Nat) (w : World) : Nat := match w.cell? ⟨b, 1, none⟩ with
  | some (.slice _ n _) => n
  | _ => 0
theorem lenR_of {b : Nat} {w : World} {A : Option Addr} {n m : Nat} (h : w.cell? ⟨b, 1, none⟩ = some (.slice A n m)) : lenR b w = n := by
  unfold lenR; rw [h]
set_option maxHeartbeats 1000000 in
set_option maxRecDepth 100000 in
theorem RUpto_any (N : Nat → Prop) (id : Int) (p : Rp) (s : St) (w : World) (h : Rc N w p s) (hN : ∀ b, N b → b < w.heap.size) (hi : Inv s) :
    Calls Tryz.prog 48 #[.agg (rcP p s), .int .i64 id] w fun e w' => ∃ p', e = .returned (.tuple #[.agg (rcP p' (upS s id)), .int .i64 (upE s id)]) ∧ Rc N w' p' (upS s id) ∧ Below w.heap.size w w' := by
  have HU : Hid (upG (s.xs.length + 1) s id = (upS s id, upE s id)) := Lib.hid rfl
  generalize upS s id = US at *
  generalize upE s id = UE at *
  have b2 := bb2 w (.cells (rcP p s) 32) (.cells rcZ 32)
  have R2 : Row ((w.alloc (.cells (rcP p s) 32)).alloc (.cells rcZ 32)) w.heap.size 32 (rcP p s) := (Row.new _ _ _).alloc _
  have R4 := row2 w (.cells (rcP p s) 32) 32 rcZ
  obtain ⟨N2, hN2e⟩ : ∃ N2 : Nat → Prop, N2 = fun b => N b ∨ b = w.heap.size ∨ b = w.heap.size + 1 := ⟨_, rfl⟩
  have hN2 : ∀ k, N2 k → k < w.heap.size + 2 := fun k hk => by rw [hN2e] at hk; rcases hk with h | h | h; have := hN k h; omega; omega; omega
  have HN2 : Hid (∀ k, N k ∨ k = w.heap.size ∨ k = w.heap.size + 1 → N2 k) := Lib.hid (fun k hk => by rw [hN2e]; exact hk)
  have HRC : Hid (Rc N2 ((w.alloc (.cells (rcP p s) 32)).alloc (.cells rcZ 32)) p s) := Lib.hid (h.go (fun k h1 _ => b2.block k h1) b2.size (fun k h1 h2 h3 => by rw [hN2e] at h3; rcases h3 with h | h | h; exact h2 h; omega; omega))
  have HN2L := Lib.hid hN2
  have HR2 := Lib.hid R2
  have HR4 := Lib.hid R4
  have HB2 := Lib.hid b2
  have HI := Lib.hid hi
  clear h hi R2 R4 b2 hN2e hN hN2
  go_enter Tryz.func48, Tryz.ntmps48
  go_wp2
  go_loopw [5] (fun v wr => v = .int .i64 0 ∧ ∃ (p' : Rp) (S : St), Row wr w.heap.size 32 (rcP p' S) ∧ Row wr (w.heap.size + 1) 32 rcZ ∧ Rc N2 wr p' S ∧ Hid (Inv S) ∧ Below w.heap.size w wr ∧ Hid (upG (S.xs.length + 1) S id = (US, UE))) (fun _ wr => lenR w.heap.size wr)
  case atStart => exact ⟨rfl, p, s, HR2.out, HR4.out, HRC.out, HI, HB2.out, HU⟩
  case round =>
    obtain ⟨rfl, ⟨AB, cB, AL, cL, AK, cK⟩, S, hr2, hr4, hrc, HIS, hb, hu⟩ := hrel
    change Row wr w.heap.size 32 (rcC AB cB AL S.xs.length cL AK cK S.last (rfu S.dv) S.dv.off S.dv.wr) at hr2
    have hx := hrc.chs
    have k1 : wr.cell? ⟨w.heap.size, 1, none⟩ = some (.slice AL S.xs.length cL) := hr2.cell 1 rfl
    have HR2 := Lib.hid hr2
    have HR4 := Lib.hid hr4
    have HRC := Lib.hid hrc
    have HB := Lib.hid hb
    clear hrc hb HU HI HB2 hr4
    cases hS : S.xs with
    | nil =>
      have hu2 : upG (S.xs.length + 1) S id = (S, 0) := by unfold upG; rw [hS]
      have HE : Hid (S = US ∧ (0 : Int) = UE) := Lib.hid (by rw [hu2] at hu; have := hu.out; injection this with a b; exact ⟨a, b⟩)
      rw [hS] at k1
      clear hu hu2 hx hS
      go_wp2_with (first
        | (with_reducible refine wpList_ldC rfl _ rfl _ rfl _ rfl HR2.out ?_)
        | (with_reducible refine wpList_storeRow rfl 32 _ _ rfl (w.heap.size + 1) rfl _ rfl rcZ 32 7 rcSize rfl rfl (rcC_one _ _ _ _ _ _ _ _ _ _ _) HR4.out ?_))
      obtain ⟨e1, e2⟩ := HE.out
      subst e1 e2
      refine bodyPost_ret (v := .tuple #[.agg (rcC AB cB _ S.xs.length cL AK cK S.last (rfu S.dv) S.dv.off S.dv.wr), .int .i64 0]) (Rd.results_cell_tmp (p := 4) (t2 := 5) rfl _ _ (w.heap.size + 1) 32 (rcC AB cB _ S.xs.length cL AK cK S.last (rfu S.dv) S.dv.off S.dv.wr) (0, 0) _ rfl (HR4.out.set _) Tryz.underlying32 rfl rcSize) rfl ?_
      exact ⟨⟨AB, cB, _, cL, AK, cK⟩, rfl, Rc.store HRC.out _ (HN2.out _ (.inr (.inr rfl))) (fun b hb => HN2.out b (.inl hb)), below_setRow HB.out (by omega) _⟩
    | cons x r =>
      have hlen : S.xs.length = r.length + 1 := by rw [hS]; rfl
      obtain ⟨gx, ox, hAL, hgx⟩ := ch_form hx (by omega)
      have hAL : AL = some ⟨gx, ox, none⟩ := hAL
      subst hAL
      obtain ⟨A1, c1', A2, c2', hat⟩ := ch_at hx 0 (by omega)
      have hx0 : S.xs[0]'(by omega) = x := by simp [hS]
      rw [hx0] at hat
      have e0 : wr.cell? ⟨gx, ox, none⟩ = some (.int .i64 x.id) := by have := hat.v0; rwa [Nat.zero_mul, Nat.add_zero] at this
      have e1 : wr.cell? ⟨gx, ox + 1, none⟩ = some (.int .i64 x.blk) := by have := hat.v1; rwa [Nat.zero_mul, Nat.add_zero] at this
      have hl9 : r.length + 1 ≤ 9223372036854775807 := by have := hx.2.1; rw [hlen] at this; exact this
      rw [hlen] at k1
      clear hat hx
      by_cases hid : x.id ≤ id
      · have HL : Hid (lenR w.heap.size wr = r.length + 1) := Lib.hid (lenR_of k1)
        have hu2 : upG (S.xs.length + 1) S id = if flE S x.blk = 0 then upG S.xs.length (flS S x.blk) id else (flS S x.blk, flE S x.blk) := by
          rw [upG, hS]
          dsimp only
          rw [if_pos hid]
        have HUP : Hid (flE S x.blk = 0 → upG ((flS S x.blk).xs.length + 1) (flS S x.blk) id = (US, UE) ∧ (flS S x.blk).xs.length < r.length + 1) := Lib.hid (fun hE => by
          have hless := fl_less HIS.out hS hE
          have h3 : ∀ k, upG ((flS S x.blk).xs.length + 1 + k) (flS S x.blk) id = upG ((flS S x.blk).xs.length + 1) (flS S x.blk) id := by
            intro k
            induction k with
            | zero => rfl
            | succ k ih => rw [← ih]; exact upG_more ((flS S x.blk).xs.length + 1 + k) (flS_inv HIS.out _) id (by omega)
          refine ⟨?_, by omega⟩
          rw [← h3 (S.xs.length - ((flS S x.blk).xs.length + 1)), show (flS S x.blk).xs.length + 1 + (S.xs.length - ((flS S x.blk).xs.length + 1)) = S.xs.length from by omega, ← hu.out, hu2, if_pos hE])
        have HUN : Hid (flE S x.blk ≠ 0 → flS S x.blk = US ∧ flE S x.blk = UE) := Lib.hid (fun hE => by rw [hu2, if_neg hE] at hu; have := hu.out; injection this with a b; exact ⟨a, b⟩)
        have HI2 := Lib.hid (flS_inv HIS.out x.blk)
        have CF := Lib.hid (fun W (hH : Below wr.heap.size wr.drew W) => RFlush_held (W0 := wr.drew) (no := x.blk) hH (HRC.out.below (Below.refl _ _).drew) (fun b hb => by have := HN2L.out b hb; have := Row.lt HR4.out; show b < wr.heap.size; omega) HIS.out)
        have hpos : 0 < S.xs.length := by omega
        clear hu hu2 hS hlen hx0
        have hlt2 : w.heap.size + 1 < wr.heap.size := Row.lt HR4.out
        have HR2D := HR2.out.drew
        have e1d : wr.drew.cell? ⟨gx, ox + 1, none⟩ = some (.int .i64 x.blk) := e1
        have hgxr : gx < wr.heap.size := hgx
        have h2lt : w.heap.size < wr.heap.size := by omega
        go_wp2_with fail
        clear hr2 k1 e0 e1
        obtain ⟨E2, hE2⟩ : ∃ E2, flE S x.blk = E2 := ⟨_, rfl⟩
        obtain ⟨S2, hS2⟩ : ∃ S2, flS S x.blk = S2 := ⟨_, rfl⟩
        rw [hE2, hS2] at CF HUP HUN
        rw [hS2] at HI2
        clear hE2 hS2
        go_cut [6, 7] (fun s6 s7 w' => ∃ (g6 : Nat) (p2 : Rp), s6 = .pointer (some ⟨g6, 0, none⟩) ∧ s7 = .int .i64 E2 ∧ Row w' g6 32 (rcP p2 S2) ∧ Rc N2 w' p2 S2 ∧ wr.heap.size ≤ g6 ∧ Below wr.heap.size wr w')
        case first =>
          refine wp_region_held_drew (S := Go.RowKit.Below ((wr.drew).heap.size) (wr.drew)) (by kernel_rfl) ?hb8 (fun hHeld => ?rest8)
          case hb8 =>
            exact Go.RowKit.Below.refl _ _
          case' rest8 => skip
          have hCl := fun (wS : World) (hSw : Go.RowKit.Below ((wr.drew).heap.size) (wr.drew) wS) => And.intro ((Mem.bl_row hSw HR2D (by first | exact Mem.Row.lt HR2D | omega | (simp <;> omega))).cell 0 rfl) <| And.intro ((Mem.bl_row hSw HR2D (by first | exact Mem.Row.lt HR2D | omega | (simp <;> omega))).cell 1 rfl) <| And.intro ((Mem.bl_row hSw HR2D (by first | exact Mem.Row.lt HR2D | omega | (simp <;> omega))).cell 2 rfl) <| And.intro ((Mem.bl_row hSw HR2D (by first | exact Mem.Row.lt HR2D | omega | (simp <;> omega))).cell 3 rfl) <| And.intro ((Mem.bl_row hSw HR2D (by first | exact Mem.Row.lt HR2D | omega | (simp <;> omega))).cell 4 rfl) <| And.intro ((Mem.bl_row hSw HR2D (by first | exact Mem.Row.lt HR2D | omega | (simp <;> omega))).cell 5 rfl) <| And.intro ((Mem.bl_row hSw HR2D (by first | exact Mem.Row.lt HR2D | omega | (simp <;> omega))).cell 6 rfl) <| Mem.bl_cell hSw e1d (by first | omega | (dsimp only; omega) | exact World.block_lt_of_cell? _ _ e1d | (simp <;> omega))
          replace hCl := Go.Lib.hid hCl
          refine Mem.tkV 0 ?v9 ?y9 ?r9
          case y9 => (intro w hSw; obtain ⟨hT0, hT1, hT2, hT3, hT4, hT5, hT6, hT7⟩ := hCl.out w hSw; clear hSw; go_simp; try with_reducible rfl)
          refine Mem.tkV 1 ?v10 ?y10 ?r10
          case y10 => (intro w hSw; clear hSw; go_simp; try with_reducible rfl)
          refine Mem.tkV 2 ?v11 ?y11 ?r11
          case y11 => (intro w hSw; obtain ⟨hT0, hT1, hT2, hT3, hT4, hT5, hT6, hT7⟩ := hCl.out w hSw; clear hSw; go_simp; try with_reducible rfl)
          try simp only [Mem.pa, Mem.pb, Mem.pc, Act.put, Mem.pd, Mem.pe, Mem.pf]
          refine Mem.tkV 3 ?v12 ?y12 ?r12
          case y12 => (intro w hSw; clear hSw; go_simp; try with_reducible rfl)
          refine Mem.tkV 4 ?v13 ?y13 ?r13
          case y13 => (intro w hSw; clear hSw; go_simp; try with_reducible rfl)
          refine Mem.tkV 5 ?v14 ?y14 ?r14
          case y14 => (intro w hSw; obtain ⟨hT0, hT1, hT2, hT3, hT4, hT5, hT6, hT7⟩ := hCl.out w hSw; clear hSw; go_simp; try with_reducible rfl)
          try simp only [Mem.pa, Mem.pb, Mem.pc, Act.put, Mem.pd, Mem.pe, Mem.pf]
          refine wpAnyH_ready (rs := [6, 10]) (by kernel_rfl) (by simp) ?_
          refine AllReadyH.cons rfl (fun K hK => ?_) ?_
          · skip
            go_simp
            (refine (CF.out _ hHeld).mono ?_; rintro e wl ⟨p2, rfl, hR2, hbl⟩)
            try go_wp2_with fail
            have hSnew := Mem.bl_step hHeld hbl (by first | exact Nat.le_refl _ | omega | (simp <;> omega))
            refine hK.out _ _ ?_ (fun hHeld2 => ?_)
            · exact hSnew
            try replace hr6 := hr6.below hbl
            clear hbl
            clear hK K hHeld hSnew
            have hHeld := hHeld2
            clear hHeld2
            try simp only [Mem.pa, Mem.pb, Mem.pc, Act.put, Mem.pd, Mem.pe, Mem.pf]
            refine Mem.tkV 7 ?v15 ?y15 ?r15
            case y15 => (intro w hSw; clear hSw; go_simp; try with_reducible rfl)
            refine Mem.tkV 8 ?v16 ?y16 ?r16
            case y16 => (intro w hSw; clear hSw; go_simp; try with_reducible rfl)
            refine Mem.tkV 9 ?v17 ?y17 ?r17
            case y17 => (intro w hSw; clear hSw; go_simp; try with_reducible rfl)
            try simp only [Mem.pa, Mem.pb, Mem.pc, Act.put, Mem.pd, Mem.pe, Mem.pf]
            refine wpAnyH_ready (rs := [10]) (by kernel_rfl) (by simp) ?_
            refine AllReadyH.cons rfl (fun K hK => ?_) AllReadyH.nil
            rw [if_pos (by rfl)]
            refine wp_allocN 32 (by rfl) _ rcZero ?_; intro g6 wa hr6 hbl hg6'; have hg6 : wr.heap.size ≤ g6 := Nat.le_trans hHeld.size hg6'; have hga := Row.lt hr6; (try (have hR2 := hR2.fresh hbl hg6'))
            have hSnew := Mem.bl_step hHeld hbl (by first | exact Nat.le_refl _ | omega | (simp <;> omega))
            refine hK.out _ _ ?_ (fun hHeld2 => ?_)
            · exact hSnew
            try replace hr6 := hr6.below hbl
            clear hbl
            clear hK K hHeld hSnew
            have hHeld := hHeld2
            clear hHeld2
            try simp only [Mem.pa, Mem.pb, Mem.pc, Act.put, Mem.pd, Mem.pe, Mem.pf]
            refine wpAnyH_ready (rs := [11]) (by kernel_rfl) (by simp) ?_
            refine AllReadyH.cons rfl (fun K hK => ?_) AllReadyH.nil
            rw [if_pos (by rfl)]
            refine wp_storeRow _ _ _ (by rfl) g6 (by rfl) (rcP p2 S2) (by rfl) rcZ 32 7 rcSize rfl rfl (rcC_one _ _ _ _ _ _ _ _ _ _ _) hr6 ?_; have hSnew := below_setRow hHeld hg6 (rcP p2 S2); have hr8 := hr6.set (rcP p2 S2); have hR3 := Rc.store (N' := N2) (g := g6) hR2 (rcP p2 S2) (by first | exact .inr rfl | exact .inr ⟨hg6, hga⟩) (fun b hb => by first | exact .inl hb | exact .inl (.inl hb))
            refine hK.out _ _ ?_ (fun hHeld2 => ?_)
            · exact hSnew
            clear hK K hHeld hSnew
            have hHeld := hHeld2
            clear hHeld2
            try simp only [Mem.pa, Mem.pb, Mem.pc, Act.put, Mem.pd, Mem.pe, Mem.pf]
            refine Mem.tkV 12 ?v18 ?y18 ?r18
            case y18 => (intro w hSw; clear hSw; go_simp; try with_reducible rfl)
            try simp only [Mem.pa, Mem.pb, Mem.pc, Act.put, Mem.pd, Mem.pe, Mem.pf]
            refine wpAnyH_done (by kernel_rfl) ?_ _
            clear hCl
            go_wp2_with fail
            go_meet
            case rel => exact ⟨g6, p2, rfl, rfl, hr8, hR3, hg6, (Below.refl _ _).drew.trans hHeld⟩
          refine AllReadyH.cons rfl (fun K hK => ?_) ?_
          · skip
            rw [if_pos (by rfl)]
            refine wp_allocN 32 (by rfl) _ rcZero ?_; intro g6 wa hr6 hbl hg6'; have hg6 : wr.heap.size ≤ g6 := Nat.le_trans hHeld.size hg6'; have hga := Row.lt hr6; (try (have hR2 := hR2.fresh hbl hg6'))
            have hSnew := Mem.bl_step hHeld hbl (by first | exact Nat.le_refl _ | omega | (simp <;> omega))
            refine hK.out _ _ ?_ (fun hHeld2 => ?_)
            · exact hSnew
            try replace hr6 := hr6.below hbl
            clear hbl
            clear hK K hHeld hSnew
            have hHeld := hHeld2
            clear hHeld2
            try simp only [Mem.pa, Mem.pb, Mem.pc, Act.put, Mem.pd, Mem.pe, Mem.pf]
            refine wpAnyH_ready (rs := [6]) (by kernel_rfl) (by simp) ?_
            refine AllReadyH.cons rfl (fun K hK => ?_) AllReadyH.nil
            go_simp
            (refine (CF.out _ hHeld).mono ?_; rintro e wl ⟨p2, rfl, hR2, hbl⟩)
            try go_wp2_with fail
            have hSnew := Mem.bl_step hHeld hbl (by first | exact Nat.le_refl _ | omega | (simp <;> omega))
            refine hK.out _ _ ?_ (fun hHeld2 => ?_)
            · exact hSnew
            try replace hr6 := hr6.below hbl
            clear hbl
            clear hK K hHeld hSnew
            have hHeld := hHeld2
            clear hHeld2
            try simp only [Mem.pa, Mem.pb, Mem.pc, Act.put, Mem.pd, Mem.pe, Mem.pf]
            refine Mem.tkV 7 ?v19 ?y19 ?r19
            case y19 => (intro w hSw; clear hSw; go_simp; try with_reducible rfl)
            refine Mem.tkV 8 ?v20 ?y20 ?r20
            case y20 => (intro w hSw; clear hSw; go_simp; try with_reducible rfl)
            refine Mem.tkV 9 ?v21 ?y21 ?r21
            case y21 => (intro w hSw; clear hSw; go_simp; try with_reducible rfl)
            try simp only [Mem.pa, Mem.pb, Mem.pc, Act.put, Mem.pd, Mem.pe, Mem.pf]
            refine wpAnyH_ready (rs := [11]) (by kernel_rfl) (by simp) ?_
            refine AllReadyH.cons rfl (fun K hK => ?_) AllReadyH.nil
            rw [if_pos (by rfl)]
            refine wp_storeRow _ _ _ (by rfl) g6 (by rfl) (rcP p2 S2) (by rfl) rcZ 32 7 rcSize rfl rfl (rcC_one _ _ _ _ _ _ _ _ _ _ _) hr6 ?_; have hSnew := below_setRow hHeld hg6 (rcP p2 S2); have hr8 := hr6.set (rcP p2 S2); have hR3 := Rc.store (N' := N2) (g := g6) hR2 (rcP p2 S2) (by first | exact .inr rfl | exact .inr ⟨hg6, hga⟩) (fun b hb => by first | exact .inl hb | exact .inl (.inl hb))
            refine hK.out _ _ ?_ (fun hHeld2 => ?_)
            · exact hSnew
            clear hK K hHeld hSnew
            have hHeld := hHeld2
            clear hHeld2
            try simp only [Mem.pa, Mem.pb, Mem.pc, Act.put, Mem.pd, Mem.pe, Mem.pf]
            refine Mem.tkV 12 ?v22 ?y22 ?r22
            case y22 => (intro w hSw; clear hSw; go_simp; try with_reducible rfl)
            try simp only [Mem.pa, Mem.pb, Mem.pc, Act.put, Mem.pd, Mem.pe, Mem.pf]
            refine wpAnyH_done (by kernel_rfl) ?_ _
            clear hCl
            go_wp2_with fail
            go_meet
            case rel => exact ⟨g6, p2, rfl, rfl, hr8, hR3, hg6, (Below.refl _ _).drew.trans hHeld⟩
          exact AllReadyH.nil
        case rest =>
          obtain ⟨g6, p2, rfl, rfl, hr6, hR2, hg6, hbc⟩ := hcut
          have HR6 := Lib.hid hr6
          have HR2C := Lib.hid (HR2.out.below hbc)
          have q2 := (HR2.out.below hbc).set (rcP p2 S2)
          have hne6 : w.heap.size + 1 ≠ w.heap.size := by omega
          have HR4C := Lib.hid ((HR4.out.below hbc).far hne6 (rcP p2 S2))
          have HRC2 := Lib.hid (Rc.store (N' := N2) hR2 (rcP p2 S2) (HN2.out _ (.inr (.inl rfl))) (fun b hb => hb))
          have HBC := Lib.hid (below_setRow (HB.out.trans (hbc.mono HB.out.size)) (Nat.le_refl w.heap.size) (rcP p2 S2))
          have HQ2 := Lib.hid q2
          have hlt6 : ¬ g6 = w.heap.size := by omega
          clear hr6 hR2 hbc q2 HRC HR2D e1d
          by_cases hE : E2 = 0
          · obtain ⟨u1, u2⟩ := HUP.out hE
            have HU1 := Lib.hid u1
            have hEb : (E2 == 0) = true := by rw [hE]; rfl
            have HL2 : Hid (lenR w.heap.size (wc.setRow w.heap.size (rcP p2 S2)) < lenR w.heap.size wr) := Lib.hid (by rw [HL.out, lenR_of (HQ2.out.cell 1 rfl)]; exact u2)
            subst hE
            clear u1 u2 HUP HUN HL hEb
            go_wp2_with (first
              | (with_reducible refine wpList_ldC rfl _ rfl _ rfl _ rfl HR6.out ?_)
              | (with_reducible refine wpList_storeRow rfl 32 _ _ rfl w.heap.size rfl (rcP p2 S2) rfl _ 32 7 rcSize rfl rfl (rcC_one _ _ _ _ _ _ _ _ _ _ _) HR2C.out ?_))
            go_roundw
            case rel => exact ⟨rfl, p2, S2, HQ2.out, HR4C.out, HRC2.out, HI2, HBC.out, HU1⟩
            case measure => exact HL2.out
          · obtain ⟨u1, u2⟩ := HUN.out hE
            subst u1 u2
            have hEb : (E2 == 0) = false := beq_eq_false_iff_ne.2 hE
            clear HUP HUN HL hE
            go_wp2_with (first
              | (with_reducible refine wpList_ldC rfl _ rfl _ rfl _ rfl HR6.out ?_)
              | (with_reducible refine wpList_ldC rfl _ rfl _ rfl _ rfl HQ2.out ?_)
              | (with_reducible refine wpList_storeRow rfl 32 _ _ rfl w.heap.size rfl (rcP p2 S2) rfl _ 32 7 rcSize rfl rfl (rcC_one _ _ _ _ _ _ _ _ _ _ _) HR2C.out ?_)
              | (with_reducible refine wpList_storeRow rfl 32 _ _ rfl (w.heap.size + 1) rfl (rcP p2 S2) rfl rcZ 32 7 rcSize rfl rfl (rcC_one _ _ _ _ _ _ _ _ _ _ _) HR4C.out ?_))
            refine bodyPost_ret (v := .tuple #[.agg (rcP p2 S2), .int .i64 E2]) (Rd.results_cell_tmp (p := 4) (t2 := 5) rfl _ _ (w.heap.size + 1) 32 (rcP p2 S2) (0, 0) _ rfl (HR4C.out.set _) Tryz.underlying32 rfl rcSize) rfl ?_
            exact ⟨p2, rfl, Rc.store HRC2.out _ (HN2.out _ (.inr (.inr rfl))) (fun b hb => HN2.out b (.inl hb)), below_setRow HBC.out (by omega) _⟩
      · have hu2 : upG (S.xs.length + 1) S id = (S, 0) := by
          rw [upG, hS]
          dsimp only
          rw [if_neg hid]
        have HE : Hid (S = US ∧ (0 : Int) = UE) := Lib.hid (by rw [hu2] at hu; have := hu.out; injection this with a b; exact ⟨a, b⟩)
        clear hu hu2 hS hlen hx0
        go_wp2_with (first
          | (with_reducible refine wpList_ldC rfl _ rfl _ rfl _ rfl HR2.out ?_)
          | (with_reducible refine wpList_storeRow rfl 32 _ _ rfl (w.heap.size + 1) rfl _ rfl rcZ 32 7 rcSize rfl rfl (rcC_one _ _ _ _ _ _ _ _ _ _ _) HR4.out ?_))
        obtain ⟨e1, e2⟩ := HE.out
        subst e1 e2
        refine bodyPost_ret (v := .tuple #[.agg (rcC AB cB _ S.xs.length cL AK cK S.last (rfu S.dv) S.dv.off S.dv.wr), .int .i64 0]) (Rd.results_cell_tmp (p := 4) (t2 := 5) rfl _ _ (w.heap.size + 1) 32 (rcC AB cB _ S.xs.length cL AK cK S.last (rfu S.dv) S.dv.off S.dv.wr) (0, 0) _ rfl (HR4.out.set _) Tryz.underlying32 rfl rcSize) rfl ?_
        exact ⟨⟨AB, cB, _, cL, AK, cK⟩, rfl, Rc.store HRC.out _ (HN2.out _ (.inr (.inr rfl))) (fun b hb => HN2.out b (.inl hb)), below_setRow HB.out (by omega) _⟩
end Go.Proofs.YtbamhiegabeicaaGreat.Cb

