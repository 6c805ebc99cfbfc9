/- Behind any script: the cache and the document's. No statement is proved here. -/
import Derived.Test.YtbamhiegabeicaaGreatCd
namespace Go.Proofs.YtbamhiegabeicaaGreat.Cb
open Go.RowKit Go.Proofs.YtbamhiegabeicaaGreat.Mem Go.Proofs.YtbamhiegabeicaaGreat.Open Go.Proofs.YtbamhiegabeicaaGreat.Kind Go.Proofs.YtbamhiegabeicaaGreat.Blk Go.Proofs.YtbamhiegabeicaaGreat.App Go.Proofs.YtbamhiegabeicaaGreat.Pat Go.Proofs.YtbamhiegabeicaaGreat.Rd
open Go.Proofs.YtbamhiegabeicaaGreat.Db (Dv Dev Asd Bks)
set_option linter.unusedVariables false
set_option linter.unusedSimpArgs false
theorem dirty_wf {s : St} (hi : Inv s) : ∀ n ∈ blkP s.xs [], WfI n := fun n hn => by
  rcases ((blkP_spec (xs := s.xs) List.Pairwise.nil).2 n).1 hn with h | ⟨x, hx, rfl⟩
  · cases h
  · have := hi.kn _ (hi.xk x hx)
    exact (wf_iff _).2 ⟨by omega, by omega⟩
/-- All blocks that there are, but those that lie apart of the cache; and some more. -/
abbrev NF (N : Nat → Prop) (c d g b : Nat) (X : Nat → Prop) (w : World) : Nat → Prop := fun k => k < w.heap.size ∧ (¬ Far N c d g b k ∨ X k)
section
variable {N X : Nat → Prop} {c d g b bx : Nat} {w w' : World} {p : Rp} {s t : St} {v : Value}
theorem NF.far {k : Nat} (h1 : k < w.heap.size) (h2 : ¬ NF N c d g b X w k) : Far N c d g b k ∧ ¬ X k :=
  ⟨Classical.byContradiction fun e => h2 ⟨h1, .inl e⟩, fun e => h2 ⟨h1, .inr e⟩⟩
theorem Rc.tn (h : Rc (NF N c d g b X w) w p s) (ht : Tn N c d g b w w') : Rc (NF N c d g b X w') w' p s :=
  h.go (fun k h1 h2 => ht.block k (NF.far h1 h2).1) ht.size (fun k h1 h2 e => by rcases e.2 with e2 | e2; exact e2 (NF.far h1 h2).1; exact (NF.far h1 h2).2 e2)
theorem Rc.grow (h : Rc (NF N c d g b X w) w' p s) (hc : Ca w c d g b N v t) (hb : Below w.heap.size w w') (hx : ∀ k, X k → k < w.heap.size) : Rc (NF (fun j => N j ∨ (w.heap.size ≤ j ∧ j < w'.heap.size)) c d g b X w') w' p s :=
  h.go (fun _ _ _ => rfl) (Nat.le_refl _) (fun k h1 h2 e => by
    by_cases hk : k < w.heap.size
    · obtain ⟨hf, hne⟩ := NF.far hk h2
      rcases e.2 with e2 | e2
      · exact e2 ⟨.inl hf.n, hf.c, hf.d, hf.g, hf.b⟩
      · exact hne e2
    · rcases e.2 with e2 | e2
      · exact e2 ⟨.inr ⟨by omega, h1⟩, by have := hc.row.lt; omega, by have := hc.dev.1.lt; omega, by have := hc.dev.2.1.2.2; omega, by have := hc.map.lt; omega⟩
      · have := hx k e2; omega)
theorem Rc.later (h : Rc (NF N c d g b X w) w p s) (hb : Below w.heap.size w w') : Rc (NF N c d g b X w') w' p s :=
  h.go (fun k h1 _ => hb.block k h1) hb.size (fun k h1 h2 e => by rcases e.2 with e2 | e2; exact e2 (NF.far h1 h2).1; exact (NF.far h1 h2).2 e2)
theorem Rc.setBx (h : Rc (NF N c d g b X w) w p s) (hx : bx < w.heap.size) (hX : X bx) (cs : Array Value) : Rc (NF N c d g b X (w.setRow bx cs)) (w.setRow bx cs) p s :=
  h.go (fun k h1 h2 => setRow_other _ _ _ _ (fun e => (NF.far h1 h2).2 (e ▸ hX))) (by simp) (fun k h1 h2 e => by rcases e.2 with e2 | e2; exact e2 (NF.far h1 h2).1; exact (NF.far h1 h2).2 e2)
theorem Far.or {M : Nat → Prop} {k : Nat} (h : Far N c d g b k) : Far (fun j => N j ∨ M j) c d g b k := ⟨.inl h.n, h.c, h.d, h.g, h.b⟩
end
theorem results_2_cell {P : Program} {fn : Func} {p t2 t3 : Tmp} {ty : TypeId} (h : fn.results = #[.tmp t2, .tmp t3, .cell p ty]) (tmps : Array Value) (w : World) (g : Nat) (t : TypeId) (cs : Array Value) (fr : Nat × Nat) (d : TypeDesc)
    (hp : tmps.getD p undef = .pointer (some ⟨g, 0, none⟩)) (hg : w.heap[g]? = some (.cells cs t fr))
    (hu : P.underlying ty = some d) (hd : (match d with | .struct _ | .array _ _ => true | _ => false) = true) (hi : (P.info? ty).map (·.size) = some cs.size) :
    (results fn tmps).run P w = .ok (.tuple #[tmps.getD t2 undef, tmps.getD t3 undef, .agg cs]) w := by
  have hp' : tmps[p]?.getD undef = .pointer (some ⟨g, 0, none⟩) := by simpa using hp
  simp [results, h, hp', asAddr, run_loadVar_row w g t ty cs fr d hg hu hd hi]
theorem RGo_held {N : Nat → Prop} {x : Chg} {A : Option Addr} {cp : Nat} {A2 : Option Addr} {cn : Nat} {p : Rp} {s : St} {W0 W : World} (hH : Below W0.heap.size W0 W) (h : Rc N W0 p s) (hN : ∀ b, N b → b < W0.heap.size) (hi : Inv s) (hx : ChS W0 x A cp A2 cn) (hpd : Rw kByte W0 (Out2 N W0) A x.pd.length x.pd) (hnl : x.needs.length ≤ 60) (hlast : s.last < 1000) :
    Calls Tryz.prog 18 #[.agg (rcP p s), .agg (chC x A cp A2 cn)] W fun e w' => ∃ p', e = .returned (.tuple #[.agg (rcP p' (goS s x)), .int .i64 (goN s x), .int .i64 (goE s x)]) ∧ Rc (fun b => N b ∨ (W0.heap.size ≤ b ∧ b < W.heap.size)) w' p' (goS s x) ∧ Below W.heap.size W w' :=
  RGo_any (fun b => N b ∨ (W0.heap.size ≤ b ∧ b < W.heap.size)) x A cp A2 cn p s W (h.go (fun b h1 _ => hH.block b h1) hH.size (fun b h1 h2 e => by rcases e with e | e; exact h2 e; omega))
    (fun b e => by rcases e with e | e; exact Nat.lt_of_lt_of_le (hN b e) hH.size; exact e.2) hi (hx.below hH) (Rw.out2 hpd (fun b h1 _ => hH.block b h1) hH.size (fun b h1 h2 e => by rcases e with e | e; exact h2 e; omega)) hnl hlast
set_option maxHeartbeats 2000000 in
set_option maxRecDepth 100000 in
theorem Begin_any (A : Option Addr) (n : Nat) (xs : List Chg) (w : World) (hx : Chs w A xs) (hl : xs.length ≤ 20) (hsm : ∀ x ∈ xs, x.pd.length ≤ 300 ∧ x.needs.length ≤ 20) :
    Calls Tryz.prog 6 #[.slice A xs.length n] w fun e w' => ∃ (c d g b : Nat) (N X : Nat → Prop) (v : Value) (S : St) (p : Rp), e = .returned (.tuple #[.pointer (some ⟨c, 0, none⟩), .pointer (some ⟨d, 0, none⟩), .agg (rcP p S)]) ∧ Ca w' c d g b N v S ∧ Inv S ∧ S.dv.rd ≤ xs.length ∧ S.last ≤ xs.length ∧ Bd w.heap.size c d g b N ∧ (∀ k, X k → k < w'.heap.size) ∧ Rc (NF N c d g b X w') w' p S ∧ Below w.heap.size w w' := by
  have hl9 : xs.length ≤ 9223372036854775807 := hx.2.1
  have hby := chs_bytes hx
  have R4 : Row (w.alloc (.cells rcZ 32)) w.heap.size 32 rcZ := Row.new _ _ _
  have hb0 : Below w.heap.size w (w.alloc (.cells rcZ 32)) := bb0 _ _
  have hs0 : (w.alloc (.cells rcZ 32)).heap.size = w.heap.size + 1 := by simp
  go_enter Tryz.func6, Tryz.ntmps6
  go_wp2_with fail
  obtain ⟨w1, hw1⟩ : ∃ w1, w1 = w.alloc (.cells rcZ 32) := ⟨_, rfl⟩
  rw [← hw1] at R4 hb0 hs0 ⊢
  obtain ⟨br, hbre⟩ : ∃ br, w.heap.size = br := ⟨_, rfl⟩
  have HB1 := Lib.hid hb0
  rw [hbre] at R4 hs0 ⊢
  have hsz : w.heap.size ≤ w1.heap.size := by omega
  clear hb0 hw1
  refine (Db.new_any 16 16 (.inl ⟨by omega, rfl⟩) w1).mono ?_
  rintro e w2 ⟨d, rfl, g, hd, hd1, hg1, hb2⟩
  go_wp2_with fail
  refine (New_any d g _ w2 hd).mono ?_
  rintro e w3 ⟨c, b, rfl, hc3, hc1, hbb1, hb3⟩
  go_wp2_with fail
  refine (RNew_any w3).mono ?_
  rintro e w4 ⟨p0, rfl, hr4, hb4⟩
  have hb5 : Below w4.heap.size w4 (w4.alloc (.cells (rcP p0 (newS (Db.fresh 16))) 32)) := bb0 _ _
  have hb45 := hb4.trans (hb5.mono hb4.size)
  have hc5 := hc3.grow hb45
  have hs34 := hb4.size
  have hs3 := hb3.size
  have hrc6 : Rc (NF (fun j => j < w3.heap.size ∨ (w3.heap.size ≤ j ∧ j < (w4.alloc (.cells (rcP p0 (newS (Db.fresh 16))) 32)).heap.size)) c d g b (fun k => k = w4.heap.size ∨ k = br) (w4.alloc (.cells (rcP p0 (newS (Db.fresh 16))) 32))) (w4.alloc (.cells (rcP p0 (newS (Db.fresh 16))) 32)) p0 (newS (Db.fresh 16)) := hr4.go (fun k h1 _ => hb5.block k h1) hb5.size (fun k h1 h2 e => by
    rcases e.2 with e2 | e2
    · exact e2 ⟨.inr ⟨by omega, e.1⟩, by have := hc3.row.lt; omega, by have := hc3.dev.1.lt; omega, by have := hc3.dev.2.1.2.2; omega, by have := hc3.map.lt; omega⟩
    · have := hs3; have := hb2.size; rcases e2 with e2 | e2 <;> omega)
  obtain ⟨N, hN⟩ : ∃ N : Nat → Prop, N = fun j => j < w3.heap.size ∨ (w3.heap.size ≤ j ∧ j < (w4.alloc (.cells (rcP p0 (newS (Db.fresh 16))) 32)).heap.size) := ⟨_, rfl⟩
  rw [← hN] at hc5 hrc6
  have hs2 := hb2.size
  have hs4 := hb4.size
  have HBD : Hid (Bd w1.heap.size c d g b N) := Lib.hid ⟨by omega, by omega, by omega, by omega, fun k hk => by rw [hN]; exact .inl (by omega)⟩
  have HFB : Hid (Far N c d g b w4.heap.size) := Lib.hid ⟨by rw [hN]; exact .inr ⟨by omega, by simp⟩, by have := hc3.row.lt; omega, by have := hc3.dev.1.lt; omega, by have := hc3.dev.2.1.2.2; omega, by have := hc3.map.lt; omega⟩
  have HB5 := Lib.hid ((hb2.trans (hb3.mono hs2)).trans (hb45.mono (by omega)))
  have HRB : Hid (Row (w4.alloc (.cells (rcP p0 (newS (Db.fresh 16))) 32)) w4.heap.size 32 (rcP p0 (newS (Db.fresh 16)))) := Lib.hid (Row.new _ _ _)
  have HC5 := Lib.hid hc5
  have HRC5 := Lib.hid hrc6
  have hbxw : w1.heap.size ≤ w4.heap.size := by omega
  clear hd hd1 hg1 hb2 hb3 hb4 hb5 hb45 hc3 hc5 hrc6 hr4 hN hs34 hs2 hs3 hs4 hc1 hbb1
  obtain ⟨bx, hbx⟩ : ∃ bx, w4.heap.size = bx := ⟨_, rfl⟩
  go_wp2
  try rw [hbx]
  rw [hbx] at HFB HRB HRC5 hbxw
  clear hbx
  obtain ⟨X, hX⟩ : ∃ X : Nat → Prop, X = fun k => k = bx ∨ k = br := ⟨_, rfl⟩
  rw [← hX] at HRC5
  have hXb : X bx := by rw [hX]; exact .inl rfl
  have hXr : X br := by rw [hX]; exact .inr rfl
  have HXM : Hid (∀ m, bx < m → ∀ k, X k → k < m) := Lib.hid (fun m hm k hk => by rw [hX] at hk; rcases hk with e | e <;> omega)
  have HXF : Hid (∀ k, k < w.heap.size → ¬ X k) := Lib.hid (fun k hk e => by rw [hX] at e; rcases e with e | e <;> omega)
  clear hX
  go_loopw [8] (fun i wr => ∃ (k : Nat) (v : Value) (S : St) (p : Rp) (N : Nat → Prop), k ≤ xs.length ∧ i = .int .i64 k ∧ Ca wr c d g b N v S ∧ Hid (Inv S) ∧ Hid (S.dv.rd ≤ k ∧ S.last ≤ k) ∧ Hid (Bd w1.heap.size c d g b N) ∧ Hid (Far N c d g b bx) ∧ Row wr bx 32 (rcP p S) ∧ Rc (NF N c d g b X wr) wr p S ∧ Below w1.heap.size w1 wr) (fun i _ => xs.length - (intOf i).toNat)
  case atStart => exact ⟨0, _, _, p0, N, by omega, rfl, HC5.out, Lib.hid i0, Lib.hid ⟨by show (0 : Int) ≤ 0; decide, by show (0 : Int) ≤ 0; decide⟩, HBD, HFB, HRB.out, HRC5.out, HB5.out⟩
  case round =>
    obtain ⟨k, v, S, p, N, hk, rfl, hc, HIS, HRD, HBD, HFB, hrb, hrc, hbr⟩ := hrel
    by_cases hlt : k < xs.length
    · obtain ⟨gx, ox, rfl, hgx⟩ := ch_form hx (by omega)
      obtain ⟨A1, c1, A2, c2, hat0⟩ := ch_at hx k hlt
      have hat := hat0.below (HB1.out.trans (hbr.mono hsz))
      have hxm := List.getElem_mem hlt
      have hxb := hby _ hxm
      obtain ⟨hxp, hxn⟩ := hsm _ hxm
      generalize xs[k] = x at *
      have e0 := hat.v0
      have e1 := hat.v1
      have e2 := hat.v2
      have e3 : wr.cell? ⟨gx, ox + k * 5 + 3, none⟩ = _ := hat.v3
      have e4 := hat.v4
      have CG := Lib.hid (Go_any x A1 c1 A2 c2 c d g b N v S wr hc HIS.out hat.s hxp hxn)
      have HI2 := Lib.hid (goS_inv HIS.out hxb hxp hxn hat.ok.2.1 (by have := HRD.out; omega) (by have := HRD.out; omega))
      have HRD2 : Hid ((goS S x).dv.rd ≤ ((k + 1 : Nat) : Int) ∧ (goS S x).last ≤ ((k + 1 : Nat) : Int)) := Lib.hid (by have := goS_rd S x; have := HRD.out; omega)
      have HAT0 := Lib.hid hat0
      have HRC := Lib.hid hrc
      have HBR := Lib.hid hbr
      have HRB := Lib.hid hrb
      clear hc hrc hbr hat hat0 hxb
      go_wp2_with fail
      clear hrb
      refine CG.out.mono ?_
      rintro e w7 ⟨v7, rfl, hc7, ht7⟩
      have HB7 := Lib.hid (Tn.bel HBR.out ht7 HBD.out)
      have hrc7 := Rc.tn HRC.out ht7
      obtain ⟨AB, cB, AL, cL, AK, cK⟩ := p
      have hrb7 : Row w7 bx 32 (rcC AB cB AL S.xs.length cL AK cK S.last (rfu S.dv) S.dv.off S.dv.wr) := ht7.row HFB.out HRB.out
      have hbw7 := HB1.out.trans (HB7.out.mono hsz)
      have hat7 := HAT0.out.below hbw7
      have hgx7 : gx < w7.heap.size := Nat.lt_of_lt_of_le hgx hbw7.size
      have hbx7 : bx < w7.heap.size := hrb7.lt
      clear e0 e1 e2 e3 e4
      have e0 : w7.drew.cell? ⟨gx, ox + k * 5, none⟩ = _ := hat7.v0
      have e1 : w7.drew.cell? ⟨gx, ox + k * 5 + 1, none⟩ = _ := hat7.v1
      have e2 : w7.drew.cell? ⟨gx, ox + k * 5 + 2, none⟩ = _ := hat7.v2
      have e3 : w7.drew.cell? ⟨gx, ox + k * 5 + 3, none⟩ = _ := hat7.v3
      have e4 : w7.drew.cell? ⟨gx, ox + k * 5 + 4, none⟩ = _ := hat7.v4
      have hpdF : Rw kByte w7.drew (Out2 (NF N c d g b X w7) w7.drew) A1 x.pd.length x.pd := (Rw.stay (w := w) (S := fun b => b < w.heap.size) (fun k hk => hbw7.block k hk) HAT0.out.p.2.2.2).mono (fun k hk => ⟨Nat.lt_of_lt_of_le hk hbw7.size, fun e => by
        have hk : k < w.heap.size := hk
        rcases e.2 with e2 | e2
        · exact e2 ⟨HBD.out.n k (by omega), by have := HBD.out.c; omega, by have := HBD.out.d; omega, by have := HBD.out.g; omega, by have := HBD.out.b; omega⟩
        · exact HXF.out k hk e2⟩)
      have CR := Lib.hid (fun W (hH : Below w7.heap.size w7.drew W) => RGo_held (W0 := w7.drew) hH (hrc7.below (Below.refl _ _).drew) (fun b hb => hb.1) HIS.out (hat7.s.below (Below.refl _ _).drew) hpdF (by omega) (by have := HRD.out; omega))
      have hrbd := hrb7.drew
      have HC7 := Lib.hid hc7
      have HRB7 := Lib.hid hrb7
      clear hc7 ht7 hrc7 hrb7 hat7 hpdF hbw7 CG HRC HRB HBR HRD
      obtain ⟨S2, hS2⟩ : ∃ S2, goS S x = S2 := ⟨_, rfl⟩
      obtain ⟨M2, hM2⟩ : ∃ M2, goN S x = M2 := ⟨_, rfl⟩
      obtain ⟨E2, hE2⟩ : ∃ E2, goE S x = E2 := ⟨_, rfl⟩
      rw [hS2] at HC7 HI2 HRD2
      rw [hS2, hM2, hE2] at CR
      clear hS2 hM2 hE2 HIS
      go_wp2_with fail
      go_cut [9] (fun s9 w' => ∃ (g7 : Nat) (p2 : Rp), s9 = .pointer (some ⟨g7, 0, none⟩) ∧ Row w' g7 32 (rcP p2 S2) ∧ Rc (NF N c d g b X w7) w' p2 S2 ∧ w7.heap.size ≤ g7 ∧ Below w7.heap.size w7 w')
      case first =>
        refine wp_region_held_drew (S := Go.RowKit.Below ((w7.drew).heap.size) (w7.drew)) (by kernel_rfl) ?hb8 (fun hHeld => ?rest8)
        case hb8 =>
          exact Go.RowKit.Below.refl _ _
        case' rest8 => skip
        have hCl := fun (wS : World) (hSw : Go.RowKit.Below ((w7.drew).heap.size) (w7.drew) wS) => And.intro ((Mem.bl_row hSw hrbd (by first | exact Mem.Row.lt hrbd | omega | (simp <;> omega))).cell 0 rfl) <| And.intro ((Mem.bl_row hSw hrbd (by first | exact Mem.Row.lt hrbd | omega | (simp <;> omega))).cell 1 rfl) <| And.intro ((Mem.bl_row hSw hrbd (by first | exact Mem.Row.lt hrbd | omega | (simp <;> omega))).cell 2 rfl) <| And.intro ((Mem.bl_row hSw hrbd (by first | exact Mem.Row.lt hrbd | omega | (simp <;> omega))).cell 3 rfl) <| And.intro ((Mem.bl_row hSw hrbd (by first | exact Mem.Row.lt hrbd | omega | (simp <;> omega))).cell 4 rfl) <| And.intro ((Mem.bl_row hSw hrbd (by first | exact Mem.Row.lt hrbd | omega | (simp <;> omega))).cell 5 rfl) <| And.intro ((Mem.bl_row hSw hrbd (by first | exact Mem.Row.lt hrbd | omega | (simp <;> omega))).cell 6 rfl) <| And.intro (Mem.bl_cell hSw e0 (by first | omega | (dsimp only; omega) | exact World.block_lt_of_cell? _ _ e0 | (simp <;> omega))) <| And.intro (Mem.bl_cell hSw e1 (by first | omega | (dsimp only; omega) | exact World.block_lt_of_cell? _ _ e1 | (simp <;> omega))) <| And.intro (Mem.bl_cell hSw e2 (by first | omega | (dsimp only; omega) | exact World.block_lt_of_cell? _ _ e2 | (simp <;> omega))) <| And.intro (Mem.bl_cell hSw e3 (by first | omega | (dsimp only; omega) | exact World.block_lt_of_cell? _ _ e3 | (simp <;> omega))) <| Mem.bl_cell hSw e4 (by first | omega | (dsimp only; omega) | exact World.block_lt_of_cell? _ _ e4 | (simp <;> omega))
        replace hCl := Go.Lib.hid hCl
        refine Mem.tkV 0 ?v9 ?y9 ?r9
        case y9 => (intro w hSw; obtain ⟨hT0, hT1, hT2, hT3, hT4, hT5, hT6, hT7, hT8, hT9, hT10, hT11⟩ := hCl.out w hSw; clear hSw; go_simp; try with_reducible rfl)
        refine Mem.tkV 1 ?v10 ?y10 ?r10
        case y10 => (intro w hSw; clear hSw; go_simp; try with_reducible rfl)
        refine Mem.tkV 2 ?v11 ?y11 ?r11
        case y11 => (intro w hSw; clear hSw; go_simp; try with_reducible rfl)
        try simp only [Mem.pa, Mem.pb, Mem.pc, Act.put, Mem.pd, Mem.pe, Mem.pf]
        refine Mem.tkV 3 ?v12 ?y12 ?r12
        case y12 => (intro w hSw; clear hSw; go_simp; try with_reducible rfl)
        refine Mem.tkV 4 ?v13 ?y13 ?r13
        case y13 => (intro w hSw; obtain ⟨hT0, hT1, hT2, hT3, hT4, hT5, hT6, hT7, hT8, hT9, hT10, hT11⟩ := hCl.out w hSw; clear hSw; go_simp; try with_reducible rfl)
        try simp only [Mem.pa, Mem.pb, Mem.pc, Act.put, Mem.pd, Mem.pe, Mem.pf]
        refine wpAnyH_ready (rs := [5, 10]) (by kernel_rfl) (by simp) ?_
        refine AllReadyH.cons rfl (fun K hK => ?_) ?_
        · skip
          go_simp
          (refine (CR.out _ hHeld).mono ?_; rintro e wl ⟨p2, rfl, hR2, hbl⟩)
          try go_wp2_with fail
          have hSnew := Mem.bl_step hHeld hbl (by first | exact Nat.le_refl _ | omega | (simp <;> omega))
          refine hK.out _ _ ?_ (fun hHeld2 => ?_)
          · exact hSnew
          try replace hr7 := hr7.below hbl
          clear hbl
          clear hK K hHeld hSnew
          have hHeld := hHeld2
          clear hHeld2
          try simp only [Mem.pa, Mem.pb, Mem.pc, Act.put, Mem.pd, Mem.pe, Mem.pf]
          refine Mem.tkV 6 ?v14 ?y14 ?r14
          case y14 => (intro w hSw; clear hSw; go_simp; try with_reducible rfl)
          refine Mem.tkV 7 ?v15 ?y15 ?r15
          case y15 => (intro w hSw; clear hSw; go_simp; try with_reducible rfl)
          refine Mem.tkV 8 ?v16 ?y16 ?r16
          case y16 => (intro w hSw; clear hSw; go_simp; try with_reducible rfl)
          try simp only [Mem.pa, Mem.pb, Mem.pc, Act.put, Mem.pd, Mem.pe, Mem.pf]
          refine Mem.tkV 9 ?v17 ?y17 ?r17
          case y17 => (intro w hSw; clear hSw; go_simp; try with_reducible rfl)
          try simp only [Mem.pa, Mem.pb, Mem.pc, Act.put, Mem.pd, Mem.pe, Mem.pf]
          refine wpAnyH_ready (rs := [10]) (by kernel_rfl) (by simp) ?_
          refine AllReadyH.cons rfl (fun K hK => ?_) AllReadyH.nil
          rw [if_pos (by rfl)]
          refine wp_allocN 32 (by rfl) _ rcZero ?_; intro g7 wa hr7 hbl hg7'; have hg7 : w7.heap.size ≤ g7 := Nat.le_trans hHeld.size hg7'; have hga := Row.lt hr7; (try (have hR2 := hR2.fresh hbl hg7'))
          have hSnew := Mem.bl_step hHeld hbl (by first | exact Nat.le_refl _ | omega | (simp <;> omega))
          refine hK.out _ _ ?_ (fun hHeld2 => ?_)
          · exact hSnew
          try replace hr7 := hr7.below hbl
          clear hbl
          clear hK K hHeld hSnew
          have hHeld := hHeld2
          clear hHeld2
          try simp only [Mem.pa, Mem.pb, Mem.pc, Act.put, Mem.pd, Mem.pe, Mem.pf]
          refine wpAnyH_ready (rs := [11]) (by kernel_rfl) (by simp) ?_
          refine AllReadyH.cons rfl (fun K hK => ?_) AllReadyH.nil
          rw [if_pos (by rfl)]
          refine wp_storeRow _ _ _ (by rfl) g7 (by rfl) (rcP p2 S2) (by rfl) rcZ 32 7 rcSize rfl rfl (rcC_one _ _ _ _ _ _ _ _ _ _ _) hr7 ?_; have hSnew := below_setRow hHeld hg7 (rcP p2 S2); have hr8 := hr7.set (rcP p2 S2); have hR3 := Rc.store (N' := NF N c d g b X w7) (g := g7) hR2 (rcP p2 S2) (by first | exact .inr rfl | exact .inr ⟨hg7, hga⟩) (fun b hb => by first | exact .inl hb | exact .inl (.inl hb))
          refine hK.out _ _ ?_ (fun hHeld2 => ?_)
          · exact hSnew
          clear hK K hHeld hSnew
          have hHeld := hHeld2
          clear hHeld2
          try simp only [Mem.pa, Mem.pb, Mem.pc, Act.put, Mem.pd, Mem.pe, Mem.pf]
          refine Mem.tkV 12 ?v18 ?y18 ?r18
          case y18 => (intro w hSw; clear hSw; go_simp; try with_reducible rfl)
          refine Mem.tkV 13 ?v19 ?y19 ?r19
          case y19 => (intro w hSw; clear hSw; go_simp; try with_reducible rfl)
          try simp only [Mem.pa, Mem.pb, Mem.pc, Act.put, Mem.pd, Mem.pe, Mem.pf]
          refine wpAnyH_done (by kernel_rfl) ?_ _
          clear hCl
          go_wp2_with fail
          go_meet
          case rel => exact ⟨g7, p2, rfl, hr8, hR3, hg7, (Below.refl _ _).drew.trans hHeld⟩
        refine AllReadyH.cons rfl (fun K hK => ?_) ?_
        · skip
          rw [if_pos (by rfl)]
          refine wp_allocN 32 (by rfl) _ rcZero ?_; intro g7 wa hr7 hbl hg7'; have hg7 : w7.heap.size ≤ g7 := Nat.le_trans hHeld.size hg7'; have hga := Row.lt hr7; (try (have hR2 := hR2.fresh hbl hg7'))
          have hSnew := Mem.bl_step hHeld hbl (by first | exact Nat.le_refl _ | omega | (simp <;> omega))
          refine hK.out _ _ ?_ (fun hHeld2 => ?_)
          · exact hSnew
          try replace hr7 := hr7.below hbl
          clear hbl
          clear hK K hHeld hSnew
          have hHeld := hHeld2
          clear hHeld2
          try simp only [Mem.pa, Mem.pb, Mem.pc, Act.put, Mem.pd, Mem.pe, Mem.pf]
          refine wpAnyH_ready (rs := [5]) (by kernel_rfl) (by simp) ?_
          refine AllReadyH.cons rfl (fun K hK => ?_) AllReadyH.nil
          go_simp
          (refine (CR.out _ hHeld).mono ?_; rintro e wl ⟨p2, rfl, hR2, hbl⟩)
          try go_wp2_with fail
          have hSnew := Mem.bl_step hHeld hbl (by first | exact Nat.le_refl _ | omega | (simp <;> omega))
          refine hK.out _ _ ?_ (fun hHeld2 => ?_)
          · exact hSnew
          try replace hr7 := hr7.below hbl
          clear hbl
          clear hK K hHeld hSnew
          have hHeld := hHeld2
          clear hHeld2
          try simp only [Mem.pa, Mem.pb, Mem.pc, Act.put, Mem.pd, Mem.pe, Mem.pf]
          refine Mem.tkV 6 ?v20 ?y20 ?r20
          case y20 => (intro w hSw; clear hSw; go_simp; try with_reducible rfl)
          refine Mem.tkV 7 ?v21 ?y21 ?r21
          case y21 => (intro w hSw; clear hSw; go_simp; try with_reducible rfl)
          refine Mem.tkV 8 ?v22 ?y22 ?r22
          case y22 => (intro w hSw; clear hSw; go_simp; try with_reducible rfl)
          try simp only [Mem.pa, Mem.pb, Mem.pc, Act.put, Mem.pd, Mem.pe, Mem.pf]
          refine Mem.tkV 9 ?v23 ?y23 ?r23
          case y23 => (intro w hSw; clear hSw; go_simp; try with_reducible rfl)
          try simp only [Mem.pa, Mem.pb, Mem.pc, Act.put, Mem.pd, Mem.pe, Mem.pf]
          refine wpAnyH_ready (rs := [11]) (by kernel_rfl) (by simp) ?_
          refine AllReadyH.cons rfl (fun K hK => ?_) AllReadyH.nil
          rw [if_pos (by rfl)]
          refine wp_storeRow _ _ _ (by rfl) g7 (by rfl) (rcP p2 S2) (by rfl) rcZ 32 7 rcSize rfl rfl (rcC_one _ _ _ _ _ _ _ _ _ _ _) hr7 ?_; have hSnew := below_setRow hHeld hg7 (rcP p2 S2); have hr8 := hr7.set (rcP p2 S2); have hR3 := Rc.store (N' := NF N c d g b X w7) (g := g7) hR2 (rcP p2 S2) (by first | exact .inr rfl | exact .inr ⟨hg7, hga⟩) (fun b hb => by first | exact .inl hb | exact .inl (.inl hb))
          refine hK.out _ _ ?_ (fun hHeld2 => ?_)
          · exact hSnew
          clear hK K hHeld hSnew
          have hHeld := hHeld2
          clear hHeld2
          try simp only [Mem.pa, Mem.pb, Mem.pc, Act.put, Mem.pd, Mem.pe, Mem.pf]
          refine Mem.tkV 12 ?v24 ?y24 ?r24
          case y24 => (intro w hSw; clear hSw; go_simp; try with_reducible rfl)
          refine Mem.tkV 13 ?v25 ?y25 ?r25
          case y25 => (intro w hSw; clear hSw; go_simp; try with_reducible rfl)
          try simp only [Mem.pa, Mem.pb, Mem.pc, Act.put, Mem.pd, Mem.pe, Mem.pf]
          refine wpAnyH_done (by kernel_rfl) ?_ _
          clear hCl
          go_wp2_with fail
          go_meet
          case rel => exact ⟨g7, p2, rfl, hr8, hR3, hg7, (Below.refl _ _).drew.trans hHeld⟩
        exact AllReadyH.nil
      case rest =>
        obtain ⟨g7, ⟨AB2, cB2, AL2, cL2, AK2, cK2⟩, rfl, hr7, hR2, hg7, hbc⟩ := hcut
        have HR7 := Lib.hid hr7
        have HRBC := Lib.hid (HRB7.out.below hbc)
        have hc6a := HC7.out.grow hbc
        have hr6a := Rc.grow hR2 HC7.out hbc (HXM.out _ hbx7)
        obtain ⟨N2, hN2⟩ : ∃ N2 : Nat → Prop, N2 = fun j => N j ∨ (w7.heap.size ≤ j ∧ j < wc.heap.size) := ⟨_, rfl⟩
        rw [← hN2] at hc6a hr6a
        have HFB2 : Hid (Far N2 c d g b bx) := Lib.hid (by rw [hN2]; exact HFB.out.or)
        have HBD2 : Hid (Bd w1.heap.size c d g b N2) := Lib.hid (by rw [hN2]; exact HBD.out.or)
        have HC6 := Lib.hid (hc6a.setRow HFB2.out (rcP ⟨AB2, cB2, AL2, cL2, AK2, cK2⟩ S2))
        have HR6 := Lib.hid (hr6a.setBx (Nat.lt_of_lt_of_le hbx7 hbc.size) hXb (rcP ⟨AB2, cB2, AL2, cL2, AK2, cK2⟩ S2))
        have HRB6 := Lib.hid (HRBC.out.set (rcP ⟨AB2, cB2, AL2, cL2, AK2, cK2⟩ S2))
        have HB6 := Lib.hid (below_setRow (HB7.out.trans (hbc.mono HB7.out.size)) hbxw (rcP ⟨AB2, cB2, AL2, cL2, AK2, cK2⟩ S2))
        have hlt7 : ¬ g7 = bx := by omega
        clear hr7 hR2 hc6a hr6a hN2 hbc HC7 HB7 HRB7 hrbd CR HFB HBD e0 e1 e2 e3 e4
        go_wp2_with (first
          | (with_reducible refine wpList_ldC rfl _ rfl _ rfl _ rfl HR7.out ?_)
          | (with_reducible refine wpList_storeRow rfl 32 _ _ rfl bx rfl (rcP ⟨AB2, cB2, AL2, cL2, AK2, cK2⟩ S2) rfl _ 32 7 rcSize rfl rfl (rcC_one _ _ _ _ _ _ _ _ _ _ _) HRBC.out ?_))
        go_roundw
        case rel => exact ⟨k + 1, v7, S2, ⟨AB2, cB2, AL2, cL2, AK2, cK2⟩, N2, by omega, by go_num, HC6.out, HI2, HRD2, HBD2, HFB2, HRB6.out, HR6.out, HB6.out⟩
        case measure => simp [intOf]; omega
    · obtain rfl : k = xs.length := by omega
      have hbr' : br < w1.heap.size := by omega
      have FR : Far N c d g b br := ⟨HBD.out.n _ hbr', by have := HBD.out.c; omega, by have := HBD.out.d; omega, by have := HBD.out.g; omega, by have := HBD.out.b; omega⟩
      have hR4 : Row wr.drew br 32 rcZ := (R4.below hbr).drew
      have HR4 := Lib.hid hR4
      obtain ⟨AB, cB, AL, cL, AK, cK⟩ := p
      have hrbd : Row wr.drew bx 32 (rcC AB cB AL S.xs.length cL AK cK S.last (rfu S.dv) S.dv.off S.dv.wr) := hrb.drew
      have hne : ¬ bx = br := by omega
      have hbrl : br < wr.drew.heap.size := Nat.lt_of_lt_of_le hbr' hbr.size
      have HBf := Lib.hid (hbre ▸ HB1.out.trans (hbr.mono hsz))
      have HCf := Lib.hid hc
      have HRf := Lib.hid hrc
      have hBDf : Bd w.heap.size c d g b N := ⟨by have := HBD.out.c; omega, by have := HBD.out.d; omega, by have := HBD.out.g; omega, by have := HBD.out.b; omega, fun k hk => HBD.out.n k (by omega)⟩
      have HBDf := Lib.hid hBDf
      clear hc hrb hrc hbr hR4 hBDf
      go_wp2_with fail
      refine wp_region_held_drew (S := fun w' => World.grownBy (wr.drew) w' (some (br))) (by kernel_rfl) ?hb30 (fun hHeld => ?rest30)
      case hb30 =>
        exact Mem.gb_refl _ _
      case' rest30 => skip
      have hCl := fun (wS : World) (hSw : World.grownBy (wr.drew) wS (some (br))) => And.intro ((Mem.gb_row hSw hrbd (by intro e; injection e with e; omega)).cell 0 rfl) <| And.intro ((Mem.gb_row hSw hrbd (by intro e; injection e with e; omega)).cell 1 rfl) <| And.intro ((Mem.gb_row hSw hrbd (by intro e; injection e with e; omega)).cell 2 rfl) <| And.intro ((Mem.gb_row hSw hrbd (by intro e; injection e with e; omega)).cell 3 rfl) <| And.intro ((Mem.gb_row hSw hrbd (by intro e; injection e with e; omega)).cell 4 rfl) <| And.intro ((Mem.gb_row hSw hrbd (by intro e; injection e with e; omega)).cell 5 rfl) <| (Mem.gb_row hSw hrbd (by intro e; injection e with e; omega)).cell 6 rfl
      replace hCl := Go.Lib.hid hCl
      refine Mem.tkV 0 ?v31 ?y31 ?r31
      case y31 => (intro w hSw; clear hSw; go_simp; try with_reducible rfl)
      refine Mem.tkV 1 ?v32 ?y32 ?r32
      case y32 => (intro w hSw; clear hSw; go_simp; try with_reducible rfl)
      refine Mem.tkV 2 ?v33 ?y33 ?r33
      case y33 => (intro w hSw; obtain ⟨hT0, hT1, hT2, hT3, hT4, hT5, hT6⟩ := hCl.out w hSw; clear hSw; go_simp; try with_reducible rfl)
      try simp only [Mem.pa, Mem.pb, Mem.pc, Act.put, Mem.pd, Mem.pe, Mem.pf]
      refine Mem.tkV 3 ?v34 ?y34 ?r34
      case y34 => (intro w hSw; clear hSw; go_simp; try with_reducible rfl)
      refine Mem.tkV 4 ?v35 ?y35 ?r35
      case y35 => (intro w hSw; clear hSw; go_simp; try with_reducible rfl)
      try simp only [Mem.pa, Mem.pb, Mem.pc, Act.put, Mem.pd, Mem.pe, Mem.pf]
      refine wpAnyH_ready (rs := [5]) (by kernel_rfl) (by simp) ?_
      refine AllReadyH.cons rfl (fun K hK => ?_) AllReadyH.nil
      rw [if_pos (by rfl)]
      refine wp_storeRow _ _ _ (by rfl) br (by rfl) (rcP ⟨AB, cB, AL, cL, AK, cK⟩ S) (by rfl) rcZ 32 7 rcSize rfl rfl (rcC_one _ _ _ _ _ _ _ _ _ _ _) HR4.out ?_; have hSnew := Mem.gb_setRow hHeld (rcP ⟨AB, cB, AL, cL, AK, cK⟩ S)
      refine hK.out _ _ ?_ (fun hHeld2 => ?_)
      · exact hSnew
      clear hK K hHeld hSnew
      have hHeld := hHeld2
      clear hHeld2
      try simp only [Mem.pa, Mem.pb, Mem.pc, Act.put, Mem.pd, Mem.pe, Mem.pf]
      refine wpAnyH_done (by kernel_rfl) ?_ _
      clear hCl
      go_wp2_with fail
      exact bodyPost_ret (results_2_cell rfl _ _ br 32 (rcP ⟨AB, cB, AL, cL, AK, cK⟩ S) (0, 0) _ rfl (HR4.out.set _) Tryz.underlying32 rfl rcSize) rfl ⟨c, d, g, b, N, X, v, S, ⟨AB, cB, AL, cL, AK, cK⟩, rfl, (HCf.out.below (Below.refl _ _).drew).setRow FR _, HIS.out, HRD.out.1, HRD.out.2, HBDf.out, HXM.out _ (by simp; exact Row.lt hrbd), (HRf.out.later (Below.refl _ _).drew).setBx hbrl hXr _, hbre ▸ below_setRow HBf.out.drew (Nat.le_refl _) _⟩
end Go.Proofs.YtbamhiegabeicaaGreat.Cb

