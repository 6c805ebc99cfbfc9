/- CacheSteps. -/
import Derived.Test.YtdhgkabbepbgpaaCd
import Derived.Test.YtdhgkabbepbgpaaDi
namespace Go.Proofs.Ytdhgkabbepbgpaa.Cb
open Go.RowKit Go.Proofs.Ytdhgkabbepbgpaa.Mem Go.Proofs.Ytdhgkabbepbgpaa.Open Go.Proofs.Ytdhgkabbepbgpaa.Kind Go.Proofs.Ytdhgkabbepbgpaa.Blk Go.Proofs.Ytdhgkabbepbgpaa.App Go.Proofs.Ytdhgkabbepbgpaa.Pat Go.Proofs.Ytdhgkabbepbgpaa.Rd
open Go.Proofs.Ytdhgkabbepbgpaa.Db (Dv Dev Asd Bks)
set_option linter.unusedVariables false
set_option linter.unusedSimpArgs false
theorem same_blkC (A B : Option Addr) (n m c d : Nat) (xs : List Nat) (w : World) (hx : Sl w V8 A n xs) (hy : Sl w V8 B m xs) :
    Calls Try.prog 35 #[.slice A n c, .slice B m d] w fun e w' => e = .returned (.bool true) ∧ Below w.heap.size w w' := by
  refine (Same.same_any A B n m c d xs xs w hx hy).mono ?_
  rintro e w' ⟨rfl, q, rfl⟩
  exact ⟨by rw [decide_eq_true rfl], bdrewN (Below.refl _ _) q⟩
theorem ints_yesC (A B : Option Addr) (n m c d : Nat) (xs : List Int) (w : World) (hx : Sl w V64 A n xs) (hy : Sl w V64 B m xs) :
    Calls Try.prog 32 #[.slice A n c, .slice B m d] w fun e w' => e = .returned (.bool true) ∧ Below w.heap.size w w' := by
  refine (Same.ints_any A B n m c d xs xs w hx hy).mono ?_
  rintro e w' ⟨rfl, q, rfl⟩
  exact ⟨by rw [decide_eq_true rfl], bdrewN (Below.refl _ _) q⟩
theorem dirty_wf {s : St} (hi : Inv s) : ∀ n ∈ blkP s.xs [], WfI n := fun n hn => by
  rcases ((blkP_spec (xs := s.xs) List.Pairwise.nil).2 n).1 hn with h | ⟨x, hx, rfl⟩
  · cases h
  · have := hi.kn _ (hi.xk x hx)
    exact (wf_iff _).2 ⟨by omega, by omega⟩
/-- All blocks that there are, but those that lie apart of the cache; and one more. -/
abbrev NF (N : Nat → Prop) (c d g b bx : Nat) (w : World) : Nat → Prop := fun k => k < w.heap.size ∧ (¬ Far N c d g b k ∨ k = bx)
section
variable {N : Nat → Prop} {c d g b bx : Nat} {w w' : World} {p : Rp} {s t : St} {v : Value}
theorem NF.far {k : Nat} (h1 : k < w.heap.size) (h2 : ¬ NF N c d g b bx w k) : Far N c d g b k ∧ k ≠ bx :=
  ⟨Classical.byContradiction fun e => h2 ⟨h1, .inl e⟩, fun e => h2 ⟨h1, .inr e⟩⟩
theorem Rc.tn (h : Rc (NF N c d g b bx w) w p s) (ht : Tn N c d g b w w') : Rc (NF N c d g b bx w') w' p s :=
  h.go (fun k h1 h2 => ht.block k (NF.far h1 h2).1) ht.size (fun k h1 h2 e => by rcases e.2 with e2 | e2; exact e2 (NF.far h1 h2).1; exact (NF.far h1 h2).2 e2)
theorem Rc.grow (h : Rc (NF N c d g b bx w) w' p s) (hc : Ca w c d g b N v t) (hb : Below w.heap.size w w') (hx : bx < w.heap.size) : Rc (NF (fun j => N j ∨ (w.heap.size ≤ j ∧ j < w'.heap.size)) c d g b bx w') w' p s :=
  h.go (fun _ _ _ => rfl) (Nat.le_refl _) (fun k h1 h2 e => by
    by_cases hk : k < w.heap.size
    · obtain ⟨hf, hne⟩ := NF.far hk h2
      rcases e.2 with e2 | e2
      · exact e2 ⟨.inl hf.n, hf.c, hf.d, hf.g, hf.b⟩
      · exact hne e2
    · rcases e.2 with e2 | e2
      · exact e2 ⟨.inr ⟨by omega, h1⟩, by have := hc.row.lt; omega, by have := hc.dev.1.lt; omega, by have := hc.dev.2.1.2.2; omega, by have := hc.map.lt; omega⟩
      · omega)
theorem Rc.later (h : Rc (NF N c d g b bx w) w p s) (hb : Below w.heap.size w w') : Rc (NF N c d g b bx w') w' p s :=
  h.go (fun k h1 _ => hb.block k h1) hb.size (fun k h1 h2 e => by rcases e.2 with e2 | e2; exact e2 (NF.far h1 h2).1; exact (NF.far h1 h2).2 e2)
theorem Rc.setBx (h : Rc (NF N c d g b bx w) w p s) (hx : bx < w.heap.size) (cs : Array Value) : Rc (NF N c d g b bx (w.setRow bx cs)) (w.setRow bx cs) p s :=
  h.go (fun k h1 h2 => setRow_other _ _ _ _ (NF.far h1 h2).2) (by simp) (fun k h1 h2 e => by rcases e.2 with e2 | e2; exact e2 (NF.far h1 h2).1; exact (NF.far h1 h2).2 e2)
theorem Far.or {M : Nat → Prop} {k : Nat} (h : Far N c d g b k) : Far (fun j => N j ∨ M j) c d g b k := ⟨.inl h.n, h.c, h.d, h.g, h.b⟩
end
theorem RGo_held {N : Nat → Prop} {x : Chg} {A : Option Addr} {cp : Nat} {A2 : Option Addr} {cn : Nat} {p : Rp} {s : St} {W0 W : World} (hH : Below W0.heap.size W0 W) (h : Rc N W0 p s) (hN : ∀ b, N b → b < W0.heap.size) (hi : Inv s) (hx : ChS W0 x A cp A2 cn) (hpd : Rw kByte W0 (Out2 N W0) A x.pd.length x.pd) (hnl : x.needs.length ≤ 60) (hlast : s.last < 1000) :
    Calls Try.prog 27 #[.agg (rcP p s), .agg (chC x A cp A2 cn)] W fun e w' => ∃ p', e = .returned (.tuple #[.agg (rcP p' (goS s x)), .int .i64 (goN s x), .int .i64 (goE s x)]) ∧ Rc (fun b => N b ∨ (W0.heap.size ≤ b ∧ b < W.heap.size)) w' p' (goS s x) ∧ Below W.heap.size W w' :=
  RGo_any (fun b => N b ∨ (W0.heap.size ≤ b ∧ b < W.heap.size)) x A cp A2 cn p s W (h.go (fun b h1 _ => hH.block b h1) hH.size (fun b h1 h2 e => by rcases e with e | e; exact h2 e; omega))
    (fun b e => by rcases e with e | e; exact Nat.lt_of_lt_of_le (hN b e) hH.size; exact e.2) hi (hx.below hH) (Rw.out2 hpd (fun b h1 _ => hH.block b h1) hH.size (fun b h1 h2 e => by rcases e with e | e; exact h2 e; omega)) hnl hlast
theorem bks_sl {w : World} {g i : Nat} {bs : List (List Nat)} {L : List Nat} (h : Bks w g bs) (hL : bs[i]? = some L) : Sl w V8 (some ⟨g, i * 256, none⟩) 256 L := by
  obtain ⟨hl, hr⟩ := h.1 i L hL
  refine ⟨hl, by decide, fun j x hx => ⟨_, rfl, h.2.2, ?_⟩⟩
  have := hr j (V8 x) (by
    rw [Array.getElem?_toList]
    obtain ⟨hj, rfl⟩ := List.getElem?_eq_some_iff.1 hx
    exact blk_get _ _ hj)
  rw [Kind.addr_add]
  exact this
set_option maxHeartbeats 2000000 in
set_option maxRecDepth 100000 in
theorem steps_walk12 (A : Option Addr) (n : Nat) (xs : List Chg) (w : World) (hx : Chs w A xs) (hA : A = none → n = 0) :
    Calls Try.prog 6 #[.slice A xs.length n] w fun e w' => e = .returned (.bool true) ∧ Below w.heap.size w w' := by
  have CM := Lib.hid (muchT_any A n xs 20 w hx (by omega))
  have hl9 : xs.length ≤ 9223372036854775807 := hx.2.1
  cases hm : muchT xs 20 with
  | true =>
    rw [hm] at CM
    go_enter Try.func6, Try.ntmps6
    go_wp2_with fail
    refine CM.out.mono ?_
    rintro e w1 ⟨rfl, hb1⟩
    go_wp2_with fail
    refine (works12 _).mono ?_
    rintro e w2 ⟨rfl, hb2⟩
    go_wp2
    go_ret
    exact ⟨rfl, hb1.trans (hb2.mono hb1.size)⟩
  | false =>
    obtain ⟨hl20, hsm⟩ := muchT_no hm
    have hby := chs_bytes hx
    rw [hm] at CM
    go_enter Try.func6, Try.ntmps6
    go_wp2_with fail
    refine CM.out.mono ?_
    rintro e w1 ⟨rfl, hb1⟩
    go_wp2_with fail
    refine (Db.new_any 16 16 (.inl ⟨by omega, rfl⟩) w1).mono ?_
    rintro e w2 ⟨d, rfl, g, hd, hd1, hg1, hb2⟩
    go_wp2_with fail
    refine (New_any d g _ w2 hd).mono ?_
    rintro e w3 ⟨c, b, rfl, hc3, hc1, hbb1, hb3⟩
    go_wp2_with fail
    refine (RNew_any w3).mono ?_
    rintro e w4 ⟨p0, rfl, hr4, hb4⟩
    have hb5 : Below w4.heap.size w4 (w4.alloc (.cells (rcP p0 (newS (Db.fresh 16))) 63)) := bb0 _ _
    have hb45 := hb4.trans (hb5.mono hb4.size)
    have hc5 := hc3.grow hb45
    have hs34 := hb4.size
    have hrc6 : Rc (NF (fun j => j < w3.heap.size ∨ (w3.heap.size ≤ j ∧ j < (w4.alloc (.cells (rcP p0 (newS (Db.fresh 16))) 63)).heap.size)) c d g b w4.heap.size (w4.alloc (.cells (rcP p0 (newS (Db.fresh 16))) 63))) (w4.alloc (.cells (rcP p0 (newS (Db.fresh 16))) 63)) p0 (newS (Db.fresh 16)) := hr4.go (fun k h1 _ => hb5.block k h1) hb5.size (fun k h1 h2 e => by
      rcases e.2 with e2 | e2
      · exact e2 ⟨.inr ⟨by omega, e.1⟩, by have := hc3.row.lt; omega, by have := hc3.dev.1.lt; omega, by have := hc3.dev.2.1.2.2; omega, by have := hc3.map.lt; omega⟩
      · omega)
    obtain ⟨N, hN⟩ : ∃ N : Nat → Prop, N = fun j => j < w3.heap.size ∨ (w3.heap.size ≤ j ∧ j < (w4.alloc (.cells (rcP p0 (newS (Db.fresh 16))) 63)).heap.size) := ⟨_, rfl⟩
    rw [← hN] at hc5 hrc6
    have hs1 := hb1.size
    have hs2 := hb2.size
    have hs3 := hb3.size
    have hs4 := hb4.size
    have HBD : Hid (Bd w.heap.size c d g b N) := Lib.hid ⟨by omega, by omega, by omega, by omega, fun k hk => by rw [hN]; exact .inl (by omega)⟩
    have HFB : Hid (Far N c d g b w4.heap.size) := Lib.hid ⟨by rw [hN]; exact .inr ⟨by omega, by simp⟩, by have := hc3.row.lt; omega, by have := hc3.dev.1.lt; omega, by have := hc3.dev.2.1.2.2; omega, by have := hc3.map.lt; omega⟩
    have HB5 := Lib.hid (((hb1.trans (hb2.mono hs1)).trans (hb3.mono (by omega))).trans (hb45.mono (by omega)))
    have HRB : Hid (Row (w4.alloc (.cells (rcP p0 (newS (Db.fresh 16))) 63)) w4.heap.size 63 (rcP p0 (newS (Db.fresh 16)))) := Lib.hid (Row.new _ _ _)
    have HC5 := Lib.hid hc5
    have HRC5 := Lib.hid hrc6
    have hbxw : w.heap.size ≤ w4.heap.size := by omega
    clear hd hd1 hg1 hb1 hb2 hb3 hb4 hb5 hb45 hc3 hc5 hrc6 hr4 hN hs34 hs1 hs2 hs3 hs4 hc1 hbb1 hm CM
    obtain ⟨bx, hbx⟩ : ∃ bx, w4.heap.size = bx := ⟨_, rfl⟩
    go_wp2
    try rw [hbx]
    rw [hbx] at HFB HRB HRC5 hbxw
    clear hbx
    go_loopw [6] (fun i wr => ∃ (k : Nat) (v : Value) (S : St) (p : Rp) (N : Nat → Prop), k ≤ xs.length ∧ i = .int .i64 k ∧ Ca wr c d g b N v S ∧ Hid (Inv S) ∧ Hid (S.dv.rd ≤ k ∧ S.last ≤ k) ∧ Hid (Bd w.heap.size c d g b N) ∧ Hid (Far N c d g b bx) ∧ Row wr bx 63 (rcP p S) ∧ Rc (NF N c d g b bx wr) wr p S ∧ Below w.heap.size w wr) (fun i _ => xs.length - (intOf i).toNat)
    case atStart => exact ⟨0, _, _, p0, N, by omega, rfl, HC5.out, Lib.hid i0, Lib.hid ⟨by show (0 : Int) ≤ 0; decide, by show (0 : Int) ≤ 0; decide⟩, HBD, HFB, HRB.out, HRC5.out, HB5.out⟩
    case round =>
      obtain ⟨k, v, S, ⟨AB, cB, AL, cL, AK, cK⟩, N, hk, rfl, hc, HIS, HRD, HBD, HFB, hrb, hrc, hbr⟩ := hrel
      change Row wr bx 63 (rcC AB cB AL S.xs.length cL AK cK S.last (rfu S.dv) S.dv.off S.dv.wr) at hrb
      by_cases hlt : k < xs.length
      · obtain ⟨gx, ox, rfl, hgx⟩ := ch_form hx (by omega)
        obtain ⟨A1, c1, A2, c2, hat0⟩ := ch_at hx k hlt
        have hat := hat0.below hbr
        have hxm := List.getElem_mem hlt
        have hxb := hby _ hxm
        obtain ⟨hxp, hxn⟩ := hsm _ hxm
        generalize xs[k] = x at *
        have hgxr : gx < wr.heap.size := Nat.lt_of_lt_of_le hgx hbr.size
        have hbxr : bx < wr.heap.size := hrb.lt
        have e0 : wr.drew.cell? ⟨gx, ox + k * 5, none⟩ = _ := hat.v0
        have e1 : wr.drew.cell? ⟨gx, ox + k * 5 + 1, none⟩ = _ := hat.v1
        have e2 : wr.drew.cell? ⟨gx, ox + k * 5 + 2, none⟩ = _ := hat.v2
        have e3 : wr.drew.cell? ⟨gx, ox + k * 5 + 3, none⟩ = _ := hat.v3
        have e4 : wr.drew.cell? ⟨gx, ox + k * 5 + 4, none⟩ = _ := hat.v4
        have hpdF : Rw kByte wr.drew (Out2 (NF N c d g b bx wr) wr.drew) A1 x.pd.length x.pd := (Rw.stay (w := w) (S := fun b => b < w.heap.size) (fun k hk => hbr.block k hk) hat0.p.2.2.2).mono (fun k hk => ⟨Nat.lt_of_lt_of_le hk hbr.size, fun e => by
          have hk : k < w.heap.size := hk
          rcases e.2 with e2 | e2
          · exact e2 ⟨HBD.out.n k hk, by have := HBD.out.c; omega, by have := HBD.out.d; omega, by have := HBD.out.g; omega, by have := HBD.out.b; omega⟩
          · omega⟩)
        have CR := Lib.hid (fun W (hH : Below wr.heap.size wr.drew W) => RGo_held (W0 := wr.drew) hH (hrc.below (Below.refl _ _).drew) (fun b hb => hb.1) HIS.out (hat.s.below (Below.refl _ _).drew) hpdF (by omega) (by have := HRD.out; omega))
        have HI2 := Lib.hid (goS_inv HIS.out hxb hxp hxn hat.ok.2.1 (by have := HRD.out; omega) (by have := HRD.out; omega))
        have HRD2 : Hid ((goS S x).dv.rd ≤ ((k + 1 : Nat) : Int) ∧ (goS S x).last ≤ ((k + 1 : Nat) : Int)) := Lib.hid (by have := goS_rd S x; have := HRD.out; omega)
        have CG := Lib.hid (fun w' N' v' (h1 : Ca w' c d g b N' v' S) (h2 : ChS w' x A1 c1 A2 c2) => Go_any x A1 c1 A2 c2 c d g b N' v' S w' h1 HIS.out h2 hxp hxn)
        have HAT0 := Lib.hid hat0
        have HC := Lib.hid hc
        have HRC := Lib.hid hrc
        have HBR := Lib.hid hbr
        have HRB := Lib.hid hrb
        have hrbd := hrb.drew
        clear hc hrc hbr hat hat0 hxb hpdF HRD
        obtain ⟨S2, hS2⟩ : ∃ S2, goS S x = S2 := ⟨_, rfl⟩
        obtain ⟨M2, hM2⟩ : ∃ M2, goN S x = M2 := ⟨_, rfl⟩
        obtain ⟨E2, hE2⟩ : ∃ E2, goE S x = E2 := ⟨_, rfl⟩
        rw [hS2, hM2, hE2] at CR CG
        rw [hS2] at HI2 HRD2
        clear hS2 hM2 hE2 HIS
        go_wp2_with fail
        clear hrb
        go_cut [7, 8, 9] (fun s7 s8 s9 w' => ∃ (g7 : Nat) (p2 : Rp), s7 = .pointer (some ⟨g7, 0, none⟩) ∧ s8 = .int .i64 M2 ∧ s9 = .int .i64 E2 ∧ Row w' g7 63 (rcP p2 S2) ∧ Rc (NF N c d g b bx wr) w' p2 S2 ∧ wr.heap.size ≤ g7 ∧ Below wr.heap.size wr w')
        case first =>
          refine wp_region_held_drew (S := Go.RowKit.Below ((wr.drew).heap.size) (wr.drew)) (by kernel_rfl) ?hb8 (fun hHeld => ?rest8)
          case hb8 =>
            exact Go.RowKit.Below.refl _ _
          case' rest8 => skip
          have hCl := fun (wS : World) (hSw : Go.RowKit.Below ((wr.drew).heap.size) (wr.drew) wS) => And.intro ((Mem.bl_row hSw hrbd (by first | exact Mem.Row.lt hrbd | omega | (simp <;> omega))).cell 0 rfl) <| And.intro ((Mem.bl_row hSw hrbd (by first | exact Mem.Row.lt hrbd | omega | (simp <;> omega))).cell 1 rfl) <| And.intro ((Mem.bl_row hSw hrbd (by first | exact Mem.Row.lt hrbd | omega | (simp <;> omega))).cell 2 rfl) <| And.intro ((Mem.bl_row hSw hrbd (by first | exact Mem.Row.lt hrbd | omega | (simp <;> omega))).cell 3 rfl) <| And.intro ((Mem.bl_row hSw hrbd (by first | exact Mem.Row.lt hrbd | omega | (simp <;> omega))).cell 4 rfl) <| And.intro ((Mem.bl_row hSw hrbd (by first | exact Mem.Row.lt hrbd | omega | (simp <;> omega))).cell 5 rfl) <| And.intro ((Mem.bl_row hSw hrbd (by first | exact Mem.Row.lt hrbd | omega | (simp <;> omega))).cell 6 rfl) <| And.intro (Mem.bl_cell hSw e0 (by first | omega | (dsimp only; omega) | exact World.block_lt_of_cell? _ _ e0 | (simp <;> omega))) <| And.intro (Mem.bl_cell hSw e1 (by first | omega | (dsimp only; omega) | exact World.block_lt_of_cell? _ _ e1 | (simp <;> omega))) <| And.intro (Mem.bl_cell hSw e2 (by first | omega | (dsimp only; omega) | exact World.block_lt_of_cell? _ _ e2 | (simp <;> omega))) <| And.intro (Mem.bl_cell hSw e3 (by first | omega | (dsimp only; omega) | exact World.block_lt_of_cell? _ _ e3 | (simp <;> omega))) <| Mem.bl_cell hSw e4 (by first | omega | (dsimp only; omega) | exact World.block_lt_of_cell? _ _ e4 | (simp <;> omega))
          replace hCl := Go.Lib.hid hCl
          refine Mem.tkY 0 ?v9 (hy := Or.inl ⟨by rfl, ?y9⟩) (hS := by assumption) (h := ?r9)
          case y9 => (intro w hSw; obtain ⟨hT0, hT1, hT2, hT3, hT4, hT5, hT6, hT7, hT8, hT9, hT10, hT11⟩ := hCl.out w hSw; clear hSw; go_simp; try with_reducible rfl)
          case' r9 => skip
          refine Mem.tkY 1 ?v10 (hy := Or.inl ⟨by rfl, ?y10⟩) (hS := by assumption) (h := ?r10)
          case y10 => (intro w hSw; clear hSw; go_simp; try with_reducible rfl)
          case' r10 => skip
          refine Mem.tkY 2 ?v11 (hy := Or.inl ⟨by rfl, ?y11⟩) (hS := by assumption) (h := ?r11)
          case y11 => (intro w hSw; clear hSw; go_simp; try with_reducible rfl)
          case' r11 => skip
          try simp only [List.getElem_toArray, List.getElem_cons_succ, List.getElem_cons_zero, Act.put, List.setIfInBounds_toArray, List.set_cons_zero, List.set_cons_succ]
          refine Mem.tkY 3 ?v12 (hy := Or.inl ⟨by rfl, ?y12⟩) (hS := by assumption) (h := ?r12)
          case y12 => (intro w hSw; clear hSw; go_simp; try with_reducible rfl)
          case' r12 => skip
          refine Mem.tkY 4 ?v13 (hy := Or.inl ⟨by rfl, ?y13⟩) (hS := by assumption) (h := ?r13)
          case y13 => (intro w hSw; obtain ⟨hT0, hT1, hT2, hT3, hT4, hT5, hT6, hT7, hT8, hT9, hT10, hT11⟩ := hCl.out w hSw; clear hSw; go_simp; try with_reducible rfl)
          case' r13 => skip
          try simp only [List.getElem_toArray, List.getElem_cons_succ, List.getElem_cons_zero, Act.put, List.setIfInBounds_toArray, List.set_cons_zero, List.set_cons_succ]
          refine wpAnyH_ready (rs := [5, 10]) (by kernel_rfl) (by simp) ?_
          refine AllReadyH.cons rfl (fun K hK => ?_) ?_
          · skip
            go_simp
            (refine (CR.out _ hHeld).mono ?_; rintro e wl ⟨p2, rfl, hR2, hbl⟩)
            try go_wp2_with fail
            have hSnew := Mem.bl_step hHeld hbl (by first | exact Nat.le_refl _ | omega | (simp <;> omega))
            refine hK.out _ _ ?_ (fun hHeld2 => ?_)
            · exact hSnew
            try replace hr7 := hr7.below hbl
            clear hbl
            clear hK K hHeld hSnew
            have hHeld := hHeld2
            clear hHeld2
            try simp only [List.getElem_toArray, List.getElem_cons_succ, List.getElem_cons_zero, Act.put, List.setIfInBounds_toArray, List.set_cons_zero, List.set_cons_succ]
            refine Mem.tkY 6 ?v14 (hy := Or.inl ⟨by rfl, ?y14⟩) (hS := by assumption) (h := ?r14)
            case y14 => (intro w hSw; clear hSw; go_simp; try with_reducible rfl)
            case' r14 => skip
            refine Mem.tkY 7 ?v15 (hy := Or.inl ⟨by rfl, ?y15⟩) (hS := by assumption) (h := ?r15)
            case y15 => (intro w hSw; clear hSw; go_simp; try with_reducible rfl)
            case' r15 => skip
            refine Mem.tkY 8 ?v16 (hy := Or.inl ⟨by rfl, ?y16⟩) (hS := by assumption) (h := ?r16)
            case y16 => (intro w hSw; clear hSw; go_simp; try with_reducible rfl)
            case' r16 => skip
            try simp only [List.getElem_toArray, List.getElem_cons_succ, List.getElem_cons_zero, Act.put, List.setIfInBounds_toArray, List.set_cons_zero, List.set_cons_succ]
            refine Mem.tkY 9 ?v17 (hy := Or.inl ⟨by rfl, ?y17⟩) (hS := by assumption) (h := ?r17)
            case y17 => (intro w hSw; clear hSw; go_simp; try with_reducible rfl)
            case' r17 => skip
            try simp only [List.getElem_toArray, List.getElem_cons_succ, List.getElem_cons_zero, Act.put, List.setIfInBounds_toArray, List.set_cons_zero, List.set_cons_succ]
            refine wpAnyH_ready (rs := [10]) (by kernel_rfl) (by simp) ?_
            refine AllReadyH.cons rfl (fun K hK => ?_) AllReadyH.nil
            rw [if_pos (by rfl)]
            refine wp_allocN 63 (by rfl) _ rcZero ?_; intro g7 wa hr7 hbl hg7'; have hg7 : wr.heap.size ≤ g7 := Nat.le_trans hHeld.size hg7'; have hga := Row.lt hr7; (try (have hR2 := hR2.fresh hbl hg7'))
            have hSnew := Mem.bl_step hHeld hbl (by first | exact Nat.le_refl _ | omega | (simp <;> omega))
            refine hK.out _ _ ?_ (fun hHeld2 => ?_)
            · exact hSnew
            try replace hr7 := hr7.below hbl
            clear hbl
            clear hK K hHeld hSnew
            have hHeld := hHeld2
            clear hHeld2
            try simp only [List.getElem_toArray, List.getElem_cons_succ, List.getElem_cons_zero, Act.put, List.setIfInBounds_toArray, List.set_cons_zero, List.set_cons_succ]
            refine wpAnyH_ready (rs := [11]) (by kernel_rfl) (by simp) ?_
            refine AllReadyH.cons rfl (fun K hK => ?_) AllReadyH.nil
            rw [if_pos (by rfl)]
            refine wp_storeRow _ _ _ (by rfl) g7 (by rfl) (rcP p2 S2) (by rfl) rcZ 63 7 rcSize rfl rfl (rcC_one _ _ _ _ _ _ _ _ _ _ _) hr7 ?_; have hSnew := below_setRow hHeld hg7 (rcP p2 S2); have hr8 := hr7.set (rcP p2 S2); have hR3 := Rc.store (N' := NF N c d g b bx wr) (g := g7) hR2 (rcP p2 S2) (by first | exact .inr rfl | exact .inr ⟨hg7, hga⟩) (fun b hb => by first | exact .inl hb | exact .inl (.inl hb))
            refine hK.out _ _ ?_ (fun hHeld2 => ?_)
            · exact hSnew
            clear hK K hHeld hSnew
            have hHeld := hHeld2
            clear hHeld2
            try simp only [List.getElem_toArray, List.getElem_cons_succ, List.getElem_cons_zero, Act.put, List.setIfInBounds_toArray, List.set_cons_zero, List.set_cons_succ]
            refine Mem.tkY 12 ?v18 (hy := Or.inl ⟨by rfl, ?y18⟩) (hS := by assumption) (h := ?r18)
            case y18 => (intro w hSw; clear hSw; go_simp; try with_reducible rfl)
            case' r18 => skip
            refine Mem.tkY 13 ?v19 (hy := Or.inl ⟨by rfl, ?y19⟩) (hS := by assumption) (h := ?r19)
            case y19 => (intro w hSw; clear hSw; go_simp; try with_reducible rfl)
            case' r19 => skip
            try simp only [List.getElem_toArray, List.getElem_cons_succ, List.getElem_cons_zero, Act.put, List.setIfInBounds_toArray, List.set_cons_zero, List.set_cons_succ]
            refine wpAnyH_done (by kernel_rfl) ?_ _
            clear hCl
            go_wp2_with fail
            go_meet
            case rel => exact ⟨g7, p2, rfl, rfl, rfl, hr8, hR3, hg7, (Below.refl _ _).drew.trans hHeld⟩
          refine AllReadyH.cons rfl (fun K hK => ?_) ?_
          · skip
            rw [if_pos (by rfl)]
            refine wp_allocN 63 (by rfl) _ rcZero ?_; intro g7 wa hr7 hbl hg7'; have hg7 : wr.heap.size ≤ g7 := Nat.le_trans hHeld.size hg7'; have hga := Row.lt hr7; (try (have hR2 := hR2.fresh hbl hg7'))
            have hSnew := Mem.bl_step hHeld hbl (by first | exact Nat.le_refl _ | omega | (simp <;> omega))
            refine hK.out _ _ ?_ (fun hHeld2 => ?_)
            · exact hSnew
            try replace hr7 := hr7.below hbl
            clear hbl
            clear hK K hHeld hSnew
            have hHeld := hHeld2
            clear hHeld2
            try simp only [List.getElem_toArray, List.getElem_cons_succ, List.getElem_cons_zero, Act.put, List.setIfInBounds_toArray, List.set_cons_zero, List.set_cons_succ]
            refine wpAnyH_ready (rs := [5]) (by kernel_rfl) (by simp) ?_
            refine AllReadyH.cons rfl (fun K hK => ?_) AllReadyH.nil
            go_simp
            (refine (CR.out _ hHeld).mono ?_; rintro e wl ⟨p2, rfl, hR2, hbl⟩)
            try go_wp2_with fail
            have hSnew := Mem.bl_step hHeld hbl (by first | exact Nat.le_refl _ | omega | (simp <;> omega))
            refine hK.out _ _ ?_ (fun hHeld2 => ?_)
            · exact hSnew
            try replace hr7 := hr7.below hbl
            clear hbl
            clear hK K hHeld hSnew
            have hHeld := hHeld2
            clear hHeld2
            try simp only [List.getElem_toArray, List.getElem_cons_succ, List.getElem_cons_zero, Act.put, List.setIfInBounds_toArray, List.set_cons_zero, List.set_cons_succ]
            refine Mem.tkY 6 ?v20 (hy := Or.inl ⟨by rfl, ?y20⟩) (hS := by assumption) (h := ?r20)
            case y20 => (intro w hSw; clear hSw; go_simp; try with_reducible rfl)
            case' r20 => skip
            refine Mem.tkY 7 ?v21 (hy := Or.inl ⟨by rfl, ?y21⟩) (hS := by assumption) (h := ?r21)
            case y21 => (intro w hSw; clear hSw; go_simp; try with_reducible rfl)
            case' r21 => skip
            refine Mem.tkY 8 ?v22 (hy := Or.inl ⟨by rfl, ?y22⟩) (hS := by assumption) (h := ?r22)
            case y22 => (intro w hSw; clear hSw; go_simp; try with_reducible rfl)
            case' r22 => skip
            try simp only [List.getElem_toArray, List.getElem_cons_succ, List.getElem_cons_zero, Act.put, List.setIfInBounds_toArray, List.set_cons_zero, List.set_cons_succ]
            refine Mem.tkY 9 ?v23 (hy := Or.inl ⟨by rfl, ?y23⟩) (hS := by assumption) (h := ?r23)
            case y23 => (intro w hSw; clear hSw; go_simp; try with_reducible rfl)
            case' r23 => skip
            try simp only [List.getElem_toArray, List.getElem_cons_succ, List.getElem_cons_zero, Act.put, List.setIfInBounds_toArray, List.set_cons_zero, List.set_cons_succ]
            refine wpAnyH_ready (rs := [11]) (by kernel_rfl) (by simp) ?_
            refine AllReadyH.cons rfl (fun K hK => ?_) AllReadyH.nil
            rw [if_pos (by rfl)]
            refine wp_storeRow _ _ _ (by rfl) g7 (by rfl) (rcP p2 S2) (by rfl) rcZ 63 7 rcSize rfl rfl (rcC_one _ _ _ _ _ _ _ _ _ _ _) hr7 ?_; have hSnew := below_setRow hHeld hg7 (rcP p2 S2); have hr8 := hr7.set (rcP p2 S2); have hR3 := Rc.store (N' := NF N c d g b bx wr) (g := g7) hR2 (rcP p2 S2) (by first | exact .inr rfl | exact .inr ⟨hg7, hga⟩) (fun b hb => by first | exact .inl hb | exact .inl (.inl hb))
            refine hK.out _ _ ?_ (fun hHeld2 => ?_)
            · exact hSnew
            clear hK K hHeld hSnew
            have hHeld := hHeld2
            clear hHeld2
            try simp only [List.getElem_toArray, List.getElem_cons_succ, List.getElem_cons_zero, Act.put, List.setIfInBounds_toArray, List.set_cons_zero, List.set_cons_succ]
            refine Mem.tkY 12 ?v24 (hy := Or.inl ⟨by rfl, ?y24⟩) (hS := by assumption) (h := ?r24)
            case y24 => (intro w hSw; clear hSw; go_simp; try with_reducible rfl)
            case' r24 => skip
            refine Mem.tkY 13 ?v25 (hy := Or.inl ⟨by rfl, ?y25⟩) (hS := by assumption) (h := ?r25)
            case y25 => (intro w hSw; clear hSw; go_simp; try with_reducible rfl)
            case' r25 => skip
            try simp only [List.getElem_toArray, List.getElem_cons_succ, List.getElem_cons_zero, Act.put, List.setIfInBounds_toArray, List.set_cons_zero, List.set_cons_succ]
            refine wpAnyH_done (by kernel_rfl) ?_ _
            clear hCl
            go_wp2_with fail
            go_meet
            case rel => exact ⟨g7, p2, rfl, rfl, rfl, hr8, hR3, hg7, (Below.refl _ _).drew.trans hHeld⟩
          exact AllReadyH.nil
        case rest =>
          obtain ⟨g7, ⟨AB2, cB2, AL2, cL2, AK2, cK2⟩, rfl, rfl, rfl, hr7, hR2, hg7, hbc⟩ := hcut
          have HR7 := Lib.hid hr7
          have HRBC := Lib.hid (HRB.out.below hbc)
          have hc6a := HC.out.grow hbc
          have hr6a := Rc.grow hR2 HC.out hbc hbxr
          obtain ⟨N2, hN2⟩ : ∃ N2 : Nat → Prop, N2 = fun j => N j ∨ (wr.heap.size ≤ j ∧ j < wc.heap.size) := ⟨_, rfl⟩
          rw [← hN2] at hc6a hr6a
          have HFB2 : Hid (Far N2 c d g b bx) := Lib.hid (by rw [hN2]; exact HFB.out.or)
          have HBD2 : Hid (Bd w.heap.size c d g b N2) := Lib.hid (by rw [hN2]; exact HBD.out.or)
          have HC6 := Lib.hid (hc6a.setRow HFB2.out (rcP ⟨AB2, cB2, AL2, cL2, AK2, cK2⟩ S2))
          have HR6 := Lib.hid (hr6a.setBx (Nat.lt_of_lt_of_le hbxr hbc.size) (rcP ⟨AB2, cB2, AL2, cL2, AK2, cK2⟩ S2))
          have HRB6 := Lib.hid (HRBC.out.set (rcP ⟨AB2, cB2, AL2, cL2, AK2, cK2⟩ S2))
          have HB6 := Lib.hid (below_setRow (HBR.out.trans (hbc.mono HBR.out.size)) hbxw (rcP ⟨AB2, cB2, AL2, cL2, AK2, cK2⟩ S2))
          have hat6 := HAT0.out.below HB6.out
          have CG6 := Lib.hid (CG.out _ N2 v HC6.out hat6.s)
          have e0 := hat6.v0
          have e1 := hat6.v1
          have e2 := hat6.v2
          have e3 : World.cell? _ ⟨gx, ox + k * 5 + 3, none⟩ = _ := hat6.v3
          have e4 := hat6.v4
          have hlt7 : ¬ g7 = bx := by omega
          clear hr7 hR2 hc6a hr6a hN2 hbc hat6 CG HC HRC HBR HRB hrbd CR HFB HBD
          go_wp2_with (first
            | (with_reducible refine wpList_ldC rfl _ rfl _ rfl _ rfl HR7.out ?_)
            | (with_reducible refine wpList_storeRow rfl 63 _ _ rfl bx rfl (rcP ⟨AB2, cB2, AL2, cL2, AK2, cK2⟩ S2) rfl _ 63 7 rcSize rfl rfl (rcC_one _ _ _ _ _ _ _ _ _ _ _) HRBC.out ?_))
          refine CG6.out.mono ?_
          rintro e w7 ⟨v7, rfl, hc7, ht7⟩
          have HRB7 := Lib.hid (ht7.row HFB2.out HRB6.out)
          have HR7' := Lib.hid (Rc.tn HR6.out ht7)
          have HB7 := Lib.hid (Tn.bel HB6.out ht7 HBD2.out)
          have hat7 := HAT0.out.below HB7.out
          have HC7 := Lib.hid hc7
          clear hc7 ht7 CG6 HC6 HR6 HRB6 HB6 HR7 HRBC e0 e1 e2 e3 e4
          have e1 : w7.drew.cell? ⟨gx, ox + k * 5 + 1, none⟩ = _ := hat7.v1
          have hrow : Row w7.drew bx 63 (rcC AB2 cB2 AL2 S2.xs.length cL2 AK2 cK2 S2.last (rfu S2.dv) S2.dv.off S2.dv.wr) := HRB7.out.drew
          have hca := HC7.out.below (Below.refl _ _).drew
          have hrc := Rc.below HR7'.out (Below.refl _ _).drew
          have CLast := Lib.hid (fun w' (h : Ca w' c d g b N2 v7 S2) => (Last_any c d g b N2 v7 S2 w' h).mono (fun e w'' h2 => (⟨h2.1, h2.2 ▸ Below.refl _ _⟩ : e = .returned (.int .i64 S2.last) ∧ Below w'.heap.size w' w'')))
          have CWr := Lib.hid (fun w' (h : Ca w' c d g b N2 v7 S2) => (Db.writes_any d g S2.dv w' h.dev).mono (fun e w'' h2 => (⟨h2.1, h2.2 ▸ Below.refl _ _⟩ : e = .returned (.int .i64 S2.dv.wr) ∧ Below w'.heap.size w' w'')))
          have CDn := Lib.hid (fun w' (h : Ca w' c d g b N2 v7 S2) => (Db.down_any d g S2.dv w' h.dev).mono (fun e w'' h2 => (⟨h2.1, h2.2 ▸ Below.refl _ _⟩ : e = .returned (.bool S2.dv.off) ∧ Below w'.heap.size w' w'')))
          have hgx7 : gx < w7.heap.size := Nat.lt_of_lt_of_le hgx HB7.out.size
          have hbx7 : bx < w7.heap.size := HRB7.out.lt
          clear hat7
          go_wp2_with fail
          refine wp_region_held_drew (S := Go.RowKit.Below ((w7.drew).heap.size) (w7.drew)) (by kernel_rfl) ?hb42 (fun hHeld => ?rest42)
          case hb42 =>
            exact Go.RowKit.Below.refl _ _
          case' rest42 => skip
          have hCl := fun (wS : World) (hSw : Go.RowKit.Below ((w7.drew).heap.size) (w7.drew) wS) => And.intro ((Mem.bl_row hSw hrow (by first | exact Mem.Row.lt hrow | omega | (simp <;> omega))).cell 0 rfl) <| And.intro ((Mem.bl_row hSw hrow (by first | exact Mem.Row.lt hrow | omega | (simp <;> omega))).cell 1 rfl) <| And.intro ((Mem.bl_row hSw hrow (by first | exact Mem.Row.lt hrow | omega | (simp <;> omega))).cell 2 rfl) <| And.intro ((Mem.bl_row hSw hrow (by first | exact Mem.Row.lt hrow | omega | (simp <;> omega))).cell 3 rfl) <| And.intro ((Mem.bl_row hSw hrow (by first | exact Mem.Row.lt hrow | omega | (simp <;> omega))).cell 4 rfl) <| And.intro ((Mem.bl_row hSw hrow (by first | exact Mem.Row.lt hrow | omega | (simp <;> omega))).cell 5 rfl) <| And.intro ((Mem.bl_row hSw hrow (by first | exact Mem.Row.lt hrow | omega | (simp <;> omega))).cell 6 rfl) <| Mem.bl_cell hSw e1 (by first | omega | (dsimp only; omega) | exact World.block_lt_of_cell? _ _ e1 | (simp <;> omega))
          replace hCl := Go.Lib.hid hCl
          refine Mem.tkY 0 ?v43 (hy := Or.inl ⟨by rfl, ?y43⟩) (hS := by assumption) (h := ?r43)
          case y43 => (intro w hSw; clear hSw; go_simp; try with_reducible rfl)
          case' r43 => skip
          refine Mem.tkY 1 ?v44 (hy := Or.inl ⟨by rfl, ?y44⟩) (hS := by assumption) (h := ?r44)
          case y44 => (intro w hSw; clear hSw; go_simp; try with_reducible rfl)
          case' r44 => skip
          refine Mem.tkY 2 ?v45 (hy := Or.inl ⟨by rfl, ?y45⟩) (hS := by assumption) (h := ?r45)
          case y45 => (intro w hSw; clear hSw; go_simp; try with_reducible rfl)
          case' r45 => skip
          try simp only [List.getElem_toArray, List.getElem_cons_succ, List.getElem_cons_zero, Act.put, List.setIfInBounds_toArray, List.set_cons_zero, List.set_cons_succ]
          refine Mem.tkY 3 ?v46 (hy := Or.inl ⟨by rfl, ?y46⟩) (hS := by assumption) (h := ?r46)
          case y46 => (intro w hSw; clear hSw; go_simp; try with_reducible rfl)
          case' r46 => skip
          try simp only [List.getElem_toArray, List.getElem_cons_succ, List.getElem_cons_zero, Act.put, List.setIfInBounds_toArray, List.set_cons_zero, List.set_cons_succ]
          first | refine Mem.tkY 4 undef (hy := Or.inr ⟨by rfl, rfl⟩) (hS := by assumption) (h := ?r47) | (refine Mem.tkY 4 ?v47 (hy := Or.inl ⟨by rfl, ?y47⟩) (hS := by assumption) (h := ?r47); case y47 => (intro w hSw; clear hSw; go_simp; try with_reducible rfl))
          case' r47 => skip
          try simp only [List.getElem_toArray, List.getElem_cons_succ, List.getElem_cons_zero, Act.put, List.setIfInBounds_toArray, List.set_cons_zero, List.set_cons_succ]
          first | refine Mem.tkY 5 undef (hy := Or.inr ⟨by rfl, rfl⟩) (hS := by assumption) (h := ?r48) | (refine Mem.tkY 5 ?v48 (hy := Or.inl ⟨by rfl, ?y48⟩) (hS := by assumption) (h := ?r48); case y48 => (intro w hSw; clear hSw; go_simp; try with_reducible rfl))
          case' r48 => skip
          try simp only [List.getElem_toArray, List.getElem_cons_succ, List.getElem_cons_zero, Act.put, List.setIfInBounds_toArray, List.set_cons_zero, List.set_cons_succ]
          first | refine Mem.tkY 6 undef (hy := Or.inr ⟨by rfl, rfl⟩) (hS := by assumption) (h := ?r49) | (refine Mem.tkY 6 ?v49 (hy := Or.inl ⟨by rfl, ?y49⟩) (hS := by assumption) (h := ?r49); case y49 => (intro w hSw; clear hSw; go_simp; try with_reducible rfl))
          case' r49 => skip
          refine Mem.tkY 7 ?v50 (hy := Or.inl ⟨by rfl, ?y50⟩) (hS := by assumption) (h := ?r50)
          case y50 => (intro w hSw; clear hSw; go_simp; try with_reducible rfl)
          case' r50 => skip
          refine Mem.tkY 8 ?v51 (hy := Or.inl ⟨by rfl, ?y51⟩) (hS := by assumption) (h := ?r51)
          case y51 => (intro w hSw; clear hSw; go_simp; try with_reducible rfl)
          case' r51 => skip
          try simp only [List.getElem_toArray, List.getElem_cons_succ, List.getElem_cons_zero, Act.put, List.setIfInBounds_toArray, List.set_cons_zero, List.set_cons_succ]
          first | refine Mem.tkY 9 undef (hy := Or.inr ⟨by rfl, rfl⟩) (hS := by assumption) (h := ?r52) | (refine Mem.tkY 9 ?v52 (hy := Or.inl ⟨by rfl, ?y52⟩) (hS := by assumption) (h := ?r52); case y52 => (intro w hSw; clear hSw; go_simp; try with_reducible rfl))
          case' r52 => skip
          try simp only [List.getElem_toArray, List.getElem_cons_succ, List.getElem_cons_zero, Act.put, List.setIfInBounds_toArray, List.set_cons_zero, List.set_cons_succ]
          first | refine Mem.tkY 11 undef (hy := Or.inr ⟨by rfl, rfl⟩) (hS := by assumption) (h := ?r53) | (refine Mem.tkY 11 ?v53 (hy := Or.inl ⟨by rfl, ?y53⟩) (hS := by assumption) (h := ?r53); case y53 => (intro w hSw; clear hSw; go_simp; try with_reducible rfl))
          case' r53 => skip
          try simp only [List.getElem_toArray, List.getElem_cons_succ, List.getElem_cons_zero, Act.put, List.setIfInBounds_toArray, List.set_cons_zero, List.set_cons_succ]
          first | refine Mem.tkY 12 undef (hy := Or.inr ⟨by rfl, rfl⟩) (hS := by assumption) (h := ?r54) | (refine Mem.tkY 12 ?v54 (hy := Or.inl ⟨by rfl, ?y54⟩) (hS := by assumption) (h := ?r54); case y54 => (intro w hSw; obtain ⟨hT0, hT1, hT2, hT3, hT4, hT5, hT6, hT7⟩ := hCl.out w hSw; clear hSw; go_simp; try with_reducible rfl))
          case' r54 => skip
          try simp only [List.getElem_toArray, List.getElem_cons_succ, List.getElem_cons_zero, Act.put, List.setIfInBounds_toArray, List.set_cons_zero, List.set_cons_succ]
          refine wpAnyH_ready (rs := [10]) (by kernel_rfl) (by simp) ?_
          refine AllReadyH.cons rfl (fun K hK => ?_) AllReadyH.nil
          go_simp
          (refine (CLast.out _ hca).mono ?_; rintro e wb ⟨rfl, hbl⟩)
          try go_wp2_with fail
          have hSnew := Mem.bl_step hHeld hbl (by first | exact Nat.le_refl _ | omega | (simp <;> omega))
          refine hK.out _ _ ?_ (fun hHeld2 => ?_)
          · exact hSnew
          try replace hca := hca.below hbl
          try replace hrc := hrc.below hbl
          try replace x5 := x5.below hbl
          try replace x6 := x6.below hbl
          try replace x8 := x8.below hbl
          try replace x9 := x9.below hbl
          clear hbl
          clear hK K hHeld hSnew
          have hHeld := hHeld2
          clear hHeld2
          try simp only [List.getElem_toArray, List.getElem_cons_succ, List.getElem_cons_zero, Act.put, List.setIfInBounds_toArray, List.set_cons_zero, List.set_cons_succ]
          first | refine Mem.tkY 13 undef (hy := Or.inr ⟨by rfl, rfl⟩) (hS := by assumption) (h := ?r55) | (refine Mem.tkY 13 ?v55 (hy := Or.inl ⟨by rfl, ?y55⟩) (hS := by assumption) (h := ?r55); case y55 => (intro w hSw; clear hSw; go_simp; try with_reducible rfl))
          case' r55 => skip
          refine Mem.tkY 14 ?v56 (hy := Or.inl ⟨by rfl, ?y56⟩) (hS := by assumption) (h := ?r56)
          case y56 => (intro w hSw; clear hSw; go_simp; try with_reducible rfl)
          case' r56 => skip
          refine Mem.tkY 15 ?v57 (hy := Or.inl ⟨by rfl, ?y57⟩) (hS := by assumption) (h := ?r57)
          case y57 => (intro w hSw; clear hSw; go_simp; try with_reducible rfl)
          case' r57 => skip
          try simp only [List.getElem_toArray, List.getElem_cons_succ, List.getElem_cons_zero, Act.put, List.setIfInBounds_toArray, List.set_cons_zero, List.set_cons_succ]
          first | refine Mem.tkY 16 undef (hy := Or.inr ⟨by rfl, rfl⟩) (hS := by assumption) (h := ?r58) | (refine Mem.tkY 16 ?v58 (hy := Or.inl ⟨by rfl, ?y58⟩) (hS := by assumption) (h := ?r58); case y58 => (intro w hSw; clear hSw; go_simp; try with_reducible rfl))
          case' r58 => skip
          try simp only [List.getElem_toArray, List.getElem_cons_succ, List.getElem_cons_zero, Act.put, List.setIfInBounds_toArray, List.set_cons_zero, List.set_cons_succ]
          first | refine Mem.tkY 18 undef (hy := Or.inr ⟨by rfl, rfl⟩) (hS := by assumption) (h := ?r59) | (refine Mem.tkY 18 ?v59 (hy := Or.inl ⟨by rfl, ?y59⟩) (hS := by assumption) (h := ?r59); case y59 => (intro w hSw; clear hSw; go_simp; try with_reducible rfl))
          case' r59 => skip
          try simp only [List.getElem_toArray, List.getElem_cons_succ, List.getElem_cons_zero, Act.put, List.setIfInBounds_toArray, List.set_cons_zero, List.set_cons_succ]
          first | refine Mem.tkY 19 undef (hy := Or.inr ⟨by rfl, rfl⟩) (hS := by assumption) (h := ?r60) | (refine Mem.tkY 19 ?v60 (hy := Or.inl ⟨by rfl, ?y60⟩) (hS := by assumption) (h := ?r60); case y60 => (intro w hSw; obtain ⟨hT0, hT1, hT2, hT3, hT4, hT5, hT6, hT7⟩ := hCl.out w hSw; clear hSw; go_simp; try with_reducible rfl))
          case' r60 => skip
          try simp only [List.getElem_toArray, List.getElem_cons_succ, List.getElem_cons_zero, Act.put, List.setIfInBounds_toArray, List.set_cons_zero, List.set_cons_succ]
          refine wpAnyH_ready (rs := [17]) (by kernel_rfl) (by simp) ?_
          refine AllReadyH.cons rfl (fun K hK => ?_) AllReadyH.nil
          go_simp
          (refine (CWr.out _ hca).mono ?_; rintro e wb ⟨rfl, hbl⟩)
          try go_wp2_with fail
          have hSnew := Mem.bl_step hHeld hbl (by first | exact Nat.le_refl _ | omega | (simp <;> omega))
          refine hK.out _ _ ?_ (fun hHeld2 => ?_)
          · exact hSnew
          try replace hca := hca.below hbl
          try replace hrc := hrc.below hbl
          try replace x5 := x5.below hbl
          try replace x6 := x6.below hbl
          try replace x8 := x8.below hbl
          try replace x9 := x9.below hbl
          clear hbl
          clear hK K hHeld hSnew
          have hHeld := hHeld2
          clear hHeld2
          try simp only [List.getElem_toArray, List.getElem_cons_succ, List.getElem_cons_zero, Act.put, List.setIfInBounds_toArray, List.set_cons_zero, List.set_cons_succ]
          first | refine Mem.tkY 20 undef (hy := Or.inr ⟨by rfl, rfl⟩) (hS := by assumption) (h := ?r61) | (refine Mem.tkY 20 ?v61 (hy := Or.inl ⟨by rfl, ?y61⟩) (hS := by assumption) (h := ?r61); case y61 => (intro w hSw; clear hSw; go_simp; try with_reducible rfl))
          case' r61 => skip
          refine Mem.tkY 21 ?v62 (hy := Or.inl ⟨by rfl, ?y62⟩) (hS := by assumption) (h := ?r62)
          case y62 => (intro w hSw; clear hSw; go_simp; try with_reducible rfl)
          case' r62 => skip
          refine Mem.tkY 22 ?v63 (hy := Or.inl ⟨by rfl, ?y63⟩) (hS := by assumption) (h := ?r63)
          case y63 => (intro w hSw; clear hSw; go_simp; try with_reducible rfl)
          case' r63 => skip
          try simp only [List.getElem_toArray, List.getElem_cons_succ, List.getElem_cons_zero, Act.put, List.setIfInBounds_toArray, List.set_cons_zero, List.set_cons_succ]
          first | refine Mem.tkY 23 undef (hy := Or.inr ⟨by rfl, rfl⟩) (hS := by assumption) (h := ?r64) | (refine Mem.tkY 23 ?v64 (hy := Or.inl ⟨by rfl, ?y64⟩) (hS := by assumption) (h := ?r64); case y64 => (intro w hSw; clear hSw; go_simp; try with_reducible rfl))
          case' r64 => skip
          try simp only [List.getElem_toArray, List.getElem_cons_succ, List.getElem_cons_zero, Act.put, List.setIfInBounds_toArray, List.set_cons_zero, List.set_cons_succ]
          first | refine Mem.tkY 25 undef (hy := Or.inr ⟨by rfl, rfl⟩) (hS := by assumption) (h := ?r65) | (refine Mem.tkY 25 ?v65 (hy := Or.inl ⟨by rfl, ?y65⟩) (hS := by assumption) (h := ?r65); case y65 => (intro w hSw; clear hSw; go_simp; try with_reducible rfl))
          case' r65 => skip
          try simp only [List.getElem_toArray, List.getElem_cons_succ, List.getElem_cons_zero, Act.put, List.setIfInBounds_toArray, List.set_cons_zero, List.set_cons_succ]
          first | refine Mem.tkY 26 undef (hy := Or.inr ⟨by rfl, rfl⟩) (hS := by assumption) (h := ?r66) | (refine Mem.tkY 26 ?v66 (hy := Or.inl ⟨by rfl, ?y66⟩) (hS := by assumption) (h := ?r66); case y66 => (intro w hSw; obtain ⟨hT0, hT1, hT2, hT3, hT4, hT5, hT6, hT7⟩ := hCl.out w hSw; clear hSw; go_simp; try with_reducible rfl))
          case' r66 => skip
          try simp only [List.getElem_toArray, List.getElem_cons_succ, List.getElem_cons_zero, Act.put, List.setIfInBounds_toArray, List.set_cons_zero, List.set_cons_succ]
          refine wpAnyH_ready (rs := [24]) (by kernel_rfl) (by simp) ?_
          refine AllReadyH.cons rfl (fun K hK => ?_) AllReadyH.nil
          go_simp
          (refine (CDn.out _ hca).mono ?_; rintro e wb ⟨rfl, hbl⟩)
          try go_wp2_with fail
          have hSnew := Mem.bl_step hHeld hbl (by first | exact Nat.le_refl _ | omega | (simp <;> omega))
          refine hK.out _ _ ?_ (fun hHeld2 => ?_)
          · exact hSnew
          try replace hca := hca.below hbl
          try replace hrc := hrc.below hbl
          try replace x5 := x5.below hbl
          try replace x6 := x6.below hbl
          try replace x8 := x8.below hbl
          try replace x9 := x9.below hbl
          clear hbl
          clear hK K hHeld hSnew
          have hHeld := hHeld2
          clear hHeld2
          try simp only [List.getElem_toArray, List.getElem_cons_succ, List.getElem_cons_zero, Act.put, List.setIfInBounds_toArray, List.set_cons_zero, List.set_cons_succ]
          first | refine Mem.tkY 27 undef (hy := Or.inr ⟨by rfl, rfl⟩) (hS := by assumption) (h := ?r67) | (refine Mem.tkY 27 ?v67 (hy := Or.inl ⟨by rfl, ?y67⟩) (hS := by assumption) (h := ?r67); case y67 => (intro w hSw; clear hSw; go_simp; try with_reducible rfl))
          case' r67 => skip
          refine Mem.tkY 28 ?v68 (hy := Or.inl ⟨by rfl, ?y68⟩) (hS := by assumption) (h := ?r68)
          case y68 => (intro w hSw; clear hSw; go_simp; try with_reducible rfl)
          case' r68 => skip
          refine Mem.tkY 29 ?v69 (hy := Or.inl ⟨by rfl, ?y69⟩) (hS := by assumption) (h := ?r69)
          case y69 => (intro w hSw; clear hSw; go_simp; try with_reducible rfl)
          case' r69 => skip
          try simp only [List.getElem_toArray, List.getElem_cons_succ, List.getElem_cons_zero, Act.put, List.setIfInBounds_toArray, List.set_cons_zero, List.set_cons_succ]
          first | refine Mem.tkY 30 undef (hy := Or.inr ⟨by rfl, rfl⟩) (hS := by assumption) (h := ?r70) | (refine Mem.tkY 30 ?v70 (hy := Or.inl ⟨by rfl, ?y70⟩) (hS := by assumption) (h := ?r70); case y70 => (intro w hSw; clear hSw; go_simp; try with_reducible rfl))
          case' r70 => skip
          try simp only [List.getElem_toArray, List.getElem_cons_succ, List.getElem_cons_zero, Act.put, List.setIfInBounds_toArray, List.set_cons_zero, List.set_cons_succ]
          first | refine Mem.tkY 33 undef (hy := Or.inr ⟨by rfl, rfl⟩) (hS := by assumption) (h := ?r71) | (refine Mem.tkY 33 ?v71 (hy := Or.inl ⟨by rfl, ?y71⟩) (hS := by assumption) (h := ?r71); case y71 => (intro w hSw; clear hSw; go_simp; try with_reducible rfl))
          case' r71 => skip
          try simp only [List.getElem_toArray, List.getElem_cons_succ, List.getElem_cons_zero, Act.put, List.setIfInBounds_toArray, List.set_cons_zero, List.set_cons_succ]
          first | refine Mem.tkY 34 undef (hy := Or.inr ⟨by rfl, rfl⟩) (hS := by assumption) (h := ?r72) | (refine Mem.tkY 34 ?v72 (hy := Or.inl ⟨by rfl, ?y72⟩) (hS := by assumption) (h := ?r72); case y72 => (intro w hSw; obtain ⟨hT0, hT1, hT2, hT3, hT4, hT5, hT6, hT7⟩ := hCl.out w hSw; clear hSw; go_simp; try with_reducible rfl))
          case' r72 => skip
          try simp only [List.getElem_toArray, List.getElem_cons_succ, List.getElem_cons_zero, Act.put, List.setIfInBounds_toArray, List.set_cons_zero, List.set_cons_succ]
          refine wpAnyH_ready (rs := [31]) (by kernel_rfl) (by simp) ?_
          refine AllReadyH.cons rfl (fun K hK => ?_) AllReadyH.nil
          go_simp
          (refine (Left_any c d g b N2 v7 S2 _ hca HI2.out).mono ?_; rintro e wb ⟨v5, rfl, ho5, hbl⟩; obtain ⟨A5, c5, rfl, -, -, -, x5⟩ := OwnK.rw_ ho5; clear ho5)
          try go_wp2_with fail
          have hSnew := Mem.bl_step hHeld hbl (by first | exact Nat.le_refl _ | omega | (simp <;> omega))
          refine hK.out _ _ ?_ (fun hHeld2 => ?_)
          · exact hSnew
          try replace hca := hca.below hbl
          try replace hrc := hrc.below hbl
          try replace x5 := x5.below hbl
          try replace x6 := x6.below hbl
          try replace x8 := x8.below hbl
          try replace x9 := x9.below hbl
          clear hbl
          clear hK K hHeld hSnew
          have hHeld := hHeld2
          clear hHeld2
          try simp only [List.getElem_toArray, List.getElem_cons_succ, List.getElem_cons_zero, Act.put, List.setIfInBounds_toArray, List.set_cons_zero, List.set_cons_succ]
          refine wpAnyH_ready (rs := [32]) (by kernel_rfl) (by simp) ?_
          refine AllReadyH.cons rfl (fun K hK => ?_) AllReadyH.nil
          go_simp
          (refine (lof_any A5 c5 S2.xs _ x5 HI2.out.xl).mono ?_; rintro e wb ⟨v6, rfl, ho6, hbl⟩; obtain ⟨A6, c6, rfl, -, -, -, x6⟩ := OwnK.rw_ ho6; clear ho6)
          try go_wp2_with fail
          have hSnew := Mem.bl_step hHeld hbl (by first | exact Nat.le_refl _ | omega | (simp <;> omega))
          refine hK.out _ _ ?_ (fun hHeld2 => ?_)
          · exact hSnew
          try replace hca := hca.below hbl
          try replace hrc := hrc.below hbl
          try replace x5 := x5.below hbl
          try replace x6 := x6.below hbl
          try replace x8 := x8.below hbl
          try replace x9 := x9.below hbl
          clear hbl
          clear hK K hHeld hSnew
          have hHeld := hHeld2
          clear hHeld2
          try simp only [List.getElem_toArray, List.getElem_cons_succ, List.getElem_cons_zero, Act.put, List.setIfInBounds_toArray, List.set_cons_zero, List.set_cons_succ]
          refine wpAnyH_ready (rs := [35]) (by kernel_rfl) (by simp) ?_
          refine AllReadyH.cons rfl (fun K hK => ?_) AllReadyH.nil
          go_simp
          (refine (sameall_yes A6 c6 AL2 cL2 S2.xs _ x6 (Rc.chs hrc)).mono ?_; rintro e wb ⟨rfl, hbl⟩)
          try go_wp2_with fail
          have hSnew := Mem.bl_step hHeld hbl (by first | exact Nat.le_refl _ | omega | (simp <;> omega))
          refine hK.out _ _ ?_ (fun hHeld2 => ?_)
          · exact hSnew
          try replace hca := hca.below hbl
          try replace hrc := hrc.below hbl
          try replace x5 := x5.below hbl
          try replace x6 := x6.below hbl
          try replace x8 := x8.below hbl
          try replace x9 := x9.below hbl
          clear hbl
          clear hK K hHeld hSnew
          have hHeld := hHeld2
          clear hHeld2
          try simp only [List.getElem_toArray, List.getElem_cons_succ, List.getElem_cons_zero, Act.put, List.setIfInBounds_toArray, List.set_cons_zero, List.set_cons_succ]
          first | refine Mem.tkY 36 undef (hy := Or.inr ⟨by rfl, rfl⟩) (hS := by assumption) (h := ?r73) | (refine Mem.tkY 36 ?v73 (hy := Or.inl ⟨by rfl, ?y73⟩) (hS := by assumption) (h := ?r73); case y73 => (intro w hSw; clear hSw; go_simp; try with_reducible rfl))
          case' r73 => skip
          refine Mem.tkY 37 ?v74 (hy := Or.inl ⟨by rfl, ?y74⟩) (hS := by assumption) (h := ?r74)
          case y74 => (intro w hSw; clear hSw; go_simp; try with_reducible rfl)
          case' r74 => skip
          refine Mem.tkY 38 ?v75 (hy := Or.inl ⟨by rfl, ?y75⟩) (hS := by assumption) (h := ?r75)
          case y75 => (intro w hSw; clear hSw; go_simp; try with_reducible rfl)
          case' r75 => skip
          try simp only [List.getElem_toArray, List.getElem_cons_succ, List.getElem_cons_zero, Act.put, List.setIfInBounds_toArray, List.set_cons_zero, List.set_cons_succ]
          first | refine Mem.tkY 39 undef (hy := Or.inr ⟨by rfl, rfl⟩) (hS := by assumption) (h := ?r76) | (refine Mem.tkY 39 ?v76 (hy := Or.inl ⟨by rfl, ?y76⟩) (hS := by assumption) (h := ?r76); case y76 => (intro w hSw; clear hSw; go_simp; try with_reducible rfl))
          case' r76 => skip
          try simp only [List.getElem_toArray, List.getElem_cons_succ, List.getElem_cons_zero, Act.put, List.setIfInBounds_toArray, List.set_cons_zero, List.set_cons_succ]
          first | refine Mem.tkY 41 undef (hy := Or.inr ⟨by rfl, rfl⟩) (hS := by assumption) (h := ?r77) | (refine Mem.tkY 41 ?v77 (hy := Or.inl ⟨by rfl, ?y77⟩) (hS := by assumption) (h := ?r77); case y77 => (intro w hSw; clear hSw; go_simp; try with_reducible rfl))
          case' r77 => skip
          try simp only [List.getElem_toArray, List.getElem_cons_succ, List.getElem_cons_zero, Act.put, List.setIfInBounds_toArray, List.set_cons_zero, List.set_cons_succ]
          first | refine Mem.tkY 42 undef (hy := Or.inr ⟨by rfl, rfl⟩) (hS := by assumption) (h := ?r78) | (refine Mem.tkY 42 ?v78 (hy := Or.inl ⟨by rfl, ?y78⟩) (hS := by assumption) (h := ?r78); case y78 => (intro w hSw; obtain ⟨hT0, hT1, hT2, hT3, hT4, hT5, hT6, hT7⟩ := hCl.out w hSw; clear hSw; go_simp; try with_reducible rfl))
          case' r78 => skip
          try simp only [List.getElem_toArray, List.getElem_cons_succ, List.getElem_cons_zero, Act.put, List.setIfInBounds_toArray, List.set_cons_zero, List.set_cons_succ]
          refine wpAnyH_ready (rs := [40]) (by kernel_rfl) (by simp) ?_
          refine AllReadyH.cons rfl (fun K hK => ?_) AllReadyH.nil
          go_simp
          (refine (Dirty_any c d g b N2 v7 S2 _ hca HI2.out).mono ?_; rintro e wb ⟨v8, rfl, ho8, hbl⟩; obtain ⟨A8, c8, rfl, -, -, -, x8⟩ := own_is ho8 (dirty_wf HI2.out); clear ho8)
          try go_wp2_with fail
          have hSnew := Mem.bl_step hHeld hbl (by first | exact Nat.le_refl _ | omega | (simp <;> omega))
          refine hK.out _ _ ?_ (fun hHeld2 => ?_)
          · exact hSnew
          try replace hca := hca.below hbl
          try replace hrc := hrc.below hbl
          try replace x5 := x5.below hbl
          try replace x6 := x6.below hbl
          try replace x8 := x8.below hbl
          try replace x9 := x9.below hbl
          clear hbl
          clear hK K hHeld hSnew
          have hHeld := hHeld2
          clear hHeld2
          try simp only [List.getElem_toArray, List.getElem_cons_succ, List.getElem_cons_zero, Act.put, List.setIfInBounds_toArray, List.set_cons_zero, List.set_cons_succ]
          refine wpAnyH_ready (rs := [43]) (by kernel_rfl) (by simp) ?_
          refine AllReadyH.cons rfl (fun K hK => ?_) AllReadyH.nil
          go_simp
          (refine (RBlocks_any AL2 cL2 S2.xs _ (Rc.chs hrc) HI2.out.xl).mono ?_; rintro e wb ⟨v9, rfl, ho9, hbl⟩; obtain ⟨A9, c9, rfl, -, -, -, x9⟩ := own_is ho9 (dirty_wf HI2.out); clear ho9)
          try go_wp2_with fail
          have hSnew := Mem.bl_step hHeld hbl (by first | exact Nat.le_refl _ | omega | (simp <;> omega))
          refine hK.out _ _ ?_ (fun hHeld2 => ?_)
          · exact hSnew
          try replace hca := hca.below hbl
          try replace hrc := hrc.below hbl
          try replace x5 := x5.below hbl
          try replace x6 := x6.below hbl
          try replace x8 := x8.below hbl
          try replace x9 := x9.below hbl
          clear hbl
          clear hK K hHeld hSnew
          have hHeld := hHeld2
          clear hHeld2
          try simp only [List.getElem_toArray, List.getElem_cons_succ, List.getElem_cons_zero, Act.put, List.setIfInBounds_toArray, List.set_cons_zero, List.set_cons_succ]
          refine wpAnyH_ready (rs := [44]) (by kernel_rfl) (by simp) ?_
          refine AllReadyH.cons rfl (fun K hK => ?_) AllReadyH.nil
          go_simp
          (refine (ints_yesC A8 A9 _ _ c8 c9 (blkP S2.xs []) _ x8.sl_int x9.sl_int).mono ?_; rintro e wb ⟨rfl, hbl⟩)
          try go_wp2_with fail
          have hSnew := Mem.bl_step hHeld hbl (by first | exact Nat.le_refl _ | omega | (simp <;> omega))
          refine hK.out _ _ ?_ (fun hHeld2 => ?_)
          · exact hSnew
          try replace hca := hca.below hbl
          try replace hrc := hrc.below hbl
          try replace x5 := x5.below hbl
          try replace x6 := x6.below hbl
          try replace x8 := x8.below hbl
          try replace x9 := x9.below hbl
          clear hbl
          clear hK K hHeld hSnew
          have hHeld := hHeld2
          clear hHeld2
          try simp only [List.getElem_toArray, List.getElem_cons_succ, List.getElem_cons_zero, Act.put, List.setIfInBounds_toArray, List.set_cons_zero, List.set_cons_succ]
          first | refine Mem.tkY 45 undef (hy := Or.inr ⟨by rfl, rfl⟩) (hS := by assumption) (h := ?r79) | (refine Mem.tkY 45 ?v79 (hy := Or.inl ⟨by rfl, ?y79⟩) (hS := by assumption) (h := ?r79); case y79 => (intro w hSw; clear hSw; go_simp; try with_reducible rfl))
          case' r79 => skip
          refine Mem.tkY 46 ?v80 (hy := Or.inl ⟨by rfl, ?y80⟩) (hS := by assumption) (h := ?r80)
          case y80 => (intro w hSw; clear hSw; go_simp; try with_reducible rfl)
          case' r80 => skip
          refine Mem.tkY 47 ?v81 (hy := Or.inl ⟨by rfl, ?y81⟩) (hS := by assumption) (h := ?r81)
          case y81 => (intro w hSw; clear hSw; go_simp; try with_reducible rfl)
          case' r81 => skip
          try simp only [List.getElem_toArray, List.getElem_cons_succ, List.getElem_cons_zero, Act.put, List.setIfInBounds_toArray, List.set_cons_zero, List.set_cons_succ]
          first | refine Mem.tkY 48 undef (hy := Or.inr ⟨by rfl, rfl⟩) (hS := by assumption) (h := ?r82) | (refine Mem.tkY 48 ?v82 (hy := Or.inl ⟨by rfl, ?y82⟩) (hS := by assumption) (h := ?r82); case y82 => (intro w hSw; clear hSw; go_simp; try with_reducible rfl))
          case' r82 => skip
          try simp only [List.getElem_toArray, List.getElem_cons_succ, List.getElem_cons_zero, Act.put, List.setIfInBounds_toArray, List.set_cons_zero, List.set_cons_succ]
          first | refine Mem.tkY 49 undef (hy := Or.inr ⟨by rfl, rfl⟩) (hS := by assumption) (h := ?r83) | (refine Mem.tkY 49 ?v83 (hy := Or.inl ⟨by rfl, ?y83⟩) (hS := by assumption) (h := ?r83); case y83 => (intro w hSw; clear hSw; go_simp; try with_reducible rfl))
          case' r83 => skip
          try simp only [List.getElem_toArray, List.getElem_cons_succ, List.getElem_cons_zero, Act.put, List.setIfInBounds_toArray, List.set_cons_zero, List.set_cons_succ]
          first | refine Mem.tkY 50 undef (hy := Or.inr ⟨by rfl, rfl⟩) (hS := by assumption) (h := ?r84) | (refine Mem.tkY 50 ?v84 (hy := Or.inl ⟨by rfl, ?y84⟩) (hS := by assumption) (h := ?r84); case y84 => (intro w hSw; clear hSw; go_simp; try with_reducible rfl))
          case' r84 => skip
          try simp only [List.getElem_toArray, List.getElem_cons_succ, List.getElem_cons_zero, Act.put, List.setIfInBounds_toArray, List.set_cons_zero, List.set_cons_succ]
          first | refine Mem.tkY 51 undef (hy := Or.inr ⟨by rfl, rfl⟩) (hS := by assumption) (h := ?r85) | (refine Mem.tkY 51 ?v85 (hy := Or.inl ⟨by rfl, ?y85⟩) (hS := by assumption) (h := ?r85); case y85 => (intro w hSw; clear hSw; go_simp; try with_reducible rfl))
          case' r85 => skip
          try simp only [List.getElem_toArray, List.getElem_cons_succ, List.getElem_cons_zero, Act.put, List.setIfInBounds_toArray, List.set_cons_zero, List.set_cons_succ]
          first | refine Mem.tkY 52 undef (hy := Or.inr ⟨by rfl, rfl⟩) (hS := by assumption) (h := ?r86) | (refine Mem.tkY 52 ?v86 (hy := Or.inl ⟨by rfl, ?y86⟩) (hS := by assumption) (h := ?r86); case y86 => (intro w hSw; clear hSw; go_simp; try with_reducible rfl))
          case' r86 => skip
          try simp only [List.getElem_toArray, List.getElem_cons_succ, List.getElem_cons_zero, Act.put, List.setIfInBounds_toArray, List.set_cons_zero, List.set_cons_succ]
          first | refine Mem.tkY 53 undef (hy := Or.inr ⟨by rfl, rfl⟩) (hS := by assumption) (h := ?r87) | (refine Mem.tkY 53 ?v87 (hy := Or.inl ⟨by rfl, ?y87⟩) (hS := by assumption) (h := ?r87); case y87 => (intro w hSw; obtain ⟨hT0, hT1, hT2, hT3, hT4, hT5, hT6, hT7⟩ := hCl.out w hSw; clear hSw; go_simp; try with_reducible rfl))
          case' r87 => skip
          try simp only [List.getElem_toArray, List.getElem_cons_succ, List.getElem_cons_zero, Act.put, List.setIfInBounds_toArray, List.set_cons_zero, List.set_cons_succ]
          first | refine Mem.tkY 55 undef (hy := Or.inr ⟨by rfl, rfl⟩) (hS := by assumption) (h := ?r88) | (refine Mem.tkY 55 ?v88 (hy := Or.inl ⟨by rfl, ?y88⟩) (hS := by assumption) (h := ?r88); case y88 => (intro w hSw; obtain ⟨hT0, hT1, hT2, hT3, hT4, hT5, hT6, hT7⟩ := hCl.out w hSw; clear hSw; go_simp; try with_reducible rfl))
          case' r88 => skip
          try simp only [List.getElem_toArray, List.getElem_cons_succ, List.getElem_cons_zero, Act.put, List.setIfInBounds_toArray, List.set_cons_zero, List.set_cons_succ]
          first | refine Mem.tkY 56 undef (hy := Or.inr ⟨by rfl, rfl⟩) (hS := by assumption) (h := ?r89) | (refine Mem.tkY 56 ?v89 (hy := Or.inl ⟨by rfl, ?y89⟩) (hS := by assumption) (h := ?r89); case y89 => (intro w hSw; clear hSw; go_simp; try with_reducible rfl))
          case' r89 => skip
          try simp only [List.getElem_toArray, List.getElem_cons_succ, List.getElem_cons_zero, Act.put, List.setIfInBounds_toArray, List.set_cons_zero, List.set_cons_succ]
          first | refine Mem.tkY 57 undef (hy := Or.inr ⟨by rfl, rfl⟩) (hS := by assumption) (h := ?r90) | (refine Mem.tkY 57 ?v90 (hy := Or.inl ⟨by rfl, ?y90⟩) (hS := by assumption) (h := ?r90); case y90 => (intro w hSw; clear hSw; go_simp; try with_reducible rfl))
          case' r90 => skip
          try simp only [List.getElem_toArray, List.getElem_cons_succ, List.getElem_cons_zero, Act.put, List.setIfInBounds_toArray, List.set_cons_zero, List.set_cons_succ]
          first | refine Mem.tkY 58 undef (hy := Or.inr ⟨by rfl, rfl⟩) (hS := by assumption) (h := ?r91) | (refine Mem.tkY 58 ?v91 (hy := Or.inl ⟨by rfl, ?y91⟩) (hS := by assumption) (h := ?r91); case y91 => (intro w hSw; clear hSw; go_simp; try with_reducible rfl))
          case' r91 => skip
          try simp only [List.getElem_toArray, List.getElem_cons_succ, List.getElem_cons_zero, Act.put, List.setIfInBounds_toArray, List.set_cons_zero, List.set_cons_succ]
          first | refine Mem.tkY 59 undef (hy := Or.inr ⟨by rfl, rfl⟩) (hS := by assumption) (h := ?r92) | (refine Mem.tkY 59 ?v92 (hy := Or.inl ⟨by rfl, ?y92⟩) (hS := by assumption) (h := ?r92); case y92 => (intro w hSw; clear hSw; go_simp; try with_reducible rfl))
          case' r92 => skip
          try simp only [List.getElem_toArray, List.getElem_cons_succ, List.getElem_cons_zero, Act.put, List.setIfInBounds_toArray, List.set_cons_zero, List.set_cons_succ]
          first | refine Mem.tkY 60 undef (hy := Or.inr ⟨by rfl, rfl⟩) (hS := by assumption) (h := ?r93) | (refine Mem.tkY 60 ?v93 (hy := Or.inl ⟨by rfl, ?y93⟩) (hS := by assumption) (h := ?r93); case y93 => (intro w hSw; obtain ⟨hT0, hT1, hT2, hT3, hT4, hT5, hT6, hT7⟩ := hCl.out w hSw; clear hSw; go_simp; try with_reducible rfl))
          case' r93 => skip
          try simp only [List.getElem_toArray, List.getElem_cons_succ, List.getElem_cons_zero, Act.put, List.setIfInBounds_toArray, List.set_cons_zero, List.set_cons_succ]
          refine wpAnyH_ready (rs := [54]) (by kernel_rfl) (by simp) ?_
          refine AllReadyH.cons rfl (fun K hK => ?_) AllReadyH.nil
          go_simp
          (refine (Done_any x.blk c d g b N2 v7 S2 _ hca).mono ?_; rintro e wb ⟨rfl, hbl⟩)
          try go_wp2_with fail
          have hSnew := Mem.bl_step hHeld hbl (by first | exact Nat.le_refl _ | omega | (simp <;> omega))
          refine hK.out _ _ ?_ (fun hHeld2 => ?_)
          · exact hSnew
          try replace hca := hca.below hbl
          try replace hrc := hrc.below hbl
          try replace x5 := x5.below hbl
          try replace x6 := x6.below hbl
          try replace x8 := x8.below hbl
          try replace x9 := x9.below hbl
          clear hbl
          clear hK K hHeld hSnew
          have hHeld := hHeld2
          clear hHeld2
          try simp only [List.getElem_toArray, List.getElem_cons_succ, List.getElem_cons_zero, Act.put, List.setIfInBounds_toArray, List.set_cons_zero, List.set_cons_succ]
          refine wpAnyH_ready (rs := [61]) (by kernel_rfl) (by simp) ?_
          refine AllReadyH.cons rfl (fun K hK => ?_) AllReadyH.nil
          go_simp
          (refine (RDone_any _ x.blk ⟨AB2, cB2, AL2, cL2, AK2, cK2⟩ S2 _ hrc).mono ?_; rintro e wb ⟨rfl, hbl⟩)
          try go_wp2_with fail
          have hSnew := Mem.bl_step hHeld hbl (by first | exact Nat.le_refl _ | omega | (simp <;> omega))
          refine hK.out _ _ ?_ (fun hHeld2 => ?_)
          · exact hSnew
          try replace hca := hca.below hbl
          try replace hrc := hrc.below hbl
          try replace x5 := x5.below hbl
          try replace x6 := x6.below hbl
          try replace x8 := x8.below hbl
          try replace x9 := x9.below hbl
          clear hbl
          clear hK K hHeld hSnew
          have hHeld := hHeld2
          clear hHeld2
          try simp only [List.getElem_toArray, List.getElem_cons_succ, List.getElem_cons_zero, Act.put, List.setIfInBounds_toArray, List.set_cons_zero, List.set_cons_succ]
          first | refine Mem.tkY 62 undef (hy := Or.inr ⟨by rfl, rfl⟩) (hS := by assumption) (h := ?r94) | (refine Mem.tkY 62 ?v94 (hy := Or.inl ⟨by rfl, ?y94⟩) (hS := by assumption) (h := ?r94); case y94 => (intro w hSw; clear hSw; go_simp; try with_reducible rfl))
          case' r94 => skip
          refine Mem.tkY 63 ?v95 (hy := Or.inl ⟨by rfl, ?y95⟩) (hS := by assumption) (h := ?r95)
          case y95 => (intro w hSw; clear hSw; go_simp; try with_reducible rfl)
          case' r95 => skip
          try simp only [List.getElem_toArray, List.getElem_cons_succ, List.getElem_cons_zero, Act.put, List.setIfInBounds_toArray, List.set_cons_zero, List.set_cons_succ]
          refine wpAnyH_done (by kernel_rfl) ?_ _
          clear hCl
          go_wp2_with fail
          go_roundw
          case rel => exact ⟨k + 1, v7, S2, ⟨AB2, cB2, AL2, cL2, AK2, cK2⟩, N2, by omega, by go_num, hca, HI2, HRD2, HBD2, HFB2, hrow.below hHeld, Rc.later HR7'.out ((Below.refl _ _).drew.trans hHeld), HB7.out.trans (((Below.refl _ _).drew.trans hHeld).mono HB7.out.size)⟩
          case measure => simp [intOf]; omega
      · obtain rfl : k = xs.length := by omega
        have HCI := Lib.hid (Db.image_any d g S.dv wr hc.dev (by rw [HIS.out.len]; omega) (by rw [HIS.out.len]; omega))
        rw [HIS.out.len] at HCI
        have HRB := Lib.hid hrb
        have HRC := Lib.hid hrc
        have HBR := Lib.hid hbr
        clear hc hrb hrc hbr HRD HBD HFB
        go_wp2_with fail
        refine HCI.out.mono ?_
        rintro e we ⟨gi, ci, rfl, hbi, hgi, hci1, hci2, hbe⟩
        have HRBe := Lib.hid (HRB.out.below hbe)
        have hbase := (HRC.out.below hbe).base
        have HBASE := Lib.hid hbase
        have HBKe := Lib.hid hbi
        have HBe := Lib.hid (HBR.out.trans (hbe.mono HBR.out.size))
        obtain ⟨gB, oB, hAB, hgB⟩ : ∃ gB oB, AB = some ⟨gB, oB, none⟩ ∧ gB < we.heap.size := by
          rcases hbase.2.2 with h0 | ⟨g', o, e, _, hlt', _⟩
          · omega
          · exact ⟨g', o, e, hlt'⟩
        subst hAB
        clear hbe hbi HCI HRB HRC HBR hbase
        have hlen := HIS.out.len
        go_wp2_with fail
        go_loopw [13] (fun i wr => ∃ (m : Nat), m ≤ 16 ∧ i = .int .i64 m ∧ Below we.heap.size we wr) (fun i _ => 16 - (intOf i).toNat)
        case atStart => exact ⟨0, by omega, rfl, Below.refl _ _⟩
        case round =>
          obtain ⟨m, hm, rfl, hbm⟩ := hrel
          by_cases hlm : m < 16
          · obtain ⟨u, hcu, ⟨Ai, ci', e1, q2, q3, q4, q5⟩⟩ := rw_cell1 rfl HBASE.out (i := m) (by omega)
            injection e1 with e1
            subst e1
            have hLl : S.dv.bs[m].length = 256 := HIS.out.each _ (List.getElem_mem _)
            have hLg : S.dv.bs[m]? = some S.dv.bs[m] := List.getElem?_eq_getElem (by omega)
            have q6 : By we Ai S.dv.bs[m] := Rw.mono (fun b hb => hb.1) q5
            obtain ⟨L, hL⟩ : ∃ L, S.dv.bs[m] = L := ⟨_, rfl⟩
            rw [hL] at hcu q2 q6 hLl hLg
            rw [hLl] at hcu
            have hcb : wr.drew.cell? ⟨gB, oB + m, none⟩ = some (.slice Ai 256 ci') := (hbm.cell (p := ⟨gB, oB + m, none⟩) hgB).trans hcu
            have hrow : Row wr.drew bx 63 (rcC (some ⟨gB, oB, none⟩) cB AL S.xs.length cL AK cK S.last (rfu S.dv) S.dv.off S.dv.wr) := (HRBe.out.below hbm).drew
            have hs1 := bks_sl (Bks.below (Bks.below HBKe.out hbm) (Below.refl _ _).drew) hLg
            have hs2 := Rw.sl_byte ((q6.below hbm).below (Below.refl _ _).drew)
            have HS1 := Lib.hid hs1
            have HS2 := Lib.hid hs2
            rw [hLl] at HS2
            have hgBr : gB < wr.heap.size := Nat.lt_of_lt_of_le hgB hbm.size
            have hbxr : bx < wr.heap.size := Row.lt hrow
            have HBM := Lib.hid hbm
            clear hcu hL q2 q3 q4 q5 q6 hs1 hs2 hbm hLl hLg
            go_wp2_with fail
            refine wp_region_held_drew (S := Go.RowKit.Below ((wr.drew).heap.size) (wr.drew)) (by kernel_rfl) ?hb102 (fun hHeld => ?rest102)
            case hb102 =>
              exact Go.RowKit.Below.refl _ _
            case' rest102 => skip
            have hCl := fun (wS : World) (hSw : Go.RowKit.Below ((wr.drew).heap.size) (wr.drew) wS) => And.intro ((Mem.bl_row hSw hrow (by first | exact Mem.Row.lt hrow | omega | (simp <;> omega))).cell 0 rfl) <| Mem.bl_cell hSw hcb (by first | omega | (dsimp only; omega) | exact World.block_lt_of_cell? _ _ hcb | (simp <;> omega))
            replace hCl := Go.Lib.hid hCl
            refine Mem.tkY 0 ?v103 (hy := Or.inl ⟨by rfl, ?y103⟩) (hS := by assumption) (h := ?r103)
            case y103 => (intro w hSw; clear hSw; go_simp; try with_reducible rfl)
            case' r103 => skip
            refine Mem.tkY 1 ?v104 (hy := Or.inl ⟨by rfl, ?y104⟩) (hS := by assumption) (h := ?r104)
            case y104 => (intro w hSw; clear hSw; go_simp; try with_reducible rfl)
            case' r104 => skip
            refine Mem.tkY 2 ?v105 (hy := Or.inl ⟨by rfl, ?y105⟩) (hS := by assumption) (h := ?r105)
            case y105 => (intro w hSw; clear hSw; go_simp; try with_reducible rfl)
            case' r105 => skip
            try simp only [List.getElem_toArray, List.getElem_cons_succ, List.getElem_cons_zero, Act.put, List.setIfInBounds_toArray, List.set_cons_zero, List.set_cons_succ]
            refine Mem.tkY 3 ?v106 (hy := Or.inl ⟨by rfl, ?y106⟩) (hS := by assumption) (h := ?r106)
            case y106 => (intro w hSw; clear hSw; go_simp; try with_reducible rfl)
            case' r106 => skip
            try simp only [List.getElem_toArray, List.getElem_cons_succ, List.getElem_cons_zero, Act.put, List.setIfInBounds_toArray, List.set_cons_zero, List.set_cons_succ]
            first | refine Mem.tkY 4 undef (hy := Or.inr ⟨by rfl, rfl⟩) (hS := by assumption) (h := ?r107) | (refine Mem.tkY 4 ?v107 (hy := Or.inl ⟨by rfl, ?y107⟩) (hS := by assumption) (h := ?r107); case y107 => (intro w hSw; clear hSw; go_simp; try with_reducible rfl))
            case' r107 => skip
            try simp only [List.getElem_toArray, List.getElem_cons_succ, List.getElem_cons_zero, Act.put, List.setIfInBounds_toArray, List.set_cons_zero, List.set_cons_succ]
            first | refine Mem.tkY 5 undef (hy := Or.inr ⟨by rfl, rfl⟩) (hS := by assumption) (h := ?r108) | (refine Mem.tkY 5 ?v108 (hy := Or.inl ⟨by rfl, ?y108⟩) (hS := by assumption) (h := ?r108); case y108 => (intro w hSw; clear hSw; go_simp; try with_reducible rfl))
            case' r108 => skip
            try simp only [List.getElem_toArray, List.getElem_cons_succ, List.getElem_cons_zero, Act.put, List.setIfInBounds_toArray, List.set_cons_zero, List.set_cons_succ]
            first | refine Mem.tkY 6 undef (hy := Or.inr ⟨by rfl, rfl⟩) (hS := by assumption) (h := ?r109) | (refine Mem.tkY 6 ?v109 (hy := Or.inl ⟨by rfl, ?y109⟩) (hS := by assumption) (h := ?r109); case y109 => (intro w hSw; clear hSw; go_simp; try with_reducible rfl))
            case' r109 => skip
            try simp only [List.getElem_toArray, List.getElem_cons_succ, List.getElem_cons_zero, Act.put, List.setIfInBounds_toArray, List.set_cons_zero, List.set_cons_succ]
            first | refine Mem.tkY 7 undef (hy := Or.inr ⟨by rfl, rfl⟩) (hS := by assumption) (h := ?r110) | (refine Mem.tkY 7 ?v110 (hy := Or.inl ⟨by rfl, ?y110⟩) (hS := by assumption) (h := ?r110); case y110 => (intro w hSw; clear hSw; go_simp; try with_reducible rfl))
            case' r110 => skip
            try simp only [List.getElem_toArray, List.getElem_cons_succ, List.getElem_cons_zero, Act.put, List.setIfInBounds_toArray, List.set_cons_zero, List.set_cons_succ]
            first | refine Mem.tkY 8 undef (hy := Or.inr ⟨by rfl, rfl⟩) (hS := by assumption) (h := ?r111) | (refine Mem.tkY 8 ?v111 (hy := Or.inl ⟨by rfl, ?y111⟩) (hS := by assumption) (h := ?r111); case y111 => (intro w hSw; clear hSw; go_simp; try with_reducible rfl))
            case' r111 => skip
            try simp only [List.getElem_toArray, List.getElem_cons_succ, List.getElem_cons_zero, Act.put, List.setIfInBounds_toArray, List.set_cons_zero, List.set_cons_succ]
            first | refine Mem.tkY 9 undef (hy := Or.inr ⟨by rfl, rfl⟩) (hS := by assumption) (h := ?r112) | (refine Mem.tkY 9 ?v112 (hy := Or.inl ⟨by rfl, ?y112⟩) (hS := by assumption) (h := ?r112); case y112 => (intro w hSw; obtain ⟨hT0, hT1⟩ := hCl.out w hSw; clear hSw; go_simp; try with_reducible rfl))
            case' r112 => skip
            try simp only [List.getElem_toArray, List.getElem_cons_succ, List.getElem_cons_zero, Act.put, List.setIfInBounds_toArray, List.set_cons_zero, List.set_cons_succ]
            first | refine Mem.tkY 10 undef (hy := Or.inr ⟨by rfl, rfl⟩) (hS := by assumption) (h := ?r113) | (refine Mem.tkY 10 ?v113 (hy := Or.inl ⟨by rfl, ?y113⟩) (hS := by assumption) (h := ?r113); case y113 => (intro w hSw; clear hSw; go_simp; try with_reducible rfl))
            case' r113 => skip
            try simp only [List.getElem_toArray, List.getElem_cons_succ, List.getElem_cons_zero, Act.put, List.setIfInBounds_toArray, List.set_cons_zero, List.set_cons_succ]
            first | refine Mem.tkY 11 undef (hy := Or.inr ⟨by rfl, rfl⟩) (hS := by assumption) (h := ?r114) | (refine Mem.tkY 11 ?v114 (hy := Or.inl ⟨by rfl, ?y114⟩) (hS := by assumption) (h := ?r114); case y114 => (intro w hSw; clear hSw; go_simp; try with_reducible rfl))
            case' r114 => skip
            try simp only [List.getElem_toArray, List.getElem_cons_succ, List.getElem_cons_zero, Act.put, List.setIfInBounds_toArray, List.set_cons_zero, List.set_cons_succ]
            first | refine Mem.tkY 12 undef (hy := Or.inr ⟨by rfl, rfl⟩) (hS := by assumption) (h := ?r115) | (refine Mem.tkY 12 ?v115 (hy := Or.inl ⟨by rfl, ?y115⟩) (hS := by assumption) (h := ?r115); case y115 => (intro w hSw; obtain ⟨hT0, hT1⟩ := hCl.out w hSw; clear hSw; go_simp; try with_reducible rfl))
            case' r115 => skip
            try simp only [List.getElem_toArray, List.getElem_cons_succ, List.getElem_cons_zero, Act.put, List.setIfInBounds_toArray, List.set_cons_zero, List.set_cons_succ]
            refine wpAnyH_ready (rs := [13]) (by kernel_rfl) (by simp) ?_
            refine AllReadyH.cons rfl (fun K hK => ?_) AllReadyH.nil
            go_simp
            (refine (same_blkC (some ⟨gi, m * 256, none⟩) Ai 256 256 256 ci' L _ HS1.out HS2.out).mono ?_; rintro e wb ⟨rfl, hbl⟩)
            try go_wp2_with fail
            have hSnew := Mem.bl_step hHeld hbl (by first | exact Nat.le_refl _ | omega | (simp <;> omega))
            refine hK.out _ _ ?_ (fun hHeld2 => ?_)
            · exact hSnew
            clear hbl
            clear hK K hHeld hSnew
            have hHeld := hHeld2
            clear hHeld2
            try simp only [List.getElem_toArray, List.getElem_cons_succ, List.getElem_cons_zero, Act.put, List.setIfInBounds_toArray, List.set_cons_zero, List.set_cons_succ]
            first | refine Mem.tkY 14 undef (hy := Or.inr ⟨by rfl, rfl⟩) (hS := by assumption) (h := ?r116) | (refine Mem.tkY 14 ?v116 (hy := Or.inl ⟨by rfl, ?y116⟩) (hS := by assumption) (h := ?r116); case y116 => (intro w hSw; clear hSw; go_simp; try with_reducible rfl))
            case' r116 => skip
            refine Mem.tkY 15 ?v117 (hy := Or.inl ⟨by rfl, ?y117⟩) (hS := by assumption) (h := ?r117)
            case y117 => (intro w hSw; clear hSw; go_simp; try with_reducible rfl)
            case' r117 => skip
            try simp only [List.getElem_toArray, List.getElem_cons_succ, List.getElem_cons_zero, Act.put, List.setIfInBounds_toArray, List.set_cons_zero, List.set_cons_succ]
            refine wpAnyH_done (by kernel_rfl) ?_ _
            clear hCl
            go_wp2_with fail
            go_roundw
            case rel => exact ⟨m + 1, by omega, by go_num, HBM.out.trans (((Below.refl _ _).drew.trans hHeld).mono HBM.out.size)⟩
            case measure => simp [intOf]; omega
          · obtain rfl : m = 16 := by omega
            have HB := Lib.hid (HBe.out.trans (hbm.mono HBe.out.size))
            clear hbm
            go_wp2_with (refine (works12 _).mono ?_; rintro e w9 ⟨rfl, hb9⟩)
            go_ret
            exact ⟨rfl, HB.out.trans (hb9.mono HB.out.size)⟩
end Go.Proofs.Ytdhgkabbepbgpaa.Cb
