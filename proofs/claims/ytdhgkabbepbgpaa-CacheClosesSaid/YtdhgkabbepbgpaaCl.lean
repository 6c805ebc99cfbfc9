/- CacheCloses. -/
import Derived.Test.YtdhgkabbepbgpaaCk
import Derived.Test.YtdhgkabbepbgpaaDi
namespace Go.Proofs.Ytdhgkabbepbgpaa.Cb
open Go.RowKit Go.Proofs.Ytdhgkabbepbgpaa.Mem Go.Proofs.Ytdhgkabbepbgpaa.Open Go.Proofs.Ytdhgkabbepbgpaa.Kind Go.Proofs.Ytdhgkabbepbgpaa.Blk Go.Proofs.Ytdhgkabbepbgpaa.App Go.Proofs.Ytdhgkabbepbgpaa.Pat Go.Proofs.Ytdhgkabbepbgpaa.Rd
open Go.Proofs.Ytdhgkabbepbgpaa.Db (Dv Dev Asd Bks)
set_option linter.unusedVariables false
set_option linter.unusedSimpArgs false
theorem own_stay2 {α : Type} {k : Kd α} {N : Nat → Prop} {B0 : Nat} {w w' : World} {E : TypeId} {v : Value} {xs : List α} (h : OwnK (kN k N) w B0 E v xs) (hv : ∀ j, v.ownBlock = some j → w'.heap[j]? = w.heap[j]?) (hs : ∀ j, ¬ N j → j < w.heap.size → w'.heap[j]? = w.heap[j]?) (hz : w.heap.size ≤ w'.heap.size) : OwnK (kN k N) w' B0 E v xs := by
  obtain ⟨rows, h1, h2, h3, h4⟩ := h
  refine ⟨rows, h1, fun i x hx => ?_, h3, ?_⟩
  · obtain ⟨cs, c1, c2⟩ := h2 i x hx
    exact ⟨cs, c1, k.mono (fun b hb => ⟨⟨hb.1.1, Nat.lt_of_lt_of_le hb.1.2 hz⟩, hb.2⟩) (k.stay (fun b hb => hs b hb.2 hb.1.2) c2)⟩
  · rcases h4 with h0 | ⟨g, cap, cur, hv2, hb, r⟩
    · exact .inl h0
    · have : v.ownBlock = some g := by rw [hv2]; rfl
      exact .inr ⟨g, cap, cur, hv2, hb, (hv g this).trans r.1, r.2⟩
theorem Ca.grow2 {w w' : World} {c d g b : Nat} {N : Nat → Prop} {v : Value} {s : St} (h : Ca w c d g b N v s) (hs : ∀ j, j < w.heap.size → ¬ Far N c d g b j → w'.heap[j]? = w.heap[j]?) (hz : w.heap.size ≤ w'.heap.size) : Ca w' c d g b (fun j => N j ∨ (w.heap.size ≤ j ∧ j < w'.heap.size)) v s :=
  have ho : OwnK (kN kChg (fun j => N j ∨ (w.heap.size ≤ j ∧ j < w'.heap.size))) w 0 80 v s.xs := kN_of h.own (fun j h1 h2 e => by rcases e with e | e; exact h2 e; omega)
  have h2 := h.keep hs hz
  have hv : ∀ j, v.ownBlock = some j → ¬ (N j ∨ (w.heap.size ≤ j ∧ j < w'.heap.size)) := fun j hj e => by rcases e with e | e; exact h.vN j hj e; have := (h.own.lt j hj).2; omega
  ⟨h2.row, h2.dev, h2.map, own_stay ho hv (fun j h3 h4 => hs j h4 (fun e => h3 (.inl e.n))) hz, hv, h.cd, h.cg, h.cb, h.db, h.gb, .inl h.Nc, .inl h.Nd, .inl h.Ng, .inl h.Nb, fun j e => by rcases e with e | e; exact h2.lt j e; exact e.2⟩
theorem own_chsA {w : World} {B n ca : Nat} {M : Nat → Prop} {T : TypeId} {Aa : Option Addr} {L : List Chg} (h : OwnK (kN kChg M) w B T (.slice Aa n ca) L) : Chs w Aa L := by
  obtain ⟨A, c, e, _, _, _, hx⟩ := OwnK.rw_ (kN_weak h)
  injection e with e1 e2 e3
  subst e1
  exact hx
theorem stpInfo3 : (Try.prog.info? 36).map (fun i => (i.zero, i.size, i.bytes)) = some (some (.agg chZ), 5, 72) := by kernel_rfl
/-- The steps that put, as they were told: their numbers fall away. -/
abbrev un (a : Chg) : Chg := { a with id := 0 }
/-- What is wanted of the first ones. -/
def Wq (W : List (List Nat)) (s : St) (A : List Chg) (q : Nat) : Prop := W.length = 16 ∧ ∀ i : Nat, i < 16 → W[i]? = some (laidF i (doneB s) zblk (A.take q))
theorem Wq.skip {W : List (List Nat)} {s : St} {A : List Chg} {q : Nat} (h : Wq W s A q) (hq : q < A.length) (hd : doneB s A[q].id = false) : Wq W s A (q + 1) :=
  ⟨h.1, fun i hi => by rw [take_next hq, laidF_app, if_neg (fun e => by rw [hd] at e; cases e.2)]; exact h.2 i hi⟩
theorem Wq.next {W : List (List Nat)} {s : St} {A : List Chg} {q i0 : Nat} (h : Wq W s A q) (hq : q < A.length) (hd : doneB s A[q].id = true) (hb : A[q].blk = (i0 : Int)) (hi0 : i0 < 16) :
    Wq (W.set i0 (layL (laidF i0 (doneB s) zblk (A.take q)) A[q].pa A[q].pd)) s A (q + 1) :=
  ⟨by rw [List.length_set]; exact h.1, fun i hi => by
    have hl := h.1
    rw [take_next hq, laidF_app, List.getElem?_set]
    by_cases hii : i0 = i
    · subst hii
      rw [if_pos rfl, if_pos (by omega), if_pos ⟨hb, hd⟩]
      rfl
    · rw [if_neg hii, if_neg (fun e => hii (by have := e.1; omega))]
      exact h.2 i hi⟩
set_option maxHeartbeats 8000000 in
set_option maxRecDepth 100000 in
theorem closes_walk (A : Option Addr) (n : Nat) (xs : List Chg) (w : World) (hx : Chs w A xs) (hA : A = none → n = 0) :
    Calls Try.prog 3 #[.slice A xs.length n] w fun e w' => e = .returned (.bool true) ∧ Below w.heap.size w w' := by
  have hz : (blk zblk).size = 256 := zblk_size
  have CM := Lib.hid (muchT_any A n xs 20 w hx (by omega))
  have hl9 : xs.length ≤ 9223372036854775807 := hx.2.1
  cases hm : muchT xs 20 with
  | true =>
    rw [hm] at CM
    go_enter Try.func3, Try.ntmps3
    go_wp2_with fail
    refine CM.out.mono ?_
    rintro e w1 ⟨rfl, hb1⟩
    go_wp2_with fail
    refine (works12 _).mono ?_
    rintro e w2 ⟨rfl, hb2⟩
    go_wp2
    go_ret
    exact ⟨rfl, hb1.trans (hb2.mono hb1.size)⟩
  | false =>
    obtain ⟨hl20, hsm⟩ := muchT_no hm
    have hby := chs_bytes hx
    rw [hm] at CM
    go_enter Try.func3, Try.ntmps3
    go_wp2_with fail
    refine CM.out.mono ?_
    rintro e w1 ⟨rfl, hb1⟩
    go_wp2_with fail
    refine (Db.new_any 16 16 (.inl ⟨by omega, rfl⟩) w1).mono ?_
    rintro e w2 ⟨d, rfl, g, hd, hd1, hg1, hb2⟩
    go_wp2_with fail
    refine (New_any d g _ w2 hd).mono ?_
    rintro e w3 ⟨c, b, rfl, hc3, hc1, hbb1, hb3⟩
    obtain ⟨N, hN⟩ : ∃ N : Nat → Prop, N = fun j => j < w3.heap.size := ⟨_, rfl⟩
    rw [← hN] at hc3
    have hs1 := hb1.size
    have hs2 := hb2.size
    have hs3 := hb3.size
    have HBD : Hid (Bd w.heap.size c d g b N) := Lib.hid ⟨by omega, by omega, by omega, by omega, fun k hk => by rw [hN]; omega⟩
    have HB3 := Lib.hid ((hb1.trans (hb2.mono hs1)).trans (hb3.mono (by omega)))
    have HC3 := Lib.hid hc3
    clear hd hd1 hg1 hb1 hb2 hb3 hc3 hN hs1 hs2 hs3 hc1 hbb1 hm CM
    go_wp2
    go_loopw [5, 6] (fun va i wr => ∃ (k : Nat) (v : Value) (S : St) (N : Nat → Prop) (L : List Chg), k ≤ xs.length ∧ i = .int .i64 k ∧ Ca wr c d g b N v S ∧ Hid (Inv S) ∧ Hid (S.dv.rd ≤ k ∧ S.last ≤ k) ∧ Hid (Bd w.heap.size c d g b N) ∧ Hid (∃ AA, Cl S AA ∧ L = AA.map un) ∧ (L.length ≤ k ∧ Hid (∀ x ∈ L, x.pd.length ≤ 300 ∧ x.needs.length ≤ 20)) ∧ OwnK (kN kChg (fun j => w.heap.size ≤ j)) wr w.heap.size 36 va L ∧ Hid (∀ j, va.ownBlock = some j → Far N c d g b j) ∧ Below w.heap.size w wr) (fun _ i _ => xs.length - (intOf i).toNat)
    case atStart => exact ⟨0, _, _, N, [], by omega, rfl, HC3.out, Lib.hid i0, Lib.hid ⟨by show (0 : Int) ≤ 0; decide, by show (0 : Int) ≤ 0; decide⟩, HBD, Lib.hid ⟨[], Cl.new, rfl⟩, ⟨by simp, Lib.hid (fun x hx => by cases hx)⟩, OwnK.nil _ _ _ _, Lib.hid (fun j hj => by cases hj), HB3.out⟩
    case round =>
      obtain ⟨k, v, S, N, L, hk, rfl, hc, HIS, HRD, HBD, HCL, ⟨hLk, HSM⟩, ho, HFO, hbr⟩ := hrel
      obtain ⟨A9, c9, rfl, -, -, -, -⟩ := OwnK.rw_ (kN_weak ho)
      by_cases hlt : k < xs.length
      · obtain ⟨gx, ox, rfl, hgx⟩ := ch_form hx (by omega)
        obtain ⟨A1, c1, A2, c2, hat0⟩ := ch_at hx k hlt
        have hat := hat0.below hbr
        have hxm := List.getElem_mem hlt
        have hxb := hby _ hxm
        obtain ⟨hxp, hxn⟩ := hsm _ hxm
        generalize xs[k] = x at *
        have e0 := hat.v0
        have e1 := hat.v1
        have e2 := hat.v2
        have e3 : wr.cell? ⟨gx, ox + k * 5 + 3, none⟩ = _ := hat.v3
        have e4 := hat.v4
        have CG0 := Go_any x A1 c1 A2 c2 c d g b N v S wr hc HIS.out hat.s hxp hxn
        have HI2 := Lib.hid (goS_inv HIS.out hxb hxp hxn hat.ok.2.1 (by have := HRD.out; omega) (by have := HRD.out; omega))
        have HRD2 : Hid ((goS S x).dv.rd ≤ ((k + 1 : Nat) : Int) ∧ (goS S x).last ≤ ((k + 1 : Nat) : Int)) := Lib.hid (by have := goS_rd S x; have := HRD.out; omega)
        have HLAST : Hid ((L.length : Int) = S.last) := Lib.hid (by obtain ⟨AA, h1, h2⟩ := HCL.out; rw [h2, List.length_map]; exact h1.len)
        have HGN : Hid (x.id = 0 → goE S x = 0 → goN S x = S.last + 1) := Lib.hid (fun h0 hE => by
          unfold goE at hE
          unfold goN
          rw [if_pos h0] at hE ⊢
          unfold pN
          rw [if_pos hE])
        have HCL2 : Hid (∃ AA, Cl (goS S x) AA ∧ (if x.id = 0 ∧ goE S x = 0 then L ++ [x] else L) = AA.map un) := Lib.hid (by
          obtain ⟨AA, h1, h2⟩ := HCL.out
          refine ⟨_, h1.goS HIS.out x, ?_⟩
          by_cases hq : x.id = 0 ∧ goE S x = 0
          · rw [if_pos hq, if_pos hq, h2, List.map_append]
            congr 1
            show [x] = [_]
            congr 1
            obtain ⟨i1, i2, i3, i4, i5⟩ := x
            have : i1 = 0 := hq.1
            subst this
            rfl
          · rw [if_neg hq, if_neg hq]; exact h2)
        have HK0 : Hid (∀ wX, Below w.heap.size w wX → (kN kChg (fun j => w.heap.size ≤ j)).K wX (fun b => b < w.heap.size) x (chC x A1 c1 A2 c2).toList) := Lib.hid (fun wX hb => kChg.mono (fun b hb => ⟨hb, by have : b < w.heap.size := hb; omega⟩) (show kChg.K wX (fun b => b < w.heap.size) x (chC x A1 c1 A2 c2).toList from kChg.stay (w := w) (fun b hb' => hb.block b hb') (by have := hat0.s.k; exact this)))
        have HO := Lib.hid ho
        have HBR := Lib.hid hbr
        have HAT0 := Lib.hid hat0
        clear hc ho hbr hat hat0 hxb HCL HIS HRD
        generalize goS S x = S2 at *
        generalize goN S x = N2 at *
        generalize goE S x = E2 at *
        have CG := Lib.hid CG0
        clear CG0
        go_wp2_with fail
        refine CG.out.mono ?_
        rintro e w5 ⟨v5, rfl, hc5, ht5⟩
        have HC5 := Lib.hid hc5
        have HB5 := Lib.hid (Tn.bel HBR.out ht5 HBD.out)
        have HO5 := Lib.hid (own_stay2 HO.out (fun j hj => ht5.block j (HFO.out j hj)) (fun j hj _ => ht5.block j ⟨HBD.out.n j (by omega), by have := HBD.out.c; omega, by have := HBD.out.d; omega, by have := HBD.out.g; omega, by have := HBD.out.b; omega⟩) ht5.size)
        have hat5 := HAT0.out.below HB5.out
        clear hc5 ht5 CG HBR HO e0 e1 e2 e3 e4
        have e0 := hat5.v0
        by_cases hp : x.id = 0 ∧ E2 = 0
        · obtain ⟨hp0, hpE⟩ := hp
          subst hpE
          have q0 : (x.id == 0) = true := by rw [hp0]; rfl
          have hN2 : N2 = ((L.length + 1 : Nat) : Int) := by have h1 := HGN.out hp0 rfl; have h2 := HLAST.out; omega
          subst hN2
          rw [if_pos ⟨hp0, rfl⟩] at HCL2
          have e1 := hat5.v1
          have e2 := hat5.v2
          have e3 : w5.cell? ⟨gx, ox + k * 5 + 3, none⟩ = _ := hat5.v3
          have e4 := hat5.v4
          have hL2k : (L ++ [x]).length ≤ k + 1 ∧ Hid (∀ y ∈ L ++ [x], y.pd.length ≤ 300 ∧ y.needs.length ≤ 20) := ⟨by simp; omega, Lib.hid (fun y hy => by
            rcases List.mem_append.1 hy with h | h
            · exact HSM.out y h
            · rw [List.mem_singleton] at h; subst h; exact ⟨hxp, hxn⟩)⟩
          obtain ⟨L2, hL2⟩ : ∃ L2, L ++ [x] = L2 := ⟨_, rfl⟩
          have hLL : L.length + 1 = L2.length := by rw [← hL2]; simp
          rw [hL2] at HCL2 hL2k
          rw [hLL]
          have HL2 := Lib.hid hL2
          have hrow : Row (w5.alloc (.cells (chC x A1 c1 A2 c2) 36)) w5.heap.size 36 (chC x A1 c1 A2 c2).toList.toArray := by rw [Array.toArray_toList]; exact Row.new w5 _ _
          have hO6 := HO5.out.alloc (.cells (chC x A1 c1 A2 c2) 36)
          have HB6 := Lib.hid (HB5.out.alloc HB5.out.size (.cells (chC x A1 c1 A2 c2) 36))
          have hK := HK0.out _ HB6.out
          have HLT := Lib.hid HO5.out.lt
          have hle6 : w.heap.size ≤ (w5.alloc (.cells (chC x A1 c1 A2 c2) 36)).heap.size := HB6.out.size
          clear hat5 hL2 hLL hp0
          go_wp2_with (at_builtin; go_loud (refine wpList_appK (k := kN kChg (fun j => w.heap.size ≤ j)) rfl _ _ 22 rfl (.agg chZ) 72 Try.underlying22 stpInfo3 rfl (show 0 < 5 by decide) rfl _ _ rfl hO6 36 (chC x A1 c1 A2 c2).toList hrow x _ hK (fun b hb => ⟨fun e => by have := HLT.out b e.symm; omega, Nat.lt_of_lt_of_le hb hle6⟩) (by omega) (by omega) hle6 ?_); intro wv wz hown7 hg7 hat7; rw [HL2.out] at hown7; obtain ⟨Aa, ca, rfl, -, -, -, -⟩ := OwnK.rw_ (kN_weak hown7); clear hO6 hrow hK e0 e1 e2 e3 e4)
          have hsame : ∀ j, j < w5.heap.size → ¬ Far N c d g b j → wz.heap[j]? = w5.heap[j]? := fun j h1 h2 =>
            (hg7.block j (by simp; omega) (fun e => h2 (HFO.out j e.symm))).trans ((bb0 w5 (.cells (chC x A1 c1 A2 c2) 36)).block j h1)
          have hsz : w5.heap.size < wz.heap.size := by have := hg7.size; simp at this; omega
          have hc7 := HC5.out.grow2 hsame (by omega)
          obtain ⟨Nz, hNz⟩ : ∃ Nz : Nat → Prop, Nz = fun j => N j ∨ (w5.heap.size ≤ j ∧ j < wz.heap.size) := ⟨_, rfl⟩
          rw [← hNz] at hc7
          have HBDz : Hid (Bd w.heap.size c d g b Nz) := Lib.hid (by rw [hNz]; exact HBD.out.or)
          have HFOz : Hid (∀ j, (Value.slice Aa L2.length ca).ownBlock = some j → Far Nz c d g b j) := Lib.hid (fun j hj => by
            rw [hNz]
            rcases hat7 with e | e
            · rw [e] at hj
              have := HFO.out j hj
              exact ⟨.inl this.n, this.c, this.d, this.g, this.b⟩
            · have h1 := (OwnK.lt hown7 j hj).2
              rw [e] at hj
              injection hj with hj
              have hj : w5.heap.size + 1 = j := by rw [← hj]; simp
              exact ⟨.inr ⟨by omega, h1⟩, by have := HC5.out.row.lt; omega, by have := HC5.out.dev.1.lt; omega, by have := HC5.out.dev.2.1.2.2; omega, by have := HC5.out.map.lt; omega⟩)
          have HO : Hid (OwnK (kN kChg (fun j => w.heap.size ≤ j)) wz w.heap.size 36 (.slice Aa L2.length ca) L2) := Lib.hid hown7
          have HC := Lib.hid hc7
          have HB := Lib.hid (HB6.out.grown hg7 hle6 (fun q hq => (HLT.out q hq).1))
          have HCL := HCL2
          have HBD := HBDz
          have HFO := HFOz
          clear hsame hsz hc7 hNz hown7 hg7 hat7 HB6 HC5 HB5 HO5 HLT HL2 HCL2 HBDz HFOz hle6 HK0 HAT0 HGN HLAST HSM
          have b8 : Below wz.heap.size wz (wz.alloc (.cells (blk (List.replicate 4096 0)) 39)) := bb0 _ _
          have hc8 := HC.out.grow b8
          obtain ⟨N8, hN8⟩ : ∃ N8 : Nat → Prop, N8 = fun j => Nz j ∨ (wz.heap.size ≤ j ∧ j < (wz.alloc (.cells (blk (List.replicate 4096 0)) 39)).heap.size) := ⟨_, rfl⟩
          rw [← hN8] at hc8
          have FK : Far N8 c d g b wz.heap.size := ⟨by rw [hN8]; exact .inr ⟨Nat.le_refl _, by simp⟩, by have := HC.out.row.lt; omega, by have := HC.out.dev.1.lt; omega, by have := HC.out.dev.2.1.2.2; omega, by have := HC.out.map.lt; omega⟩
          have HBD8 : Hid (Bd w.heap.size c d g b N8) := Lib.hid (by rw [hN8]; exact HBD.out.or)
          have HFO8 : Hid (∀ j, (Value.slice Aa L2.length ca).ownBlock = some j → Far N8 c d g b j) := Lib.hid (fun j hj => ⟨by rw [hN8]; exact .inl (HFO.out j hj).n, (HFO.out j hj).c, (HFO.out j hj).d, (HFO.out j hj).g, (HFO.out j hj).b⟩)
          have HOK : Hid (∀ j, (Value.slice Aa L2.length ca).ownBlock = some j → j < wz.heap.size) := Lib.hid (fun j hj => (HO.out.lt j hj).2)
          have HO8 := Lib.hid (HO.out.alloc (.cells (blk (List.replicate 4096 0)) 39))
          have HBK8 := Lib.hid (bks_arr wz 39)
          have HB8 := Lib.hid (HB.out.trans (b8.mono HB.out.size))
          have HC8 := Lib.hid hc8
          have hkwB : w.heap.size ≤ wz.heap.size := HB.out.size
          clear b8 hc8 hN8 HC HBD HFO HO HB
          obtain ⟨kw, hkw⟩ : ∃ kw, wz.heap.size = kw := ⟨_, rfl⟩
          rw [hkw] at HBK8 FK HOK hkwB
          obtain ⟨AA, HCLA⟩ : ∃ AA, Hid (Cl S2 AA ∧ L2 = AA.map un) := ⟨HCL.out.choose, Lib.hid HCL.out.choose_spec⟩
          clear HCL
          go_wp2_with (with_reducible refine wpList_allocA rfl 39 rfl _ arrZero ?_)
          rw [hkw]
          clear hkw
          go_loopw [10] (fun i wr => ∃ (q : Nat) (W : List (List Nat)), q ≤ L2.length ∧ i = .int .i64 q ∧ Ca wr c d g b N8 v5 S2 ∧ OwnK (kN kChg (fun j => w.heap.size ≤ j)) wr w.heap.size 36 (.slice Aa L2.length ca) L2 ∧ Bks wr kw W ∧ Hid (Wq W S2 AA q) ∧ Below w.heap.size w wr) (fun i _ => L2.length - (intOf i).toNat)
          case atStart => exact ⟨0, _, by omega, rfl, HC8.out, HO8.out, HBK8.out, Lib.hid ⟨List.length_replicate, fun i hi => by rw [List.getElem?_replicate, if_pos hi]; rfl⟩, HB8.out⟩
          case round =>
            obtain ⟨q, W, hq, rfl, hc, ho, hbk, HWQ, hbr⟩ := hrel
            by_cases hlt2 : q < L2.length
            · have hqA : q < AA.length := by have := HCLA.out.2; rw [this] at hlt2; simpa using hlt2
              have hAq : AA[q].id = (q : Int) + 1 := HCLA.out.1.ids q hqA
              have CD := Lib.hid (Done_any ((q : Int) + 1) c d g b N8 v5 S2 wr hc)
              have HC := Lib.hid hc
              have HO := Lib.hid ho
              have HBK := Lib.hid hbk
              have HBR := Lib.hid hbr
              clear hc ho hbk hbr HC8 HO8 HBK8 HB8
              cases hD : doneB S2 ((q : Int) + 1) with
              | false =>
                rw [hD] at CD
                have HWQ2 := Lib.hid (HWQ.out.skip hqA (by rw [hAq]; exact hD))
                clear hD hqA hAq
                go_wp2_with fail
                refine CD.out.mono ?_
                rintro e we ⟨rfl, hbe⟩
                have HCe := Lib.hid (HC.out.below hbe)
                have HOe := Lib.hid (OwnK.below HO.out hbe)
                have HBKe := Lib.hid (Bks.below HBK.out hbe)
                have HBe := Lib.hid (HBR.out.trans (hbe.mono HBR.out.size))
                clear hbe CD HC HO HBK HBR
                go_wp2
                go_roundw
                case rel => exact ⟨q + 1, W, by omega, by go_num, HCe.out, HOe.out, HBKe.out, HWQ2, HBe.out⟩
                case measure => simp [intOf]; omega
              | true =>
                rw [hD] at CD
                have hLq : L2[q] = un AA[q] := by have := HCLA.out.2; simp only [this, List.getElem_map]
                obtain ⟨i0, hi0⟩ : ∃ i0 : Nat, AA[q].blk = (i0 : Int) := ⟨AA[q].blk.toNat, by have := (HCLA.out.1.bl _ (List.getElem_mem hqA)).1; omega⟩
                have hi16 : i0 < 16 := by have := (HCLA.out.1.bl _ (List.getElem_mem hqA)).2; omega
                have hi16z : (i0 : Int) < 16 := by omega
                have HWQ2 := Lib.hid (HWQ.out.next hqA (by rw [hAq]; exact hD) hi0 hi16)
                have HND : Hid (∀ n ∈ L2[q].needs, doneB S2 n = true) := Lib.hid (by rw [hLq]; exact HCLA.out.1.dn AA[q] (List.getElem_mem hqA) (by rw [hAq]; exact hD))
                have hlp : L2[q].pd.length ≤ 300 := (hL2k.2.out _ (List.getElem_mem hlt2)).1
                have hln : L2[q].needs.length ≤ 20 := (hL2k.2.out _ (List.getElem_mem hlt2)).2
                have hqb : L2[q].blk = (i0 : Int) := by rw [hLq]; exact hi0
                rw [show AA[q].pa = L2[q].pa from by rw [hLq], show AA[q].pd = L2[q].pd from by rw [hLq]] at HWQ2
                have hWl := HWQ.out.1
                have hLg := HWQ.out.2 i0 hi16
                have hLl : (laidF (i0 : Int) (doneB S2) zblk (AA.take q)).length = 256 := by rw [laidF_len]; exact zblk_length
                obtain ⟨La, hLa⟩ : ∃ La, laidF (i0 : Int) (doneB S2) zblk (AA.take q) = La := ⟨_, rfl⟩
                rw [hLa] at hLg hLl HWQ2
                clear hD hAq hi0 hLa hLq HWQ
                go_wp2_with fail
                refine CD.out.mono ?_
                rintro e we ⟨rfl, hbe⟩
                have HCe := Lib.hid (HC.out.below hbe)
                have HOe := Lib.hid (OwnK.below HO.out hbe)
                have hBW0 := Bks.below HBK.out hbe
                have HBe := Lib.hid (HBR.out.trans (hbe.mono HBR.out.size))
                clear hbe CD HC HO HBK HBR
                have hLx := own_chsA HOe.out
                obtain ⟨ga, oa, rfl, hga⟩ := ch_form hLx (by omega)
                have hgk : ¬ ga = kw := by have := HOK.out ga rfl; omega
                obtain ⟨A1', c1', A2', c2', hat⟩ := ch_at hLx q hlt2
                obtain ⟨x, hxq⟩ : ∃ x, L2[q] = x := ⟨_, rfl⟩
                rw [hxq] at hat hlp hln hqb HND HWQ2
                have HXQ := Lib.hid hxq
                clear hxq
                have e1 := hat.v1
                rw [hqb] at e1
                have HAT := Lib.hid hat
                clear hat hLx
                go_wp2_with fail
                have e1d : we.drew.cell? ⟨ga, oa + q * 5 + 1, none⟩ = _ := e1
                have e2d : we.drew.cell? ⟨ga, oa + q * 5 + 2, none⟩ = _ := HAT.out.v2
                have e3d : we.drew.cell? ⟨ga, oa + q * 5 + 2 + 1, none⟩ = _ := HAT.out.v3
                have hMl : (layL La x.pa x.pd).length = 256 := (layL_length _ _ _).trans hLl
                have hLi := blkSizeL La hLl
                have hMi : (Try.prog.info? 38).map (·.size) = some (blk (layL La x.pa x.pd)).size := by rw [blk_size, hMl]; exact blkSize
                have hBW : Bks we.drew kw W := Bks.below hBW0 (Below.refl _ _).drew
                have hbyW : By we.drew A1' x.pd := Rw.drew HAT.out.p.2.2.2
                have HCD := Lib.hid (HCe.out.below (Below.refl _ _).drew)
                have HOD := Lib.hid (OwnK.below HOe.out (Below.refl _ _).drew)
                have HMS : Hid ((blk (layL La x.pa x.pd)).size = 256) := Lib.hid (by rw [blk_size]; exact hMl)
                have hbT := Below.refl we.drew.heap.size we.drew
                obtain ⟨Ma, hM⟩ : ∃ Ma, layL La x.pa x.pd = Ma := ⟨_, rfl⟩
                have CLY : ∀ (w' : World) (A' : Option Addr) (c' : Nat), Sl w' V8 A' x.pd.length x.pd → Calls Try.prog 14 #[.agg (blk La), patV x.pa A' x.pd.length c'] w' fun e w'' => e = .returned (.agg (blk Ma)) ∧ Below w'.heap.size w' w'' := fun w' A' c' hsl => by
                  have := lay_any La x.pa A' x.pd.length c' x.pd w' hLl hsl
                  rw [hM] at this
                  exact this
                have HCLY := Lib.hid CLY
                rw [hM] at hMl hMi HMS HWQ2
                clear hM CLY hBW0
                refine wp_region_held_drew (S := fun w' => World.grownBy (we.drew) w' (some (kw))) (by kernel_rfl) ?hb55 (fun hHeld => ?rest55)
                case hb55 =>
                  exact Mem.gb_refl _ _
                case' rest55 => skip
                have hCl := fun (wS : World) (hSw : World.grownBy (we.drew) wS (some (kw))) => And.intro (Mem.gb_cell hSw e1d (by intro e; injection e with e; dsimp only at e; omega)) <| And.intro (Mem.gb_cell hSw e2d (by intro e; injection e with e; dsimp only at e; omega)) <| Mem.gb_cell hSw e3d (by intro e; injection e with e; dsimp only at e; omega)
                replace hCl := Go.Lib.hid hCl
                refine Mem.tkY 0 ?v56 (hy := Or.inl ⟨by rfl, ?y56⟩) (hS := by assumption) (h := ?r56)
                case y56 => (intro w hSw; clear hSw; go_simp; try with_reducible rfl)
                case' r56 => skip
                refine Mem.tkY 1 ?v57 (hy := Or.inl ⟨by rfl, ?y57⟩) (hS := by assumption) (h := ?r57)
                case y57 => (intro w hSw; clear hSw; go_simp; try with_reducible rfl)
                case' r57 => skip
                refine Mem.tkY 2 ?v58 (hy := Or.inl ⟨by rfl, ?y58⟩) (hS := by assumption) (h := ?r58)
                case y58 => (intro w hSw; clear hSw; go_simp; try with_reducible rfl)
                case' r58 => skip
                try simp only [List.getElem_toArray, List.getElem_cons_succ, List.getElem_cons_zero, Act.put, List.setIfInBounds_toArray, List.set_cons_zero, List.set_cons_succ]
                refine Mem.tkY 3 ?v59 (hy := Or.inl ⟨by rfl, ?y59⟩) (hS := by assumption) (h := ?r59)
                case y59 => (intro w hSw; clear hSw; go_simp; try with_reducible rfl)
                case' r59 => skip
                refine Mem.tkY 4 ?v60 (hy := Or.inl ⟨by rfl, ?y60⟩) (hS := by assumption) (h := ?r60)
                case y60 => (intro w hSw; obtain ⟨hT0, hT1, hT2⟩ := hCl.out w hSw; clear hSw; go_simp; try with_reducible rfl)
                case' r60 => skip
                refine Mem.tkY 5 ?v61 (hy := Or.inl ⟨by rfl, ?y61⟩) (hS := by assumption) (h := ?r61)
                case y61 => (intro w hSw; clear hSw; go_simp; try with_reducible rfl)
                case' r61 => skip
                try simp only [List.getElem_toArray, List.getElem_cons_succ, List.getElem_cons_zero, Act.put, List.setIfInBounds_toArray, List.set_cons_zero, List.set_cons_succ]
                refine Mem.tkY 6 ?v62 (hy := Or.inl ⟨by rfl, ?y62⟩) (hS := by assumption) (h := ?r62)
                case y62 => (intro w hSw; clear hSw; go_simp; try with_reducible rfl)
                case' r62 => skip
                refine Mem.tkY 7 ?v63 (hy := Or.inl ⟨by rfl, ?y63⟩) (hS := by assumption) (h := ?r63)
                case y63 => (intro w hSw; clear hSw; go_simp; try with_reducible rfl)
                case' r63 => skip
                refine Mem.tkY 8 ?v64 (hy := Or.inl ⟨by rfl, ?y64⟩) (hS := by assumption) (h := ?r64)
                case y64 => (intro w hSw; clear hSw; go_simp; try with_reducible rfl)
                case' r64 => skip
                try simp only [List.getElem_toArray, List.getElem_cons_succ, List.getElem_cons_zero, Act.put, List.setIfInBounds_toArray, List.set_cons_zero, List.set_cons_succ]
                refine Mem.tkY 9 ?v65 (hy := Or.inl ⟨by rfl, ?y65⟩) (hS := by assumption) (h := ?r65)
                case y65 => (intro w hSw; obtain ⟨hT0, hT1, hT2⟩ := hCl.out w hSw; clear hSw; go_simp; try with_reducible rfl)
                case' r65 => skip
                refine Mem.tkY 10 ?v66 (hy := Or.inl ⟨by rfl, ?y66⟩) (hS := by assumption) (h := ?r66)
                case y66 => (intro w hSw; clear hSw; go_simp; try with_reducible rfl)
                case' r66 => skip
                refine Mem.tkY 12 ?v67 (hy := Or.inl ⟨by rfl, ?y67⟩) (hS := by assumption) (h := ?r67)
                case y67 => (intro w hSw; clear hSw; go_simp; try with_reducible rfl)
                case' r67 => skip
                try simp only [List.getElem_toArray, List.getElem_cons_succ, List.getElem_cons_zero, Act.put, List.setIfInBounds_toArray, List.set_cons_zero, List.set_cons_succ]
                refine Mem.tkY 13 ?v68 (hy := Or.inl ⟨by rfl, ?y68⟩) (hS := by assumption) (h := ?r68)
                case y68 => (intro w hSw; clear hSw; go_simp; try with_reducible rfl)
                case' r68 => skip
                refine Mem.tkY 14 ?v69 (hy := Or.inl ⟨by rfl, ?y69⟩) (hS := by assumption) (h := ?r69)
                case y69 => (intro w hSw; clear hSw; go_simp; try with_reducible rfl)
                case' r69 => skip
                refine Mem.tkY 15 ?v70 (hy := Or.inl ⟨by rfl, ?y70⟩) (hS := by assumption) (h := ?r70)
                case y70 => (intro w hSw; clear hSw; go_simp; try with_reducible rfl)
                case' r70 => skip
                try simp only [List.getElem_toArray, List.getElem_cons_succ, List.getElem_cons_zero, Act.put, List.setIfInBounds_toArray, List.set_cons_zero, List.set_cons_succ]
                refine Mem.tkY 16 ?v71 (hy := Or.inl ⟨by rfl, ?y71⟩) (hS := by assumption) (h := ?r71)
                case y71 => (intro w hSw; obtain ⟨hT0, hT1, hT2⟩ := hCl.out w hSw; clear hSw; go_simp; try with_reducible rfl)
                case' r71 => skip
                try simp only [List.getElem_toArray, List.getElem_cons_succ, List.getElem_cons_zero, Act.put, List.setIfInBounds_toArray, List.set_cons_zero, List.set_cons_succ]
                refine wpAnyH_ready (rs := [11, 17]) (by kernel_rfl) (by simp) ?_
                refine AllReadyH.cons rfl (fun K hK => ?_) ?_
                · skip
                  rw [if_pos (by rfl)]
                  refine wp_load_mid 38 _ (by rfl) kw (i0 * 256) (by rfl) (blk La).toList _ (hBW.1 i0 La hLg).2 blkUnd rfl hLi ?_; have hSnew := hHeld
                  refine hK.out _ _ ?_ (fun hHeld2 => ?_)
                  · exact hSnew
                  clear hK K hHeld hSnew
                  have hHeld := hHeld2
                  clear hHeld2
                  try simp only [List.getElem_toArray, List.getElem_cons_succ, List.getElem_cons_zero, Act.put, List.setIfInBounds_toArray, List.set_cons_zero, List.set_cons_succ]
                  refine wpAnyH_ready (rs := [17]) (by kernel_rfl) (by simp) ?_
                  refine AllReadyH.cons rfl (fun K hK => ?_) AllReadyH.nil
                  go_simp
                  (refine (to_any x.pa A1' c1' x.pd _ hbyW HAT.out.p.2.2.1 (by omega)).mono ?_; rintro e wb ⟨A', c', rfl, k1', k2', k3', hf, hbl⟩; have hSnew := Mem.gb_below hHeld hbl; replace hBW := Bks.below hBW hbl; have hbT := hbl; have hsl := Rw.sl_byte (hf.mono (fun j hj => hj.2)); clear hf hbl)
                  try go_wp2_with fail
                  refine hK.out _ _ ?_ (fun hHeld2 => ?_)
                  · exact hSnew
                  clear hK K hHeld hSnew
                  have hHeld := hHeld2
                  clear hHeld2
                  try simp only [List.getElem_toArray, List.getElem_cons_succ, List.getElem_cons_zero, Act.put, List.setIfInBounds_toArray, List.set_cons_zero, List.set_cons_succ]
                  refine wpAnyH_ready (rs := [18]) (by kernel_rfl) (by simp) ?_
                  refine AllReadyH.cons rfl (fun K hK => ?_) AllReadyH.nil
                  go_simp
                  (refine (HCLY.out _ A' c' hsl).mono ?_; rintro e wl ⟨rfl, hbl⟩; have hSnew := Mem.gb_below hHeld hbl; replace hBW := Bks.below hBW hbl; replace hbT := hbT.trans (hbl.mono hbT.size); clear hbl hsl)
                  try go_wp2_with fail
                  refine hK.out _ _ ?_ (fun hHeld2 => ?_)
                  · exact hSnew
                  clear hK K hHeld hSnew
                  have hHeld := hHeld2
                  clear hHeld2
                  try simp only [List.getElem_toArray, List.getElem_cons_succ, List.getElem_cons_zero, Act.put, List.setIfInBounds_toArray, List.set_cons_zero, List.set_cons_succ]
                  refine Mem.tkY 19 ?v72 (hy := Or.inl ⟨by rfl, ?y72⟩) (hS := by assumption) (h := ?r72)
                  case y72 => (intro w hSw; clear hSw; go_simp; try with_reducible rfl)
                  case' r72 => skip
                  try simp only [List.getElem_toArray, List.getElem_cons_succ, List.getElem_cons_zero, Act.put, List.setIfInBounds_toArray, List.set_cons_zero, List.set_cons_succ]
                  refine wpAnyH_ready (rs := [20]) (by kernel_rfl) (by simp) ?_
                  refine AllReadyH.cons rfl (fun K hK => ?_) AllReadyH.nil
                  rw [if_pos (by rfl)]
                  refine wp_store_mid 38 _ _ (by rfl) kw (i0 * 256) (blk Ma) (by rfl) (by rfl) (fun j hj => by rw [HMS.out] at hj; have h := hBW.2.1 (i0 * 256 + j) (by rw [hWl]; omega); rwa [Nat.zero_add] at h) hMi (blk_one _) ?_; have hSnew := Db.gb_setCells hHeld (i0 * 256) (blk Ma).toList
                  refine hK.out _ _ ?_ (fun hHeld2 => ?_)
                  · exact hSnew
                  clear hK K hHeld hSnew
                  have hHeld := hHeld2
                  clear hHeld2
                  try simp only [List.getElem_toArray, List.getElem_cons_succ, List.getElem_cons_zero, Act.put, List.setIfInBounds_toArray, List.set_cons_zero, List.set_cons_succ]
                  refine wpAnyH_done (by kernel_rfl) ?_ _
                  clear hCl
                  have hCs := (HCD.out.below hbT).setCells FK (i0 * 256) (blk Ma).toList
                  have hOs := own_stay2 (w' := wl.setCells kw (i0 * 256) (blk Ma).toList) (OwnK.below HOD.out hbT) (fun j hj => Db.setCells_heap kw _ _ _ j (by have := HOK.out j hj; omega)) (fun j hj _ => Db.setCells_heap kw _ _ _ j (by omega)) (by rw [Db.setCells_size]; exact Nat.le_refl _)
                  have hKs := hBW.store (i := i0) hMl (by omega)
                  have hBs := below_setCells ((HBe.out.drew).trans (hbT.mono HBe.out.size)) hkwB (i0 * 256) (blk Ma).toList
                  generalize wl.setCells kw (i0 * 256) (blk Ma).toList = wf at hCs hOs hKs hBs ⊢
                  have HCf := Lib.hid hCs
                  have HOf := Lib.hid hOs
                  have HKf := Lib.hid hKs
                  have HBf := Lib.hid hBs
                  clear hCs hOs hKs hBs hHeld hBW hbT hbyW e1d e2d e3d HCD HOD hLi hMi hMl HCLY HCe HOe HBe e1 hLl hLg
                  go_wp2_with fail
                  go_loopw [11] (fun i wr => ∃ (m : Nat), m ≤ x.needs.length ∧ i = .int .i64 m ∧ Below wf.heap.size wf wr) (fun i _ => x.needs.length - (intOf i).toNat)
                  case atStart => exact ⟨0, by omega, rfl, Below.refl _ _⟩
                  case' round => skip
                  obtain ⟨m, hm, rfl, hbm⟩ := hrel
                  have hLx := own_chsA (OwnK.below HOf.out hbm)
                  obtain ⟨A3', c3', A4', c4', hat⟩ := ch_at hLx q hlt2
                  rw [HXQ.out] at hat
                  have e4 := hat.v4
                  have hns := hat.n.2.2.2
                  have hBM := Lib.hid hbm
                  clear hLx hat hbm
                  by_cases hlm : m < x.needs.length
                  · obtain ⟨gn, on, rfl, hgn, hcn⟩ := is_at hns m hlm
                    have hdm := HND.out _ (List.getElem_mem hlm)
                    have CD := Done_any x.needs[m] c d g b N8 v5 S2 wr (HCf.out.below hBM.out)
                    rw [hdm] at CD
                    have HCD := Lib.hid CD
                    clear hns hdm CD
                    generalize x.needs[m] = y at *
                    go_wp2_with fail
                    refine HCD.out.mono ?_
                    rintro e wn ⟨rfl, hbn⟩
                    have HBN := Lib.hid (hBM.out.trans (hbn.mono hBM.out.size))
                    clear hbn HCD hcn e4 hBM
                    go_wp2
                    go_roundw
                    case rel => exact ⟨m + 1, by omega, by go_num, HBN.out⟩
                    case measure => simp [intOf]; omega
                  · obtain rfl : m = x.needs.length := by omega
                    have HC3 := Lib.hid (HCf.out.below hBM.out)
                    have HO3 := Lib.hid (OwnK.below HOf.out hBM.out)
                    have HK3 := Lib.hid (Bks.below HKf.out hBM.out)
                    have HB3 := Lib.hid (HBf.out.trans (hBM.out.mono HBf.out.size))
                    clear hns hBM HCf HOf HKf HBf
                    go_wp2
                    go_roundw
                    case rel => exact ⟨q + 1, W.set i0 Ma, by omega, by go_num, HC3.out, HO3.out, HK3.out, HWQ2, HB3.out⟩
                    case measure => simp [intOf]; omega
                refine AllReadyH.cons rfl (fun K hK => ?_) ?_
                · skip
                  go_simp
                  (refine (to_any x.pa A1' c1' x.pd _ hbyW HAT.out.p.2.2.1 (by omega)).mono ?_; rintro e wb ⟨A', c', rfl, k1', k2', k3', hf, hbl⟩; have hSnew := Mem.gb_below hHeld hbl; replace hBW := Bks.below hBW hbl; have hbT := hbl; have hsl := Rw.sl_byte (hf.mono (fun j hj => hj.2)); clear hf hbl)
                  try go_wp2_with fail
                  refine hK.out _ _ ?_ (fun hHeld2 => ?_)
                  · exact hSnew
                  clear hK K hHeld hSnew
                  have hHeld := hHeld2
                  clear hHeld2
                  try simp only [List.getElem_toArray, List.getElem_cons_succ, List.getElem_cons_zero, Act.put, List.setIfInBounds_toArray, List.set_cons_zero, List.set_cons_succ]
                  refine wpAnyH_ready (rs := [11]) (by kernel_rfl) (by simp) ?_
                  refine AllReadyH.cons rfl (fun K hK => ?_) AllReadyH.nil
                  rw [if_pos (by rfl)]
                  refine wp_load_mid 38 _ (by rfl) kw (i0 * 256) (by rfl) (blk La).toList _ (hBW.1 i0 La hLg).2 blkUnd rfl hLi ?_; have hSnew := hHeld
                  refine hK.out _ _ ?_ (fun hHeld2 => ?_)
                  · exact hSnew
                  clear hK K hHeld hSnew
                  have hHeld := hHeld2
                  clear hHeld2
                  try simp only [List.getElem_toArray, List.getElem_cons_succ, List.getElem_cons_zero, Act.put, List.setIfInBounds_toArray, List.set_cons_zero, List.set_cons_succ]
                  refine wpAnyH_ready (rs := [18]) (by kernel_rfl) (by simp) ?_
                  refine AllReadyH.cons rfl (fun K hK => ?_) AllReadyH.nil
                  go_simp
                  (refine (HCLY.out _ A' c' hsl).mono ?_; rintro e wl ⟨rfl, hbl⟩; have hSnew := Mem.gb_below hHeld hbl; replace hBW := Bks.below hBW hbl; replace hbT := hbT.trans (hbl.mono hbT.size); clear hbl hsl)
                  try go_wp2_with fail
                  refine hK.out _ _ ?_ (fun hHeld2 => ?_)
                  · exact hSnew
                  clear hK K hHeld hSnew
                  have hHeld := hHeld2
                  clear hHeld2
                  try simp only [List.getElem_toArray, List.getElem_cons_succ, List.getElem_cons_zero, Act.put, List.setIfInBounds_toArray, List.set_cons_zero, List.set_cons_succ]
                  refine Mem.tkY 19 ?v73 (hy := Or.inl ⟨by rfl, ?y73⟩) (hS := by assumption) (h := ?r73)
                  case y73 => (intro w hSw; clear hSw; go_simp; try with_reducible rfl)
                  case' r73 => skip
                  try simp only [List.getElem_toArray, List.getElem_cons_succ, List.getElem_cons_zero, Act.put, List.setIfInBounds_toArray, List.set_cons_zero, List.set_cons_succ]
                  refine wpAnyH_ready (rs := [20]) (by kernel_rfl) (by simp) ?_
                  refine AllReadyH.cons rfl (fun K hK => ?_) AllReadyH.nil
                  rw [if_pos (by rfl)]
                  refine wp_store_mid 38 _ _ (by rfl) kw (i0 * 256) (blk Ma) (by rfl) (by rfl) (fun j hj => by rw [HMS.out] at hj; have h := hBW.2.1 (i0 * 256 + j) (by rw [hWl]; omega); rwa [Nat.zero_add] at h) hMi (blk_one _) ?_; have hSnew := Db.gb_setCells hHeld (i0 * 256) (blk Ma).toList
                  refine hK.out _ _ ?_ (fun hHeld2 => ?_)
                  · exact hSnew
                  clear hK K hHeld hSnew
                  have hHeld := hHeld2
                  clear hHeld2
                  try simp only [List.getElem_toArray, List.getElem_cons_succ, List.getElem_cons_zero, Act.put, List.setIfInBounds_toArray, List.set_cons_zero, List.set_cons_succ]
                  refine wpAnyH_done (by kernel_rfl) ?_ _
                  clear hCl
                  have hCs := (HCD.out.below hbT).setCells FK (i0 * 256) (blk Ma).toList
                  have hOs := own_stay2 (w' := wl.setCells kw (i0 * 256) (blk Ma).toList) (OwnK.below HOD.out hbT) (fun j hj => Db.setCells_heap kw _ _ _ j (by have := HOK.out j hj; omega)) (fun j hj _ => Db.setCells_heap kw _ _ _ j (by omega)) (by rw [Db.setCells_size]; exact Nat.le_refl _)
                  have hKs := hBW.store (i := i0) hMl (by omega)
                  have hBs := below_setCells ((HBe.out.drew).trans (hbT.mono HBe.out.size)) hkwB (i0 * 256) (blk Ma).toList
                  generalize wl.setCells kw (i0 * 256) (blk Ma).toList = wf at hCs hOs hKs hBs ⊢
                  have HCf := Lib.hid hCs
                  have HOf := Lib.hid hOs
                  have HKf := Lib.hid hKs
                  have HBf := Lib.hid hBs
                  clear hCs hOs hKs hBs hHeld hBW hbT hbyW e1d e2d e3d HCD HOD hLi hMi hMl HCLY HCe HOe HBe e1 hLl hLg
                  go_wp2_with fail
                  go_loopw [11] (fun i wr => ∃ (m : Nat), m ≤ x.needs.length ∧ i = .int .i64 m ∧ Below wf.heap.size wf wr) (fun i _ => x.needs.length - (intOf i).toNat)
                  case atStart => exact ⟨0, by omega, rfl, Below.refl _ _⟩
                  case' round => skip
                  obtain ⟨m, hm, rfl, hbm⟩ := hrel
                  have hLx := own_chsA (OwnK.below HOf.out hbm)
                  obtain ⟨A3', c3', A4', c4', hat⟩ := ch_at hLx q hlt2
                  rw [HXQ.out] at hat
                  have e4 := hat.v4
                  have hns := hat.n.2.2.2
                  have hBM := Lib.hid hbm
                  clear hLx hat hbm
                  by_cases hlm : m < x.needs.length
                  · obtain ⟨gn, on, rfl, hgn, hcn⟩ := is_at hns m hlm
                    have hdm := HND.out _ (List.getElem_mem hlm)
                    have CD := Done_any x.needs[m] c d g b N8 v5 S2 wr (HCf.out.below hBM.out)
                    rw [hdm] at CD
                    have HCD := Lib.hid CD
                    clear hns hdm CD
                    generalize x.needs[m] = y at *
                    go_wp2_with fail
                    refine HCD.out.mono ?_
                    rintro e wn ⟨rfl, hbn⟩
                    have HBN := Lib.hid (hBM.out.trans (hbn.mono hBM.out.size))
                    clear hbn HCD hcn e4 hBM
                    go_wp2
                    go_roundw
                    case rel => exact ⟨m + 1, by omega, by go_num, HBN.out⟩
                    case measure => simp [intOf]; omega
                  · obtain rfl : m = x.needs.length := by omega
                    have HC3 := Lib.hid (HCf.out.below hBM.out)
                    have HO3 := Lib.hid (OwnK.below HOf.out hBM.out)
                    have HK3 := Lib.hid (Bks.below HKf.out hBM.out)
                    have HB3 := Lib.hid (HBf.out.trans (hBM.out.mono HBf.out.size))
                    clear hns hBM HCf HOf HKf HBf
                    go_wp2
                    go_roundw
                    case rel => exact ⟨q + 1, W.set i0 Ma, by omega, by go_num, HC3.out, HO3.out, HK3.out, HWQ2, HB3.out⟩
                    case measure => simp [intOf]; omega
                exact AllReadyH.nil
            · obtain rfl : q = L2.length := by omega
              have HCI := Lib.hid (Db.image_any d g S2.dv wr hc.dev (by rw [HI2.out.len]; omega) (by rw [HI2.out.len]; omega))
              rw [HI2.out.len] at HCI
              have HEQ : Hid (∀ i : Nat, i < 16 → ∃ La : List Nat, W[i]? = some La ∧ S2.dv.bs[i]? = some La) := Lib.hid (fun i hi => by
                refine ⟨_, HWQ.out.2 i hi, ?_⟩
                rw [HCLA.out.1.bs i hi]
                have : AA.take L2.length = AA := by rw [HCLA.out.2, List.length_map, List.take_length]
                rw [this])
              have HC := Lib.hid hc
              have HO := Lib.hid ho
              have HBK := Lib.hid hbk
              have HBR := Lib.hid hbr
              clear hc ho hbk hbr HC8 HO8 HBK8 HB8 HWQ
              go_wp2_with fail
              refine HCI.out.mono ?_
              rintro e we ⟨gi, ci, rfl, hbi, hgi, hci1, hci2, hbe⟩
              have HCe := Lib.hid (HC.out.below hbe)
              have HOe := Lib.hid (OwnK.below HO.out hbe)
              have HKe := Lib.hid (Bks.below HBK.out hbe)
              have HIe := Lib.hid hbi
              have HBe := Lib.hid (HBR.out.trans (hbe.mono HBR.out.size))
              clear hbe HC HO HBK HBR hbi HCI
              go_wp2_with fail
              go_loopw [13] (fun i wr => ∃ (m : Nat), m ≤ 16 ∧ i = .int .i64 m ∧ Below we.heap.size we wr) (fun i _ => 16 - (intOf i).toNat)
              case atStart => exact ⟨0, by omega, rfl, Below.refl _ _⟩
              case round =>
                obtain ⟨m, hm, rfl, hbm⟩ := hrel
                by_cases hlm : m < 16
                · obtain ⟨La, hWa, hSa⟩ := HEQ.out m hlm
                  have hKm := Bks.below HKe.out hbm
                  have hIm := Bks.below HIe.out hbm
                  have r1 : wr.drew.rangeAt kw (m * 256) (blk La).toList := (hKm.1 m La hWa).2
                  have r2 : wr.drew.rangeAt gi (m * 256) (blk La).toList := (hIm.1 m La hSa).2
                  have hg1 := hKm.2.2
                  have hg2 := hIm.2.2
                  have hfl := (hKm.1 m La hWa).1
                  have hi : (Try.prog.info? 38).map (·.size) = some (blk La).toList.length := blkSizeL La hfl
                  have heq : ∀ w, (Op.equalIn 10000 38 (.agg (blk La)) (.agg (blk La))).run Try.prog w = .ok true w := fun w => by rw [run_eq_blk _ _ hfl hfl, decide_eq_true rfl]
                  have hgd := blkGuard
                  have HBM := Lib.hid hbm
                  clear hKm hIm hfl hWa hSa hbm
                  go_wp2_with fail
                  refine wp_region_held_drew (S := Go.RowKit.Below ((wr.drew).heap.size) (wr.drew)) (by kernel_rfl) ?hb79 (fun hHeld => ?rest79)
                  case hb79 =>
                    exact Go.RowKit.Below.refl _ _
                  case' rest79 => skip
                  refine Mem.tkY 0 ?v80 (hy := Or.inl ⟨by rfl, ?y80⟩) (hS := by assumption) (h := ?r80)
                  case y80 => (intro w hSw; clear hSw; go_simp; try with_reducible rfl)
                  case' r80 => skip
                  refine Mem.tkY 1 ?v81 (hy := Or.inl ⟨by rfl, ?y81⟩) (hS := by assumption) (h := ?r81)
                  case y81 => (intro w hSw; clear hSw; go_simp; try with_reducible rfl)
                  case' r81 => skip
                  refine Mem.tkY 2 ?v82 (hy := Or.inl ⟨by rfl, ?y82⟩) (hS := by assumption) (h := ?r82)
                  case y82 => (intro w hSw; clear hSw; go_simp; try with_reducible rfl)
                  case' r82 => skip
                  try simp only [List.getElem_toArray, List.getElem_cons_succ, List.getElem_cons_zero, Act.put, List.setIfInBounds_toArray, List.set_cons_zero, List.set_cons_succ]
                  refine Mem.tkY 3 ?v83 (hy := Or.inl ⟨by rfl, ?y83⟩) (hS := by assumption) (h := ?r83)
                  case y83 => (intro w hSw; clear hSw; go_simp; try with_reducible rfl)
                  case' r83 => skip
                  try simp only [List.getElem_toArray, List.getElem_cons_succ, List.getElem_cons_zero, Act.put, List.setIfInBounds_toArray, List.set_cons_zero, List.set_cons_succ]
                  first | refine Mem.tkY 4 undef (hy := Or.inr ⟨by rfl, rfl⟩) (hS := by assumption) (h := ?r84) | (refine Mem.tkY 4 ?v84 (hy := Or.inl ⟨by rfl, ?y84⟩) (hS := by assumption) (h := ?r84); case y84 => (intro w hSw; clear hSw; go_simp; try with_reducible rfl))
                  case' r84 => skip
                  try simp only [List.getElem_toArray, List.getElem_cons_succ, List.getElem_cons_zero, Act.put, List.setIfInBounds_toArray, List.set_cons_zero, List.set_cons_succ]
                  first | refine Mem.tkY 5 undef (hy := Or.inr ⟨by rfl, rfl⟩) (hS := by assumption) (h := ?r85) | (refine Mem.tkY 5 ?v85 (hy := Or.inl ⟨by rfl, ?y85⟩) (hS := by assumption) (h := ?r85); case y85 => (intro w hSw; clear hSw; go_simp; try with_reducible rfl))
                  case' r85 => skip
                  try simp only [List.getElem_toArray, List.getElem_cons_succ, List.getElem_cons_zero, Act.put, List.setIfInBounds_toArray, List.set_cons_zero, List.set_cons_succ]
                  first | refine Mem.tkY 6 undef (hy := Or.inr ⟨by rfl, rfl⟩) (hS := by assumption) (h := ?r86) | (refine Mem.tkY 6 ?v86 (hy := Or.inl ⟨by rfl, ?y86⟩) (hS := by assumption) (h := ?r86); case y86 => (intro w hSw; clear hSw; go_simp; try with_reducible rfl))
                  case' r86 => skip
                  first
                    | refine' wpAnyH_take (i := 7) (v := _) rfl (by kernel_rfl) (by kernel_rfl) (by kernel_rfl) (fun _ _ _ h => h) (yieldsIf_load_mid (by rfl) _ _ rfl _ _ rfl _ _ (fun w hSw => Mem.range_below hSw (by first | omega | (simp <;> omega)) r2) blkUnd rfl hi) (by assumption) ?rest87
                    | refine wpAnyH_take (i := 7) (v := undef) rfl (by kernel_rfl) (by kernel_rfl) (by kernel_rfl) (fun _ _ _ h => h) (Or.inr ⟨by rfl, rfl⟩) (by assumption) ?rest87
                  case' rest87 => skip
                  try simp only [List.getElem_toArray, List.getElem_cons_succ, List.getElem_cons_zero, Act.put, List.setIfInBounds_toArray, List.set_cons_zero, List.set_cons_succ]
                  try simp only [List.getElem_toArray, List.getElem_cons_succ, List.getElem_cons_zero, Act.put, List.setIfInBounds_toArray, List.set_cons_zero, List.set_cons_succ]
                  first | refine Mem.tkY 8 undef (hy := Or.inr ⟨by rfl, rfl⟩) (hS := by assumption) (h := ?r88) | (refine Mem.tkY 8 ?v88 (hy := Or.inl ⟨by rfl, ?y88⟩) (hS := by assumption) (h := ?r88); case y88 => (intro w hSw; clear hSw; go_simp; try with_reducible rfl))
                  case' r88 => skip
                  try simp only [List.getElem_toArray, List.getElem_cons_succ, List.getElem_cons_zero, Act.put, List.setIfInBounds_toArray, List.set_cons_zero, List.set_cons_succ]
                  first | refine Mem.tkY 9 undef (hy := Or.inr ⟨by rfl, rfl⟩) (hS := by assumption) (h := ?r89) | (refine Mem.tkY 9 ?v89 (hy := Or.inl ⟨by rfl, ?y89⟩) (hS := by assumption) (h := ?r89); case y89 => (intro w hSw; clear hSw; go_simp; try with_reducible rfl))
                  case' r89 => skip
                  first
                    | refine' wpAnyH_take (i := 10) (v := _) rfl (by kernel_rfl) (by kernel_rfl) (by kernel_rfl) (fun _ _ _ h => h) (yieldsIf_load_mid (by rfl) _ _ rfl _ _ rfl _ _ (fun w hSw => Mem.range_below hSw (by first | omega | (simp <;> omega)) r1) blkUnd rfl hi) (by assumption) ?rest90
                    | refine wpAnyH_take (i := 10) (v := undef) rfl (by kernel_rfl) (by kernel_rfl) (by kernel_rfl) (fun _ _ _ h => h) (Or.inr ⟨by rfl, rfl⟩) (by assumption) ?rest90
                  case' rest90 => skip
                  try simp only [List.getElem_toArray, List.getElem_cons_succ, List.getElem_cons_zero, Act.put, List.setIfInBounds_toArray, List.set_cons_zero, List.set_cons_succ]
                  try simp only [List.getElem_toArray, List.getElem_cons_succ, List.getElem_cons_zero, Act.put, List.setIfInBounds_toArray, List.set_cons_zero, List.set_cons_succ]
                  first | refine Mem.tkY 11 undef (hy := Or.inr ⟨by rfl, rfl⟩) (hS := by assumption) (h := ?r91) | (refine Mem.tkY 11 ?v91 (hy := Or.inl ⟨by rfl, ?y91⟩) (hS := by assumption) (h := ?r91); case y91 => (intro w hSw; clear hSw; go_simp; try with_reducible rfl))
                  case' r91 => skip
                  refine Mem.tkY 12 ?v92 (hy := Or.inl ⟨by rfl, ?y92⟩) (hS := by assumption) (h := ?r92)
                  case y92 => (intro w hSw; clear hSw; go_simp; try with_reducible rfl)
                  case' r92 => skip
                  try simp only [List.getElem_toArray, List.getElem_cons_succ, List.getElem_cons_zero, Act.put, List.setIfInBounds_toArray, List.set_cons_zero, List.set_cons_succ]
                  refine wpAnyH_done (by kernel_rfl) ?_ _
                  go_wp2_with fail
                  go_roundw
                  case rel => exact ⟨m + 1, by omega, by go_num, HBM.out.trans (((Below.refl _ _).drew.trans hHeld).mono HBM.out.size)⟩
                  case measure => simp [intOf]; omega
                · obtain rfl : m = 16 := by omega
                  have HC3 := Lib.hid (HCe.out.below hbm)
                  have HO3 := Lib.hid (OwnK.below HOe.out hbm)
                  have HB3 := Lib.hid (HBe.out.trans (hbm.mono HBe.out.size))
                  clear hbm HCe HOe HKe HIe HBe
                  go_wp2
                  go_roundw
                  case rel => exact ⟨k + 1, v5, S2, N8, L2, by omega, by go_num, HC3.out, HI2, HRD2, HBD8, Lib.hid ⟨AA, HCLA.out⟩, hL2k, HO3.out, HFO8, HB3.out⟩
                  case measure => simp [intOf]; omega
        · have hL2k : L.length ≤ k + 1 ∧ Hid (∀ y ∈ L, y.pd.length ≤ 300 ∧ y.needs.length ≤ 20) := ⟨by omega, HSM⟩
          rw [if_neg hp] at HCL2
          obtain ⟨wz, hwz⟩ : ∃ wz, wz = w5 := ⟨_, rfl⟩
          subst hwz
          obtain ⟨Nz, hNz⟩ : ∃ Nz : Nat → Prop, Nz = N := ⟨_, rfl⟩
          subst hNz
          obtain ⟨L2, hL2⟩ : ∃ L2, L2 = L := ⟨_, rfl⟩
          subst hL2
          obtain ⟨Aa, hAa⟩ : ∃ Aa, Aa = A9 := ⟨_, rfl⟩
          subst hAa
          obtain ⟨ca, hca⟩ : ∃ ca, ca = c9 := ⟨_, rfl⟩
          subst hca
          have HO := HO5
          have HC := HC5
          have HB := HB5
          have HCL := HCL2
          clear hat5 HC5 HB5 HO5 HCL2 HK0 HAT0 HGN HLAST HSM
          by_cases hp0 : x.id = 0
          · have q0 : (x.id == 0) = true := by rw [hp0]; rfl
            have q1 : (E2 == 0) = false := beq_eq_false_iff_ne.2 (fun e => hp ⟨hp0, e⟩)
            clear hp hp0
            go_wp2_with fail
            clear e0 q0 q1
            have b8 : Below wz.heap.size wz (wz.alloc (.cells (blk (List.replicate 4096 0)) 39)) := bb0 _ _
            have hc8 := HC.out.grow b8
            obtain ⟨N8, hN8⟩ : ∃ N8 : Nat → Prop, N8 = fun j => Nz j ∨ (wz.heap.size ≤ j ∧ j < (wz.alloc (.cells (blk (List.replicate 4096 0)) 39)).heap.size) := ⟨_, rfl⟩
            rw [← hN8] at hc8
            have FK : Far N8 c d g b wz.heap.size := ⟨by rw [hN8]; exact .inr ⟨Nat.le_refl _, by simp⟩, by have := HC.out.row.lt; omega, by have := HC.out.dev.1.lt; omega, by have := HC.out.dev.2.1.2.2; omega, by have := HC.out.map.lt; omega⟩
            have HBD8 : Hid (Bd w.heap.size c d g b N8) := Lib.hid (by rw [hN8]; exact HBD.out.or)
            have HFO8 : Hid (∀ j, (Value.slice Aa L2.length ca).ownBlock = some j → Far N8 c d g b j) := Lib.hid (fun j hj => ⟨by rw [hN8]; exact .inl (HFO.out j hj).n, (HFO.out j hj).c, (HFO.out j hj).d, (HFO.out j hj).g, (HFO.out j hj).b⟩)
            have HOK : Hid (∀ j, (Value.slice Aa L2.length ca).ownBlock = some j → j < wz.heap.size) := Lib.hid (fun j hj => (HO.out.lt j hj).2)
            have HO8 := Lib.hid (HO.out.alloc (.cells (blk (List.replicate 4096 0)) 39))
            have HBK8 := Lib.hid (bks_arr wz 39)
            have HB8 := Lib.hid (HB.out.trans (b8.mono HB.out.size))
            have HC8 := Lib.hid hc8
            have hkwB : w.heap.size ≤ wz.heap.size := HB.out.size
            clear b8 hc8 hN8 HC HBD HFO HO HB
            obtain ⟨kw, hkw⟩ : ∃ kw, wz.heap.size = kw := ⟨_, rfl⟩
            rw [hkw] at HBK8 FK HOK hkwB
            obtain ⟨AA, HCLA⟩ : ∃ AA, Hid (Cl S2 AA ∧ L2 = AA.map un) := ⟨HCL.out.choose, Lib.hid HCL.out.choose_spec⟩
            clear HCL
            go_wp2_with (with_reducible refine wpList_allocA rfl 39 rfl _ arrZero ?_)
            rw [hkw]
            clear hkw
            go_loopw [10] (fun i wr => ∃ (q : Nat) (W : List (List Nat)), q ≤ L2.length ∧ i = .int .i64 q ∧ Ca wr c d g b N8 v5 S2 ∧ OwnK (kN kChg (fun j => w.heap.size ≤ j)) wr w.heap.size 36 (.slice Aa L2.length ca) L2 ∧ Bks wr kw W ∧ Hid (Wq W S2 AA q) ∧ Below w.heap.size w wr) (fun i _ => L2.length - (intOf i).toNat)
            case atStart => exact ⟨0, _, by omega, rfl, HC8.out, HO8.out, HBK8.out, Lib.hid ⟨List.length_replicate, fun i hi => by rw [List.getElem?_replicate, if_pos hi]; rfl⟩, HB8.out⟩
            case round =>
              obtain ⟨q, W, hq, rfl, hc, ho, hbk, HWQ, hbr⟩ := hrel
              by_cases hlt2 : q < L2.length
              · have hqA : q < AA.length := by have := HCLA.out.2; rw [this] at hlt2; simpa using hlt2
                have hAq : AA[q].id = (q : Int) + 1 := HCLA.out.1.ids q hqA
                have CD := Lib.hid (Done_any ((q : Int) + 1) c d g b N8 v5 S2 wr hc)
                have HC := Lib.hid hc
                have HO := Lib.hid ho
                have HBK := Lib.hid hbk
                have HBR := Lib.hid hbr
                clear hc ho hbk hbr HC8 HO8 HBK8 HB8
                cases hD : doneB S2 ((q : Int) + 1) with
                | false =>
                  rw [hD] at CD
                  have HWQ2 := Lib.hid (HWQ.out.skip hqA (by rw [hAq]; exact hD))
                  clear hD hqA hAq
                  go_wp2_with fail
                  refine CD.out.mono ?_
                  rintro e we ⟨rfl, hbe⟩
                  have HCe := Lib.hid (HC.out.below hbe)
                  have HOe := Lib.hid (OwnK.below HO.out hbe)
                  have HBKe := Lib.hid (Bks.below HBK.out hbe)
                  have HBe := Lib.hid (HBR.out.trans (hbe.mono HBR.out.size))
                  clear hbe CD HC HO HBK HBR
                  go_wp2
                  go_roundw
                  case rel => exact ⟨q + 1, W, by omega, by go_num, HCe.out, HOe.out, HBKe.out, HWQ2, HBe.out⟩
                  case measure => simp [intOf]; omega
                | true =>
                  rw [hD] at CD
                  have hLq : L2[q] = un AA[q] := by have := HCLA.out.2; simp only [this, List.getElem_map]
                  obtain ⟨i0, hi0⟩ : ∃ i0 : Nat, AA[q].blk = (i0 : Int) := ⟨AA[q].blk.toNat, by have := (HCLA.out.1.bl _ (List.getElem_mem hqA)).1; omega⟩
                  have hi16 : i0 < 16 := by have := (HCLA.out.1.bl _ (List.getElem_mem hqA)).2; omega
                  have hi16z : (i0 : Int) < 16 := by omega
                  have HWQ2 := Lib.hid (HWQ.out.next hqA (by rw [hAq]; exact hD) hi0 hi16)
                  have HND : Hid (∀ n ∈ L2[q].needs, doneB S2 n = true) := Lib.hid (by rw [hLq]; exact HCLA.out.1.dn AA[q] (List.getElem_mem hqA) (by rw [hAq]; exact hD))
                  have hlp : L2[q].pd.length ≤ 300 := (hL2k.2.out _ (List.getElem_mem hlt2)).1
                  have hln : L2[q].needs.length ≤ 20 := (hL2k.2.out _ (List.getElem_mem hlt2)).2
                  have hqb : L2[q].blk = (i0 : Int) := by rw [hLq]; exact hi0
                  rw [show AA[q].pa = L2[q].pa from by rw [hLq], show AA[q].pd = L2[q].pd from by rw [hLq]] at HWQ2
                  have hWl := HWQ.out.1
                  have hLg := HWQ.out.2 i0 hi16
                  have hLl : (laidF (i0 : Int) (doneB S2) zblk (AA.take q)).length = 256 := by rw [laidF_len]; exact zblk_length
                  obtain ⟨La, hLa⟩ : ∃ La, laidF (i0 : Int) (doneB S2) zblk (AA.take q) = La := ⟨_, rfl⟩
                  rw [hLa] at hLg hLl HWQ2
                  clear hD hAq hi0 hLa hLq HWQ
                  go_wp2_with fail
                  refine CD.out.mono ?_
                  rintro e we ⟨rfl, hbe⟩
                  have HCe := Lib.hid (HC.out.below hbe)
                  have HOe := Lib.hid (OwnK.below HO.out hbe)
                  have hBW0 := Bks.below HBK.out hbe
                  have HBe := Lib.hid (HBR.out.trans (hbe.mono HBR.out.size))
                  clear hbe CD HC HO HBK HBR
                  have hLx := own_chsA HOe.out
                  obtain ⟨ga, oa, rfl, hga⟩ := ch_form hLx (by omega)
                  have hgk : ¬ ga = kw := by have := HOK.out ga rfl; omega
                  obtain ⟨A1', c1', A2', c2', hat⟩ := ch_at hLx q hlt2
                  obtain ⟨x, hxq⟩ : ∃ x, L2[q] = x := ⟨_, rfl⟩
                  rw [hxq] at hat hlp hln hqb HND HWQ2
                  have HXQ := Lib.hid hxq
                  clear hxq
                  have e1 := hat.v1
                  rw [hqb] at e1
                  have HAT := Lib.hid hat
                  clear hat hLx
                  go_wp2_with fail
                  have e1d : we.drew.cell? ⟨ga, oa + q * 5 + 1, none⟩ = _ := e1
                  have e2d : we.drew.cell? ⟨ga, oa + q * 5 + 2, none⟩ = _ := HAT.out.v2
                  have e3d : we.drew.cell? ⟨ga, oa + q * 5 + 2 + 1, none⟩ = _ := HAT.out.v3
                  have hMl : (layL La x.pa x.pd).length = 256 := (layL_length _ _ _).trans hLl
                  have hLi := blkSizeL La hLl
                  have hMi : (Try.prog.info? 38).map (·.size) = some (blk (layL La x.pa x.pd)).size := by rw [blk_size, hMl]; exact blkSize
                  have hBW : Bks we.drew kw W := Bks.below hBW0 (Below.refl _ _).drew
                  have hbyW : By we.drew A1' x.pd := Rw.drew HAT.out.p.2.2.2
                  have HCD := Lib.hid (HCe.out.below (Below.refl _ _).drew)
                  have HOD := Lib.hid (OwnK.below HOe.out (Below.refl _ _).drew)
                  have HMS : Hid ((blk (layL La x.pa x.pd)).size = 256) := Lib.hid (by rw [blk_size]; exact hMl)
                  have hbT := Below.refl we.drew.heap.size we.drew
                  obtain ⟨Ma, hM⟩ : ∃ Ma, layL La x.pa x.pd = Ma := ⟨_, rfl⟩
                  have CLY : ∀ (w' : World) (A' : Option Addr) (c' : Nat), Sl w' V8 A' x.pd.length x.pd → Calls Try.prog 14 #[.agg (blk La), patV x.pa A' x.pd.length c'] w' fun e w'' => e = .returned (.agg (blk Ma)) ∧ Below w'.heap.size w' w'' := fun w' A' c' hsl => by
                    have := lay_any La x.pa A' x.pd.length c' x.pd w' hLl hsl
                    rw [hM] at this
                    exact this
                  have HCLY := Lib.hid CLY
                  rw [hM] at hMl hMi HMS HWQ2
                  clear hM CLY hBW0
                  refine wp_region_held_drew (S := fun w' => World.grownBy (we.drew) w' (some (kw))) (by kernel_rfl) ?hb147 (fun hHeld => ?rest147)
                  case hb147 =>
                    exact Mem.gb_refl _ _
                  case' rest147 => skip
                  have hCl := fun (wS : World) (hSw : World.grownBy (we.drew) wS (some (kw))) => And.intro (Mem.gb_cell hSw e1d (by intro e; injection e with e; dsimp only at e; omega)) <| And.intro (Mem.gb_cell hSw e2d (by intro e; injection e with e; dsimp only at e; omega)) <| Mem.gb_cell hSw e3d (by intro e; injection e with e; dsimp only at e; omega)
                  replace hCl := Go.Lib.hid hCl
                  refine Mem.tkY 0 ?v148 (hy := Or.inl ⟨by rfl, ?y148⟩) (hS := by assumption) (h := ?r148)
                  case y148 => (intro w hSw; clear hSw; go_simp; try with_reducible rfl)
                  case' r148 => skip
                  refine Mem.tkY 1 ?v149 (hy := Or.inl ⟨by rfl, ?y149⟩) (hS := by assumption) (h := ?r149)
                  case y149 => (intro w hSw; clear hSw; go_simp; try with_reducible rfl)
                  case' r149 => skip
                  refine Mem.tkY 2 ?v150 (hy := Or.inl ⟨by rfl, ?y150⟩) (hS := by assumption) (h := ?r150)
                  case y150 => (intro w hSw; clear hSw; go_simp; try with_reducible rfl)
                  case' r150 => skip
                  try simp only [List.getElem_toArray, List.getElem_cons_succ, List.getElem_cons_zero, Act.put, List.setIfInBounds_toArray, List.set_cons_zero, List.set_cons_succ]
                  refine Mem.tkY 3 ?v151 (hy := Or.inl ⟨by rfl, ?y151⟩) (hS := by assumption) (h := ?r151)
                  case y151 => (intro w hSw; clear hSw; go_simp; try with_reducible rfl)
                  case' r151 => skip
                  refine Mem.tkY 4 ?v152 (hy := Or.inl ⟨by rfl, ?y152⟩) (hS := by assumption) (h := ?r152)
                  case y152 => (intro w hSw; obtain ⟨hT0, hT1, hT2⟩ := hCl.out w hSw; clear hSw; go_simp; try with_reducible rfl)
                  case' r152 => skip
                  refine Mem.tkY 5 ?v153 (hy := Or.inl ⟨by rfl, ?y153⟩) (hS := by assumption) (h := ?r153)
                  case y153 => (intro w hSw; clear hSw; go_simp; try with_reducible rfl)
                  case' r153 => skip
                  try simp only [List.getElem_toArray, List.getElem_cons_succ, List.getElem_cons_zero, Act.put, List.setIfInBounds_toArray, List.set_cons_zero, List.set_cons_succ]
                  refine Mem.tkY 6 ?v154 (hy := Or.inl ⟨by rfl, ?y154⟩) (hS := by assumption) (h := ?r154)
                  case y154 => (intro w hSw; clear hSw; go_simp; try with_reducible rfl)
                  case' r154 => skip
                  refine Mem.tkY 7 ?v155 (hy := Or.inl ⟨by rfl, ?y155⟩) (hS := by assumption) (h := ?r155)
                  case y155 => (intro w hSw; clear hSw; go_simp; try with_reducible rfl)
                  case' r155 => skip
                  refine Mem.tkY 8 ?v156 (hy := Or.inl ⟨by rfl, ?y156⟩) (hS := by assumption) (h := ?r156)
                  case y156 => (intro w hSw; clear hSw; go_simp; try with_reducible rfl)
                  case' r156 => skip
                  try simp only [List.getElem_toArray, List.getElem_cons_succ, List.getElem_cons_zero, Act.put, List.setIfInBounds_toArray, List.set_cons_zero, List.set_cons_succ]
                  refine Mem.tkY 9 ?v157 (hy := Or.inl ⟨by rfl, ?y157⟩) (hS := by assumption) (h := ?r157)
                  case y157 => (intro w hSw; obtain ⟨hT0, hT1, hT2⟩ := hCl.out w hSw; clear hSw; go_simp; try with_reducible rfl)
                  case' r157 => skip
                  refine Mem.tkY 10 ?v158 (hy := Or.inl ⟨by rfl, ?y158⟩) (hS := by assumption) (h := ?r158)
                  case y158 => (intro w hSw; clear hSw; go_simp; try with_reducible rfl)
                  case' r158 => skip
                  refine Mem.tkY 12 ?v159 (hy := Or.inl ⟨by rfl, ?y159⟩) (hS := by assumption) (h := ?r159)
                  case y159 => (intro w hSw; clear hSw; go_simp; try with_reducible rfl)
                  case' r159 => skip
                  try simp only [List.getElem_toArray, List.getElem_cons_succ, List.getElem_cons_zero, Act.put, List.setIfInBounds_toArray, List.set_cons_zero, List.set_cons_succ]
                  refine Mem.tkY 13 ?v160 (hy := Or.inl ⟨by rfl, ?y160⟩) (hS := by assumption) (h := ?r160)
                  case y160 => (intro w hSw; clear hSw; go_simp; try with_reducible rfl)
                  case' r160 => skip
                  refine Mem.tkY 14 ?v161 (hy := Or.inl ⟨by rfl, ?y161⟩) (hS := by assumption) (h := ?r161)
                  case y161 => (intro w hSw; clear hSw; go_simp; try with_reducible rfl)
                  case' r161 => skip
                  refine Mem.tkY 15 ?v162 (hy := Or.inl ⟨by rfl, ?y162⟩) (hS := by assumption) (h := ?r162)
                  case y162 => (intro w hSw; clear hSw; go_simp; try with_reducible rfl)
                  case' r162 => skip
                  try simp only [List.getElem_toArray, List.getElem_cons_succ, List.getElem_cons_zero, Act.put, List.setIfInBounds_toArray, List.set_cons_zero, List.set_cons_succ]
                  refine Mem.tkY 16 ?v163 (hy := Or.inl ⟨by rfl, ?y163⟩) (hS := by assumption) (h := ?r163)
                  case y163 => (intro w hSw; obtain ⟨hT0, hT1, hT2⟩ := hCl.out w hSw; clear hSw; go_simp; try with_reducible rfl)
                  case' r163 => skip
                  try simp only [List.getElem_toArray, List.getElem_cons_succ, List.getElem_cons_zero, Act.put, List.setIfInBounds_toArray, List.set_cons_zero, List.set_cons_succ]
                  refine wpAnyH_ready (rs := [11, 17]) (by kernel_rfl) (by simp) ?_
                  refine AllReadyH.cons rfl (fun K hK => ?_) ?_
                  · skip
                    rw [if_pos (by rfl)]
                    refine wp_load_mid 38 _ (by rfl) kw (i0 * 256) (by rfl) (blk La).toList _ (hBW.1 i0 La hLg).2 blkUnd rfl hLi ?_; have hSnew := hHeld
                    refine hK.out _ _ ?_ (fun hHeld2 => ?_)
                    · exact hSnew
                    clear hK K hHeld hSnew
                    have hHeld := hHeld2
                    clear hHeld2
                    try simp only [List.getElem_toArray, List.getElem_cons_succ, List.getElem_cons_zero, Act.put, List.setIfInBounds_toArray, List.set_cons_zero, List.set_cons_succ]
                    refine wpAnyH_ready (rs := [17]) (by kernel_rfl) (by simp) ?_
                    refine AllReadyH.cons rfl (fun K hK => ?_) AllReadyH.nil
                    go_simp
                    (refine (to_any x.pa A1' c1' x.pd _ hbyW HAT.out.p.2.2.1 (by omega)).mono ?_; rintro e wb ⟨A', c', rfl, k1', k2', k3', hf, hbl⟩; have hSnew := Mem.gb_below hHeld hbl; replace hBW := Bks.below hBW hbl; have hbT := hbl; have hsl := Rw.sl_byte (hf.mono (fun j hj => hj.2)); clear hf hbl)
                    try go_wp2_with fail
                    refine hK.out _ _ ?_ (fun hHeld2 => ?_)
                    · exact hSnew
                    clear hK K hHeld hSnew
                    have hHeld := hHeld2
                    clear hHeld2
                    try simp only [List.getElem_toArray, List.getElem_cons_succ, List.getElem_cons_zero, Act.put, List.setIfInBounds_toArray, List.set_cons_zero, List.set_cons_succ]
                    refine wpAnyH_ready (rs := [18]) (by kernel_rfl) (by simp) ?_
                    refine AllReadyH.cons rfl (fun K hK => ?_) AllReadyH.nil
                    go_simp
                    (refine (HCLY.out _ A' c' hsl).mono ?_; rintro e wl ⟨rfl, hbl⟩; have hSnew := Mem.gb_below hHeld hbl; replace hBW := Bks.below hBW hbl; replace hbT := hbT.trans (hbl.mono hbT.size); clear hbl hsl)
                    try go_wp2_with fail
                    refine hK.out _ _ ?_ (fun hHeld2 => ?_)
                    · exact hSnew
                    clear hK K hHeld hSnew
                    have hHeld := hHeld2
                    clear hHeld2
                    try simp only [List.getElem_toArray, List.getElem_cons_succ, List.getElem_cons_zero, Act.put, List.setIfInBounds_toArray, List.set_cons_zero, List.set_cons_succ]
                    refine Mem.tkY 19 ?v164 (hy := Or.inl ⟨by rfl, ?y164⟩) (hS := by assumption) (h := ?r164)
                    case y164 => (intro w hSw; clear hSw; go_simp; try with_reducible rfl)
                    case' r164 => skip
                    try simp only [List.getElem_toArray, List.getElem_cons_succ, List.getElem_cons_zero, Act.put, List.setIfInBounds_toArray, List.set_cons_zero, List.set_cons_succ]
                    refine wpAnyH_ready (rs := [20]) (by kernel_rfl) (by simp) ?_
                    refine AllReadyH.cons rfl (fun K hK => ?_) AllReadyH.nil
                    rw [if_pos (by rfl)]
                    refine wp_store_mid 38 _ _ (by rfl) kw (i0 * 256) (blk Ma) (by rfl) (by rfl) (fun j hj => by rw [HMS.out] at hj; have h := hBW.2.1 (i0 * 256 + j) (by rw [hWl]; omega); rwa [Nat.zero_add] at h) hMi (blk_one _) ?_; have hSnew := Db.gb_setCells hHeld (i0 * 256) (blk Ma).toList
                    refine hK.out _ _ ?_ (fun hHeld2 => ?_)
                    · exact hSnew
                    clear hK K hHeld hSnew
                    have hHeld := hHeld2
                    clear hHeld2
                    try simp only [List.getElem_toArray, List.getElem_cons_succ, List.getElem_cons_zero, Act.put, List.setIfInBounds_toArray, List.set_cons_zero, List.set_cons_succ]
                    refine wpAnyH_done (by kernel_rfl) ?_ _
                    clear hCl
                    have hCs := (HCD.out.below hbT).setCells FK (i0 * 256) (blk Ma).toList
                    have hOs := own_stay2 (w' := wl.setCells kw (i0 * 256) (blk Ma).toList) (OwnK.below HOD.out hbT) (fun j hj => Db.setCells_heap kw _ _ _ j (by have := HOK.out j hj; omega)) (fun j hj _ => Db.setCells_heap kw _ _ _ j (by omega)) (by rw [Db.setCells_size]; exact Nat.le_refl _)
                    have hKs := hBW.store (i := i0) hMl (by omega)
                    have hBs := below_setCells ((HBe.out.drew).trans (hbT.mono HBe.out.size)) hkwB (i0 * 256) (blk Ma).toList
                    generalize wl.setCells kw (i0 * 256) (blk Ma).toList = wf at hCs hOs hKs hBs ⊢
                    have HCf := Lib.hid hCs
                    have HOf := Lib.hid hOs
                    have HKf := Lib.hid hKs
                    have HBf := Lib.hid hBs
                    clear hCs hOs hKs hBs hHeld hBW hbT hbyW e1d e2d e3d HCD HOD hLi hMi hMl HCLY HCe HOe HBe e1 hLl hLg
                    go_wp2_with fail
                    go_loopw [11] (fun i wr => ∃ (m : Nat), m ≤ x.needs.length ∧ i = .int .i64 m ∧ Below wf.heap.size wf wr) (fun i _ => x.needs.length - (intOf i).toNat)
                    case atStart => exact ⟨0, by omega, rfl, Below.refl _ _⟩
                    case' round => skip
                    obtain ⟨m, hm, rfl, hbm⟩ := hrel
                    have hLx := own_chsA (OwnK.below HOf.out hbm)
                    obtain ⟨A3', c3', A4', c4', hat⟩ := ch_at hLx q hlt2
                    rw [HXQ.out] at hat
                    have e4 := hat.v4
                    have hns := hat.n.2.2.2
                    have hBM := Lib.hid hbm
                    clear hLx hat hbm
                    by_cases hlm : m < x.needs.length
                    · obtain ⟨gn, on, rfl, hgn, hcn⟩ := is_at hns m hlm
                      have hdm := HND.out _ (List.getElem_mem hlm)
                      have CD := Done_any x.needs[m] c d g b N8 v5 S2 wr (HCf.out.below hBM.out)
                      rw [hdm] at CD
                      have HCD := Lib.hid CD
                      clear hns hdm CD
                      generalize x.needs[m] = y at *
                      go_wp2_with fail
                      refine HCD.out.mono ?_
                      rintro e wn ⟨rfl, hbn⟩
                      have HBN := Lib.hid (hBM.out.trans (hbn.mono hBM.out.size))
                      clear hbn HCD hcn e4 hBM
                      go_wp2
                      go_roundw
                      case rel => exact ⟨m + 1, by omega, by go_num, HBN.out⟩
                      case measure => simp [intOf]; omega
                    · obtain rfl : m = x.needs.length := by omega
                      have HC3 := Lib.hid (HCf.out.below hBM.out)
                      have HO3 := Lib.hid (OwnK.below HOf.out hBM.out)
                      have HK3 := Lib.hid (Bks.below HKf.out hBM.out)
                      have HB3 := Lib.hid (HBf.out.trans (hBM.out.mono HBf.out.size))
                      clear hns hBM HCf HOf HKf HBf
                      go_wp2
                      go_roundw
                      case rel => exact ⟨q + 1, W.set i0 Ma, by omega, by go_num, HC3.out, HO3.out, HK3.out, HWQ2, HB3.out⟩
                      case measure => simp [intOf]; omega
                  refine AllReadyH.cons rfl (fun K hK => ?_) ?_
                  · skip
                    go_simp
                    (refine (to_any x.pa A1' c1' x.pd _ hbyW HAT.out.p.2.2.1 (by omega)).mono ?_; rintro e wb ⟨A', c', rfl, k1', k2', k3', hf, hbl⟩; have hSnew := Mem.gb_below hHeld hbl; replace hBW := Bks.below hBW hbl; have hbT := hbl; have hsl := Rw.sl_byte (hf.mono (fun j hj => hj.2)); clear hf hbl)
                    try go_wp2_with fail
                    refine hK.out _ _ ?_ (fun hHeld2 => ?_)
                    · exact hSnew
                    clear hK K hHeld hSnew
                    have hHeld := hHeld2
                    clear hHeld2
                    try simp only [List.getElem_toArray, List.getElem_cons_succ, List.getElem_cons_zero, Act.put, List.setIfInBounds_toArray, List.set_cons_zero, List.set_cons_succ]
                    refine wpAnyH_ready (rs := [11]) (by kernel_rfl) (by simp) ?_
                    refine AllReadyH.cons rfl (fun K hK => ?_) AllReadyH.nil
                    rw [if_pos (by rfl)]
                    refine wp_load_mid 38 _ (by rfl) kw (i0 * 256) (by rfl) (blk La).toList _ (hBW.1 i0 La hLg).2 blkUnd rfl hLi ?_; have hSnew := hHeld
                    refine hK.out _ _ ?_ (fun hHeld2 => ?_)
                    · exact hSnew
                    clear hK K hHeld hSnew
                    have hHeld := hHeld2
                    clear hHeld2
                    try simp only [List.getElem_toArray, List.getElem_cons_succ, List.getElem_cons_zero, Act.put, List.setIfInBounds_toArray, List.set_cons_zero, List.set_cons_succ]
                    refine wpAnyH_ready (rs := [18]) (by kernel_rfl) (by simp) ?_
                    refine AllReadyH.cons rfl (fun K hK => ?_) AllReadyH.nil
                    go_simp
                    (refine (HCLY.out _ A' c' hsl).mono ?_; rintro e wl ⟨rfl, hbl⟩; have hSnew := Mem.gb_below hHeld hbl; replace hBW := Bks.below hBW hbl; replace hbT := hbT.trans (hbl.mono hbT.size); clear hbl hsl)
                    try go_wp2_with fail
                    refine hK.out _ _ ?_ (fun hHeld2 => ?_)
                    · exact hSnew
                    clear hK K hHeld hSnew
                    have hHeld := hHeld2
                    clear hHeld2
                    try simp only [List.getElem_toArray, List.getElem_cons_succ, List.getElem_cons_zero, Act.put, List.setIfInBounds_toArray, List.set_cons_zero, List.set_cons_succ]
                    refine Mem.tkY 19 ?v165 (hy := Or.inl ⟨by rfl, ?y165⟩) (hS := by assumption) (h := ?r165)
                    case y165 => (intro w hSw; clear hSw; go_simp; try with_reducible rfl)
                    case' r165 => skip
                    try simp only [List.getElem_toArray, List.getElem_cons_succ, List.getElem_cons_zero, Act.put, List.setIfInBounds_toArray, List.set_cons_zero, List.set_cons_succ]
                    refine wpAnyH_ready (rs := [20]) (by kernel_rfl) (by simp) ?_
                    refine AllReadyH.cons rfl (fun K hK => ?_) AllReadyH.nil
                    rw [if_pos (by rfl)]
                    refine wp_store_mid 38 _ _ (by rfl) kw (i0 * 256) (blk Ma) (by rfl) (by rfl) (fun j hj => by rw [HMS.out] at hj; have h := hBW.2.1 (i0 * 256 + j) (by rw [hWl]; omega); rwa [Nat.zero_add] at h) hMi (blk_one _) ?_; have hSnew := Db.gb_setCells hHeld (i0 * 256) (blk Ma).toList
                    refine hK.out _ _ ?_ (fun hHeld2 => ?_)
                    · exact hSnew
                    clear hK K hHeld hSnew
                    have hHeld := hHeld2
                    clear hHeld2
                    try simp only [List.getElem_toArray, List.getElem_cons_succ, List.getElem_cons_zero, Act.put, List.setIfInBounds_toArray, List.set_cons_zero, List.set_cons_succ]
                    refine wpAnyH_done (by kernel_rfl) ?_ _
                    clear hCl
                    have hCs := (HCD.out.below hbT).setCells FK (i0 * 256) (blk Ma).toList
                    have hOs := own_stay2 (w' := wl.setCells kw (i0 * 256) (blk Ma).toList) (OwnK.below HOD.out hbT) (fun j hj => Db.setCells_heap kw _ _ _ j (by have := HOK.out j hj; omega)) (fun j hj _ => Db.setCells_heap kw _ _ _ j (by omega)) (by rw [Db.setCells_size]; exact Nat.le_refl _)
                    have hKs := hBW.store (i := i0) hMl (by omega)
                    have hBs := below_setCells ((HBe.out.drew).trans (hbT.mono HBe.out.size)) hkwB (i0 * 256) (blk Ma).toList
                    generalize wl.setCells kw (i0 * 256) (blk Ma).toList = wf at hCs hOs hKs hBs ⊢
                    have HCf := Lib.hid hCs
                    have HOf := Lib.hid hOs
                    have HKf := Lib.hid hKs
                    have HBf := Lib.hid hBs
                    clear hCs hOs hKs hBs hHeld hBW hbT hbyW e1d e2d e3d HCD HOD hLi hMi hMl HCLY HCe HOe HBe e1 hLl hLg
                    go_wp2_with fail
                    go_loopw [11] (fun i wr => ∃ (m : Nat), m ≤ x.needs.length ∧ i = .int .i64 m ∧ Below wf.heap.size wf wr) (fun i _ => x.needs.length - (intOf i).toNat)
                    case atStart => exact ⟨0, by omega, rfl, Below.refl _ _⟩
                    case' round => skip
                    obtain ⟨m, hm, rfl, hbm⟩ := hrel
                    have hLx := own_chsA (OwnK.below HOf.out hbm)
                    obtain ⟨A3', c3', A4', c4', hat⟩ := ch_at hLx q hlt2
                    rw [HXQ.out] at hat
                    have e4 := hat.v4
                    have hns := hat.n.2.2.2
                    have hBM := Lib.hid hbm
                    clear hLx hat hbm
                    by_cases hlm : m < x.needs.length
                    · obtain ⟨gn, on, rfl, hgn, hcn⟩ := is_at hns m hlm
                      have hdm := HND.out _ (List.getElem_mem hlm)
                      have CD := Done_any x.needs[m] c d g b N8 v5 S2 wr (HCf.out.below hBM.out)
                      rw [hdm] at CD
                      have HCD := Lib.hid CD
                      clear hns hdm CD
                      generalize x.needs[m] = y at *
                      go_wp2_with fail
                      refine HCD.out.mono ?_
                      rintro e wn ⟨rfl, hbn⟩
                      have HBN := Lib.hid (hBM.out.trans (hbn.mono hBM.out.size))
                      clear hbn HCD hcn e4 hBM
                      go_wp2
                      go_roundw
                      case rel => exact ⟨m + 1, by omega, by go_num, HBN.out⟩
                      case measure => simp [intOf]; omega
                    · obtain rfl : m = x.needs.length := by omega
                      have HC3 := Lib.hid (HCf.out.below hBM.out)
                      have HO3 := Lib.hid (OwnK.below HOf.out hBM.out)
                      have HK3 := Lib.hid (Bks.below HKf.out hBM.out)
                      have HB3 := Lib.hid (HBf.out.trans (hBM.out.mono HBf.out.size))
                      clear hns hBM HCf HOf HKf HBf
                      go_wp2
                      go_roundw
                      case rel => exact ⟨q + 1, W.set i0 Ma, by omega, by go_num, HC3.out, HO3.out, HK3.out, HWQ2, HB3.out⟩
                      case measure => simp [intOf]; omega
                  exact AllReadyH.nil
              · obtain rfl : q = L2.length := by omega
                have HCI := Lib.hid (Db.image_any d g S2.dv wr hc.dev (by rw [HI2.out.len]; omega) (by rw [HI2.out.len]; omega))
                rw [HI2.out.len] at HCI
                have HEQ : Hid (∀ i : Nat, i < 16 → ∃ La : List Nat, W[i]? = some La ∧ S2.dv.bs[i]? = some La) := Lib.hid (fun i hi => by
                  refine ⟨_, HWQ.out.2 i hi, ?_⟩
                  rw [HCLA.out.1.bs i hi]
                  have : AA.take L2.length = AA := by rw [HCLA.out.2, List.length_map, List.take_length]
                  rw [this])
                have HC := Lib.hid hc
                have HO := Lib.hid ho
                have HBK := Lib.hid hbk
                have HBR := Lib.hid hbr
                clear hc ho hbk hbr HC8 HO8 HBK8 HB8 HWQ
                go_wp2_with fail
                refine HCI.out.mono ?_
                rintro e we ⟨gi, ci, rfl, hbi, hgi, hci1, hci2, hbe⟩
                have HCe := Lib.hid (HC.out.below hbe)
                have HOe := Lib.hid (OwnK.below HO.out hbe)
                have HKe := Lib.hid (Bks.below HBK.out hbe)
                have HIe := Lib.hid hbi
                have HBe := Lib.hid (HBR.out.trans (hbe.mono HBR.out.size))
                clear hbe HC HO HBK HBR hbi HCI
                go_wp2_with fail
                go_loopw [13] (fun i wr => ∃ (m : Nat), m ≤ 16 ∧ i = .int .i64 m ∧ Below we.heap.size we wr) (fun i _ => 16 - (intOf i).toNat)
                case atStart => exact ⟨0, by omega, rfl, Below.refl _ _⟩
                case round =>
                  obtain ⟨m, hm, rfl, hbm⟩ := hrel
                  by_cases hlm : m < 16
                  · obtain ⟨La, hWa, hSa⟩ := HEQ.out m hlm
                    have hKm := Bks.below HKe.out hbm
                    have hIm := Bks.below HIe.out hbm
                    have r1 : wr.drew.rangeAt kw (m * 256) (blk La).toList := (hKm.1 m La hWa).2
                    have r2 : wr.drew.rangeAt gi (m * 256) (blk La).toList := (hIm.1 m La hSa).2
                    have hg1 := hKm.2.2
                    have hg2 := hIm.2.2
                    have hfl := (hKm.1 m La hWa).1
                    have hi : (Try.prog.info? 38).map (·.size) = some (blk La).toList.length := blkSizeL La hfl
                    have heq : ∀ w, (Op.equalIn 10000 38 (.agg (blk La)) (.agg (blk La))).run Try.prog w = .ok true w := fun w => by rw [run_eq_blk _ _ hfl hfl, decide_eq_true rfl]
                    have hgd := blkGuard
                    have HBM := Lib.hid hbm
                    clear hKm hIm hfl hWa hSa hbm
                    go_wp2_with fail
                    refine wp_region_held_drew (S := Go.RowKit.Below ((wr.drew).heap.size) (wr.drew)) (by kernel_rfl) ?hb171 (fun hHeld => ?rest171)
                    case hb171 =>
                      exact Go.RowKit.Below.refl _ _
                    case' rest171 => skip
                    refine Mem.tkY 0 ?v172 (hy := Or.inl ⟨by rfl, ?y172⟩) (hS := by assumption) (h := ?r172)
                    case y172 => (intro w hSw; clear hSw; go_simp; try with_reducible rfl)
                    case' r172 => skip
                    refine Mem.tkY 1 ?v173 (hy := Or.inl ⟨by rfl, ?y173⟩) (hS := by assumption) (h := ?r173)
                    case y173 => (intro w hSw; clear hSw; go_simp; try with_reducible rfl)
                    case' r173 => skip
                    refine Mem.tkY 2 ?v174 (hy := Or.inl ⟨by rfl, ?y174⟩) (hS := by assumption) (h := ?r174)
                    case y174 => (intro w hSw; clear hSw; go_simp; try with_reducible rfl)
                    case' r174 => skip
                    try simp only [List.getElem_toArray, List.getElem_cons_succ, List.getElem_cons_zero, Act.put, List.setIfInBounds_toArray, List.set_cons_zero, List.set_cons_succ]
                    refine Mem.tkY 3 ?v175 (hy := Or.inl ⟨by rfl, ?y175⟩) (hS := by assumption) (h := ?r175)
                    case y175 => (intro w hSw; clear hSw; go_simp; try with_reducible rfl)
                    case' r175 => skip
                    try simp only [List.getElem_toArray, List.getElem_cons_succ, List.getElem_cons_zero, Act.put, List.setIfInBounds_toArray, List.set_cons_zero, List.set_cons_succ]
                    first | refine Mem.tkY 4 undef (hy := Or.inr ⟨by rfl, rfl⟩) (hS := by assumption) (h := ?r176) | (refine Mem.tkY 4 ?v176 (hy := Or.inl ⟨by rfl, ?y176⟩) (hS := by assumption) (h := ?r176); case y176 => (intro w hSw; clear hSw; go_simp; try with_reducible rfl))
                    case' r176 => skip
                    try simp only [List.getElem_toArray, List.getElem_cons_succ, List.getElem_cons_zero, Act.put, List.setIfInBounds_toArray, List.set_cons_zero, List.set_cons_succ]
                    first | refine Mem.tkY 5 undef (hy := Or.inr ⟨by rfl, rfl⟩) (hS := by assumption) (h := ?r177) | (refine Mem.tkY 5 ?v177 (hy := Or.inl ⟨by rfl, ?y177⟩) (hS := by assumption) (h := ?r177); case y177 => (intro w hSw; clear hSw; go_simp; try with_reducible rfl))
                    case' r177 => skip
                    try simp only [List.getElem_toArray, List.getElem_cons_succ, List.getElem_cons_zero, Act.put, List.setIfInBounds_toArray, List.set_cons_zero, List.set_cons_succ]
                    first | refine Mem.tkY 6 undef (hy := Or.inr ⟨by rfl, rfl⟩) (hS := by assumption) (h := ?r178) | (refine Mem.tkY 6 ?v178 (hy := Or.inl ⟨by rfl, ?y178⟩) (hS := by assumption) (h := ?r178); case y178 => (intro w hSw; clear hSw; go_simp; try with_reducible rfl))
                    case' r178 => skip
                    first
                      | refine' wpAnyH_take (i := 7) (v := _) rfl (by kernel_rfl) (by kernel_rfl) (by kernel_rfl) (fun _ _ _ h => h) (yieldsIf_load_mid (by rfl) _ _ rfl _ _ rfl _ _ (fun w hSw => Mem.range_below hSw (by first | omega | (simp <;> omega)) r2) blkUnd rfl hi) (by assumption) ?rest179
                      | refine wpAnyH_take (i := 7) (v := undef) rfl (by kernel_rfl) (by kernel_rfl) (by kernel_rfl) (fun _ _ _ h => h) (Or.inr ⟨by rfl, rfl⟩) (by assumption) ?rest179
                    case' rest179 => skip
                    try simp only [List.getElem_toArray, List.getElem_cons_succ, List.getElem_cons_zero, Act.put, List.setIfInBounds_toArray, List.set_cons_zero, List.set_cons_succ]
                    try simp only [List.getElem_toArray, List.getElem_cons_succ, List.getElem_cons_zero, Act.put, List.setIfInBounds_toArray, List.set_cons_zero, List.set_cons_succ]
                    first | refine Mem.tkY 8 undef (hy := Or.inr ⟨by rfl, rfl⟩) (hS := by assumption) (h := ?r180) | (refine Mem.tkY 8 ?v180 (hy := Or.inl ⟨by rfl, ?y180⟩) (hS := by assumption) (h := ?r180); case y180 => (intro w hSw; clear hSw; go_simp; try with_reducible rfl))
                    case' r180 => skip
                    try simp only [List.getElem_toArray, List.getElem_cons_succ, List.getElem_cons_zero, Act.put, List.setIfInBounds_toArray, List.set_cons_zero, List.set_cons_succ]
                    first | refine Mem.tkY 9 undef (hy := Or.inr ⟨by rfl, rfl⟩) (hS := by assumption) (h := ?r181) | (refine Mem.tkY 9 ?v181 (hy := Or.inl ⟨by rfl, ?y181⟩) (hS := by assumption) (h := ?r181); case y181 => (intro w hSw; clear hSw; go_simp; try with_reducible rfl))
                    case' r181 => skip
                    first
                      | refine' wpAnyH_take (i := 10) (v := _) rfl (by kernel_rfl) (by kernel_rfl) (by kernel_rfl) (fun _ _ _ h => h) (yieldsIf_load_mid (by rfl) _ _ rfl _ _ rfl _ _ (fun w hSw => Mem.range_below hSw (by first | omega | (simp <;> omega)) r1) blkUnd rfl hi) (by assumption) ?rest182
                      | refine wpAnyH_take (i := 10) (v := undef) rfl (by kernel_rfl) (by kernel_rfl) (by kernel_rfl) (fun _ _ _ h => h) (Or.inr ⟨by rfl, rfl⟩) (by assumption) ?rest182
                    case' rest182 => skip
                    try simp only [List.getElem_toArray, List.getElem_cons_succ, List.getElem_cons_zero, Act.put, List.setIfInBounds_toArray, List.set_cons_zero, List.set_cons_succ]
                    try simp only [List.getElem_toArray, List.getElem_cons_succ, List.getElem_cons_zero, Act.put, List.setIfInBounds_toArray, List.set_cons_zero, List.set_cons_succ]
                    first | refine Mem.tkY 11 undef (hy := Or.inr ⟨by rfl, rfl⟩) (hS := by assumption) (h := ?r183) | (refine Mem.tkY 11 ?v183 (hy := Or.inl ⟨by rfl, ?y183⟩) (hS := by assumption) (h := ?r183); case y183 => (intro w hSw; clear hSw; go_simp; try with_reducible rfl))
                    case' r183 => skip
                    refine Mem.tkY 12 ?v184 (hy := Or.inl ⟨by rfl, ?y184⟩) (hS := by assumption) (h := ?r184)
                    case y184 => (intro w hSw; clear hSw; go_simp; try with_reducible rfl)
                    case' r184 => skip
                    try simp only [List.getElem_toArray, List.getElem_cons_succ, List.getElem_cons_zero, Act.put, List.setIfInBounds_toArray, List.set_cons_zero, List.set_cons_succ]
                    refine wpAnyH_done (by kernel_rfl) ?_ _
                    go_wp2_with fail
                    go_roundw
                    case rel => exact ⟨m + 1, by omega, by go_num, HBM.out.trans (((Below.refl _ _).drew.trans hHeld).mono HBM.out.size)⟩
                    case measure => simp [intOf]; omega
                  · obtain rfl : m = 16 := by omega
                    have HC3 := Lib.hid (HCe.out.below hbm)
                    have HO3 := Lib.hid (OwnK.below HOe.out hbm)
                    have HB3 := Lib.hid (HBe.out.trans (hbm.mono HBe.out.size))
                    clear hbm HCe HOe HKe HIe HBe
                    go_wp2
                    go_roundw
                    case rel => exact ⟨k + 1, v5, S2, N8, L2, by omega, by go_num, HC3.out, HI2, HRD2, HBD8, Lib.hid ⟨AA, HCLA.out⟩, hL2k, HO3.out, HFO8, HB3.out⟩
                    case measure => simp [intOf]; omega
          · have q0 : (x.id == 0) = false := beq_eq_false_iff_ne.2 hp0
            clear hp hp0
            go_wp2_with fail
            clear e0 q0
            have b8 : Below wz.heap.size wz (wz.alloc (.cells (blk (List.replicate 4096 0)) 39)) := bb0 _ _
            have hc8 := HC.out.grow b8
            obtain ⟨N8, hN8⟩ : ∃ N8 : Nat → Prop, N8 = fun j => Nz j ∨ (wz.heap.size ≤ j ∧ j < (wz.alloc (.cells (blk (List.replicate 4096 0)) 39)).heap.size) := ⟨_, rfl⟩
            rw [← hN8] at hc8
            have FK : Far N8 c d g b wz.heap.size := ⟨by rw [hN8]; exact .inr ⟨Nat.le_refl _, by simp⟩, by have := HC.out.row.lt; omega, by have := HC.out.dev.1.lt; omega, by have := HC.out.dev.2.1.2.2; omega, by have := HC.out.map.lt; omega⟩
            have HBD8 : Hid (Bd w.heap.size c d g b N8) := Lib.hid (by rw [hN8]; exact HBD.out.or)
            have HFO8 : Hid (∀ j, (Value.slice Aa L2.length ca).ownBlock = some j → Far N8 c d g b j) := Lib.hid (fun j hj => ⟨by rw [hN8]; exact .inl (HFO.out j hj).n, (HFO.out j hj).c, (HFO.out j hj).d, (HFO.out j hj).g, (HFO.out j hj).b⟩)
            have HOK : Hid (∀ j, (Value.slice Aa L2.length ca).ownBlock = some j → j < wz.heap.size) := Lib.hid (fun j hj => (HO.out.lt j hj).2)
            have HO8 := Lib.hid (HO.out.alloc (.cells (blk (List.replicate 4096 0)) 39))
            have HBK8 := Lib.hid (bks_arr wz 39)
            have HB8 := Lib.hid (HB.out.trans (b8.mono HB.out.size))
            have HC8 := Lib.hid hc8
            have hkwB : w.heap.size ≤ wz.heap.size := HB.out.size
            clear b8 hc8 hN8 HC HBD HFO HO HB
            obtain ⟨kw, hkw⟩ : ∃ kw, wz.heap.size = kw := ⟨_, rfl⟩
            rw [hkw] at HBK8 FK HOK hkwB
            obtain ⟨AA, HCLA⟩ : ∃ AA, Hid (Cl S2 AA ∧ L2 = AA.map un) := ⟨HCL.out.choose, Lib.hid HCL.out.choose_spec⟩
            clear HCL
            go_wp2_with (with_reducible refine wpList_allocA rfl 39 rfl _ arrZero ?_)
            rw [hkw]
            clear hkw
            go_loopw [10] (fun i wr => ∃ (q : Nat) (W : List (List Nat)), q ≤ L2.length ∧ i = .int .i64 q ∧ Ca wr c d g b N8 v5 S2 ∧ OwnK (kN kChg (fun j => w.heap.size ≤ j)) wr w.heap.size 36 (.slice Aa L2.length ca) L2 ∧ Bks wr kw W ∧ Hid (Wq W S2 AA q) ∧ Below w.heap.size w wr) (fun i _ => L2.length - (intOf i).toNat)
            case atStart => exact ⟨0, _, by omega, rfl, HC8.out, HO8.out, HBK8.out, Lib.hid ⟨List.length_replicate, fun i hi => by rw [List.getElem?_replicate, if_pos hi]; rfl⟩, HB8.out⟩
            case round =>
              obtain ⟨q, W, hq, rfl, hc, ho, hbk, HWQ, hbr⟩ := hrel
              by_cases hlt2 : q < L2.length
              · have hqA : q < AA.length := by have := HCLA.out.2; rw [this] at hlt2; simpa using hlt2
                have hAq : AA[q].id = (q : Int) + 1 := HCLA.out.1.ids q hqA
                have CD := Lib.hid (Done_any ((q : Int) + 1) c d g b N8 v5 S2 wr hc)
                have HC := Lib.hid hc
                have HO := Lib.hid ho
                have HBK := Lib.hid hbk
                have HBR := Lib.hid hbr
                clear hc ho hbk hbr HC8 HO8 HBK8 HB8
                cases hD : doneB S2 ((q : Int) + 1) with
                | false =>
                  rw [hD] at CD
                  have HWQ2 := Lib.hid (HWQ.out.skip hqA (by rw [hAq]; exact hD))
                  clear hD hqA hAq
                  go_wp2_with fail
                  refine CD.out.mono ?_
                  rintro e we ⟨rfl, hbe⟩
                  have HCe := Lib.hid (HC.out.below hbe)
                  have HOe := Lib.hid (OwnK.below HO.out hbe)
                  have HBKe := Lib.hid (Bks.below HBK.out hbe)
                  have HBe := Lib.hid (HBR.out.trans (hbe.mono HBR.out.size))
                  clear hbe CD HC HO HBK HBR
                  go_wp2
                  go_roundw
                  case rel => exact ⟨q + 1, W, by omega, by go_num, HCe.out, HOe.out, HBKe.out, HWQ2, HBe.out⟩
                  case measure => simp [intOf]; omega
                | true =>
                  rw [hD] at CD
                  have hLq : L2[q] = un AA[q] := by have := HCLA.out.2; simp only [this, List.getElem_map]
                  obtain ⟨i0, hi0⟩ : ∃ i0 : Nat, AA[q].blk = (i0 : Int) := ⟨AA[q].blk.toNat, by have := (HCLA.out.1.bl _ (List.getElem_mem hqA)).1; omega⟩
                  have hi16 : i0 < 16 := by have := (HCLA.out.1.bl _ (List.getElem_mem hqA)).2; omega
                  have hi16z : (i0 : Int) < 16 := by omega
                  have HWQ2 := Lib.hid (HWQ.out.next hqA (by rw [hAq]; exact hD) hi0 hi16)
                  have HND : Hid (∀ n ∈ L2[q].needs, doneB S2 n = true) := Lib.hid (by rw [hLq]; exact HCLA.out.1.dn AA[q] (List.getElem_mem hqA) (by rw [hAq]; exact hD))
                  have hlp : L2[q].pd.length ≤ 300 := (hL2k.2.out _ (List.getElem_mem hlt2)).1
                  have hln : L2[q].needs.length ≤ 20 := (hL2k.2.out _ (List.getElem_mem hlt2)).2
                  have hqb : L2[q].blk = (i0 : Int) := by rw [hLq]; exact hi0
                  rw [show AA[q].pa = L2[q].pa from by rw [hLq], show AA[q].pd = L2[q].pd from by rw [hLq]] at HWQ2
                  have hWl := HWQ.out.1
                  have hLg := HWQ.out.2 i0 hi16
                  have hLl : (laidF (i0 : Int) (doneB S2) zblk (AA.take q)).length = 256 := by rw [laidF_len]; exact zblk_length
                  obtain ⟨La, hLa⟩ : ∃ La, laidF (i0 : Int) (doneB S2) zblk (AA.take q) = La := ⟨_, rfl⟩
                  rw [hLa] at hLg hLl HWQ2
                  clear hD hAq hi0 hLa hLq HWQ
                  go_wp2_with fail
                  refine CD.out.mono ?_
                  rintro e we ⟨rfl, hbe⟩
                  have HCe := Lib.hid (HC.out.below hbe)
                  have HOe := Lib.hid (OwnK.below HO.out hbe)
                  have hBW0 := Bks.below HBK.out hbe
                  have HBe := Lib.hid (HBR.out.trans (hbe.mono HBR.out.size))
                  clear hbe CD HC HO HBK HBR
                  have hLx := own_chsA HOe.out
                  obtain ⟨ga, oa, rfl, hga⟩ := ch_form hLx (by omega)
                  have hgk : ¬ ga = kw := by have := HOK.out ga rfl; omega
                  obtain ⟨A1', c1', A2', c2', hat⟩ := ch_at hLx q hlt2
                  obtain ⟨x, hxq⟩ : ∃ x, L2[q] = x := ⟨_, rfl⟩
                  rw [hxq] at hat hlp hln hqb HND HWQ2
                  have HXQ := Lib.hid hxq
                  clear hxq
                  have e1 := hat.v1
                  rw [hqb] at e1
                  have HAT := Lib.hid hat
                  clear hat hLx
                  go_wp2_with fail
                  have e1d : we.drew.cell? ⟨ga, oa + q * 5 + 1, none⟩ = _ := e1
                  have e2d : we.drew.cell? ⟨ga, oa + q * 5 + 2, none⟩ = _ := HAT.out.v2
                  have e3d : we.drew.cell? ⟨ga, oa + q * 5 + 2 + 1, none⟩ = _ := HAT.out.v3
                  have hMl : (layL La x.pa x.pd).length = 256 := (layL_length _ _ _).trans hLl
                  have hLi := blkSizeL La hLl
                  have hMi : (Try.prog.info? 38).map (·.size) = some (blk (layL La x.pa x.pd)).size := by rw [blk_size, hMl]; exact blkSize
                  have hBW : Bks we.drew kw W := Bks.below hBW0 (Below.refl _ _).drew
                  have hbyW : By we.drew A1' x.pd := Rw.drew HAT.out.p.2.2.2
                  have HCD := Lib.hid (HCe.out.below (Below.refl _ _).drew)
                  have HOD := Lib.hid (OwnK.below HOe.out (Below.refl _ _).drew)
                  have HMS : Hid ((blk (layL La x.pa x.pd)).size = 256) := Lib.hid (by rw [blk_size]; exact hMl)
                  have hbT := Below.refl we.drew.heap.size we.drew
                  obtain ⟨Ma, hM⟩ : ∃ Ma, layL La x.pa x.pd = Ma := ⟨_, rfl⟩
                  have CLY : ∀ (w' : World) (A' : Option Addr) (c' : Nat), Sl w' V8 A' x.pd.length x.pd → Calls Try.prog 14 #[.agg (blk La), patV x.pa A' x.pd.length c'] w' fun e w'' => e = .returned (.agg (blk Ma)) ∧ Below w'.heap.size w' w'' := fun w' A' c' hsl => by
                    have := lay_any La x.pa A' x.pd.length c' x.pd w' hLl hsl
                    rw [hM] at this
                    exact this
                  have HCLY := Lib.hid CLY
                  rw [hM] at hMl hMi HMS HWQ2
                  clear hM CLY hBW0
                  refine wp_region_held_drew (S := fun w' => World.grownBy (we.drew) w' (some (kw))) (by kernel_rfl) ?hb239 (fun hHeld => ?rest239)
                  case hb239 =>
                    exact Mem.gb_refl _ _
                  case' rest239 => skip
                  have hCl := fun (wS : World) (hSw : World.grownBy (we.drew) wS (some (kw))) => And.intro (Mem.gb_cell hSw e1d (by intro e; injection e with e; dsimp only at e; omega)) <| And.intro (Mem.gb_cell hSw e2d (by intro e; injection e with e; dsimp only at e; omega)) <| Mem.gb_cell hSw e3d (by intro e; injection e with e; dsimp only at e; omega)
                  replace hCl := Go.Lib.hid hCl
                  refine Mem.tkY 0 ?v240 (hy := Or.inl ⟨by rfl, ?y240⟩) (hS := by assumption) (h := ?r240)
                  case y240 => (intro w hSw; clear hSw; go_simp; try with_reducible rfl)
                  case' r240 => skip
                  refine Mem.tkY 1 ?v241 (hy := Or.inl ⟨by rfl, ?y241⟩) (hS := by assumption) (h := ?r241)
                  case y241 => (intro w hSw; clear hSw; go_simp; try with_reducible rfl)
                  case' r241 => skip
                  refine Mem.tkY 2 ?v242 (hy := Or.inl ⟨by rfl, ?y242⟩) (hS := by assumption) (h := ?r242)
                  case y242 => (intro w hSw; clear hSw; go_simp; try with_reducible rfl)
                  case' r242 => skip
                  try simp only [List.getElem_toArray, List.getElem_cons_succ, List.getElem_cons_zero, Act.put, List.setIfInBounds_toArray, List.set_cons_zero, List.set_cons_succ]
                  refine Mem.tkY 3 ?v243 (hy := Or.inl ⟨by rfl, ?y243⟩) (hS := by assumption) (h := ?r243)
                  case y243 => (intro w hSw; clear hSw; go_simp; try with_reducible rfl)
                  case' r243 => skip
                  refine Mem.tkY 4 ?v244 (hy := Or.inl ⟨by rfl, ?y244⟩) (hS := by assumption) (h := ?r244)
                  case y244 => (intro w hSw; obtain ⟨hT0, hT1, hT2⟩ := hCl.out w hSw; clear hSw; go_simp; try with_reducible rfl)
                  case' r244 => skip
                  refine Mem.tkY 5 ?v245 (hy := Or.inl ⟨by rfl, ?y245⟩) (hS := by assumption) (h := ?r245)
                  case y245 => (intro w hSw; clear hSw; go_simp; try with_reducible rfl)
                  case' r245 => skip
                  try simp only [List.getElem_toArray, List.getElem_cons_succ, List.getElem_cons_zero, Act.put, List.setIfInBounds_toArray, List.set_cons_zero, List.set_cons_succ]
                  refine Mem.tkY 6 ?v246 (hy := Or.inl ⟨by rfl, ?y246⟩) (hS := by assumption) (h := ?r246)
                  case y246 => (intro w hSw; clear hSw; go_simp; try with_reducible rfl)
                  case' r246 => skip
                  refine Mem.tkY 7 ?v247 (hy := Or.inl ⟨by rfl, ?y247⟩) (hS := by assumption) (h := ?r247)
                  case y247 => (intro w hSw; clear hSw; go_simp; try with_reducible rfl)
                  case' r247 => skip
                  refine Mem.tkY 8 ?v248 (hy := Or.inl ⟨by rfl, ?y248⟩) (hS := by assumption) (h := ?r248)
                  case y248 => (intro w hSw; clear hSw; go_simp; try with_reducible rfl)
                  case' r248 => skip
                  try simp only [List.getElem_toArray, List.getElem_cons_succ, List.getElem_cons_zero, Act.put, List.setIfInBounds_toArray, List.set_cons_zero, List.set_cons_succ]
                  refine Mem.tkY 9 ?v249 (hy := Or.inl ⟨by rfl, ?y249⟩) (hS := by assumption) (h := ?r249)
                  case y249 => (intro w hSw; obtain ⟨hT0, hT1, hT2⟩ := hCl.out w hSw; clear hSw; go_simp; try with_reducible rfl)
                  case' r249 => skip
                  refine Mem.tkY 10 ?v250 (hy := Or.inl ⟨by rfl, ?y250⟩) (hS := by assumption) (h := ?r250)
                  case y250 => (intro w hSw; clear hSw; go_simp; try with_reducible rfl)
                  case' r250 => skip
                  refine Mem.tkY 12 ?v251 (hy := Or.inl ⟨by rfl, ?y251⟩) (hS := by assumption) (h := ?r251)
                  case y251 => (intro w hSw; clear hSw; go_simp; try with_reducible rfl)
                  case' r251 => skip
                  try simp only [List.getElem_toArray, List.getElem_cons_succ, List.getElem_cons_zero, Act.put, List.setIfInBounds_toArray, List.set_cons_zero, List.set_cons_succ]
                  refine Mem.tkY 13 ?v252 (hy := Or.inl ⟨by rfl, ?y252⟩) (hS := by assumption) (h := ?r252)
                  case y252 => (intro w hSw; clear hSw; go_simp; try with_reducible rfl)
                  case' r252 => skip
                  refine Mem.tkY 14 ?v253 (hy := Or.inl ⟨by rfl, ?y253⟩) (hS := by assumption) (h := ?r253)
                  case y253 => (intro w hSw; clear hSw; go_simp; try with_reducible rfl)
                  case' r253 => skip
                  refine Mem.tkY 15 ?v254 (hy := Or.inl ⟨by rfl, ?y254⟩) (hS := by assumption) (h := ?r254)
                  case y254 => (intro w hSw; clear hSw; go_simp; try with_reducible rfl)
                  case' r254 => skip
                  try simp only [List.getElem_toArray, List.getElem_cons_succ, List.getElem_cons_zero, Act.put, List.setIfInBounds_toArray, List.set_cons_zero, List.set_cons_succ]
                  refine Mem.tkY 16 ?v255 (hy := Or.inl ⟨by rfl, ?y255⟩) (hS := by assumption) (h := ?r255)
                  case y255 => (intro w hSw; obtain ⟨hT0, hT1, hT2⟩ := hCl.out w hSw; clear hSw; go_simp; try with_reducible rfl)
                  case' r255 => skip
                  try simp only [List.getElem_toArray, List.getElem_cons_succ, List.getElem_cons_zero, Act.put, List.setIfInBounds_toArray, List.set_cons_zero, List.set_cons_succ]
                  refine wpAnyH_ready (rs := [11, 17]) (by kernel_rfl) (by simp) ?_
                  refine AllReadyH.cons rfl (fun K hK => ?_) ?_
                  · skip
                    rw [if_pos (by rfl)]
                    refine wp_load_mid 38 _ (by rfl) kw (i0 * 256) (by rfl) (blk La).toList _ (hBW.1 i0 La hLg).2 blkUnd rfl hLi ?_; have hSnew := hHeld
                    refine hK.out _ _ ?_ (fun hHeld2 => ?_)
                    · exact hSnew
                    clear hK K hHeld hSnew
                    have hHeld := hHeld2
                    clear hHeld2
                    try simp only [List.getElem_toArray, List.getElem_cons_succ, List.getElem_cons_zero, Act.put, List.setIfInBounds_toArray, List.set_cons_zero, List.set_cons_succ]
                    refine wpAnyH_ready (rs := [17]) (by kernel_rfl) (by simp) ?_
                    refine AllReadyH.cons rfl (fun K hK => ?_) AllReadyH.nil
                    go_simp
                    (refine (to_any x.pa A1' c1' x.pd _ hbyW HAT.out.p.2.2.1 (by omega)).mono ?_; rintro e wb ⟨A', c', rfl, k1', k2', k3', hf, hbl⟩; have hSnew := Mem.gb_below hHeld hbl; replace hBW := Bks.below hBW hbl; have hbT := hbl; have hsl := Rw.sl_byte (hf.mono (fun j hj => hj.2)); clear hf hbl)
                    try go_wp2_with fail
                    refine hK.out _ _ ?_ (fun hHeld2 => ?_)
                    · exact hSnew
                    clear hK K hHeld hSnew
                    have hHeld := hHeld2
                    clear hHeld2
                    try simp only [List.getElem_toArray, List.getElem_cons_succ, List.getElem_cons_zero, Act.put, List.setIfInBounds_toArray, List.set_cons_zero, List.set_cons_succ]
                    refine wpAnyH_ready (rs := [18]) (by kernel_rfl) (by simp) ?_
                    refine AllReadyH.cons rfl (fun K hK => ?_) AllReadyH.nil
                    go_simp
                    (refine (HCLY.out _ A' c' hsl).mono ?_; rintro e wl ⟨rfl, hbl⟩; have hSnew := Mem.gb_below hHeld hbl; replace hBW := Bks.below hBW hbl; replace hbT := hbT.trans (hbl.mono hbT.size); clear hbl hsl)
                    try go_wp2_with fail
                    refine hK.out _ _ ?_ (fun hHeld2 => ?_)
                    · exact hSnew
                    clear hK K hHeld hSnew
                    have hHeld := hHeld2
                    clear hHeld2
                    try simp only [List.getElem_toArray, List.getElem_cons_succ, List.getElem_cons_zero, Act.put, List.setIfInBounds_toArray, List.set_cons_zero, List.set_cons_succ]
                    refine Mem.tkY 19 ?v256 (hy := Or.inl ⟨by rfl, ?y256⟩) (hS := by assumption) (h := ?r256)
                    case y256 => (intro w hSw; clear hSw; go_simp; try with_reducible rfl)
                    case' r256 => skip
                    try simp only [List.getElem_toArray, List.getElem_cons_succ, List.getElem_cons_zero, Act.put, List.setIfInBounds_toArray, List.set_cons_zero, List.set_cons_succ]
                    refine wpAnyH_ready (rs := [20]) (by kernel_rfl) (by simp) ?_
                    refine AllReadyH.cons rfl (fun K hK => ?_) AllReadyH.nil
                    rw [if_pos (by rfl)]
                    refine wp_store_mid 38 _ _ (by rfl) kw (i0 * 256) (blk Ma) (by rfl) (by rfl) (fun j hj => by rw [HMS.out] at hj; have h := hBW.2.1 (i0 * 256 + j) (by rw [hWl]; omega); rwa [Nat.zero_add] at h) hMi (blk_one _) ?_; have hSnew := Db.gb_setCells hHeld (i0 * 256) (blk Ma).toList
                    refine hK.out _ _ ?_ (fun hHeld2 => ?_)
                    · exact hSnew
                    clear hK K hHeld hSnew
                    have hHeld := hHeld2
                    clear hHeld2
                    try simp only [List.getElem_toArray, List.getElem_cons_succ, List.getElem_cons_zero, Act.put, List.setIfInBounds_toArray, List.set_cons_zero, List.set_cons_succ]
                    refine wpAnyH_done (by kernel_rfl) ?_ _
                    clear hCl
                    have hCs := (HCD.out.below hbT).setCells FK (i0 * 256) (blk Ma).toList
                    have hOs := own_stay2 (w' := wl.setCells kw (i0 * 256) (blk Ma).toList) (OwnK.below HOD.out hbT) (fun j hj => Db.setCells_heap kw _ _ _ j (by have := HOK.out j hj; omega)) (fun j hj _ => Db.setCells_heap kw _ _ _ j (by omega)) (by rw [Db.setCells_size]; exact Nat.le_refl _)
                    have hKs := hBW.store (i := i0) hMl (by omega)
                    have hBs := below_setCells ((HBe.out.drew).trans (hbT.mono HBe.out.size)) hkwB (i0 * 256) (blk Ma).toList
                    generalize wl.setCells kw (i0 * 256) (blk Ma).toList = wf at hCs hOs hKs hBs ⊢
                    have HCf := Lib.hid hCs
                    have HOf := Lib.hid hOs
                    have HKf := Lib.hid hKs
                    have HBf := Lib.hid hBs
                    clear hCs hOs hKs hBs hHeld hBW hbT hbyW e1d e2d e3d HCD HOD hLi hMi hMl HCLY HCe HOe HBe e1 hLl hLg
                    go_wp2_with fail
                    go_loopw [11] (fun i wr => ∃ (m : Nat), m ≤ x.needs.length ∧ i = .int .i64 m ∧ Below wf.heap.size wf wr) (fun i _ => x.needs.length - (intOf i).toNat)
                    case atStart => exact ⟨0, by omega, rfl, Below.refl _ _⟩
                    case' round => skip
                    obtain ⟨m, hm, rfl, hbm⟩ := hrel
                    have hLx := own_chsA (OwnK.below HOf.out hbm)
                    obtain ⟨A3', c3', A4', c4', hat⟩ := ch_at hLx q hlt2
                    rw [HXQ.out] at hat
                    have e4 := hat.v4
                    have hns := hat.n.2.2.2
                    have hBM := Lib.hid hbm
                    clear hLx hat hbm
                    by_cases hlm : m < x.needs.length
                    · obtain ⟨gn, on, rfl, hgn, hcn⟩ := is_at hns m hlm
                      have hdm := HND.out _ (List.getElem_mem hlm)
                      have CD := Done_any x.needs[m] c d g b N8 v5 S2 wr (HCf.out.below hBM.out)
                      rw [hdm] at CD
                      have HCD := Lib.hid CD
                      clear hns hdm CD
                      generalize x.needs[m] = y at *
                      go_wp2_with fail
                      refine HCD.out.mono ?_
                      rintro e wn ⟨rfl, hbn⟩
                      have HBN := Lib.hid (hBM.out.trans (hbn.mono hBM.out.size))
                      clear hbn HCD hcn e4 hBM
                      go_wp2
                      go_roundw
                      case rel => exact ⟨m + 1, by omega, by go_num, HBN.out⟩
                      case measure => simp [intOf]; omega
                    · obtain rfl : m = x.needs.length := by omega
                      have HC3 := Lib.hid (HCf.out.below hBM.out)
                      have HO3 := Lib.hid (OwnK.below HOf.out hBM.out)
                      have HK3 := Lib.hid (Bks.below HKf.out hBM.out)
                      have HB3 := Lib.hid (HBf.out.trans (hBM.out.mono HBf.out.size))
                      clear hns hBM HCf HOf HKf HBf
                      go_wp2
                      go_roundw
                      case rel => exact ⟨q + 1, W.set i0 Ma, by omega, by go_num, HC3.out, HO3.out, HK3.out, HWQ2, HB3.out⟩
                      case measure => simp [intOf]; omega
                  refine AllReadyH.cons rfl (fun K hK => ?_) ?_
                  · skip
                    go_simp
                    (refine (to_any x.pa A1' c1' x.pd _ hbyW HAT.out.p.2.2.1 (by omega)).mono ?_; rintro e wb ⟨A', c', rfl, k1', k2', k3', hf, hbl⟩; have hSnew := Mem.gb_below hHeld hbl; replace hBW := Bks.below hBW hbl; have hbT := hbl; have hsl := Rw.sl_byte (hf.mono (fun j hj => hj.2)); clear hf hbl)
                    try go_wp2_with fail
                    refine hK.out _ _ ?_ (fun hHeld2 => ?_)
                    · exact hSnew
                    clear hK K hHeld hSnew
                    have hHeld := hHeld2
                    clear hHeld2
                    try simp only [List.getElem_toArray, List.getElem_cons_succ, List.getElem_cons_zero, Act.put, List.setIfInBounds_toArray, List.set_cons_zero, List.set_cons_succ]
                    refine wpAnyH_ready (rs := [11]) (by kernel_rfl) (by simp) ?_
                    refine AllReadyH.cons rfl (fun K hK => ?_) AllReadyH.nil
                    rw [if_pos (by rfl)]
                    refine wp_load_mid 38 _ (by rfl) kw (i0 * 256) (by rfl) (blk La).toList _ (hBW.1 i0 La hLg).2 blkUnd rfl hLi ?_; have hSnew := hHeld
                    refine hK.out _ _ ?_ (fun hHeld2 => ?_)
                    · exact hSnew
                    clear hK K hHeld hSnew
                    have hHeld := hHeld2
                    clear hHeld2
                    try simp only [List.getElem_toArray, List.getElem_cons_succ, List.getElem_cons_zero, Act.put, List.setIfInBounds_toArray, List.set_cons_zero, List.set_cons_succ]
                    refine wpAnyH_ready (rs := [18]) (by kernel_rfl) (by simp) ?_
                    refine AllReadyH.cons rfl (fun K hK => ?_) AllReadyH.nil
                    go_simp
                    (refine (HCLY.out _ A' c' hsl).mono ?_; rintro e wl ⟨rfl, hbl⟩; have hSnew := Mem.gb_below hHeld hbl; replace hBW := Bks.below hBW hbl; replace hbT := hbT.trans (hbl.mono hbT.size); clear hbl hsl)
                    try go_wp2_with fail
                    refine hK.out _ _ ?_ (fun hHeld2 => ?_)
                    · exact hSnew
                    clear hK K hHeld hSnew
                    have hHeld := hHeld2
                    clear hHeld2
                    try simp only [List.getElem_toArray, List.getElem_cons_succ, List.getElem_cons_zero, Act.put, List.setIfInBounds_toArray, List.set_cons_zero, List.set_cons_succ]
                    refine Mem.tkY 19 ?v257 (hy := Or.inl ⟨by rfl, ?y257⟩) (hS := by assumption) (h := ?r257)
                    case y257 => (intro w hSw; clear hSw; go_simp; try with_reducible rfl)
                    case' r257 => skip
                    try simp only [List.getElem_toArray, List.getElem_cons_succ, List.getElem_cons_zero, Act.put, List.setIfInBounds_toArray, List.set_cons_zero, List.set_cons_succ]
                    refine wpAnyH_ready (rs := [20]) (by kernel_rfl) (by simp) ?_
                    refine AllReadyH.cons rfl (fun K hK => ?_) AllReadyH.nil
                    rw [if_pos (by rfl)]
                    refine wp_store_mid 38 _ _ (by rfl) kw (i0 * 256) (blk Ma) (by rfl) (by rfl) (fun j hj => by rw [HMS.out] at hj; have h := hBW.2.1 (i0 * 256 + j) (by rw [hWl]; omega); rwa [Nat.zero_add] at h) hMi (blk_one _) ?_; have hSnew := Db.gb_setCells hHeld (i0 * 256) (blk Ma).toList
                    refine hK.out _ _ ?_ (fun hHeld2 => ?_)
                    · exact hSnew
                    clear hK K hHeld hSnew
                    have hHeld := hHeld2
                    clear hHeld2
                    try simp only [List.getElem_toArray, List.getElem_cons_succ, List.getElem_cons_zero, Act.put, List.setIfInBounds_toArray, List.set_cons_zero, List.set_cons_succ]
                    refine wpAnyH_done (by kernel_rfl) ?_ _
                    clear hCl
                    have hCs := (HCD.out.below hbT).setCells FK (i0 * 256) (blk Ma).toList
                    have hOs := own_stay2 (w' := wl.setCells kw (i0 * 256) (blk Ma).toList) (OwnK.below HOD.out hbT) (fun j hj => Db.setCells_heap kw _ _ _ j (by have := HOK.out j hj; omega)) (fun j hj _ => Db.setCells_heap kw _ _ _ j (by omega)) (by rw [Db.setCells_size]; exact Nat.le_refl _)
                    have hKs := hBW.store (i := i0) hMl (by omega)
                    have hBs := below_setCells ((HBe.out.drew).trans (hbT.mono HBe.out.size)) hkwB (i0 * 256) (blk Ma).toList
                    generalize wl.setCells kw (i0 * 256) (blk Ma).toList = wf at hCs hOs hKs hBs ⊢
                    have HCf := Lib.hid hCs
                    have HOf := Lib.hid hOs
                    have HKf := Lib.hid hKs
                    have HBf := Lib.hid hBs
                    clear hCs hOs hKs hBs hHeld hBW hbT hbyW e1d e2d e3d HCD HOD hLi hMi hMl HCLY HCe HOe HBe e1 hLl hLg
                    go_wp2_with fail
                    go_loopw [11] (fun i wr => ∃ (m : Nat), m ≤ x.needs.length ∧ i = .int .i64 m ∧ Below wf.heap.size wf wr) (fun i _ => x.needs.length - (intOf i).toNat)
                    case atStart => exact ⟨0, by omega, rfl, Below.refl _ _⟩
                    case' round => skip
                    obtain ⟨m, hm, rfl, hbm⟩ := hrel
                    have hLx := own_chsA (OwnK.below HOf.out hbm)
                    obtain ⟨A3', c3', A4', c4', hat⟩ := ch_at hLx q hlt2
                    rw [HXQ.out] at hat
                    have e4 := hat.v4
                    have hns := hat.n.2.2.2
                    have hBM := Lib.hid hbm
                    clear hLx hat hbm
                    by_cases hlm : m < x.needs.length
                    · obtain ⟨gn, on, rfl, hgn, hcn⟩ := is_at hns m hlm
                      have hdm := HND.out _ (List.getElem_mem hlm)
                      have CD := Done_any x.needs[m] c d g b N8 v5 S2 wr (HCf.out.below hBM.out)
                      rw [hdm] at CD
                      have HCD := Lib.hid CD
                      clear hns hdm CD
                      generalize x.needs[m] = y at *
                      go_wp2_with fail
                      refine HCD.out.mono ?_
                      rintro e wn ⟨rfl, hbn⟩
                      have HBN := Lib.hid (hBM.out.trans (hbn.mono hBM.out.size))
                      clear hbn HCD hcn e4 hBM
                      go_wp2
                      go_roundw
                      case rel => exact ⟨m + 1, by omega, by go_num, HBN.out⟩
                      case measure => simp [intOf]; omega
                    · obtain rfl : m = x.needs.length := by omega
                      have HC3 := Lib.hid (HCf.out.below hBM.out)
                      have HO3 := Lib.hid (OwnK.below HOf.out hBM.out)
                      have HK3 := Lib.hid (Bks.below HKf.out hBM.out)
                      have HB3 := Lib.hid (HBf.out.trans (hBM.out.mono HBf.out.size))
                      clear hns hBM HCf HOf HKf HBf
                      go_wp2
                      go_roundw
                      case rel => exact ⟨q + 1, W.set i0 Ma, by omega, by go_num, HC3.out, HO3.out, HK3.out, HWQ2, HB3.out⟩
                      case measure => simp [intOf]; omega
                  exact AllReadyH.nil
              · obtain rfl : q = L2.length := by omega
                have HCI := Lib.hid (Db.image_any d g S2.dv wr hc.dev (by rw [HI2.out.len]; omega) (by rw [HI2.out.len]; omega))
                rw [HI2.out.len] at HCI
                have HEQ : Hid (∀ i : Nat, i < 16 → ∃ La : List Nat, W[i]? = some La ∧ S2.dv.bs[i]? = some La) := Lib.hid (fun i hi => by
                  refine ⟨_, HWQ.out.2 i hi, ?_⟩
                  rw [HCLA.out.1.bs i hi]
                  have : AA.take L2.length = AA := by rw [HCLA.out.2, List.length_map, List.take_length]
                  rw [this])
                have HC := Lib.hid hc
                have HO := Lib.hid ho
                have HBK := Lib.hid hbk
                have HBR := Lib.hid hbr
                clear hc ho hbk hbr HC8 HO8 HBK8 HB8 HWQ
                go_wp2_with fail
                refine HCI.out.mono ?_
                rintro e we ⟨gi, ci, rfl, hbi, hgi, hci1, hci2, hbe⟩
                have HCe := Lib.hid (HC.out.below hbe)
                have HOe := Lib.hid (OwnK.below HO.out hbe)
                have HKe := Lib.hid (Bks.below HBK.out hbe)
                have HIe := Lib.hid hbi
                have HBe := Lib.hid (HBR.out.trans (hbe.mono HBR.out.size))
                clear hbe HC HO HBK HBR hbi HCI
                go_wp2_with fail
                go_loopw [13] (fun i wr => ∃ (m : Nat), m ≤ 16 ∧ i = .int .i64 m ∧ Below we.heap.size we wr) (fun i _ => 16 - (intOf i).toNat)
                case atStart => exact ⟨0, by omega, rfl, Below.refl _ _⟩
                case round =>
                  obtain ⟨m, hm, rfl, hbm⟩ := hrel
                  by_cases hlm : m < 16
                  · obtain ⟨La, hWa, hSa⟩ := HEQ.out m hlm
                    have hKm := Bks.below HKe.out hbm
                    have hIm := Bks.below HIe.out hbm
                    have r1 : wr.drew.rangeAt kw (m * 256) (blk La).toList := (hKm.1 m La hWa).2
                    have r2 : wr.drew.rangeAt gi (m * 256) (blk La).toList := (hIm.1 m La hSa).2
                    have hg1 := hKm.2.2
                    have hg2 := hIm.2.2
                    have hfl := (hKm.1 m La hWa).1
                    have hi : (Try.prog.info? 38).map (·.size) = some (blk La).toList.length := blkSizeL La hfl
                    have heq : ∀ w, (Op.equalIn 10000 38 (.agg (blk La)) (.agg (blk La))).run Try.prog w = .ok true w := fun w => by rw [run_eq_blk _ _ hfl hfl, decide_eq_true rfl]
                    have hgd := blkGuard
                    have HBM := Lib.hid hbm
                    clear hKm hIm hfl hWa hSa hbm
                    go_wp2_with fail
                    refine wp_region_held_drew (S := Go.RowKit.Below ((wr.drew).heap.size) (wr.drew)) (by kernel_rfl) ?hb263 (fun hHeld => ?rest263)
                    case hb263 =>
                      exact Go.RowKit.Below.refl _ _
                    case' rest263 => skip
                    refine Mem.tkY 0 ?v264 (hy := Or.inl ⟨by rfl, ?y264⟩) (hS := by assumption) (h := ?r264)
                    case y264 => (intro w hSw; clear hSw; go_simp; try with_reducible rfl)
                    case' r264 => skip
                    refine Mem.tkY 1 ?v265 (hy := Or.inl ⟨by rfl, ?y265⟩) (hS := by assumption) (h := ?r265)
                    case y265 => (intro w hSw; clear hSw; go_simp; try with_reducible rfl)
                    case' r265 => skip
                    refine Mem.tkY 2 ?v266 (hy := Or.inl ⟨by rfl, ?y266⟩) (hS := by assumption) (h := ?r266)
                    case y266 => (intro w hSw; clear hSw; go_simp; try with_reducible rfl)
                    case' r266 => skip
                    try simp only [List.getElem_toArray, List.getElem_cons_succ, List.getElem_cons_zero, Act.put, List.setIfInBounds_toArray, List.set_cons_zero, List.set_cons_succ]
                    refine Mem.tkY 3 ?v267 (hy := Or.inl ⟨by rfl, ?y267⟩) (hS := by assumption) (h := ?r267)
                    case y267 => (intro w hSw; clear hSw; go_simp; try with_reducible rfl)
                    case' r267 => skip
                    try simp only [List.getElem_toArray, List.getElem_cons_succ, List.getElem_cons_zero, Act.put, List.setIfInBounds_toArray, List.set_cons_zero, List.set_cons_succ]
                    first | refine Mem.tkY 4 undef (hy := Or.inr ⟨by rfl, rfl⟩) (hS := by assumption) (h := ?r268) | (refine Mem.tkY 4 ?v268 (hy := Or.inl ⟨by rfl, ?y268⟩) (hS := by assumption) (h := ?r268); case y268 => (intro w hSw; clear hSw; go_simp; try with_reducible rfl))
                    case' r268 => skip
                    try simp only [List.getElem_toArray, List.getElem_cons_succ, List.getElem_cons_zero, Act.put, List.setIfInBounds_toArray, List.set_cons_zero, List.set_cons_succ]
                    first | refine Mem.tkY 5 undef (hy := Or.inr ⟨by rfl, rfl⟩) (hS := by assumption) (h := ?r269) | (refine Mem.tkY 5 ?v269 (hy := Or.inl ⟨by rfl, ?y269⟩) (hS := by assumption) (h := ?r269); case y269 => (intro w hSw; clear hSw; go_simp; try with_reducible rfl))
                    case' r269 => skip
                    try simp only [List.getElem_toArray, List.getElem_cons_succ, List.getElem_cons_zero, Act.put, List.setIfInBounds_toArray, List.set_cons_zero, List.set_cons_succ]
                    first | refine Mem.tkY 6 undef (hy := Or.inr ⟨by rfl, rfl⟩) (hS := by assumption) (h := ?r270) | (refine Mem.tkY 6 ?v270 (hy := Or.inl ⟨by rfl, ?y270⟩) (hS := by assumption) (h := ?r270); case y270 => (intro w hSw; clear hSw; go_simp; try with_reducible rfl))
                    case' r270 => skip
                    first
                      | refine' wpAnyH_take (i := 7) (v := _) rfl (by kernel_rfl) (by kernel_rfl) (by kernel_rfl) (fun _ _ _ h => h) (yieldsIf_load_mid (by rfl) _ _ rfl _ _ rfl _ _ (fun w hSw => Mem.range_below hSw (by first | omega | (simp <;> omega)) r2) blkUnd rfl hi) (by assumption) ?rest271
                      | refine wpAnyH_take (i := 7) (v := undef) rfl (by kernel_rfl) (by kernel_rfl) (by kernel_rfl) (fun _ _ _ h => h) (Or.inr ⟨by rfl, rfl⟩) (by assumption) ?rest271
                    case' rest271 => skip
                    try simp only [List.getElem_toArray, List.getElem_cons_succ, List.getElem_cons_zero, Act.put, List.setIfInBounds_toArray, List.set_cons_zero, List.set_cons_succ]
                    try simp only [List.getElem_toArray, List.getElem_cons_succ, List.getElem_cons_zero, Act.put, List.setIfInBounds_toArray, List.set_cons_zero, List.set_cons_succ]
                    first | refine Mem.tkY 8 undef (hy := Or.inr ⟨by rfl, rfl⟩) (hS := by assumption) (h := ?r272) | (refine Mem.tkY 8 ?v272 (hy := Or.inl ⟨by rfl, ?y272⟩) (hS := by assumption) (h := ?r272); case y272 => (intro w hSw; clear hSw; go_simp; try with_reducible rfl))
                    case' r272 => skip
                    try simp only [List.getElem_toArray, List.getElem_cons_succ, List.getElem_cons_zero, Act.put, List.setIfInBounds_toArray, List.set_cons_zero, List.set_cons_succ]
                    first | refine Mem.tkY 9 undef (hy := Or.inr ⟨by rfl, rfl⟩) (hS := by assumption) (h := ?r273) | (refine Mem.tkY 9 ?v273 (hy := Or.inl ⟨by rfl, ?y273⟩) (hS := by assumption) (h := ?r273); case y273 => (intro w hSw; clear hSw; go_simp; try with_reducible rfl))
                    case' r273 => skip
                    first
                      | refine' wpAnyH_take (i := 10) (v := _) rfl (by kernel_rfl) (by kernel_rfl) (by kernel_rfl) (fun _ _ _ h => h) (yieldsIf_load_mid (by rfl) _ _ rfl _ _ rfl _ _ (fun w hSw => Mem.range_below hSw (by first | omega | (simp <;> omega)) r1) blkUnd rfl hi) (by assumption) ?rest274
                      | refine wpAnyH_take (i := 10) (v := undef) rfl (by kernel_rfl) (by kernel_rfl) (by kernel_rfl) (fun _ _ _ h => h) (Or.inr ⟨by rfl, rfl⟩) (by assumption) ?rest274
                    case' rest274 => skip
                    try simp only [List.getElem_toArray, List.getElem_cons_succ, List.getElem_cons_zero, Act.put, List.setIfInBounds_toArray, List.set_cons_zero, List.set_cons_succ]
                    try simp only [List.getElem_toArray, List.getElem_cons_succ, List.getElem_cons_zero, Act.put, List.setIfInBounds_toArray, List.set_cons_zero, List.set_cons_succ]
                    first | refine Mem.tkY 11 undef (hy := Or.inr ⟨by rfl, rfl⟩) (hS := by assumption) (h := ?r275) | (refine Mem.tkY 11 ?v275 (hy := Or.inl ⟨by rfl, ?y275⟩) (hS := by assumption) (h := ?r275); case y275 => (intro w hSw; clear hSw; go_simp; try with_reducible rfl))
                    case' r275 => skip
                    refine Mem.tkY 12 ?v276 (hy := Or.inl ⟨by rfl, ?y276⟩) (hS := by assumption) (h := ?r276)
                    case y276 => (intro w hSw; clear hSw; go_simp; try with_reducible rfl)
                    case' r276 => skip
                    try simp only [List.getElem_toArray, List.getElem_cons_succ, List.getElem_cons_zero, Act.put, List.setIfInBounds_toArray, List.set_cons_zero, List.set_cons_succ]
                    refine wpAnyH_done (by kernel_rfl) ?_ _
                    go_wp2_with fail
                    go_roundw
                    case rel => exact ⟨m + 1, by omega, by go_num, HBM.out.trans (((Below.refl _ _).drew.trans hHeld).mono HBM.out.size)⟩
                    case measure => simp [intOf]; omega
                  · obtain rfl : m = 16 := by omega
                    have HC3 := Lib.hid (HCe.out.below hbm)
                    have HO3 := Lib.hid (OwnK.below HOe.out hbm)
                    have HB3 := Lib.hid (HBe.out.trans (hbm.mono HBe.out.size))
                    clear hbm HCe HOe HKe HIe HBe
                    go_wp2
                    go_roundw
                    case rel => exact ⟨k + 1, v5, S2, N8, L2, by omega, by go_num, HC3.out, HI2, HRD2, HBD8, Lib.hid ⟨AA, HCLA.out⟩, hL2k, HO3.out, HFO8, HB3.out⟩
                    case measure => simp [intOf]; omega
      · obtain rfl : k = xs.length := by omega
        have HBR := Lib.hid hbr
        clear hc hbr ho
        go_wp2_with (refine (works12 _).mono ?_; rintro e w9 ⟨rfl, hb9⟩)
        go_ret
        exact ⟨rfl, HBR.out.trans (hb9.mono HBR.out.size)⟩
end Go.Proofs.Ytdhgkabbepbgpaa.Cb
