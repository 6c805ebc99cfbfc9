/- What is left of a list, and a block's image, by the document, with where their parts lie. No statement is proved here. -/
import Derived.Test.YtbamhiegabeicaaGreatCq
namespace Go.Proofs.YtbamhiegabeicaaGreat.Cb
open Go.RowKit Go.Proofs.YtbamhiegabeicaaGreat.Mem Go.Proofs.YtbamhiegabeicaaGreat.Open Go.Proofs.YtbamhiegabeicaaGreat.Kind Go.Proofs.YtbamhiegabeicaaGreat.Blk Go.Proofs.YtbamhiegabeicaaGreat.App Go.Proofs.YtbamhiegabeicaaGreat.Pat Go.Proofs.YtbamhiegabeicaaGreat.Rd
open Go.Proofs.YtbamhiegabeicaaGreat.Db (Dv Dev Asd Bks)
set_option linter.unusedVariables false
set_option linter.unusedSimpArgs false
theorem kN_rw {α : Type} {k : Kd α} {N : Nat → Prop} {w : World} {S : Nat → Prop} {A : Option Addr} {n : Nat} {xs : List α} (h : Rw (kN k N) w S A n xs) : Rw k w S A n xs := by
  refine ⟨h.1, h.2.1, ?_⟩
  rcases h.2.2 with h0 | ⟨g, o, hA, hg, hlt, hc⟩
  · exact .inl h0
  · exact .inr ⟨g, o, hA, hg, hlt, fun i x hx => by obtain ⟨cs, h1, h2⟩ := hc i x hx; exact ⟨cs, k.mono (fun b hb => hb.1) h1, h2⟩⟩
theorem out2_kN {α : Type} {k : Kd α} {N : Nat → Prop} {w : World} {A : Option Addr} {n : Nat} {xs : List α} (h : Rw k w (Out2 N w) A n xs) : Rw (kN k N) w (All w) A n xs := by
  refine ⟨h.1, h.2.1, ?_⟩
  rcases h.2.2 with h0 | ⟨g, o, hA, hg, hlt, hc⟩
  · exact .inl h0
  · exact .inr ⟨g, o, hA, hg.1, hlt, fun i x hx => by obtain ⟨cs, h1, h2⟩ := hc i x hx; exact ⟨cs, h1, h2⟩⟩
theorem kN_out2 {α : Type} {k : Kd α} {N : Nat → Prop} {w : World} {A : Option Addr} {n : Nat} {xs : List α} (h : Rw (kN k N) w (All w) A n xs) (hA : ∀ g o, A = some ⟨g, o, none⟩ → ¬ N g) : Rw k w (Out2 N w) A n xs := by
  refine ⟨h.1, h.2.1, ?_⟩
  rcases h.2.2 with h0 | ⟨g, o, e, hg, hlt, hc⟩
  · exact .inl h0
  · exact .inr ⟨g, o, e, ⟨hg, hA g o e⟩, hlt, fun i x hx => by obtain ⟨cs, h1, h2⟩ := hc i x hx; exact ⟨cs, h1, h2⟩⟩
/-- What a call made, of parts that lie in no block of N. -/
theorem own_out2 {α : Type} {k : Kd α} {N : Nat → Prop} {w : World} {B : Nat} {E : TypeId} {v : Value} {xs : List α} (h : OwnK (kN k N) w B E v xs) (hN : ∀ b, N b → b < B) : ∃ A c, v = .slice A xs.length c ∧ xs.length ≤ c ∧ c ≤ M63 ∧ (A = none → c = 0) ∧ Rw k w (Out2 N w) A xs.length xs := by
  have hlt := h.lt
  obtain ⟨A, c, rfl, h1, h2, h3, h4⟩ := OwnK.rw_ h
  refine ⟨A, c, rfl, h1, h2, h3, kN_out2 h4 fun g o e n => ?_⟩
  subst e
  have := (hlt g rfl).1
  have := hN g n
  omega
/-- Bytes that lie in no block of N. -/
abbrev ByN (N : Nat → Prop) (w : World) (A : Option Addr) (L : List Nat) : Prop := Rw kByte w (Out2 N w) A L.length L
theorem ByN.below {N : Nat → Prop} {w w' : World} {A : Option Addr} {L : List Nat} (h : ByN N w A L) (hb : Below w.heap.size w w') : ByN N w' A L := Rw.out2 h (fun k h1 _ => hb.block k h1) hb.size (fun _ _ h => h)
theorem ch_atN {N : Nat → Prop} {w : World} {g o : Nat} {xs : List Chg} (h : Rw (kN kChg N) w (All w) (some ⟨g, o, none⟩) xs.length xs) (k : Nat) (hk : k < xs.length) : ∃ A c A2 c2, ChAt w g o k xs[k] A c A2 c2 ∧ kChg.K w (fun b => b < w.heap.size ∧ ¬ N b) xs[k] (chC xs[k] A c A2 c2).toList := by
  obtain ⟨g', o', cs, hA, _, hg, hK, hc⟩ := h.at_ hk
  injection hA with hA; injection hA with e1 e2; subst e1 e2
  have hK2 : kChg.K w (fun b => b < w.heap.size ∧ ¬ N b) xs[k] cs := hK
  have hK3 : kChg.K w (All w) xs[k] cs := kChg.mono (fun b hb => hb.1) hK2
  obtain ⟨A, c, A2, c2, rfl, ok, hp, hn⟩ := kChg_open hK3
  have c0 := hc 0 _ rfl
  have c1 := hc 1 _ rfl
  have c2' := hc 2 _ rfl
  have c3 := hc 3 _ rfl
  have c4 := hc 4 _ rfl
  exact ⟨A, c, A2, c2, ⟨c0, c1, c2', c3, c4, ok, hp, hn⟩, hK2⟩
set_option maxHeartbeats 2000000 in
set_option maxRecDepth 100000 in
theorem RWithoutN_any (N : Nat → Prop) (A : Option Addr) (c : Nat) (xs : List Chg) (A2 : Option Addr) (c2 : Nat) (ids : List Int) (w : World) (hx : Rw (kN kChg N) w (All w) A xs.length xs) (hi : Is w A2 ids) (hn : xs.length ≤ 1000) :
    Calls Tryz.prog 53 #[.slice A xs.length c, .slice A2 ids.length c2] w fun r w' => ∃ v, r = .returned v ∧ OwnK (kN kChg N) w' w.heap.size 97 v (woS xs ids) ∧ Below w.heap.size w w' := by
  have hl : xs.length ≤ 9223372036854775807 := hx.2.1
  have hx0 : Chs w A xs := kN_rw hx
  obtain ⟨is, his⟩ : ∃ is : Chg → Bool, is = fun x => !decide (x.id ∈ ids) := ⟨_, rfl⟩
  have HR : Hid (woS xs ids = xs.filter is) := Lib.hid (by rw [his]; rfl)
  have HIS : Hid (∀ x, is x = !decide (x.id ∈ ids)) := Lib.hid (fun x => by rw [his])
  clear his
  go_enter Tryz.func53, Tryz.ntmps53
  go_wp2
  go_loopw [5, 6] (fun v i wr => ∃ (k : Nat), k ≤ xs.length ∧ i = .int .i64 k ∧ OwnK (kN kChg N) wr w.heap.size 97 v ((xs.take k).filter is) ∧ Below w.heap.size w wr) (fun _ i _ => xs.length - (intOf i).toNat)
  case atStart => exact ⟨0, by omega, rfl, OwnK.nil _ _ _ _, Below.refl _ _⟩
  case round =>
    obtain ⟨k, hk, rfl, hown, hbr⟩ := hrel
    by_cases hlt : k < xs.length
    · have CI0 := in_any A2 c2 ids xs[k].id wr (hi.below hbr)
      obtain ⟨g, o, rfl, hg⟩ := ch_form hx0 (by omega)
      obtain ⟨A1, c1, A2', c2', hat0, hKP⟩ := ch_atN hx k hlt
      have hat := hat0.below hbr
      have e0 := hat.v0
      have e1 := hat.v1
      have e2 := hat.v2
      have e3 : wr.cell? ⟨g, o + k * 5 + 3, none⟩ = _ := hat.v3
      have e4 := hat.v4
      have hK0 : ∀ wX, Below w.heap.size w wX → (kN kChg N).K wX (fun b => b < w.heap.size) xs[k] (chC xs[k] A1 c1 A2' c2').toList := fun wX hb => kChg.stay (w := w) (fun b hb' => hb.block b hb'.1) hKP
      have HE : Hid (∀ w9, Below w.heap.size w w9 → ChAt w9 g o k xs[k] A1 c1 A2' c2') := Lib.hid fun w9 h => hat0.below h
      have HT := Lib.hid (take_next hlt)
      have HK := Lib.hid hK0
      have HO := Lib.hid hown
      have HB := Lib.hid hbr
      have HLT := Lib.hid hown.lt
      have hle := hbr.size
      have hl2 : ((xs.take k).filter is).length ≤ k := Nat.le_trans (List.length_filter_le _ _) (by rw [List.length_take]; omega)
      clear hat0 hat hown hbr hK0 hKP
      generalize xs[k] = x at *
      obtain ⟨R, hR⟩ : ∃ R, (xs.take k).filter is = R := ⟨_, rfl⟩
      rw [hR] at HO hl2
      have HRR := Lib.hid hR
      have CI := Lib.hid CI0
      clear hR CI0
      by_cases hin : x.id ∈ ids
      · have HT2 : Hid ((xs.take (k + 1)).filter is = R) := Lib.hid (by rw [HT.out, List.filter_append, List.filter_cons_of_neg (by rw [HIS.out, decide_eq_true hin]; simp), List.filter_nil, List.append_nil, HRR.out])
        rw [decide_eq_true hin] at CI
        clear hin
        go_wp2_with fail
        refine CI.out.mono ?_
        rintro e wX ⟨rfl, hbX⟩
        have HOX := Lib.hid (HO.out.below hbX)
        have HBX := Lib.hid (HB.out.trans (hbX.mono HB.out.size))
        clear hbX CI
        go_wp2_with fail
        go_roundw
        case rel => exact ⟨k + 1, by omega, by go_num, by rw [HT2.out]; exact HOX.out, HBX.out⟩
        case measure => simp [intOf]; omega
      · have hf : is x = true := by rw [HIS.out, decide_eq_false hin]; rfl
        rw [decide_eq_false hin] at CI
        clear hin
        go_wp2_with fail
        refine CI.out.mono ?_
        rintro e wX ⟨rfl, hbX⟩
        have HOX := Lib.hid (HO.out.below hbX)
        have HBX := Lib.hid (HB.out.trans (hbX.mono HB.out.size))
        clear hbX CI e0 e1 e2 e3 e4
        have HT2 : Hid ((xs.take (k + 1)).filter is = R ++ [x]) := Lib.hid (by rw [HT.out, List.filter_append, List.filter_cons_of_pos hf, List.filter_nil, HRR.out])
        have hrow : Row (wX.alloc (.cells (chC x A1 c1 A2' c2') 97)) wX.heap.size 97 (chC x A1 c1 A2' c2').toList.toArray := by rw [Array.toArray_toList]; exact Row.new wX _ _
        have hO4 := HOX.out.alloc (.cells (chC x A1 c1 A2' c2') 97)
        have HB4 := Lib.hid (HBX.out.alloc HBX.out.size (.cells (chC x A1 c1 A2' c2') 97))
        have hK := HK.out _ HB4.out
        have hle5 : w.heap.size ≤ (wX.alloc (.cells (chC x A1 c1 A2' c2') 97)).heap.size := HB4.out.size
        have q := HE.out wX HBX.out
        have q0 := q.v0
        have q1 := q.v1
        have q2 := q.v2
        have q3 : wX.cell? ⟨g, o + k * 5 + 3, none⟩ = _ := q.v3
        have q4 := q.v4
        clear q hf
        go_wp2_with (at_builtin; go_loud (refine wpList_appK (k := kN kChg N) rfl _ _ 29 rfl (.agg chZ) 72 Tryz.underlying29 rchInfo3 rfl (show 0 < 5 by decide) rfl _ _ rfl hO4 97 (chC x A1 c1 A2' c2').toList hrow x _ hK (fun b hb => ⟨fun e => by have := HLT.out b e.symm; omega, Nat.lt_of_lt_of_le hb hle5⟩) (by omega) (by omega) hle5 ?_); intro v7 w7 hown7 hg7 hat7)
        have HO7 := Lib.hid hown7
        have HB7 := Lib.hid (HB4.out.grown hg7 hle5 (fun q hq => (HLT.out q hq).1))
        clear hown7 hg7 hat7
        go_roundw
        case rel => exact ⟨k + 1, by omega, by go_num, by rw [HT2.out]; exact HO7.out, HB7.out⟩
        case measure => simp [intOf]; omega
    · obtain rfl : k = xs.length := by omega
      rw [List.take_length] at hown
      have HO := Lib.hid hown
      clear hown
      go_wp2
      go_ret
      exact ⟨_, rfl, by rw [HR.out]; exact HO.out, hbr⟩
set_option maxHeartbeats 1000000 in
set_option maxRecDepth 100000 in
theorem rlayN_any (N : Nat → Prop) (A : Option Addr) (c : Nat) (b : List Nat) (a : Int) (A2 : Option Addr) (c2 : Nat) (d : List Nat) (w : World) (hb : ByN N w A b) (hN : ∀ k, N k → k < w.heap.size) (hd : By w A2 d) (hb2 : b.length = 256) (hcc : b.length ≤ c) (hcm : c ≤ M63) (hc : A = none → c = 0) :
    Calls Tryz.prog 93 #[.slice A b.length c, patV a A2 d.length c2] w fun e w' => ∃ A' c', e = .returned (.slice A' b.length c') ∧ b.length ≤ c' ∧ c' ≤ M63 ∧ (A' = none → c' = 0) ∧ ByN N w' A' (layL b a d) ∧ Below w.heap.size w w' := by
  have hr := Row.new w 46 #[.int .i64 a, .slice A2 d.length c2]
  have hbel := (Below.refl w.heap.size w).alloc (Nat.le_refl _) (.cells #[.int .i64 a, .slice A2 d.length c2] 46)
  have CR := Lib.hid (fun w' => right_any a A2 d.length c2 w' hd.2.1)
  have HB2 := Lib.hid hb2
  have hb3 : b.length ≤ 256 := by omega
  have hb4 : 256 ≤ b.length := by omega
  clear hb2
  cases h : rightN a d.length with
  | false =>
    have e : layL b a d = b := by unfold layL; rw [h]; rfl
    rw [e]
    rw [h] at CR
    clear h e
    go_enter Tryz.func93, Tryz.ntmps93
    go_wp2_with fail
    generalize w.alloc (.cells #[.int .i64 a, .slice A2 d.length c2] 46) = w1 at *
    refine (CR.out _).mono ?_
    rintro e w2 ⟨rfl, hbel2⟩
    have hbel3 := hbel.trans (hbel2.mono hbel.size)
    go_wp2
    go_ret
    exact ⟨A, c, rfl, hcc, hcm, hc, Rw.out2 hb (fun k h1 _ => hbel3.block k h1) hbel3.size (fun _ _ h => h), hbel3⟩
  | true =>
    have e : layL b a d = layK b a.toNat d d.length := by unfold layL; rw [h]; rfl
    obtain ⟨h1, h2, h3, h4⟩ := (right_iff _ _).1 h
    obtain ⟨q, rfl⟩ := Int.eq_ofNat_of_zero_le h3
    rw [e, Int.toNat_natCast, ← layR_eq b q d (by omega)]
    rw [h] at CR
    clear h e
    go_enter Tryz.func93, Tryz.ntmps93
    go_wp2_with fail
    generalize w.alloc (.cells #[.int .i64 (q : Int), .slice A2 d.length c2] 46) = w1 at *
    refine (CR.out _).mono ?_
    rintro e w2 ⟨rfl, hbel2⟩
    have hr2 := hr.below hbel2
    have hbel3 := hbel.trans (hbel2.mono hbel.size)
    have c0 := hr2.cell 0 rfl
    have c1 := hr2.cell 1 rfl
    have CL := Lib.hid (rlay1_any A c b q A2 c2 d w2 ((hb.mono fun k hk => hk.1).below hbel3) (hd.below hbel3) (by omega) (by omega))
    clear hr hbel hbel2 hr2
    go_wp2_with fail
    refine CL.out.mono ?_
    rintro e w3 ⟨A', c', rfl, q1, q2, q3, q4, hbel4⟩
    go_wp2
    go_ret
    exact ⟨A', c', rfl, q1, q2, q3, q4.mono (fun k hk => ⟨hk.2, fun e => by have := hN k e; have := hbel3.size; have := hk.1; omega⟩), hbel3.trans (hbel4.mono hbel3.size)⟩
set_option maxHeartbeats 2000000 in
set_option maxRecDepth 100000 in
theorem rlaidN_in (N : Nat → Prop) (A : Option Addr) (c : Nat) (xs : List Chg) (bl : Int) (AB : Option Addr) (cB : Nat) (B : List Nat) (AI : Option Addr) (cI : Nat) (ids : List Int) (w : World) (hx : Chs w A xs) (hB : B.length = 256) (hB1 : 256 ≤ cB) (hB2 : cB ≤ M63) (hB3 : AB = none → cB = 0) (hby : ByN N w AB B) (hN : ∀ k, N k → k < w.heap.size) (hi : Is w AI ids) (hn : xs.length ≤ 1000) :
    Calls Tryz.prog 73 #[.slice AB 256 cB, .slice A xs.length c, .int .i64 bl, .slice AI ids.length cI, .bool false] w fun r w' => ∃ A' c', r = .returned (.slice A' 256 c') ∧ 256 ≤ c' ∧ c' ≤ M63 ∧ (A' = none → c' = 0) ∧ ByN N w' A' (laidF bl (fun n => decide (n ∈ ids)) B xs) ∧ Below w.heap.size w w' := by
  obtain ⟨is, his, hiseq⟩ : ∃ is : Int → Bool, (∀ n, is n = decide (n ∈ ids)) ∧ is = fun n => decide (n ∈ ids) := ⟨fun n => decide (n ∈ ids), fun _ => rfl, rfl⟩
  rw [← hiseq]
  clear hiseq
  have hl : xs.length ≤ 9223372036854775807 := hx.2.1
  go_enter Tryz.func73, Tryz.ntmps73
  go_wp2
  go_loopw [0, 11] (fun v i wr => ∃ (k : Nat) (A1 : Option Addr) (c1 : Nat), k ≤ xs.length ∧ i = .int .i64 k ∧ v = .slice A1 256 c1 ∧ 256 ≤ c1 ∧ c1 ≤ M63 ∧ Hid (A1 = none → c1 = 0) ∧ ByN N wr A1 (laidF bl is B (xs.take k)) ∧ Below w.heap.size w wr) (fun _ i _ => xs.length - (intOf i).toNat)
  case atStart => exact ⟨0, AB, cB, by omega, rfl, rfl, hB1, hB2, Lib.hid hB3, hby, Below.refl _ _⟩
  case round =>
    obtain ⟨k, A1, c1, hk, rfl, rfl, h1, h2, h3, hbyr, hbr⟩ := hrel
    obtain ⟨L, hL⟩ : ∃ L, laidF bl is B (xs.take k) = L := ⟨_, rfl⟩
    have hLl : L.length = 256 := by rw [← hL, laidF_len]; exact hB
    have HL := Lib.hid hL
    rw [hL] at hbyr
    clear hL
    by_cases hlt : k < xs.length
    · obtain ⟨gx, ox, rfl, hgx⟩ := ch_form hx (by omega)
      obtain ⟨Ap, cp, An, cn, hat0⟩ := ch_at hx k hlt
      have hat := hat0.below hbr
      have e0 := hat.v0
      have e1 := hat.v1
      have e2 := hat.v2
      have e3 := hat.v3
      have hS := hat.s
      have HE := Lib.hid (fun w9 (h : Below w.heap.size w w9) => hat0.below h)
      have HT := Lib.hid (take_next hlt)
      have hkl : (k : Int) < (xs.length : Int) := by omega
      clear hat0 hat
      generalize xs[k] = x at *
      have HY := Lib.hid hbyr
      have HB := Lib.hid hbr
      have HS := Lib.hid hS
      clear hbyr hbr hS
      by_cases hbk : x.blk = bl
      · have hq : (x.blk == bl) = true := by rw [hbk]; exact beq_self_eq_true _
        have HBK := Lib.hid hbk
        clear hbk
        have CI0 := in_any AI cI ids x.id wr (hi.below HB.out)
        cases hf : decide (x.id ∈ ids) with
        | false =>
          rw [hf] at CI0
          have CI := Lib.hid CI0
          have HL2 : Hid (laidF bl is B (xs.take (k + 1)) = L) := Lib.hid (by rw [HT.out, laidF_app, if_neg (fun h => by have := h.2; rw [his, hf] at this; cases this), HL.out])
          clear hf CI0
          go_wp2_with fail
          refine CI.out.mono ?_
          rintro e w5 ⟨rfl, hb5⟩
          have HY := Lib.hid (HY.out.below hb5)
          have HB := Lib.hid (HB.out.trans (hb5.mono HB.out.size))
          clear hb5 CI
          go_wp2_with fail
          go_roundw
          case rel => exact ⟨k + 1, A1, c1, by omega, by go_num, rfl, h1, h2, h3, by rw [HL2.out]; exact HY.out, HB.out⟩
          case measure => simp [intOf]; omega
        | true =>
          rw [hf] at CI0
          have CI := Lib.hid CI0
          have HT2 : Hid (laidF bl is B (xs.take (k + 1)) = layL L x.pa x.pd) := Lib.hid (by rw [HT.out, laidF_app, if_pos ⟨HBK.out, (his _).trans hf⟩, HL.out]; rfl)
          clear hf CI0
          go_wp2_with fail
          refine CI.out.mono ?_
          rintro e w5 ⟨rfl, hb5⟩
          have HY := Lib.hid (HY.out.below hb5)
          have HB := Lib.hid (HB.out.trans (hb5.mono HB.out.size))
          have hat5 := HE.out w5 HB.out
          have f2 := hat5.v2
          have f3 := hat5.v3
          have CL0 := rlayN_any N A1 c1 L x.pa Ap cp x.pd w5 HY.out (fun k hk => Nat.lt_of_lt_of_le (hN k hk) HB.out.size) hat5.s.p4 hLl (by rw [hLl]; exact h1) h2 h3.out
          rw [hLl] at CL0
          have CL := Lib.hid CL0
          clear CL0 hb5 CI hat5 e0 e1 e2 e3
          go_wp2_with fail
          refine CL.out.mono ?_
          rintro e w7 ⟨A7, c7, rfl, h71, h72, h73, h74, hb7⟩
          have HN : Hid (ByN N w7 A7 (laidF bl is B (xs.take (k + 1)))) := Lib.hid (by rw [HT2.out]; exact h74)
          have HB := Lib.hid (HB.out.trans (hb7.mono HB.out.size))
          clear h74 hb7 CL
          go_wp2_with fail
          go_roundw
          case rel => exact ⟨k + 1, A7, c7, by omega, by go_num, rfl, h71, h72, Lib.hid h73, HN.out, HB.out⟩
          case measure => simp [intOf]; omega
      · have hq : (x.blk == bl) = false := beq_eq_false_iff_ne.2 hbk
        have HL2 : Hid (laidF bl is B (xs.take (k + 1)) = L) := Lib.hid (by rw [HT.out, laidF_app, if_neg (fun h => hbk h.1), HL.out])
        clear hbk
        go_wp2_with fail
        go_roundw
        case rel => exact ⟨k + 1, A1, c1, by omega, by go_num, rfl, h1, h2, h3, by rw [HL2.out]; exact HY.out, HB.out⟩
        case measure => simp [intOf]; omega
    · obtain rfl : k = xs.length := by omega
      rw [List.take_length] at HL
      have HY := Lib.hid hbyr
      clear hbyr
      go_wp2
      go_ret
      exact ⟨A1, c1, rfl, h1, h2, h3.out, by rw [HL.out]; exact HY.out, hbr⟩
set_option maxHeartbeats 2000000 in
set_option maxRecDepth 100000 in
theorem RImageN_any (N : Nat → Prop) (A : Option Addr) (c : Nat) (xs : List Chg) (bl : Int) (AB : Option Addr) (cB : Nat) (B : List Nat) (w : World) (hx : Chs w A xs) (hB : B.length = 256) (hB1 : 256 ≤ cB) (hB2 : cB ≤ M63) (hB3 : AB = none → cB = 0) (hby : ByN N w AB B) (hN : ∀ k, N k → k < w.heap.size) (hn : xs.length ≤ 1000) :
    Calls Tryz.prog 52 #[.slice AB 256 cB, .slice A xs.length c, .int .i64 bl] w fun r w' => ∃ A' c', r = .returned (.slice A' 256 c') ∧ 256 ≤ c' ∧ c' ≤ M63 ∧ (A' = none → c' = 0) ∧ ByN N w' A' (imgF B xs bl) ∧ Below w.heap.size w w' := by
  have CR := Lib.hid (RReady_any A c xs bl w hx hn)
  have hwf := ready_wf2 hx bl
  have HX := Lib.hid hx
  go_enter Tryz.func52, Tryz.ntmps52
  go_wp2_with fail
  refine CR.out.mono ?_
  rintro e w2 ⟨v2, rfl, hown2, hb2⟩
  obtain ⟨A2, c2, rfl, _, _, _, hi⟩ := own_is hown2 hwf
  have CL := Lib.hid (rlaidN_in N A c xs bl AB cB B A2 c2 (readyS xs bl) w2 (HX.out.below hb2) hB hB1 hB2 hB3 (ByN.below hby hb2) (fun k hk => Nat.lt_of_lt_of_le (hN k hk) hb2.size) hi hn)
  have HB2 := Lib.hid hb2
  clear hown2 hi CR hb2
  go_wp2_with fail
  refine CL.out.mono ?_
  rintro e w3 ⟨A3, c3, rfl, h1, h2, h3, h4, hb3⟩
  have H4 := Lib.hid h4
  have HB3 := Lib.hid (HB2.out.trans (hb3.mono HB2.out.size))
  clear h4 hb3 CL
  go_wp2
  go_ret
  exact ⟨A3, c3, rfl, h1, h2, h3, H4.out, HB3.out⟩
end Go.Proofs.YtbamhiegabeicaaGreat.Cb

