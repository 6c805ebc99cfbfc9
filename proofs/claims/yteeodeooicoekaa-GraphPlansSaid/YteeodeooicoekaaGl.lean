/- What is left, by the document, with where its parts lie; and its After, Plan and Drain. No statement is proved here. -/
import Derived.Test.YteeodeooicoekaaGj
import Derived.Test.YteeodeooicoekaaGh
import Derived.Test.YteeodeooicoekaaRg
namespace Go.Proofs.Yteeodeooicoekaa.Rd
open Go.RowKit Go.Proofs.Yteeodeooicoekaa.Mem Go.Proofs.Yteeodeooicoekaa.Open Go.Proofs.Yteeodeooicoekaa.Kind Go.Proofs.Yteeodeooicoekaa.Blk Go.Proofs.Yteeodeooicoekaa.App Go.Proofs.Yteeodeooicoekaa.Pat
set_option linter.unusedVariables false
set_option linter.unusedSimpArgs false
/-- A kind of data whose parts lie in some blocks alone. -/
def kP {α : Type} (P : Nat → Prop) (k : Kd α) : Kd α where
  sz := k.sz
  K := fun w S x cs => k.K w (fun b => S b ∧ P b) x cs
  len := fun h => k.len h
  one := fun h => k.one h
  stay := fun hs h => k.stay (fun b hb => hs b hb.1) h
  mono := fun hs h => k.mono (fun b hb => ⟨hs b hb.1, hb.2⟩) h
  bound := fun h => k.mono (fun b hb => ⟨⟨hb.1.1, hb.2⟩, hb.1.2⟩) (k.bound h)
theorem rwP_weak {α : Type} {k : Kd α} {P : Nat → Prop} {w : World} {S : Nat → Prop} {A : Option Addr} {n : Nat} {xs : List α} (h : Rw (kP P k) w S A n xs) : Rw k w S A n xs := by
  refine ⟨h.1, h.2.1, ?_⟩
  rcases h.2.2 with h0 | ⟨g, o, hA, hg, hlt, hc⟩
  · exact .inl h0
  · exact .inr ⟨g, o, hA, hg, hlt, fun i x hx => by obtain ⟨cs, h1, h2⟩ := hc i x hx; exact ⟨cs, k.mono (fun b hb => hb.1) h1, h2⟩⟩
theorem rwP_own {w : World} {A : Option Addr} {xs : List Chg} (h : Chs w A xs) : Rw (kP (· < w.heap.size) kChg) w (All w) A xs.length xs := by
  refine ⟨h.1, h.2.1, ?_⟩
  rcases h.2.2 with h0 | ⟨g, o, hA, hg, hlt, hc⟩
  · exact .inl h0
  · exact .inr ⟨g, o, hA, hg, hlt, fun i x hx => by obtain ⟨cs, h1, h2⟩ := hc i x hx; exact ⟨cs, kChg.mono (fun b hb => ⟨hb, hb⟩) h1, h2⟩⟩
theorem ch_atP {P : Nat → Prop} {w : World} {g o : Nat} {xs : List Chg} (h : Rw (kP P kChg) w (All w) (some ⟨g, o, none⟩) xs.length xs) (k : Nat) (hk : k < xs.length) : ∃ A c A2 c2, ChAt w g o k xs[k] A c A2 c2 ∧ kChg.K w (fun b => b < w.heap.size ∧ P b) xs[k] (chC xs[k] A c A2 c2).toList := by
  obtain ⟨g', o', cs, hA, _, hg, hK, hc⟩ := h.at_ hk
  injection hA with hA; injection hA with e1 e2; subst e1 e2
  have hK2 : kChg.K w (fun b => b < w.heap.size ∧ P b) xs[k] cs := hK
  have hK3 : kChg.K w (All w) xs[k] cs := kChg.mono (fun b hb => hb.1) hK2
  obtain ⟨A, c, A2, c2, rfl, ok, hp, hn⟩ := kChg_open hK3
  have c0 := hc 0 _ rfl
  have c1 := hc 1 _ rfl
  have c2' := hc 2 _ rfl
  have c3 := hc 3 _ rfl
  have c4 := hc 4 _ rfl
  exact ⟨A, c, A2, c2, ⟨c0, c1, c2', c3, c4, ok, hp, hn⟩, hK2⟩
/-- What a call made lies outside of a block that another value owns. -/
theorem ownP_rw {w : World} {B B0 : Nat} {E : TypeId} {v u : Value} {xs : List Chg} (h : OwnK (kP (· < B0) kChg) w B E v xs) (hu : ∀ q, u.ownBlock = some q → B0 ≤ q ∧ q < B) :
    ∃ A c, v = .slice A xs.length c ∧ Rw (kP (· < B0) kChg) w (fun b => some b ≠ u.ownBlock ∧ b < w.heap.size) A xs.length xs := by
  have hlt := h.lt
  obtain ⟨rows, h1, h2, h3⟩ := h
  have hl := OwnK.rows_len (k := kP (· < B0) kChg) h1 h2
  rcases h3.2 with ⟨rfl, h0⟩ | ⟨g, cap, cur, rfl, hg, hh, n1, n2, n3⟩
  · have : xs = [] := List.eq_nil_of_length_eq_zero h0
    subst this
    exact ⟨none, 0, rfl, Rw.nil _ _ _ _⟩
  · simp only [maxLen] at n2
    refine ⟨_, cap, rfl, rfl, by show xs.length ≤ 9223372036854775807; omega, .inr ⟨g, 0, rfl, ⟨fun e => by have := (hu g e.symm).2; have := (hlt g rfl).1; omega, row_lt hh⟩, row_lt hh, fun i x hx => ?_⟩⟩
    obtain ⟨cs, c1, c2⟩ := h2 i x hx
    refine ⟨cs, kChg.mono (fun b hb => ⟨⟨fun e => by have := (hu b e.symm).1; have := hb.2; omega, hb.1.2⟩, hb.2⟩) c2, fun j z hz => ?_⟩
    have := World.ownsRow.cells h3 (g := g) rfl (i * kChg.sz + j) z (flat_get hl i cs j z c1 hz)
    rw [addr_add] at this
    show w.cell? ⟨g, 0 + i * kChg.sz + j, none⟩ = some z
    rwa [show 0 + i * kChg.sz + j = 0 + (i * kChg.sz + j) from by omega]
set_option maxHeartbeats 2000000 in
set_option maxRecDepth 100000 in
theorem RWithoutP_any (P : Nat → Prop) (A : Option Addr) (c : Nat) (xs : List Chg) (A2 : Option Addr) (c2 : Nat) (ids : List Int) (w : World) (hx : Rw (kP P kChg) w (All w) A xs.length xs) (hi : Is w A2 ids) (hn : xs.length ≤ 1000) :
    Calls Try.prog 21 #[.slice A xs.length c, .slice A2 ids.length c2] w fun r w' => ∃ v, r = .returned v ∧ OwnK (kP P kChg) w' w.heap.size 59 v (woS xs ids) ∧ Below w.heap.size w w' := by
  have hl : xs.length ≤ 9223372036854775807 := hx.2.1
  have hx0 : Chs w A xs := rwP_weak hx
  obtain ⟨is, his⟩ : ∃ is : Chg → Bool, is = fun x => !decide (x.id ∈ ids) := ⟨_, rfl⟩
  have HR : Hid (woS xs ids = xs.filter is) := Lib.hid (by rw [his]; rfl)
  have HIS : Hid (∀ x, is x = !decide (x.id ∈ ids)) := Lib.hid (fun x => by rw [his])
  clear his
  go_enter Try.func21, Try.ntmps21
  go_wp2
  go_loopw [5, 6] (fun v i wr => ∃ (k : Nat), k ≤ xs.length ∧ i = .int .i64 k ∧ OwnK (kP P kChg) wr w.heap.size 59 v ((xs.take k).filter is) ∧ Below w.heap.size w wr) (fun _ i _ => xs.length - (intOf i).toNat)
  case atStart => exact ⟨0, by omega, rfl, OwnK.nil _ _ _ _, Below.refl _ _⟩
  case round =>
    obtain ⟨k, hk, rfl, hown, hbr⟩ := hrel
    by_cases hlt : k < xs.length
    · have CI0 := in_any A2 c2 ids xs[k].id wr (hi.below hbr)
      obtain ⟨g, o, rfl, hg⟩ := ch_form hx0 (by omega)
      obtain ⟨A1, c1, A2', c2', hat0, hKP⟩ := ch_atP hx k hlt
      have hat := hat0.below hbr
      have e0 := hat.v0
      have e1 := hat.v1
      have e2 := hat.v2
      have e3 : wr.cell? ⟨g, o + k * 5 + 3, none⟩ = _ := hat.v3
      have e4 := hat.v4
      have hK0 : ∀ wX, Below w.heap.size w wX → (kP P kChg).K wX (fun b => b < w.heap.size) xs[k] (chC xs[k] A1 c1 A2' c2').toList := fun wX hb => kChg.stay (w := w) (fun b hb' => hb.block b hb'.1) hKP
      have HE : Hid (∀ w9, Below w.heap.size w w9 → ChAt w9 g o k xs[k] A1 c1 A2' c2') := Lib.hid fun w9 h => hat0.below h
      have HT := Lib.hid (take_next hlt)
      have HK := Lib.hid hK0
      have HO := Lib.hid hown
      have HB := Lib.hid hbr
      have HLT := Lib.hid hown.lt
      have hle := hbr.size
      have hl2 : ((xs.take k).filter is).length ≤ k := Nat.le_trans (List.length_filter_le _ _) (by rw [List.length_take]; omega)
      clear hat0 hat hown hbr hK0 hKP
      generalize xs[k] = x at *
      obtain ⟨R, hR⟩ : ∃ R, (xs.take k).filter is = R := ⟨_, rfl⟩
      rw [hR] at HO hl2
      have HRR := Lib.hid hR
      have CI := Lib.hid CI0
      clear hR CI0
      by_cases hin : x.id ∈ ids
      · have HT2 : Hid ((xs.take (k + 1)).filter is = R) := Lib.hid (by rw [HT.out, List.filter_append, List.filter_cons_of_neg (by rw [HIS.out, decide_eq_true hin]; simp), List.filter_nil, List.append_nil, HRR.out])
        rw [decide_eq_true hin] at CI
        clear hin
        go_wp2_with fail
        refine CI.out.mono ?_
        rintro e wX ⟨rfl, hbX⟩
        have HOX := Lib.hid (HO.out.below hbX)
        have HBX := Lib.hid (HB.out.trans (hbX.mono HB.out.size))
        clear hbX CI
        go_wp2_with fail
        go_roundw
        case rel => exact ⟨k + 1, by omega, by go_num, by rw [HT2.out]; exact HOX.out, HBX.out⟩
        case measure => simp [intOf]; omega
      · have hf : is x = true := by rw [HIS.out, decide_eq_false hin]; rfl
        rw [decide_eq_false hin] at CI
        clear hin
        go_wp2_with fail
        refine CI.out.mono ?_
        rintro e wX ⟨rfl, hbX⟩
        have HOX := Lib.hid (HO.out.below hbX)
        have HBX := Lib.hid (HB.out.trans (hbX.mono HB.out.size))
        clear hbX CI e0 e1 e2 e3 e4
        have HT2 : Hid ((xs.take (k + 1)).filter is = R ++ [x]) := Lib.hid (by rw [HT.out, List.filter_append, List.filter_cons_of_pos hf, List.filter_nil, HRR.out])
        have hrow : Row (wX.alloc (.cells (chC x A1 c1 A2' c2') 59)) wX.heap.size 59 (chC x A1 c1 A2' c2').toList.toArray := by rw [Array.toArray_toList]; exact Row.new wX _ _
        have hO4 := HOX.out.alloc (.cells (chC x A1 c1 A2' c2') 59)
        have HB4 := Lib.hid (HBX.out.alloc HBX.out.size (.cells (chC x A1 c1 A2' c2') 59))
        have hK := HK.out _ HB4.out
        have hle5 : w.heap.size ≤ (wX.alloc (.cells (chC x A1 c1 A2' c2') 59)).heap.size := HB4.out.size
        have q := HE.out wX HBX.out
        have q0 := q.v0
        have q1 := q.v1
        have q2 := q.v2
        have q3 : wX.cell? ⟨g, o + k * 5 + 3, none⟩ = _ := q.v3
        have q4 := q.v4
        clear q hf
        go_wp2_with (at_builtin; go_loud (refine wpList_appK (k := kP P kChg) rfl _ _ 23 rfl (.agg chZ) 72 Try.underlying23 rchInfo3 rfl (show 0 < 5 by decide) rfl _ _ rfl hO4 59 (chC x A1 c1 A2' c2').toList hrow x _ hK (fun b hb => ⟨fun e => by have := HLT.out b e.symm; omega, Nat.lt_of_lt_of_le hb hle5⟩) (by omega) (by omega) hle5 ?_); intro v7 w7 hown7 hg7 hat7)
        have HO7 := Lib.hid hown7
        have HB7 := Lib.hid (HB4.out.grown hg7 hle5 (fun q hq => (HLT.out q hq).1))
        clear hown7 hg7 hat7
        go_roundw
        case rel => exact ⟨k + 1, by omega, by go_num, by rw [HT2.out]; exact HO7.out, HB7.out⟩
        case measure => simp [intOf]; omega
    · obtain rfl : k = xs.length := by omega
      rw [List.take_length] at hown
      have HO := Lib.hid hown
      clear hown
      go_wp2
      go_ret
      exact ⟨_, rfl, by rw [HR.out]; exact HO.out, hbr⟩
set_option maxHeartbeats 2000000 in
set_option maxRecDepth 100000 in
theorem RAfter_any (A : Option Addr) (c : Nat) (xs : List Chg) (AB : Option Addr) (cB : Nat) (bs : List Int) (w : World) (hx : Chs w A xs) (hi : Is w AB bs) (hn : xs.length ≤ 1000) :
    Calls Try.prog 47 #[.slice A xs.length c, .slice AB bs.length cB] w fun r w' => ∃ A' c', r = .returned (.slice A' (afterS xs bs).length c') ∧ Chs w' A' (afterS xs bs) ∧ Below w.heap.size w w' := by
  have hl : bs.length ≤ 9223372036854775807 := hi.2.1
  go_enter Try.func47, Try.ntmps47
  go_wp2_with fail
  go_loopw [0, 5] (fun v i wr => ∃ (k : Nat) (A7 : Option Addr) (c7 : Nat), k ≤ bs.length ∧ i = .int .i64 k ∧ v = .slice A7 (afterS xs (bs.take k)).length c7 ∧ Chs wr A7 (afterS xs (bs.take k)) ∧ Below w.heap.size w wr) (fun _ i _ => bs.length - (intOf i).toNat)
  case atStart => exact ⟨0, A, c, by omega, rfl, rfl, by first | exact hx | exact hx.drewN _, by first | exact Below.refl _ _ | exact bdrewN (Below.refl _ _) _⟩
  case round =>
    obtain ⟨k, A7, c7, hk, rfl, rfl, hls, hbr⟩ := hrel
    by_cases hlt : k < bs.length
    · obtain ⟨gb, ob, rfl, hgb, hc0⟩ := is_at hi k hlt
      have hcb := (hbr.cell (p := ⟨gb, ob + k, none⟩) hgb).trans hc0
      have HN := Lib.hid (afterS_next (xs := xs) hlt)
      have hll := afterS_len xs (bs.take k)
      generalize afterS xs (bs.take k) = ls at *
      generalize bs[k] = b at *
      have CR := Lib.hid (RReady_any A7 c7 ls b wr hls (by omega))
      have hwf := ready_wf2 hls b
      have HX := Lib.hid hls
      have HB := Lib.hid hbr
      have hko : (k : Int) < (bs.length : Int) := by omega
      have hls1 : ls.length ≤ 1000 := by omega
      clear hc0 hls hbr
      obtain ⟨R, hR⟩ : ∃ R, readyS ls b = R := ⟨_, rfl⟩
      have HR : Hid (nx ls b = woS ls R) := Lib.hid (by rw [← hR]; rfl)
      rw [hR] at CR hwf
      clear hR
      go_wp2_with fail
      refine CR.out.mono ?_
      rintro e w7 ⟨v7, rfl, ho7, hb7⟩
      obtain ⟨AR, cR, rfl, -, -, -, hiR⟩ := own_is ho7 hwf
      have HB7 := Lib.hid (HB.out.trans (hb7.mono HB.out.size))
      have CW := Lib.hid (RWithout_any A7 c7 ls AR cR R w7 (HX.out.below hb7) hiR hls1)
      clear ho7 hb7 CR hiR HB hcb
      go_wp2_with fail
      refine CW.out.mono ?_
      rintro e w8 ⟨v8, rfl, ho8, hb8⟩
      obtain ⟨A8, c8, rfl, -, -, -, hx8⟩ := ho8.rw_
      have HX8 := Lib.hid hx8
      have HB8 := Lib.hid (HB7.out.trans (hb8.mono HB7.out.size))
      clear ho8 hb8 CW hx8 HB7
      rw [← HR.out] at HX8 ⊢
      go_wp2_with fail
      go_roundw
      case rel => exact ⟨k + 1, A8, c8, by omega, by go_num, by rw [HN.out], by rw [HN.out]; exact HX8.out, HB8.out⟩
      case measure => simp [intOf]; omega
    · obtain rfl : k = bs.length := by omega
      rw [List.take_length] at *
      have HB := Lib.hid hbr
      have HL := Lib.hid hls
      clear hbr hls
      obtain ⟨ls, hE⟩ : ∃ ls, afterS xs bs = ls := ⟨_, rfl⟩
      rw [hE] at HL ⊢
      have HE := Lib.hid hE
      clear hE
      go_wp2
      go_ret
      refine ⟨A7, c7, ?_⟩
      rw [HE.out]
      exact ⟨rfl, HL.out, HB.out⟩
/-- Changes none of whose parts lies in the block that a value owns, and whose own parts were there ahead of block B0. -/
abbrev ChsP (w : World) (B0 : Nat) (v : Value) (A : Option Addr) (xs : List Chg) : Prop := Rw (kP (· < B0) kChg) w (fun b => some b ≠ v.ownBlock ∧ b < w.heap.size) A xs.length xs
theorem ChsP.below {w w' : World} {B0 : Nat} {v : Value} {A : Option Addr} {xs : List Chg} (h : ChsP w B0 v A xs) (hb : Below w.heap.size w w') : ChsP w' B0 v A xs :=
  Rw.mono (fun b h => ⟨h.1, Nat.lt_of_lt_of_le h.2 hb.size⟩) (Rw.stay (fun b h => hb.block b h.2) h)
theorem ChsP.all {w : World} {B0 : Nat} {v : Value} {A : Option Addr} {xs : List Chg} (h : ChsP w B0 v A xs) : Rw (kP (· < B0) kChg) w (All w) A xs.length xs := Rw.mono (fun b hb => hb.2) h
theorem ChsP.chs {w : World} {B0 : Nat} {v : Value} {A : Option Addr} {xs : List Chg} (h : ChsP w B0 v A xs) : Chs w A xs := rwP_weak h.all
theorem ChsP.gb {w w' : World} {B0 : Nat} {v : Value} {A : Option Addr} {xs : List Chg} (h : ChsP w B0 v A xs) (hg : w.grownBy w' v.ownBlock) : Rw (kP (· < B0) kChg) w' (All w') A xs.length xs :=
  Rw.mono (fun b h => Nat.lt_of_lt_of_le h.2 hg.size) (Rw.stay (fun b h => hg.block b h.2 h.1) h)
theorem chsP_nil {w : World} {A : Option Addr} {xs : List Chg} (h : Chs w A xs) : ChsP w w.heap.size (.slice none 0 0) A xs := Rw.mono (fun b hb => ⟨by simp [Value.ownBlock], hb⟩) (rwP_own h)
set_option maxHeartbeats 4000000 in
set_option maxRecDepth 100000 in
theorem RDrain_any (A : Option Addr) (c : Nat) (xs : List Chg) (w : World) (hx : Chs w A xs) (hn : xs.length ≤ 1000) :
    Calls Try.prog 46 #[.slice A xs.length c] w fun r w' => ∃ v, r = .returned v ∧ Ns w' w.heap.size v (drainS xs) ∧ Below w.heap.size w w' := by
  have CM0 := may_any A c xs w hx
  cases hm : mayF 0 xs with
  | false =>
    rw [hm] at CM0
    have CM := Lib.hid CM0
    have HV : Hid (drainS xs = []) := Lib.hid (by unfold drainS; rw [hm]; rfl)
    clear CM0 hm
    go_enter Try.func46, Try.ntmps46
    go_wp2_with fail
    refine CM.out.mono ?_
    rintro e w2 ⟨rfl, hb2⟩
    go_wp2
    go_ret
    exact ⟨_, rfl, by rw [HV.out]; exact Own.nil _ _ _ _, hb2⟩
  | true =>
    rw [hm] at CM0
    have CM := Lib.hid CM0
    obtain ⟨D, hD⟩ : ∃ D, drainS xs = D := ⟨_, rfl⟩
    have HD : Hid (D = drainN xs.length xs) := Lib.hid (by rw [← hD]; unfold drainS; rw [if_pos hm])
    rw [hD]
    have hl : xs.length ≤ 9223372036854775807 := hx.2.1
    clear CM0 hm hD
    go_enter Try.func46, Try.ntmps46
    go_wp2_with fail
    refine CM.out.mono ?_
    rintro e w2 ⟨rfl, hb2⟩
    have hx2 := ChsP.below (chsP_nil hx) hb2
    clear CM
    go_wp2_with fail
    go_loopw [0, 3, 4] (fun v out n wr => ∃ (A7 : Option Addr) (c7 : Nat) (ls : List Chg) (ds : List Int) (k : Nat), v = .slice A7 ls.length c7 ∧ n = .int .i64 k ∧ ls.length ≤ 1000 ∧ k + ds.length ≤ 1000 ∧ ChsP wr w.heap.size out A7 ls ∧ Ns wr w.heap.size out ds ∧ Hid (D = ds ++ drainN k ls) ∧ Below w.heap.size w wr) (fun _ _ n _ => (intOf n).toNat)
    case atStart => exact ⟨A, c, xs, [], xs.length, rfl, rfl, hn, by simpa using hn, hx2, Own.nil _ _ _ _, Lib.hid (by rw [HD.out]; rfl), hb2⟩
    case round =>
      obtain ⟨A7, c7, ls, ds, k, rfl, rfl, hlx, hkd, hls, hown, hdd, hbr⟩ := hrel
      have hle := hbr.size
      obtain ⟨A5, c5, rfl⟩ := hown.slice
      by_cases hz : k = 0 ∨ ls = []
      · have HE : Hid (D = ds) := Lib.hid (by
          rw [hdd.out]
          rcases hz with rfl | rfl
          · exact List.append_nil _
          · cases k <;> exact List.append_nil _)
        have HO := Lib.hid hown
        have HB := Lib.hid hbr
        clear hown hbr hdd hls
        rcases hz with rfl | rfl
        · go_wp2
          go_ret
          exact ⟨_, rfl, by rw [HE.out]; first | exact HO.out | exact HO.out.drewN _, by first | exact HB.out | exact bdrewN HB.out _⟩
        · by_cases hk0 : k = 0
          · subst hk0
            go_wp2
            go_ret
            exact ⟨_, rfl, by rw [HE.out]; first | exact HO.out | exact HO.out.drewN _, by first | exact HB.out | exact bdrewN HB.out _⟩
          · have hkp : 0 < k := by omega
            have hd : decide ((0 : Int) < (k : Int)) = true := decide_eq_true (by omega)
            have hd2 : decide (0 < k) = true := decide_eq_true hkp
            go_wp2
            go_ret
            exact ⟨_, rfl, by rw [HE.out]; first | exact HO.out | exact HO.out.drewN _, by first | exact HB.out | exact bdrewN HB.out _⟩
      · obtain ⟨j, rfl⟩ : ∃ j, k = j + 1 := ⟨k - 1, by omega⟩
        obtain ⟨x, r, rfl⟩ : ∃ x r, ls = x :: r := by cases ls with | nil => simp at hz | cons x r => exact ⟨x, r, rfl⟩
        have HD2 : Hid (D = (ds ++ [x.blk]) ++ drainN j (nx (x :: r) x.blk)) := Lib.hid (by rw [hdd.out, drainN]; simp)
        have hlp : 0 < (x :: r).length := by simp
        have hxc := hls.chs
        obtain ⟨g, o, rfl, hg⟩ := ch_form hxc (by simp)
        obtain ⟨A1, c1, A2, c2, hat⟩ := ch_at hxc 0 (by simp)
        have e1 : wr.cell? ⟨g, o + 1, none⟩ = some (.int .i64 x.blk) := by have := hat.v1; rwa [Nat.zero_mul, Nat.add_zero] at this
        have hob : (ds.length + 1) * 8 ≤ 140737488355328 := by omega
        have ho6 : ds.length + 1 ≤ 9223372036854775807 := by omega
        clear hat hz hdd hxc
        generalize x.blk = b at *
        generalize (x :: r) = ls at *
        have hc1 : World.cell? (wr.alloc (.cells #[.int .i64 b] 3)) ⟨wr.heap.size, 0, none⟩ = some (.int .i64 b) := (rowAt (g := wr.heap.size) 3 #[.int .i64 b] rfl).cell 0 rfl
        have HO := Lib.hid hown
        have HB := Lib.hid hbr
        have HX := Lib.hid hls
        have hjn : (((j + 1 : Nat) : Int) - 1) = (j : Int) := by omega
        have hjp : (0 : Int) < ((j + 1 : Nat) : Int) := by omega
        have hlp2 : (0 : Int) < (ls.length : Int) := by omega
        clear hown hbr hls
        go_wp2_with (at_builtin; go_loud (refine wpList_app1 rfl _ _ 28 rfl w.heap.size 3 (.int .i64 0) 8 V64 Try.underlying28 intInfo3 rfl (.slice A5 ds.length c5) ds b rfl _ wr.heap.size rfl (HO.out.alloc _) hc1 rfl hob ho6 (by simp; omega) ?_); intro v7 w7 hown7 hb7 hg7)
        have hx7 := ChsP.gb (ChsP.below HX.out (bb0 wr (.cells #[.int .i64 b] 3))) hg7
        have HB7 := Lib.hid ((HB.out.alloc hle (.cells #[.int .i64 b] 3)).trans hb7)
        clear HX HO HB e1
        obtain ⟨R, hR⟩ : ∃ R, readyS ls b = R := ⟨_, rfl⟩
        have HR : Hid (nx ls b = woS ls R) := Lib.hid (by rw [← hR]; rfl)
        have CR := Lib.hid (RReady_any _ c7 ls b _ (rwP_weak hx7) hlx)
        have hwf := ready_wf2 (rwP_weak hx7) b
        rw [hR] at CR hwf
        have HX7 := Lib.hid hx7
        have hlt7 := hown7.lt
        have HO7 := Lib.hid hown7
        have hs7 := HB7.out.size
        clear hR hx7 hown7 hb7 hg7 hc1
        refine CR.out.mono ?_
        rintro e w8 ⟨v8, rfl, ho8, hb8⟩
        obtain ⟨AR, cR, rfl, -, -, -, hiR⟩ := own_is ho8 hwf
        have HB8 := Lib.hid (HB7.out.trans (hb8.mono HB7.out.size))
        have HO8 := Lib.hid (HO7.out.below hb8)
        have CW := Lib.hid (RWithoutP_any (· < w.heap.size) _ c7 ls AR cR R w8 (Rw.below HX7.out hb8) hiR hlx)
        have HQ : Hid (∀ q, v7.ownBlock = some q → w.heap.size ≤ q ∧ q < w8.heap.size) := Lib.hid (fun q hq => ⟨(hlt7 q hq).1, Nat.lt_of_lt_of_le (hlt7 q hq).2 hb8.size⟩)
        clear ho8 hb8 CR hiR HO7 HB7 HX7 hlt7
        go_wp2_with fail
        refine CW.out.mono ?_
        rintro e w9 ⟨v9, rfl, ho9, hb9⟩
        obtain ⟨A9, c9, rfl, hx9⟩ := ownP_rw ho9 HQ.out
        have HX9 := Lib.hid hx9
        have HO9 := Lib.hid (HO8.out.below hb9)
        have HB9 := Lib.hid (HB8.out.trans (hb9.mono HB8.out.size))
        have hle9 := nx_le ls b
        clear ho9 hb9 CW hx9 HB8 HO8 HQ
        rw [← HR.out] at HX9 ⊢
        generalize nx ls b = ls2 at *
        go_wp2_with fail
        go_roundw
        case rel => exact ⟨A9, c9, ls2, ds ++ [b], j, rfl, by go_num, by omega, by rw [List.length_append, List.length_singleton]; omega, HX9.out, HO9.out, HD2, HB9.out⟩
        case measure => simp [intOf]
set_option maxHeartbeats 4000000 in
set_option maxRecDepth 100000 in
theorem RPlan_any (A : Option Addr) (c : Nat) (xs : List Chg) (id : Int) (w : World) (hx : Chs w A xs) (hn : xs.length ≤ 1000) :
    Calls Try.prog 44 #[.slice A xs.length c, .int .i64 id] w fun r w' => ∃ v, r = .returned v ∧ Ns w' w.heap.size v (planS xs id) ∧ Below w.heap.size w w' := by
  obtain ⟨D, hD⟩ : ∃ D, planS xs id = D := ⟨_, rfl⟩
  have HD : Hid (D = planN id xs.length xs) := Lib.hid hD.symm
  rw [hD]
  have hl : xs.length ≤ 9223372036854775807 := hx.2.1
  have hx2 := chsP_nil hx
  clear hD
  go_enter Try.func44, Try.ntmps44
  go_wp2_with fail
  go_loopw [0, 5, 6] (fun v out n wr => ∃ (A7 : Option Addr) (c7 : Nat) (ls : List Chg) (ds : List Int) (k : Nat), v = .slice A7 ls.length c7 ∧ n = .int .i64 k ∧ ls.length ≤ 1000 ∧ k + ds.length ≤ 1000 ∧ ChsP wr w.heap.size out A7 ls ∧ Ns wr w.heap.size out ds ∧ Hid (D = ds ++ planN id k ls) ∧ Below w.heap.size w wr) (fun _ _ n _ => (intOf n).toNat)
  case atStart => exact ⟨A, c, xs, [], xs.length, rfl, rfl, hn, by simpa using hn, by first | exact hx2 | exact hx2.drewN _, by first | exact Own.nil _ _ _ _ | exact (Own.nil _ _ _ _).drewN _, Lib.hid (by rw [HD.out]; rfl), by first | exact Below.refl _ _ | exact bdrewN (Below.refl _ _) _⟩
  case round =>
    obtain ⟨A7, c7, ls, ds, k, rfl, rfl, hlx, hkd, hls, hown, hdd, hbr⟩ := hrel
    have hle := hbr.size
    obtain ⟨A5, c5, rfl⟩ := hown.slice
    cases k with
    | zero =>
      have HE : Hid (D = ds) := Lib.hid (by rw [hdd.out]; exact List.append_nil _)
      have HO := Lib.hid hown
      have HB := Lib.hid hbr
      clear hown hbr hdd hls
      go_wp2
      go_ret
      exact ⟨_, rfl, by rw [HE.out]; first | exact HO.out | exact HO.out.drewN _, by first | exact HB.out | exact bdrewN HB.out _⟩
    | succ j =>
      have hjp : (0 : Int) < ((j + 1 : Nat) : Int) := by omega
      have CA := Lib.hid (RAll_any A7 c7 ls id wr hls.chs hlx)
      have HX := Lib.hid hls
      have HO := Lib.hid hown
      have HB := Lib.hid hbr
      cases hall : allS ls id with
      | nil =>
        rw [hall] at CA
        have HE : Hid (D = ds) := Lib.hid (by rw [hdd.out, planN, hall]; exact List.append_nil _)
        clear hown hbr hdd hls hall
        go_wp2_with fail
        refine CA.out.mono ?_
        rintro e w3 ⟨v3, rfl, ho3, hb3⟩
        obtain ⟨A3, c3, rfl⟩ := ho3.slice
        clear ho3
        go_wp2
        go_ret
        exact ⟨_, rfl, by rw [HE.out]; first | exact HO.out.below hb3 | exact (HO.out.below hb3).drewN _, by first | exact HB.out.trans (hb3.mono hle) | exact bdrewN (HB.out.trans (hb3.mono hle)) _⟩
      | cons m r =>
        rw [hall] at CA
        obtain ⟨hm, _⟩ := head_less hall
        obtain ⟨i, hi, he, hf, _⟩ := head_ready hm hall
        have hfd := findD_of hf
        have HD2 : Hid (D = (ds ++ [ls[i].blk]) ++ planN id j (nx ls ls[i].blk)) := Lib.hid (by rw [hdd.out, planN, hall]; simp only; rw [hfd]; simp)
        have hwm : ∀ n ∈ m :: r, WfI n := by rw [← hall]; exact all_wf hls.chs id
        have hpl : placeF m ls 0 = (i : Int) := by rw [← he, placeF_at (mayF_iff.1 hm).1 hi, Nat.zero_add]
        have CP0 := fun w' h => place_any A7 c7 ls m w' h
        rw [hpl] at CP0
        have CP := Lib.hid CP0
        have hio : (i : Int) < (ls.length : Int) := by omega
        have hob : (ds.length + 1) * 8 ≤ 140737488355328 := by omega
        have ho6 : ds.length + 1 ≤ 9223372036854775807 := by omega
        have hrl : 0 < (m :: r).length := by simp
        have hrl2 : (m :: r).length ≤ 1000 := by rw [← hall]; exact Nat.le_trans (all_len ls id) hlx
        have hblk := Lib.hid (fun w9 (h : Chs w9 A7 ls) => by
          obtain ⟨g, o, e, hg⟩ := ch_form h (show 0 < ls.length by omega)
          rw [e] at h
          obtain ⟨A1, c1, A2, c2, hat⟩ := ch_at h i hi
          exact (⟨g, o, e, hat.v1, hg⟩ : ∃ g o, A7 = some ⟨g, o, none⟩ ∧ w9.cell? ⟨g, o + i * 5 + 1, none⟩ = some (.int .i64 ls[i].blk) ∧ g < w9.heap.size))
        clear hown hbr hdd hls hall hm hf hfd CP0 hpl
        generalize ls[i].blk = b at *
        go_wp2_with fail
        refine CA.out.mono ?_
        rintro e w3 ⟨v3, rfl, ho3, hb3⟩
        obtain ⟨AL, cL, rfl, -, -, -, hisL⟩ := own_is ho3 hwm
        obtain ⟨gl, ol, rfl, hgl, hl0⟩ := is_at hisL 0 (by simp)
        rw [Nat.add_zero] at hl0
        have hl0 : w3.cell? ⟨gl, ol, none⟩ = some (.int .i64 m) := hl0
        have HX3 := Lib.hid (ChsP.below HX.out hb3)
        have HO3 := Lib.hid (HO.out.below hb3)
        have HB3 := Lib.hid (HB.out.trans (hb3.mono HB.out.size))
        clear hb3 CA HX HO HB ho3 hisL hwm
        generalize (m :: r).length = nl at *
        have hrl3 : ((nl : Int) == 0) = false := by simpa using (show (nl : Int) ≠ 0 by omega)
        have hrl4 : decide ((nl : Int) = 0) = false := decide_eq_false (by omega)
        have hrl5 : (nl == 0) = false := by simpa using (show nl ≠ 0 by omega)
        go_wp2_with fail
        refine (CP.out _ HX3.out.chs).mono ?_
        rintro e w4 ⟨rfl, hb4⟩
        have HX4 := Lib.hid (ChsP.below HX3.out hb4)
        have HO4 := Lib.hid (HO3.out.below hb4)
        have HB4 := Lib.hid (HB3.out.trans (hb4.mono HB3.out.size))
        obtain ⟨g, o, rfl, e1, hg⟩ := hblk.out w4 HX4.out.chs
        have hle4 := HB4.out.size
        have hc1 : World.cell? (w4.alloc (.cells #[.int .i64 b] 3)) ⟨w4.heap.size, 0, none⟩ = some (.int .i64 b) := (rowAt (g := w4.heap.size) 3 #[.int .i64 b] rfl).cell 0 rfl
        clear hb4 CP HX3 HO3 HB3 hl0 hblk
        go_wp2_with (at_builtin; go_loud (refine wpList_app1 rfl _ _ 28 rfl w.heap.size 3 (.int .i64 0) 8 V64 Try.underlying28 intInfo3 rfl (.slice A5 ds.length c5) ds b rfl _ w4.heap.size rfl (HO4.out.alloc _) hc1 rfl hob ho6 (by simp; omega) ?_); intro v7 w7 hown7 hb7 hg7)
        have hx7 := ChsP.gb (ChsP.below HX4.out (bb0 w4 (.cells #[.int .i64 b] 3))) hg7
        have HB7 := Lib.hid ((HB4.out.alloc hle4 (.cells #[.int .i64 b] 3)).trans hb7)
        clear HX4 HO4 HB4 e1
        obtain ⟨R, hR⟩ : ∃ R, readyS ls b = R := ⟨_, rfl⟩
        have HR : Hid (nx ls b = woS ls R) := Lib.hid (by rw [← hR]; rfl)
        have CR := Lib.hid (RReady_any _ c7 ls b _ (rwP_weak hx7) hlx)
        have hwf := ready_wf2 (rwP_weak hx7) b
        rw [hR] at CR hwf
        have HX7 := Lib.hid hx7
        have hlt7 := hown7.lt
        have HO7 := Lib.hid hown7
        have hs7 := HB7.out.size
        clear hR hx7 hown7 hb7 hg7 hc1
        refine CR.out.mono ?_
        rintro e w8 ⟨v8, rfl, ho8, hb8⟩
        obtain ⟨AR, cR, rfl, -, -, -, hiR⟩ := own_is ho8 hwf
        have HB8 := Lib.hid (HB7.out.trans (hb8.mono HB7.out.size))
        have HO8 := Lib.hid (HO7.out.below hb8)
        have CW := Lib.hid (RWithoutP_any (· < w.heap.size) _ c7 ls AR cR R w8 (Rw.below HX7.out hb8) hiR hlx)
        have HQ : Hid (∀ q, v7.ownBlock = some q → w.heap.size ≤ q ∧ q < w8.heap.size) := Lib.hid (fun q hq => ⟨(hlt7 q hq).1, Nat.lt_of_lt_of_le (hlt7 q hq).2 hb8.size⟩)
        clear ho8 hb8 CR hiR HO7 HB7 HX7 hlt7
        go_wp2_with fail
        refine CW.out.mono ?_
        rintro e w9 ⟨v9, rfl, ho9, hb9⟩
        obtain ⟨A9, c9, rfl, hx9⟩ := ownP_rw ho9 HQ.out
        have HX9 := Lib.hid hx9
        have HO9 := Lib.hid (HO8.out.below hb9)
        have HB9 := Lib.hid (HB8.out.trans (hb9.mono HB8.out.size))
        have hle9 := nx_le ls b
        clear ho9 hb9 CW hx9 HB8 HO8 HQ
        rw [← HR.out] at HX9 ⊢
        generalize nx ls b = ls2 at *
        go_wp2_with fail
        go_roundw
        case rel => exact ⟨A9, c9, ls2, ds ++ [b], j, rfl, by go_num, by omega, by rw [List.length_append, List.length_singleton]; omega, HX9.out, HO9.out, HD2, HB9.out⟩
        case measure => simp [intOf]
end Go.Proofs.Yteeodeooicoekaa.Rd
