/- Laws and contracts of several chapters, laid in one text. No statement is proved here. -/
import Derived.Test.YtbamhiegabeicaaGreatRp
import Derived.Test.YtbamhiegabeicaaGreatRd3
/- The contracts of ready.Waits and ready.Ready. No statement is proved here. -/
namespace Go.Proofs.YtbamhiegabeicaaGreat.Rd
open Go.RowKit Go.Proofs.YtbamhiegabeicaaGreat.Mem Go.Proofs.YtbamhiegabeicaaGreat.Open Go.Proofs.YtbamhiegabeicaaGreat.Kind Go.Proofs.YtbamhiegabeicaaGreat.Blk Go.Proofs.YtbamhiegabeicaaGreat.App Go.Proofs.YtbamhiegabeicaaGreat.Pat
set_option linter.unusedVariables false
set_option linter.unusedSimpArgs false
/-- Numbers that the call has laid. -/
abbrev Ns (w : World) (B : Nat) (v : Value) (xs : List Int) : Prop := Own w B 3 V64 v xs
theorem waits_any (A : Option Addr) (c : Nat) (xs : List Chg) (k : Nat) (hk : k < xs.length) (b m : Nat) (hmay : mayF 0 xs = true) (w : World) (hx : Chs w A xs) (hcap : xs.length ≤ c) (hcm : c ≤ M63) (hmp : Mp w b m (idxF xs 0 fun _ => 0)) (hn : xs.length ≤ 1000) (hs : Small xs) :
    Calls Tryz.prog 88 #[.slice A xs.length c, .int .i64 k, .map (some b)] w fun r w' => ∃ v, r = .returned v ∧ Ns w' w.heap.size v (waitK xs k xs[k]) ∧ Below w.heap.size w w' :=
  (waits_core A c xs k hk b m _ w hx hcap hcm hmp hn hs).mono fun e w' ⟨v, h1, h2, _, h3⟩ => ⟨v, h1, by rw [← waits_eq hmay hk]; exact h2, h3⟩
set_option maxHeartbeats 2000000 in
set_option maxRecDepth 100000 in
theorem Waits_any (A : Option Addr) (c : Nat) (xs : List Chg) (id : Int) (hid : WfI id) (w : World) (hx : Chs w A xs) (hcap : xs.length ≤ c) (hcm : c ≤ M63) (hn : xs.length ≤ 1000) (hs : Small xs) :
    Calls Tryz.prog 65 #[.slice A xs.length c, .int .i64 id] w fun r w' => ∃ v, r = .returned v ∧ Ns w' w.heap.size v (waitsS xs id) ∧ Below w.heap.size w w' := by
  have CI := Lib.hid (index_any A c xs w hx hn)
  have CC := Lib.hid (fun w' h => chk_any A c xs w' h)
  have CW := Lib.hid (fun k hk b m hmay w' h hmp => waits_any A c xs k hk b m hmay w' h hcap hcm hmp hn hs)
  cases hm : mayF 0 xs with
  | false =>
    rw [hm] at CC
    have HR := Lib.hid (waitsS_may (id := id) hm)
    clear hm
    go_enter Tryz.func65, Tryz.ntmps65
    go_wp2_with fail
    refine CI.out.mono ?_
    rintro e w1 ⟨b, rfl, hmp, hb, hb1⟩
    go_wp2_with fail
    refine (CC.out _ (hx.below hb1)).mono ?_
    rintro e w2 ⟨rfl, hb2⟩
    go_wp2
    go_ret
    exact ⟨_, rfl, by rw [HR.out]; exact Own.nil _ _ _ _, hb1.trans (hb2.mono hb1.size)⟩
  | true =>
    rw [hm] at CC
    rcases has_or (xs := xs) id with hno | ⟨k, hk, rfl⟩
    · have HR := Lib.hid (waitsS_not hno)
      have hf := idxF_not (k := 0) (f := fun _ => 0) hno
      go_enter Tryz.func65, Tryz.ntmps65
      go_wp2_with fail
      refine CI.out.mono ?_
      rintro e w1 ⟨b, rfl, hmp, hb, hb1⟩
      go_wp2_with fail
      refine (CC.out _ (hx.below hb1)).mono ?_
      rintro e w2 ⟨rfl, hb2⟩
      have hmp2 := hmp.below hb2
      have hr := hmp2.get hid Tryz.underlying116
      rw [hf] at hr
      go_wp2
      go_ret
      exact ⟨_, rfl, by rw [HR.out]; exact Own.nil _ _ _ _, hb1.trans (hb2.mono hb1.size)⟩
    · have HR := Lib.hid (waitsS_at hm hk)
      have hf := idxF_at (k := 0) (f := fun _ => 0) (mayF_iff.1 hm).1 hk
      rw [Nat.zero_add] at hf
      have hne : (((k : Nat) : Int) + 1 == 0) = false := beq_eq_false_iff_ne.2 (by omega)
      have HX : Hid True := Lib.hid trivial
      have CW1 := Lib.hid (fun b m w' h hmp => CW.out k hk b m hm w' h hmp)
      have HF := Lib.hid hf
      generalize hq : xs[k].id = id at *
      clear hq
      clear CW hm hf
      go_enter Tryz.func65, Tryz.ntmps65
      go_wp2_with fail
      refine CI.out.mono ?_
      rintro e w1 ⟨b, rfl, hmp, hb, hb1⟩
      go_wp2_with fail
      refine (CC.out _ (hx.below hb1)).mono ?_
      rintro e w2 ⟨rfl, hb2⟩
      have hmp2 := hmp.below hb2
      have hb12 := hb1.trans (hb2.mono hb1.size)
      have hr := hmp2.get hid Tryz.underlying116
      rw [HF.out] at hr
      go_wp2_with fail
      refine (CW1.out _ _ _ (hx.below hb12) hmp2).mono ?_
      rintro e w3 ⟨v3, rfl, hown3, hb3⟩
      go_wp2
      go_ret
      exact ⟨_, rfl, by rw [HR.out]; exact hown3.mono hb12.size, hb12.trans (hb3.mono hb12.size)⟩
end Go.Proofs.YtbamhiegabeicaaGreat.Rd

/- The contract of ready.Ready. No statement is proved here. -/
namespace Go.Proofs.YtbamhiegabeicaaGreat.Rd
open Go.RowKit Go.Proofs.YtbamhiegabeicaaGreat.Mem Go.Proofs.YtbamhiegabeicaaGreat.Open Go.Proofs.YtbamhiegabeicaaGreat.Kind Go.Proofs.YtbamhiegabeicaaGreat.Blk Go.Proofs.YtbamhiegabeicaaGreat.App Go.Proofs.YtbamhiegabeicaaGreat.Pat
set_option linter.unusedVariables false
set_option linter.unusedSimpArgs false
theorem mp_ne_own {α : Type} {w : World} {b n B : Nat} {f : Int → Int} {E : TypeId} {V : α → Value} {v : Value} {xs : List α} (h : Mp w b n f) (ho : Own w B E V v xs) : ∀ q, v.ownBlock = some q → some q ≠ some b := by
  intro q hq e
  injection e with e
  subst e
  obtain ⟨D, ⟨es, clock, hb, _⟩, _⟩ := h
  rcases ho.2 with ⟨rfl, _⟩ | ⟨g, cap, cur, rfl, _, hh, _⟩
  · cases hq
  · injection hq with hq
    subst hq
    rw [hb] at hh
    injection hh with hh
    cases hh
theorem mp_ne_own' {α : Type} {w : World} {b n B : Nat} {f : Int → Int} {E : TypeId} {V : α → Value} {v : Value} {xs : List α} (h : Mp w b n f) (ho : Own w B E V v xs) : some b ≠ v.ownBlock := fun e => mp_ne_own h ho b e.symm rfl
theorem mp_ne_row {w : World} {b n g : Nat} {f : Int → Int} {T : TypeId} {cs : Array Value} (h : Mp w b n f) (hr : Row w g T cs) : some g ≠ some b := by
  intro e
  injection e with e
  subst e
  obtain ⟨D, ⟨es, clock, hb, _⟩, _⟩ := h
  have := hr.out
  rw [hb] at this
  injection this with this
  cases this
/-- What is left of a map of places, when some are struck. -/
def Left (xs : List Chg) (g : Int → Int) (R : List Int) : Prop := ∀ x ∈ xs, g x.id = 0 ↔ x.id ∈ R
theorem left_start {xs : List Chg} (h : (xs.map (·.id)).Pairwise (· < ·)) : Left xs (idxF xs 0 fun _ => 0) [] := by
  intro x hx
  obtain ⟨i, hi, rfl⟩ := List.mem_iff_getElem.1 hx
  rw [idxF_at h hi]
  constructor
  · intro e; omega
  · intro e; simp at e
theorem left_del {xs : List Chg} {g : Int → Int} {R : List Int} {n : Int} (hl : Left xs g R) : Left xs (upd g n 0) (R ++ [n]) := by
  intro x hx
  rw [List.mem_append, List.mem_singleton]
  by_cases e : x.id = n
  · rw [e, upd_same]
    exact ⟨fun _ => .inr rfl, fun _ => rfl⟩
  · rw [upd_ne _ _ e, hl x hx]
    exact ⟨.inl, fun h => h.elim id fun h => absurd h e⟩
def freeB (W R : List Int) : Bool := decide (∀ n ∈ W, n ∈ R)
theorem free_snoc_no {W R : List Int} {n : Int} (h : n ∉ R) : freeB (W ++ [n]) R = false := decide_eq_false fun h2 => h (h2 n (by simp))
theorem free_snoc_yes {W R : List Int} {n : Int} (h : n ∈ R) : freeB (W ++ [n]) R = freeB W R := by
  unfold freeB
  by_cases hw : ∀ m ∈ W, m ∈ R
  · rw [decide_eq_true hw, decide_eq_true]
    intro m hm
    rcases List.mem_append.1 hm with hm | hm
    · exact hw m hm
    · simp at hm; rw [hm]; exact h
  · rw [decide_eq_false hw, decide_eq_false]
    exact fun h2 => hw fun m hm => h2 m (List.mem_append_left _ hm)
theorem free_snoc_false {W R : List Int} {n : Int} (h : freeB W R = false) : freeB (W ++ [n]) R = false := by
  unfold freeB at *
  rw [decide_eq_false_iff_not] at *
  exact fun h2 => h fun m hm => h2 m (List.mem_append_left _ hm)
set_option maxHeartbeats 4000000 in
set_option maxRecDepth 100000 in
theorem Ready_any (A : Option Addr) (c : Nat) (xs : List Chg) (bl : Int) (w : World) (hx : Chs w A xs) (hcap : xs.length ≤ c) (hcm : c ≤ M63) (hn : xs.length ≤ 1000) (hs : Small xs) :
    Calls Tryz.prog 95 #[.slice A xs.length c, .int .i64 bl] w fun r w' => ∃ v, r = .returned v ∧ Ns w' w.heap.size v (readyS xs bl) ∧ Below w.heap.size w w' := by
  have CC := Lib.hid (chk_any A c xs w hx)
  cases hm : mayF 0 xs with
  | false =>
    rw [hm] at CC
    have HR : Hid (readyS xs bl = []) := Lib.hid (if_neg (by rw [hm]; simp))
    clear hm
    go_enter Tryz.func95, Tryz.ntmps95
    go_wp2_with fail
    refine CC.out.mono ?_
    rintro e w2 ⟨rfl, hb2⟩
    go_wp2
    go_ret
    exact ⟨_, rfl, by rw [HR.out]; exact Own.nil _ _ _ _, hb2⟩
  | true =>
    rw [hm] at CC
    have HR : Hid (readyS xs bl = rdy xs bl xs.length) := Lib.hid (if_pos hm)
    have CI := Lib.hid (fun w' h => index_any A c xs w' h hn)
    have CW := Lib.hid (fun k hk b m w' h hmp => waits_any A c xs k hk b m hm w' h hcap hcm hmp hn hs)
    have HIDS := Lib.hid (mayF_iff.1 hm).1
    have HL0 := Lib.hid (left_start (mayF_iff.1 hm).1)
    clear hm
    go_enter Tryz.func95, Tryz.ntmps95
    go_wp2_with fail
    refine CC.out.mono ?_
    rintro e w2 ⟨rfl, hb2⟩
    go_wp2_with fail
    refine (CI.out _ (hx.below hb2)).mono ?_
    rintro e w3 ⟨b5, rfl, hm5, hb5, hb3⟩
    have hb23 := hb2.trans (hb3.mono hb2.size)
    have hl5 := hm5.lt
    go_wp2_with fail
    refine (CI.out _ (hx.below hb23)).mono ?_
    rintro e w4 ⟨b6, rfl, hm6, hb6, hb4⟩
    have hb24 := hb23.trans (hb4.mono hb23.size)
    have hm54 := hm5.below hb4
    have hle2 := hb2.size
    have HI0 := Lib.hid (show (idxF xs 0 fun _ => 0) = _ from rfl)
    generalize (idxF xs 0 fun _ => 0) = f at *
    clear hm5 hb2 hb3 hb23 hb4 HI0 CI CC
    go_wp2_with fail
    go_loopw [7, 22] (fun v i wr => ∃ (k : Nat) (g : Int → Int), k ≤ xs.length ∧ i = .int .i64 k ∧ Ns wr w.heap.size v (rdy xs bl k) ∧ Mp wr b5 xs.length g ∧ Hid (Left xs g (rdy xs bl k)) ∧ Mp wr b6 xs.length f ∧ Below w.heap.size w wr) (fun _ i _ => xs.length - (intOf i).toNat)
    case atStart => exact ⟨0, f, by omega, rfl, Own.nil _ _ _ _, hm54, HL0, hm6, hb24⟩
    case round =>
      clear hm54 hm6 hb24 HL0
      obtain ⟨k, g, hk, rfl, hown, hm5, hleft, hm6, hbr⟩ := hrel
      by_cases hlt : k < xs.length
      · obtain ⟨g0, o, rfl, hg⟩ := ch_form hx (by omega)
        obtain ⟨A1, c1, A2, c2, hat0⟩ := ch_at hx k hlt
        have hat := hat0.below hbr
        have e0 := hat.v0
        have e1 := hat.v1
        have e2 := hat.v2
        have e3 : wr.cell? ⟨g0, o + k * 5 + 3, none⟩ = _ := hat.v3
        have e4 := hat.v4
        have hid := hat.ok.1
        have CW1 := Lib.hid (fun b m w' h hmp => CW.out k hlt b m w' h hmp)
        have HY := Lib.hid (rdy_yes (b := bl) hlt)
        have HN := Lib.hid (rdy_no (b := bl) hlt)
        have hxs := hx.below hbr
        have hrl := rdy_len xs bl k
        have HWx : Hid (∀ n ∈ waitK xs k xs[k], ∃ x ∈ xs, x.id = n) := Lib.hid fun n h => by
          obtain ⟨x, h1, _, h2⟩ := mem_waitK.1 h
          exact ⟨x, List.mem_of_mem_take h1, h2⟩
        have HWl : Hid ((waitK xs k xs[k]).length ≤ 1000) := Lib.hid (by unfold waitK; rw [List.length_map]; exact Nat.le_trans (List.length_filter_le _ _) (by rw [List.length_take]; omega))
        generalize rdy xs bl k = R at *
        obtain ⟨R2, hR2⟩ : ∃ R2, rdy xs bl (k + 1) = R2 := ⟨_, rfl⟩
        rw [hR2] at HY HN
        have HR2 := Lib.hid hR2
        clear hR2
        generalize waitK xs k xs[k] = W at *
        clear hat0 hat
        generalize xs[k] = x at *
        obtain ⟨⟨b1, b2, b3⟩⟩ : Nonempty (_ ∧ _ ∧ _) := ⟨boxed wr 90 chZ (chC x A1 c1 A2 c2)⟩
        have R0 : Row (wr.alloc (.cells chZ 90)) wr.heap.size 90 chZ := Row.new _ _ _
        have k1 : World.cell? _ ⟨wr.heap.size, 1, none⟩ = some (.int .i64 x.blk) := b1.cell 1 rfl
        have KB := Lib.hid b1
        have HO := Lib.hid (hown.below b2)
        have M5 := Lib.hid (hm5.below b2)
        have M6 := Lib.hid (hm6.below b2)
        have HB := Lib.hid (hbr.trans (b2.mono hbr.size))
        have HX := Lib.hid (hxs.below b2)
        have hltB : wr.heap.size < ((wr.alloc (.cells chZ 90)).setRow wr.heap.size (chC x A1 c1 A2 c2)).heap.size := b3
        have hle := hbr.size
        clear b1 b2 b3 hown hm5 hm6 hbr hxs
        by_cases hbk : x.blk = bl
        · have hne : (x.blk != bl) = false := by rw [hbk]; exact bne_self_eq_false _
          have HBK := Lib.hid hbk
          clear hbk
          go_wp2_with (first
            | (with_reducible refine wpList_allocA rfl 90 rfl _ chZero ?_)
            | (with_reducible refine wpList_storeRow rfl 90 _ _ rfl wr.heap.size rfl (chC x A1 c1 A2 c2) rfl chZ 90 5 chSize rfl rfl (chC_one _ _ _ _ _) R0 ?_))
          clear R0 k1 e0 e1 e2 e3 e4
          generalize (wr.alloc (.cells chZ 90)).setRow wr.heap.size (chC x A1 c1 A2 c2) = wB at *
          generalize hg9 : wr.heap.size = g9 at *
          refine (CW1.out _ _ _ HX.out M6.out).mono ?_
          rintro e w5 ⟨v5, rfl, hown5, hb5'⟩
          obtain ⟨AW, cW, rfl⟩ := hown5.slice
          have hsl := hown5.sl.2
          have KB := Lib.hid (KB.out.below hb5')
          have HO := Lib.hid (HO.out.below hb5')
          have M5 := Lib.hid (M5.out.below hb5')
          have M6 := Lib.hid (M6.out.below hb5')
          have HB := Lib.hid (HB.out.trans (hb5'.mono HB.out.size))
          have hlt5 : g9 < w5.heap.size := Nat.lt_of_lt_of_le hltB hb5'.size
          have hle5 : w.heap.size ≤ w5.heap.size := HB.out.size
          have hwl := HWl.out
          have hcW : ∀ j, (hj : j < W.length) → ∃ gw ow, AW = some ⟨gw, ow, none⟩ ∧ w5.cell? ⟨gw, ow + j, none⟩ = some (.int .i64 W[j]) := by
            rcases hown5.2 with ⟨e, h0⟩ | ⟨gw, cap, cur, e, _⟩
            · intro j hj; omega
            · injection e with e1 e2 e3
              subst e1
              intro j hj
              exact ⟨gw, 0, rfl, by rw [Nat.zero_add]; exact hown5.cell j hj⟩
          have HCW := Lib.hid hcW
          have HWW : Hid (∀ n ∈ W, WfI n) := Lib.hid fun n h => by
            obtain ⟨y, hy, rfl⟩ := HWx.out n h
            obtain ⟨i, hi, rfl⟩ := List.mem_iff_getElem.1 hy
            obtain ⟨_, _, _, _, hq⟩ := ch_at hx i hi
            exact hq.ok.1
          clear hown5 hb5' CW1 hsl hcW
          go_wp2_with fail
          go_loopw [10, 36] (fun fr i wq => ∃ (j : Nat), j ≤ W.length ∧ i = .int .i64 j ∧ fr = .bool (freeB (W.take j) R) ∧ wq = w5) (fun _ i _ => W.length - (intOf i).toNat)
          case atStart => exact ⟨0, by omega, rfl, rfl, by first | trivial | rfl⟩
          case round =>
            obtain ⟨j, hj, rfl, rfl, rfl⟩ := hrel
            by_cases hjl : j < W.length
            · obtain ⟨gw, ow, rfl, hc⟩ := HCW.out j hjl
              have HT := Lib.hid (take_next hjl)
              have hww := HWW.out _ (List.getElem_mem hjl)
              obtain ⟨y, hy, hyn⟩ := HWx.out _ (List.getElem_mem hjl)
              have hiff := hleft.out y hy
              rw [hyn] at hiff
              generalize W[j] = n at *
              clear hy hyn
              cases hfr : freeB (W.take j) R with
              | false =>
                have HF : Hid (freeB (W.take (j + 1)) R = false) := Lib.hid (by rw [HT.out]; exact free_snoc_false hfr)
                clear hfr
                go_wp2
                go_roundw
                case rel => exact ⟨j + 1, by omega, by go_num, by rw [HF.out], by first | trivial | rfl⟩
                case measure => simp [intOf]; omega
              | true =>
                have hr := M5.out.get hww Tryz.underlying116
                by_cases hz : g n = 0
                · have HF : Hid (freeB (W.take (j + 1)) R = true) := Lib.hid (by rw [HT.out, free_snoc_yes (hiff.1 hz)]; exact hfr)
                  rw [hz] at hr
                  clear hfr hz hiff
                  go_wp2
                  go_roundw
                  case rel => exact ⟨j + 1, by omega, by go_num, by rw [HF.out], by first | trivial | rfl⟩
                  case measure => simp [intOf]; omega
                · have HF : Hid (freeB (W.take (j + 1)) R = false) := Lib.hid (by rw [HT.out]; exact free_snoc_no fun h => hz (hiff.2 h))
                  have hq : (g n == 0) = false := beq_eq_false_iff_ne.2 hz
                  generalize g n = gn at *
                  clear hfr hz hiff
                  go_wp2
                  go_roundw
                  case rel => exact ⟨j + 1, by omega, by go_num, by rw [HF.out], by first | trivial | rfl⟩
                  case measure => simp [intOf]; omega
            · obtain rfl : j = W.length := by omega
              rw [List.take_length]
              cases hfr : freeB W R with
              | false =>
                have hN2 : Hid (R2 = R) := Lib.hid (HN.out fun h => by have := of_decide_eq_false hfr; exact this h.2)
                clear hfr
                go_wp2_with fail
                go_roundw
                case rel => exact ⟨k + 1, g, by omega, by go_num, by rw [HR2.out, hN2.out]; exact HO.out, M5.out, by rw [HR2.out, hN2.out]; exact hleft, M6.out, HB.out⟩
                case measure => simp [intOf]; omega
              | true =>
                have hY2 : Hid (R2 = R ++ [x.id]) := Lib.hid (HY.out HBK.out (of_decide_eq_true hfr))
                clear hfr
                have hm5 := M5.out
                have k0 : World.cell? _ ⟨g9, 0, none⟩ = some (.int .i64 x.id) := KB.out.cell 0 rfl
                have NE1 := Lib.hid (mp_ne_row M5.out KB.out)
                have NE2 := Lib.hid (mp_ne_own M5.out HO.out)
                go_wp2_with (first
                  | (at_delete
                     refine wpList_mapDel rfl _ _ rfl rfl rfl hm5 x.id rfl hid ?_
                     intro w6 hm6 hg6
                     have k6 : World.cell? _ ⟨g9, 0, none⟩ = some (.int .i64 x.id) := (gb_row hg6 KB.out NE1.out).cell 0 rfl
                     have HO6 := Lib.hid (own_grown HO.out hg6 NE2.out)
                     have M66 := Lib.hid (M6.out.kept hg6 (by intro e; injection e with e; omega))
                     have M56 := Lib.hid hm6
                     have HB6 := Lib.hid (HB.out.grown hg6 HB.out.size (fun q hq => by injection hq with hq; omega))
                     have hle6 : w.heap.size ≤ w6.heap.size := HB6.out.size
                     have hc1 : (w6.alloc (.cells #[.int .i64 x.id] 3)).cell? ⟨w6.heap.size, 0, none⟩ = some (.int .i64 x.id) := by
                       rw [cell_of_row _ _ _ _ _ _ (heap_alloc_new w6 _)]; rfl
                     clear hm5 hm6 hg6)
                  | (at_builtin
                     go_loud (refine wpList_app1 rfl _ _ 47 rfl w.heap.size 3 (.int .i64 0) 8 V64 Tryz.underlying47 intInfo3 rfl u7 R x.id rfl _ w6.heap.size rfl (HO6.out.alloc _) hc1 rfl (by omega) (by omega) (by simp; omega) ?_)
                     intro v7 w7 hown7 hb7 hg7))
                have N5 := Lib.hid ((M56.out.alloc (.cells #[.int .i64 x.id] 3)).kept hg7 (mp_ne_own' (M56.out.alloc (.cells #[.int .i64 x.id] 3)) (HO6.out.alloc (.cells #[.int .i64 x.id] 3))))
                have N6 := Lib.hid ((M66.out.alloc (.cells #[.int .i64 x.id] 3)).kept hg7 (mp_ne_own' (M66.out.alloc (.cells #[.int .i64 x.id] 3)) (HO6.out.alloc (.cells #[.int .i64 x.id] 3))))
                have NB := Lib.hid ((HB6.out.alloc hle6 (.cells #[.int .i64 x.id] 3)).trans hb7)
                have NO := Lib.hid hown7
                clear hown7 hb7 hg7
                go_roundw
                case rel => exact ⟨k + 1, _, by omega, by go_num, by rw [HR2.out, hY2.out]; exact NO.out, N5.out, by rw [HR2.out, hY2.out]; exact Lib.hid (left_del hleft.out), N6.out, NB.out⟩
                case measure => simp [intOf]; omega
        · have hne : (x.blk != bl) = true := bne_iff_ne.2 hbk
          have hN2 : Hid (R2 = R) := Lib.hid (HN.out fun h => hbk h.1)
          clear hbk
          go_wp2_with (first
            | (with_reducible refine wpList_allocA rfl 90 rfl _ chZero ?_)
            | (with_reducible refine wpList_storeRow rfl 90 _ _ rfl wr.heap.size rfl (chC x A1 c1 A2 c2) rfl chZ 90 5 chSize rfl rfl (chC_one _ _ _ _ _) R0 ?_))
          go_roundw
          case rel => exact ⟨k + 1, g, by omega, by go_num, by rw [HR2.out, hN2.out]; exact HO.out, M5.out, by rw [HR2.out, hN2.out]; exact hleft, M6.out, HB.out⟩
          case measure => simp [intOf]; omega
      · obtain rfl : k = xs.length := by omega
        have HO := Lib.hid hown
        clear hown
        go_wp2
        go_ret
        exact ⟨_, rfl, by rw [HR.out]; exact HO.out, hbr⟩
end Go.Proofs.YtbamhiegabeicaaGreat.Rd

/- The document's Waits. No statement is proved here. -/
namespace Go.Proofs.YtbamhiegabeicaaGreat.Rd
open Go.RowKit Go.Proofs.YtbamhiegabeicaaGreat.Mem Go.Proofs.YtbamhiegabeicaaGreat.Open Go.Proofs.YtbamhiegabeicaaGreat.Kind Go.Proofs.YtbamhiegabeicaaGreat.Blk Go.Proofs.YtbamhiegabeicaaGreat.App Go.Proofs.YtbamhiegabeicaaGreat.Pat
set_option linter.unusedVariables false
set_option linter.unusedSimpArgs false
theorem waitK_zero (xs : List Chg) (t : Chg) : waitK xs 0 t = [] := rfl
theorem waitK_yes {xs : List Chg} {t : Chg} {j : Nat} (hj : j < xs.length) (h : (metC xs[j] t || decide (xs[j].id ∈ t.needs)) = true) : waitK xs (j + 1) t = waitK xs j t ++ [xs[j].id] := by
  unfold waitK
  rw [take_next hj, List.filter_append, List.map_append]
  simp [h]
theorem waitK_no {xs : List Chg} {t : Chg} {j : Nat} (hj : j < xs.length) (h : (metC xs[j] t || decide (xs[j].id ∈ t.needs)) = false) : waitK xs (j + 1) t = waitK xs j t := by
  unfold waitK
  rw [take_next hj, List.filter_append, List.map_append]
  simp [h]
theorem waitK_len (xs : List Chg) (t : Chg) (j : Nat) : (waitK xs j t).length ≤ j := by
  unfold waitK
  rw [List.length_map]
  exact Nat.le_trans (List.length_filter_le _ _) (by rw [List.length_take]; omega)
set_option maxHeartbeats 4000000 in
set_option maxRecDepth 100000 in
theorem RWaits_any (A : Option Addr) (c : Nat) (xs : List Chg) (id : Int) (w : World) (hx : Chs w A xs) (hn : xs.length ≤ 1000) :
    Calls Tryz.prog 72 #[.slice A xs.length c, .int .i64 id] w fun r w' => ∃ v, r = .returned v ∧ Ns w' w.heap.size v (waitsS xs id) ∧ Below w.heap.size w w' := by
  have CP := Lib.hid (place_any A c xs id w hx)
  have CC := Lib.hid (fun w' h => may_any A c xs w' h)
  cases hm : mayF 0 xs with
  | false =>
    rw [hm] at CC
    have HR := Lib.hid (waitsS_may (id := id) hm)
    clear hm
    go_enter Tryz.func72, Tryz.ntmps72
    go_wp2_with fail
    refine CP.out.mono ?_
    rintro e w1 ⟨rfl, hb1⟩
    go_wp2_with fail
    refine (CC.out _ (hx.below hb1)).mono ?_
    rintro e w2 ⟨rfl, hb2⟩
    go_wp2
    go_ret
    exact ⟨_, rfl, by rw [HR.out]; exact Own.nil _ _ _ _, hb1.trans (hb2.mono hb1.size)⟩
  | true =>
    rw [hm] at CC
    rcases has_or (xs := xs) id with hno | ⟨k, hk, rfl⟩
    · have HR := Lib.hid (waitsS_not hno)
      rw [placeF_not hno] at CP
      go_enter Tryz.func72, Tryz.ntmps72
      go_wp2_with fail
      refine CP.out.mono ?_
      rintro e w1 ⟨rfl, hb1⟩
      go_wp2_with fail
      refine (CC.out _ (hx.below hb1)).mono ?_
      rintro e w2 ⟨rfl, hb2⟩
      go_wp2
      go_ret
      exact ⟨_, rfl, by rw [HR.out]; exact Own.nil _ _ _ _, hb1.trans (hb2.mono hb1.size)⟩
    · have HR := Lib.hid (waitsS_at hm hk)
      rw [placeF_at (mayF_iff.1 hm).1 hk, Nat.zero_add] at CP
      obtain ⟨g, o, rfl, hg⟩ := ch_form hx (by omega)
      obtain ⟨T1, d1, T2, d2, hat⟩ := ch_at hx k hk
      have hpl : xs[k].pd.length ≤ M63 := hat.p.2.2.2.2.1
      have HAT := Lib.hid hat
      have HNE := Lib.hid hat.n.2.2.2
      have hl : xs.length ≤ 9223372036854775807 := hx.2.1
      clear hat hm
      generalize xs[k] = t at *
      generalize waitsS xs t.id = RR at *
      generalize t.id = tid at *
      go_enter Tryz.func72, Tryz.ntmps72
      go_wp2_with fail
      refine CP.out.mono ?_
      rintro e w1 ⟨rfl, hb1⟩
      go_wp2_with fail
      refine (CC.out _ (hx.below hb1)).mono ?_
      rintro e w2 ⟨rfl, hb2⟩
      have hb12 := hb1.trans (hb2.mono hb1.size)
      clear hb1 hb2 CP CC
      go_wp2_with fail
      go_loopw [5, 7] (fun v i wr => ∃ (j : Nat), j ≤ k ∧ i = .int .i64 j ∧ Ns wr w.heap.size v (waitK xs j t) ∧ Below w.heap.size w wr) (fun _ i _ => k - (intOf i).toNat)
      case atStart => exact ⟨0, by omega, rfl, Own.nil _ _ _ _, hb12⟩
      case round =>
        clear hb12
        obtain ⟨j, hj, rfl, hown, hbr⟩ := hrel
        by_cases hjk : j < k
        · have hjx : j < xs.length := by omega
          obtain ⟨A1, c1, A2, c2, hat0⟩ := ch_at hx j hjx
          have hat := hat0.below hbr
          have hatt := HAT.out.below hbr
          have e0 : wr.drew.cell? ⟨g, o + j * 5, none⟩ = some (.int .i64 xs[j].id) := hat.v0
          have e1 : wr.drew.cell? ⟨g, o + j * 5 + 1, none⟩ = some (.int .i64 xs[j].blk) := hat.v1
          have e2 : wr.drew.cell? ⟨g, o + j * 5 + 2, none⟩ = some (.int .i64 xs[j].pa) := hat.v2
          have e3 : wr.drew.cell? ⟨g, o + j * 5 + 2 + 1, none⟩ = some (.slice A1 xs[j].pd.length c1) := hat.v3
          have s1 : wr.drew.cell? ⟨g, o + k * 5 + 1, none⟩ = some (.int .i64 t.blk) := hatt.v1
          have s2 : wr.drew.cell? ⟨g, o + k * 5 + 2, none⟩ = some (.int .i64 t.pa) := hatt.v2
          have s3 : wr.drew.cell? ⟨g, o + k * 5 + 2 + 1, none⟩ = some (.slice T1 t.pd.length d1) := hatt.v3
          have hp1 : xs[j].pd.length ≤ M63 := hat.p.2.2.2.2.1
          have HE : Hid (∀ w9, Below w.heap.size w w9 → w9.cell? ⟨g, o + j * 5, none⟩ = some (.int .i64 xs[j].id)) := Lib.hid fun w9 h => (hat0.below h).v0
          have HT : Hid (∀ w9, Below w.heap.size w w9 → w9.cell? ⟨g, o + k * 5 + 4, none⟩ = some (.slice T2 t.needs.length d2)) := Lib.hid fun w9 h => (HAT.out.below h).v4
          have hrl := waitK_len xs t j
          have HYY := Lib.hid (waitK_yes (t := t) hjx)
          have HNN := Lib.hid (waitK_no (t := t) hjx)
          obtain ⟨R2, hR2⟩ : ∃ R2, waitK xs (j + 1) t = R2 := ⟨_, rfl⟩
          rw [hR2] at HYY HNN
          have HR2 := Lib.hid hR2
          have HOR := Lib.hid hown
          have HBR := Lib.hid hbr
          clear hat0 hat hatt hR2 hown
          generalize waitK xs j t = R at *
          generalize xs[j] = x at *
          have hgl : g < wr.drew.heap.size := Nat.lt_of_lt_of_le hg hbr.size
          have CI := Lib.hid (fun w' h => in_any T2 d2 t.needs x.id w' h)
          have CM := Lib.hid (fun w' => rmeet_any x.pa A1 x.pd.length c1 t.pa T1 t.pd.length d1 w' hp1 hpl)
          go_wp2_with fail
          go_cut [8] (fun s8 w' => s8 = .bool (metC x t) ∧ Below wr.heap.size wr w')
          case first =>
            by_cases hblk : x.blk = t.blk
            · have hq : (x.blk == t.blk) = true := by rw [hblk]; exact beq_self_eq_true _
              have HM : Hid (metC x t = meetB x.pa x.pd.length t.pa t.pd.length) := Lib.hid (by unfold metC; rw [decide_eq_true hblk]; rfl)
              generalize metC x t = mt at *
              clear hblk
              cases hmt : meetB x.pa x.pd.length t.pa t.pd.length with
              | true =>
                rw [hmt] at CM HM
                refine wp_region_held_drew (S := Go.RowKit.Below ((wr.drew).heap.size) (wr.drew)) (by kernel_rfl) ?hb6 (fun hHeld => ?rest6)
                case hb6 =>
                  exact Go.RowKit.Below.refl _ _
                case' rest6 => skip
                have hCl := fun (wS : World) (hSw : Go.RowKit.Below ((wr.drew).heap.size) (wr.drew) wS) => And.intro (Mem.bl_cell hSw e0 (by first | omega | (dsimp only; omega) | exact World.block_lt_of_cell? _ _ e0 | (simp <;> omega))) <| And.intro (Mem.bl_cell hSw e1 (by first | omega | (dsimp only; omega) | exact World.block_lt_of_cell? _ _ e1 | (simp <;> omega))) <| And.intro (Mem.bl_cell hSw e2 (by first | omega | (dsimp only; omega) | exact World.block_lt_of_cell? _ _ e2 | (simp <;> omega))) <| And.intro (Mem.bl_cell hSw e3 (by first | omega | (dsimp only; omega) | exact World.block_lt_of_cell? _ _ e3 | (simp <;> omega))) <| And.intro (Mem.bl_cell hSw s1 (by first | omega | (dsimp only; omega) | exact World.block_lt_of_cell? _ _ s1 | (simp <;> omega))) <| And.intro (Mem.bl_cell hSw s2 (by first | omega | (dsimp only; omega) | exact World.block_lt_of_cell? _ _ s2 | (simp <;> omega))) <| Mem.bl_cell hSw s3 (by first | omega | (dsimp only; omega) | exact World.block_lt_of_cell? _ _ s3 | (simp <;> omega))
                replace hCl := Go.Lib.hid hCl
                refine Mem.tkV 0 ?v7 ?y7 ?r7
                case y7 => (intro w hSw; clear hSw; go_simp; try with_reducible rfl)
                refine Mem.tkV 1 ?v8 ?y8 ?r8
                case y8 => (intro w hSw; clear hSw; go_simp; try with_reducible rfl)
                refine Mem.tkV 2 ?v9 ?y9 ?r9
                case y9 => (intro w hSw; clear hSw; go_simp; try with_reducible rfl)
                try simp only [Mem.pa, Mem.pb, Mem.pc, Act.put, Mem.pd, Mem.pe, Mem.pf]
                refine Mem.tkV 3 ?v10 ?y10 ?r10
                case y10 => (intro w hSw; clear hSw; go_simp; try with_reducible rfl)
                refine Mem.tkV 4 ?v11 ?y11 ?r11
                case y11 => (intro w hSw; obtain ⟨hT0, hT1, hT2, hT3, hT4, hT5, hT6⟩ := hCl.out w hSw; clear hSw; go_simp; try with_reducible rfl)
                refine Mem.tkV 5 ?v12 ?y12 ?r12
                case y12 => (intro w hSw; clear hSw; go_simp; try with_reducible rfl)
                try simp only [Mem.pa, Mem.pb, Mem.pc, Act.put, Mem.pd, Mem.pe, Mem.pf]
                refine Mem.tkV 6 ?v13 ?y13 ?r13
                case y13 => (intro w hSw; clear hSw; go_simp; try with_reducible rfl)
                refine Mem.tkV 7 ?v14 ?y14 ?r14
                case y14 => (intro w hSw; clear hSw; go_simp; try with_reducible rfl)
                refine Mem.tkV 8 ?v15 ?y15 ?r15
                case y15 => (intro w hSw; clear hSw; go_simp; try with_reducible rfl)
                try simp only [Mem.pa, Mem.pb, Mem.pc, Act.put, Mem.pd, Mem.pe, Mem.pf]
                refine Mem.tkV 9 ?v16 ?y16 ?r16
                case y16 => (intro w hSw; obtain ⟨hT0, hT1, hT2, hT3, hT4, hT5, hT6⟩ := hCl.out w hSw; clear hSw; go_simp; try with_reducible rfl)
                refine Mem.tkV 10 ?v17 ?y17 ?r17
                case y17 => (intro w hSw; clear hSw; go_simp; try with_reducible rfl)
                refine Mem.tkV 11 ?v18 ?y18 ?r18
                case y18 => (intro w hSw; clear hSw; go_simp; try with_reducible rfl)
                try simp only [Mem.pa, Mem.pb, Mem.pc, Act.put, Mem.pd, Mem.pe, Mem.pf]
                first | refine Mem.tkN 12 ?r19 | (refine Mem.tkV 12 ?v19 ?y19 ?r19; case y19 => (intro w hSw; clear hSw; go_simp; try with_reducible rfl))
                try simp only [Mem.pa, Mem.pb, Mem.pc, Act.put, Mem.pd, Mem.pe, Mem.pf]
                first | refine Mem.tkN 13 ?r20 | (refine Mem.tkV 13 ?v20 ?y20 ?r20; case y20 => (intro w hSw; clear hSw; go_simp; try with_reducible rfl))
                try simp only [Mem.pa, Mem.pb, Mem.pc, Act.put, Mem.pd, Mem.pe, Mem.pf]
                first | refine Mem.tkN 14 ?r21 | (refine Mem.tkV 14 ?v21 ?y21 ?r21; case y21 => (intro w hSw; clear hSw; go_simp; try with_reducible rfl))
                try simp only [Mem.pa, Mem.pb, Mem.pc, Act.put, Mem.pd, Mem.pe, Mem.pf]
                first | refine Mem.tkN 15 ?r22 | (refine Mem.tkV 15 ?v22 ?y22 ?r22; case y22 => (intro w hSw; clear hSw; go_simp; try with_reducible rfl))
                try simp only [Mem.pa, Mem.pb, Mem.pc, Act.put, Mem.pd, Mem.pe, Mem.pf]
                first | refine Mem.tkN 16 ?r23 | (refine Mem.tkV 16 ?v23 ?y23 ?r23; case y23 => (intro w hSw; obtain ⟨hT0, hT1, hT2, hT3, hT4, hT5, hT6⟩ := hCl.out w hSw; clear hSw; go_simp; try with_reducible rfl))
                try simp only [Mem.pa, Mem.pb, Mem.pc, Act.put, Mem.pd, Mem.pe, Mem.pf]
                first | refine Mem.tkN 17 ?r24 | (refine Mem.tkV 17 ?v24 ?y24 ?r24; case y24 => (intro w hSw; clear hSw; go_simp; try with_reducible rfl))
                try simp only [Mem.pa, Mem.pb, Mem.pc, Act.put, Mem.pd, Mem.pe, Mem.pf]
                first | refine Mem.tkN 18 ?r25 | (refine Mem.tkV 18 ?v25 ?y25 ?r25; case y25 => (intro w hSw; clear hSw; go_simp; try with_reducible rfl))
                try simp only [Mem.pa, Mem.pb, Mem.pc, Act.put, Mem.pd, Mem.pe, Mem.pf]
                first | refine Mem.tkN 19 ?r26 | (refine Mem.tkV 19 ?v26 ?y26 ?r26; case y26 => (intro w hSw; clear hSw; go_simp; try with_reducible rfl))
                try simp only [Mem.pa, Mem.pb, Mem.pc, Act.put, Mem.pd, Mem.pe, Mem.pf]
                first | refine Mem.tkN 20 ?r27 | (refine Mem.tkV 20 ?v27 ?y27 ?r27; case y27 => (intro w hSw; clear hSw; go_simp; try with_reducible rfl))
                try simp only [Mem.pa, Mem.pb, Mem.pc, Act.put, Mem.pd, Mem.pe, Mem.pf]
                first | refine Mem.tkN 21 ?r28 | (refine Mem.tkV 21 ?v28 ?y28 ?r28; case y28 => (intro w hSw; obtain ⟨hT0, hT1, hT2, hT3, hT4, hT5, hT6⟩ := hCl.out w hSw; clear hSw; go_simp; try with_reducible rfl))
                try simp only [Mem.pa, Mem.pb, Mem.pc, Act.put, Mem.pd, Mem.pe, Mem.pf]
                refine wpAnyH_ready (rs := [22]) (by kernel_rfl) (by simp) ?_
                refine AllReadyH.cons rfl (fun K hK => ?_) AllReadyH.nil
                go_simp
                (refine (CM.out _).mono ?_; rintro e wb ⟨rfl, hbl⟩)
                try go_wp2_with fail
                have hSnew := Mem.bl_step hHeld hbl (by first | exact Nat.le_refl _ | omega | (simp <;> omega))
                refine hK.out _ _ ?_ (fun hHeld2 => ?_)
                · exact hSnew
                clear hbl
                clear hK K hHeld hSnew
                have hHeld := hHeld2
                clear hHeld2
                try simp only [Mem.pa, Mem.pb, Mem.pc, Act.put, Mem.pd, Mem.pe, Mem.pf]
                refine Mem.tkV 23 ?v29 ?y29 ?r29
                case y29 => (intro w hSw; clear hSw; go_simp; try with_reducible rfl)
                refine Mem.tkV 24 ?v30 ?y30 ?r30
                case y30 => (intro w hSw; clear hSw; go_simp; try with_reducible rfl)
                try simp only [Mem.pa, Mem.pb, Mem.pc, Act.put, Mem.pd, Mem.pe, Mem.pf]
                refine wpAnyH_done (by kernel_rfl) ?_ _
                clear hCl
                go_wp2_with fail
                go_meet
                case rel => exact ⟨by rw [HM.out], (Below.refl _ _).drew.trans hHeld⟩
              | false =>
                rw [hmt] at CM HM
                refine wp_region_held_drew (S := Go.RowKit.Below ((wr.drew).heap.size) (wr.drew)) (by kernel_rfl) ?hb36 (fun hHeld => ?rest36)
                case hb36 =>
                  exact Go.RowKit.Below.refl _ _
                case' rest36 => skip
                have hCl := fun (wS : World) (hSw : Go.RowKit.Below ((wr.drew).heap.size) (wr.drew) wS) => And.intro (Mem.bl_cell hSw e0 (by first | omega | (dsimp only; omega) | exact World.block_lt_of_cell? _ _ e0 | (simp <;> omega))) <| And.intro (Mem.bl_cell hSw e1 (by first | omega | (dsimp only; omega) | exact World.block_lt_of_cell? _ _ e1 | (simp <;> omega))) <| And.intro (Mem.bl_cell hSw e2 (by first | omega | (dsimp only; omega) | exact World.block_lt_of_cell? _ _ e2 | (simp <;> omega))) <| And.intro (Mem.bl_cell hSw e3 (by first | omega | (dsimp only; omega) | exact World.block_lt_of_cell? _ _ e3 | (simp <;> omega))) <| And.intro (Mem.bl_cell hSw s1 (by first | omega | (dsimp only; omega) | exact World.block_lt_of_cell? _ _ s1 | (simp <;> omega))) <| And.intro (Mem.bl_cell hSw s2 (by first | omega | (dsimp only; omega) | exact World.block_lt_of_cell? _ _ s2 | (simp <;> omega))) <| Mem.bl_cell hSw s3 (by first | omega | (dsimp only; omega) | exact World.block_lt_of_cell? _ _ s3 | (simp <;> omega))
                replace hCl := Go.Lib.hid hCl
                refine Mem.tkV 0 ?v37 ?y37 ?r37
                case y37 => (intro w hSw; clear hSw; go_simp; try with_reducible rfl)
                refine Mem.tkV 1 ?v38 ?y38 ?r38
                case y38 => (intro w hSw; clear hSw; go_simp; try with_reducible rfl)
                refine Mem.tkV 2 ?v39 ?y39 ?r39
                case y39 => (intro w hSw; clear hSw; go_simp; try with_reducible rfl)
                try simp only [Mem.pa, Mem.pb, Mem.pc, Act.put, Mem.pd, Mem.pe, Mem.pf]
                refine Mem.tkV 3 ?v40 ?y40 ?r40
                case y40 => (intro w hSw; clear hSw; go_simp; try with_reducible rfl)
                refine Mem.tkV 4 ?v41 ?y41 ?r41
                case y41 => (intro w hSw; obtain ⟨hT0, hT1, hT2, hT3, hT4, hT5, hT6⟩ := hCl.out w hSw; clear hSw; go_simp; try with_reducible rfl)
                refine Mem.tkV 5 ?v42 ?y42 ?r42
                case y42 => (intro w hSw; clear hSw; go_simp; try with_reducible rfl)
                try simp only [Mem.pa, Mem.pb, Mem.pc, Act.put, Mem.pd, Mem.pe, Mem.pf]
                refine Mem.tkV 6 ?v43 ?y43 ?r43
                case y43 => (intro w hSw; clear hSw; go_simp; try with_reducible rfl)
                refine Mem.tkV 7 ?v44 ?y44 ?r44
                case y44 => (intro w hSw; clear hSw; go_simp; try with_reducible rfl)
                refine Mem.tkV 8 ?v45 ?y45 ?r45
                case y45 => (intro w hSw; clear hSw; go_simp; try with_reducible rfl)
                try simp only [Mem.pa, Mem.pb, Mem.pc, Act.put, Mem.pd, Mem.pe, Mem.pf]
                refine Mem.tkV 9 ?v46 ?y46 ?r46
                case y46 => (intro w hSw; obtain ⟨hT0, hT1, hT2, hT3, hT4, hT5, hT6⟩ := hCl.out w hSw; clear hSw; go_simp; try with_reducible rfl)
                refine Mem.tkV 10 ?v47 ?y47 ?r47
                case y47 => (intro w hSw; clear hSw; go_simp; try with_reducible rfl)
                refine Mem.tkV 11 ?v48 ?y48 ?r48
                case y48 => (intro w hSw; clear hSw; go_simp; try with_reducible rfl)
                try simp only [Mem.pa, Mem.pb, Mem.pc, Act.put, Mem.pd, Mem.pe, Mem.pf]
                first | refine Mem.tkN 12 ?r49 | (refine Mem.tkV 12 ?v49 ?y49 ?r49; case y49 => (intro w hSw; clear hSw; go_simp; try with_reducible rfl))
                try simp only [Mem.pa, Mem.pb, Mem.pc, Act.put, Mem.pd, Mem.pe, Mem.pf]
                first | refine Mem.tkN 13 ?r50 | (refine Mem.tkV 13 ?v50 ?y50 ?r50; case y50 => (intro w hSw; clear hSw; go_simp; try with_reducible rfl))
                try simp only [Mem.pa, Mem.pb, Mem.pc, Act.put, Mem.pd, Mem.pe, Mem.pf]
                first | refine Mem.tkN 14 ?r51 | (refine Mem.tkV 14 ?v51 ?y51 ?r51; case y51 => (intro w hSw; clear hSw; go_simp; try with_reducible rfl))
                try simp only [Mem.pa, Mem.pb, Mem.pc, Act.put, Mem.pd, Mem.pe, Mem.pf]
                first | refine Mem.tkN 15 ?r52 | (refine Mem.tkV 15 ?v52 ?y52 ?r52; case y52 => (intro w hSw; clear hSw; go_simp; try with_reducible rfl))
                try simp only [Mem.pa, Mem.pb, Mem.pc, Act.put, Mem.pd, Mem.pe, Mem.pf]
                first | refine Mem.tkN 16 ?r53 | (refine Mem.tkV 16 ?v53 ?y53 ?r53; case y53 => (intro w hSw; obtain ⟨hT0, hT1, hT2, hT3, hT4, hT5, hT6⟩ := hCl.out w hSw; clear hSw; go_simp; try with_reducible rfl))
                try simp only [Mem.pa, Mem.pb, Mem.pc, Act.put, Mem.pd, Mem.pe, Mem.pf]
                first | refine Mem.tkN 17 ?r54 | (refine Mem.tkV 17 ?v54 ?y54 ?r54; case y54 => (intro w hSw; clear hSw; go_simp; try with_reducible rfl))
                try simp only [Mem.pa, Mem.pb, Mem.pc, Act.put, Mem.pd, Mem.pe, Mem.pf]
                first | refine Mem.tkN 18 ?r55 | (refine Mem.tkV 18 ?v55 ?y55 ?r55; case y55 => (intro w hSw; clear hSw; go_simp; try with_reducible rfl))
                try simp only [Mem.pa, Mem.pb, Mem.pc, Act.put, Mem.pd, Mem.pe, Mem.pf]
                first | refine Mem.tkN 19 ?r56 | (refine Mem.tkV 19 ?v56 ?y56 ?r56; case y56 => (intro w hSw; clear hSw; go_simp; try with_reducible rfl))
                try simp only [Mem.pa, Mem.pb, Mem.pc, Act.put, Mem.pd, Mem.pe, Mem.pf]
                first | refine Mem.tkN 20 ?r57 | (refine Mem.tkV 20 ?v57 ?y57 ?r57; case y57 => (intro w hSw; clear hSw; go_simp; try with_reducible rfl))
                try simp only [Mem.pa, Mem.pb, Mem.pc, Act.put, Mem.pd, Mem.pe, Mem.pf]
                first | refine Mem.tkN 21 ?r58 | (refine Mem.tkV 21 ?v58 ?y58 ?r58; case y58 => (intro w hSw; obtain ⟨hT0, hT1, hT2, hT3, hT4, hT5, hT6⟩ := hCl.out w hSw; clear hSw; go_simp; try with_reducible rfl))
                try simp only [Mem.pa, Mem.pb, Mem.pc, Act.put, Mem.pd, Mem.pe, Mem.pf]
                refine wpAnyH_ready (rs := [22]) (by kernel_rfl) (by simp) ?_
                refine AllReadyH.cons rfl (fun K hK => ?_) AllReadyH.nil
                go_simp
                (refine (CM.out _).mono ?_; rintro e wb ⟨rfl, hbl⟩)
                try go_wp2_with fail
                have hSnew := Mem.bl_step hHeld hbl (by first | exact Nat.le_refl _ | omega | (simp <;> omega))
                refine hK.out _ _ ?_ (fun hHeld2 => ?_)
                · exact hSnew
                clear hbl
                clear hK K hHeld hSnew
                have hHeld := hHeld2
                clear hHeld2
                try simp only [Mem.pa, Mem.pb, Mem.pc, Act.put, Mem.pd, Mem.pe, Mem.pf]
                refine Mem.tkV 23 ?v59 ?y59 ?r59
                case y59 => (intro w hSw; clear hSw; go_simp; try with_reducible rfl)
                refine Mem.tkV 24 ?v60 ?y60 ?r60
                case y60 => (intro w hSw; clear hSw; go_simp; try with_reducible rfl)
                try simp only [Mem.pa, Mem.pb, Mem.pc, Act.put, Mem.pd, Mem.pe, Mem.pf]
                refine wpAnyH_done (by kernel_rfl) ?_ _
                clear hCl
                go_wp2_with fail
                go_meet
                case rel => exact ⟨by rw [HM.out], (Below.refl _ _).drew.trans hHeld⟩
            · have hq : (x.blk == t.blk) = false := beq_eq_false_iff_ne.2 hblk
              have HM : Hid (metC x t = false) := Lib.hid (by unfold metC; rw [decide_eq_false hblk]; rfl)
              generalize metC x t = mt at *
              clear hblk
              refine wp_region_held_drew (S := Go.RowKit.Below ((wr.drew).heap.size) (wr.drew)) (by kernel_rfl) ?hb65 (fun hHeld => ?rest65)
              case hb65 =>
                exact Go.RowKit.Below.refl _ _
              case' rest65 => skip
              have hCl := fun (wS : World) (hSw : Go.RowKit.Below ((wr.drew).heap.size) (wr.drew) wS) => And.intro (Mem.bl_cell hSw e0 (by first | omega | (dsimp only; omega) | exact World.block_lt_of_cell? _ _ e0 | (simp <;> omega))) <| And.intro (Mem.bl_cell hSw e1 (by first | omega | (dsimp only; omega) | exact World.block_lt_of_cell? _ _ e1 | (simp <;> omega))) <| And.intro (Mem.bl_cell hSw e2 (by first | omega | (dsimp only; omega) | exact World.block_lt_of_cell? _ _ e2 | (simp <;> omega))) <| And.intro (Mem.bl_cell hSw e3 (by first | omega | (dsimp only; omega) | exact World.block_lt_of_cell? _ _ e3 | (simp <;> omega))) <| And.intro (Mem.bl_cell hSw s1 (by first | omega | (dsimp only; omega) | exact World.block_lt_of_cell? _ _ s1 | (simp <;> omega))) <| And.intro (Mem.bl_cell hSw s2 (by first | omega | (dsimp only; omega) | exact World.block_lt_of_cell? _ _ s2 | (simp <;> omega))) <| Mem.bl_cell hSw s3 (by first | omega | (dsimp only; omega) | exact World.block_lt_of_cell? _ _ s3 | (simp <;> omega))
              replace hCl := Go.Lib.hid hCl
              refine Mem.tkV 0 ?v66 ?y66 ?r66
              case y66 => (intro w hSw; clear hSw; go_simp; try with_reducible rfl)
              refine Mem.tkV 1 ?v67 ?y67 ?r67
              case y67 => (intro w hSw; clear hSw; go_simp; try with_reducible rfl)
              refine Mem.tkV 2 ?v68 ?y68 ?r68
              case y68 => (intro w hSw; clear hSw; go_simp; try with_reducible rfl)
              try simp only [Mem.pa, Mem.pb, Mem.pc, Act.put, Mem.pd, Mem.pe, Mem.pf]
              refine Mem.tkV 3 ?v69 ?y69 ?r69
              case y69 => (intro w hSw; clear hSw; go_simp; try with_reducible rfl)
              refine Mem.tkV 4 ?v70 ?y70 ?r70
              case y70 => (intro w hSw; obtain ⟨hT0, hT1, hT2, hT3, hT4, hT5, hT6⟩ := hCl.out w hSw; clear hSw; go_simp; try with_reducible rfl)
              refine Mem.tkV 5 ?v71 ?y71 ?r71
              case y71 => (intro w hSw; clear hSw; go_simp; try with_reducible rfl)
              try simp only [Mem.pa, Mem.pb, Mem.pc, Act.put, Mem.pd, Mem.pe, Mem.pf]
              refine Mem.tkV 6 ?v72 ?y72 ?r72
              case y72 => (intro w hSw; clear hSw; go_simp; try with_reducible rfl)
              refine Mem.tkV 7 ?v73 ?y73 ?r73
              case y73 => (intro w hSw; clear hSw; go_simp; try with_reducible rfl)
              refine Mem.tkV 8 ?v74 ?y74 ?r74
              case y74 => (intro w hSw; clear hSw; go_simp; try with_reducible rfl)
              try simp only [Mem.pa, Mem.pb, Mem.pc, Act.put, Mem.pd, Mem.pe, Mem.pf]
              refine Mem.tkV 9 ?v75 ?y75 ?r75
              case y75 => (intro w hSw; obtain ⟨hT0, hT1, hT2, hT3, hT4, hT5, hT6⟩ := hCl.out w hSw; clear hSw; go_simp; try with_reducible rfl)
              refine Mem.tkV 10 ?v76 ?y76 ?r76
              case y76 => (intro w hSw; clear hSw; go_simp; try with_reducible rfl)
              refine Mem.tkV 11 ?v77 ?y77 ?r77
              case y77 => (intro w hSw; clear hSw; go_simp; try with_reducible rfl)
              try simp only [Mem.pa, Mem.pb, Mem.pc, Act.put, Mem.pd, Mem.pe, Mem.pf]
              first | refine Mem.tkN 12 ?r78 | (refine Mem.tkV 12 ?v78 ?y78 ?r78; case y78 => (intro w hSw; clear hSw; go_simp; try with_reducible rfl))
              try simp only [Mem.pa, Mem.pb, Mem.pc, Act.put, Mem.pd, Mem.pe, Mem.pf]
              first | refine Mem.tkN 13 ?r79 | (refine Mem.tkV 13 ?v79 ?y79 ?r79; case y79 => (intro w hSw; clear hSw; go_simp; try with_reducible rfl))
              try simp only [Mem.pa, Mem.pb, Mem.pc, Act.put, Mem.pd, Mem.pe, Mem.pf]
              first | refine Mem.tkN 14 ?r80 | (refine Mem.tkV 14 ?v80 ?y80 ?r80; case y80 => (intro w hSw; clear hSw; go_simp; try with_reducible rfl))
              try simp only [Mem.pa, Mem.pb, Mem.pc, Act.put, Mem.pd, Mem.pe, Mem.pf]
              first | refine Mem.tkN 15 ?r81 | (refine Mem.tkV 15 ?v81 ?y81 ?r81; case y81 => (intro w hSw; clear hSw; go_simp; try with_reducible rfl))
              try simp only [Mem.pa, Mem.pb, Mem.pc, Act.put, Mem.pd, Mem.pe, Mem.pf]
              first | refine Mem.tkN 16 ?r82 | (refine Mem.tkV 16 ?v82 ?y82 ?r82; case y82 => (intro w hSw; obtain ⟨hT0, hT1, hT2, hT3, hT4, hT5, hT6⟩ := hCl.out w hSw; clear hSw; go_simp; try with_reducible rfl))
              try simp only [Mem.pa, Mem.pb, Mem.pc, Act.put, Mem.pd, Mem.pe, Mem.pf]
              first | refine Mem.tkN 17 ?r83 | (refine Mem.tkV 17 ?v83 ?y83 ?r83; case y83 => (intro w hSw; clear hSw; go_simp; try with_reducible rfl))
              try simp only [Mem.pa, Mem.pb, Mem.pc, Act.put, Mem.pd, Mem.pe, Mem.pf]
              first | refine Mem.tkN 18 ?r84 | (refine Mem.tkV 18 ?v84 ?y84 ?r84; case y84 => (intro w hSw; clear hSw; go_simp; try with_reducible rfl))
              try simp only [Mem.pa, Mem.pb, Mem.pc, Act.put, Mem.pd, Mem.pe, Mem.pf]
              first | refine Mem.tkN 19 ?r85 | (refine Mem.tkV 19 ?v85 ?y85 ?r85; case y85 => (intro w hSw; clear hSw; go_simp; try with_reducible rfl))
              try simp only [Mem.pa, Mem.pb, Mem.pc, Act.put, Mem.pd, Mem.pe, Mem.pf]
              first | refine Mem.tkN 20 ?r86 | (refine Mem.tkV 20 ?v86 ?y86 ?r86; case y86 => (intro w hSw; clear hSw; go_simp; try with_reducible rfl))
              try simp only [Mem.pa, Mem.pb, Mem.pc, Act.put, Mem.pd, Mem.pe, Mem.pf]
              first | refine Mem.tkN 21 ?r87 | (refine Mem.tkV 21 ?v87 ?y87 ?r87; case y87 => (intro w hSw; obtain ⟨hT0, hT1, hT2, hT3, hT4, hT5, hT6⟩ := hCl.out w hSw; clear hSw; go_simp; try with_reducible rfl))
              try simp only [Mem.pa, Mem.pb, Mem.pc, Act.put, Mem.pd, Mem.pe, Mem.pf]
              first | refine Mem.tkN 22 ?r88 | (refine Mem.tkV 22 ?v88 ?y88 ?r88; case y88 => (intro w hSw; clear hSw; go_simp; try with_reducible rfl))
              refine Mem.tkV 23 ?v89 ?y89 ?r89
              case y89 => (intro w hSw; clear hSw; go_simp; try with_reducible rfl)
              refine Mem.tkV 24 ?v90 ?y90 ?r90
              case y90 => (intro w hSw; clear hSw; go_simp; try with_reducible rfl)
              try simp only [Mem.pa, Mem.pb, Mem.pc, Act.put, Mem.pd, Mem.pe, Mem.pf]
              refine wpAnyH_done (by kernel_rfl) ?_ _
              clear hCl
              go_wp2_with fail
              go_meet
              case rel => exact ⟨by rw [HM.out], (Below.refl _ _).drew.trans hHeld⟩
          case rest =>
            obtain ⟨rfl, hb8⟩ := hcut
            clear e0 e1 e2 e3 s1 s2 s3 CM
            have HB8 := Lib.hid (HBR.out.trans (hb8.mono HBR.out.size))
            have HO8 := Lib.hid (HOR.out.below hb8)
            have f0 : wc.drew.cell? ⟨g, o + j * 5, none⟩ = some (.int .i64 x.id) := HE.out wc HB8.out
            have f4 : wc.drew.cell? ⟨g, o + k * 5 + 4, none⟩ = some (.slice T2 t.needs.length d2) := HT.out wc HB8.out
            have hgc : g < wc.drew.heap.size := Nat.lt_of_lt_of_le hg HB8.out.size
            have hnn : Is wc.drew T2 t.needs := (HNE.out.below HB8.out).drew
            clear hb8
            cases hmt : metC x t with
            | true =>
              have HY : Hid (waitK xs (j + 1) t = R ++ [x.id]) := Lib.hid (by rw [HR2.out]; exact HYY.out (by rw [hmt]; rfl))
              clear hmt
              go_wp2_with fail
              refine wp_region_held_drew (S := Go.RowKit.Below ((wc.drew).heap.size) (wc.drew)) (by kernel_rfl) ?hb106 (fun hHeld => ?rest106)
              case hb106 =>
                exact Go.RowKit.Below.refl _ _
              case' rest106 => skip
              have hCl := fun (wS : World) (hSw : Go.RowKit.Below ((wc.drew).heap.size) (wc.drew) wS) => And.intro (Mem.bl_cell hSw f0 (by first | omega | (dsimp only; omega) | exact World.block_lt_of_cell? _ _ f0 | (simp <;> omega))) <| Mem.bl_cell hSw f4 (by first | omega | (dsimp only; omega) | exact World.block_lt_of_cell? _ _ f4 | (simp <;> omega))
              replace hCl := Go.Lib.hid hCl
              refine Mem.tkV 0 ?v107 ?y107 ?r107
              case y107 => (intro w hSw; clear hSw; go_simp; try with_reducible rfl)
              refine Mem.tkV 1 ?v108 ?y108 ?r108
              case y108 => (intro w hSw; clear hSw; go_simp; try with_reducible rfl)
              try simp only [Mem.pa, Mem.pb, Mem.pc, Act.put, Mem.pd, Mem.pe, Mem.pf]
              first | refine Mem.tkN 2 ?r109 | (refine Mem.tkV 2 ?v109 ?y109 ?r109; case y109 => (intro w hSw; clear hSw; go_simp; try with_reducible rfl))
              try simp only [Mem.pa, Mem.pb, Mem.pc, Act.put, Mem.pd, Mem.pe, Mem.pf]
              first | refine Mem.tkN 3 ?r110 | (refine Mem.tkV 3 ?v110 ?y110 ?r110; case y110 => (intro w hSw; clear hSw; go_simp; try with_reducible rfl))
              try simp only [Mem.pa, Mem.pb, Mem.pc, Act.put, Mem.pd, Mem.pe, Mem.pf]
              first | refine Mem.tkN 4 ?r111 | (refine Mem.tkV 4 ?v111 ?y111 ?r111; case y111 => (intro w hSw; clear hSw; go_simp; try with_reducible rfl))
              try simp only [Mem.pa, Mem.pb, Mem.pc, Act.put, Mem.pd, Mem.pe, Mem.pf]
              first | refine Mem.tkN 5 ?r112 | (refine Mem.tkV 5 ?v112 ?y112 ?r112; case y112 => (intro w hSw; clear hSw; go_simp; try with_reducible rfl))
              try simp only [Mem.pa, Mem.pb, Mem.pc, Act.put, Mem.pd, Mem.pe, Mem.pf]
              first | refine Mem.tkN 6 ?r113 | (refine Mem.tkV 6 ?v113 ?y113 ?r113; case y113 => (intro w hSw; obtain ⟨hT0, hT1⟩ := hCl.out w hSw; clear hSw; go_simp; try with_reducible rfl))
              try simp only [Mem.pa, Mem.pb, Mem.pc, Act.put, Mem.pd, Mem.pe, Mem.pf]
              first | refine Mem.tkN 7 ?r114 | (refine Mem.tkV 7 ?v114 ?y114 ?r114; case y114 => (intro w hSw; clear hSw; go_simp; try with_reducible rfl))
              try simp only [Mem.pa, Mem.pb, Mem.pc, Act.put, Mem.pd, Mem.pe, Mem.pf]
              first | refine Mem.tkN 8 ?r115 | (refine Mem.tkV 8 ?v115 ?y115 ?r115; case y115 => (intro w hSw; clear hSw; go_simp; try with_reducible rfl))
              try simp only [Mem.pa, Mem.pb, Mem.pc, Act.put, Mem.pd, Mem.pe, Mem.pf]
              first | refine Mem.tkN 9 ?r116 | (refine Mem.tkV 9 ?v116 ?y116 ?r116; case y116 => (intro w hSw; clear hSw; go_simp; try with_reducible rfl))
              try simp only [Mem.pa, Mem.pb, Mem.pc, Act.put, Mem.pd, Mem.pe, Mem.pf]
              first | refine Mem.tkN 10 ?r117 | (refine Mem.tkV 10 ?v117 ?y117 ?r117; case y117 => (intro w hSw; clear hSw; go_simp; try with_reducible rfl))
              try simp only [Mem.pa, Mem.pb, Mem.pc, Act.put, Mem.pd, Mem.pe, Mem.pf]
              first | refine Mem.tkN 11 ?r118 | (refine Mem.tkV 11 ?v118 ?y118 ?r118; case y118 => (intro w hSw; obtain ⟨hT0, hT1⟩ := hCl.out w hSw; clear hSw; go_simp; try with_reducible rfl))
              try simp only [Mem.pa, Mem.pb, Mem.pc, Act.put, Mem.pd, Mem.pe, Mem.pf]
              first | refine Mem.tkN 12 ?r119 | (refine Mem.tkV 12 ?v119 ?y119 ?r119; case y119 => (intro w hSw; clear hSw; go_simp; try with_reducible rfl))
              refine Mem.tkV 13 ?v120 ?y120 ?r120
              case y120 => (intro w hSw; clear hSw; go_simp; try with_reducible rfl)
              try simp only [Mem.pa, Mem.pb, Mem.pc, Act.put, Mem.pd, Mem.pe, Mem.pf]
              refine wpAnyH_done (by kernel_rfl) ?_ _
              clear hCl
              have HB9 := Lib.hid (HB8.out.trans (((Below.refl _ _).drew.trans hHeld).mono HB8.out.size))
              have HO9 := Lib.hid (HO8.out.below ((Below.refl _ _).drew.trans hHeld))
              clear hHeld f0 f4 hnn
              generalize wc.drew = w9 at *
              have hc1 : (w9.alloc (.cells #[.int .i64 x.id] 3)).cell? ⟨w9.heap.size, 0, none⟩ = some (.int .i64 x.id) := by rw [cell_of_row _ _ _ _ _ _ (heap_alloc_new w9 _)]; rfl
              have q0 : w9.cell? ⟨g, o + j * 5, none⟩ = some (.int .i64 x.id) := HE.out w9 HB9.out
              have hle9 : w.heap.size ≤ w9.heap.size := HB9.out.size
              go_wp2_with (at_builtin; go_loud (refine wpList_app1 rfl _ _ 47 rfl w.heap.size 3 (.int .i64 0) 8 V64 Tryz.underlying47 intInfo3 rfl u5 R x.id rfl _ w9.heap.size rfl (HO9.out.alloc _) hc1 rfl (by omega) (by omega) (by simp; omega) ?_); intro v7 w7 hown7 hb7 hg7)
              have NB := Lib.hid ((HB9.out.alloc hle9 (.cells #[.int .i64 x.id] 3)).trans hb7)
              have NO := Lib.hid hown7
              clear hown7 hb7 hg7
              go_roundw
              case rel => exact ⟨j + 1, by omega, by go_num, by rw [HY.out]; exact NO.out, NB.out⟩
              case measure => simp [intOf]; omega
            | false =>
              by_cases hin : x.id ∈ t.needs
              · have HY : Hid (waitK xs (j + 1) t = R ++ [x.id]) := Lib.hid (by rw [HR2.out]; exact HYY.out (by rw [hmt, decide_eq_true hin]; rfl))
                rw [decide_eq_true hin] at CI
                clear hmt hin
                go_wp2_with fail
                refine wp_region_held_drew (S := Go.RowKit.Below ((wc.drew).heap.size) (wc.drew)) (by kernel_rfl) ?hb136 (fun hHeld => ?rest136)
                case hb136 =>
                  exact Go.RowKit.Below.refl _ _
                case' rest136 => skip
                have hCl := fun (wS : World) (hSw : Go.RowKit.Below ((wc.drew).heap.size) (wc.drew) wS) => And.intro (Mem.bl_cell hSw f0 (by first | omega | (dsimp only; omega) | exact World.block_lt_of_cell? _ _ f0 | (simp <;> omega))) <| Mem.bl_cell hSw f4 (by first | omega | (dsimp only; omega) | exact World.block_lt_of_cell? _ _ f4 | (simp <;> omega))
                replace hCl := Go.Lib.hid hCl
                refine Mem.tkV 0 ?v137 ?y137 ?r137
                case y137 => (intro w hSw; clear hSw; go_simp; try with_reducible rfl)
                refine Mem.tkV 1 ?v138 ?y138 ?r138
                case y138 => (intro w hSw; clear hSw; go_simp; try with_reducible rfl)
                try simp only [Mem.pa, Mem.pb, Mem.pc, Act.put, Mem.pd, Mem.pe, Mem.pf]
                first | refine Mem.tkN 2 ?r139 | (refine Mem.tkV 2 ?v139 ?y139 ?r139; case y139 => (intro w hSw; clear hSw; go_simp; try with_reducible rfl))
                try simp only [Mem.pa, Mem.pb, Mem.pc, Act.put, Mem.pd, Mem.pe, Mem.pf]
                first | refine Mem.tkN 3 ?r140 | (refine Mem.tkV 3 ?v140 ?y140 ?r140; case y140 => (intro w hSw; clear hSw; go_simp; try with_reducible rfl))
                try simp only [Mem.pa, Mem.pb, Mem.pc, Act.put, Mem.pd, Mem.pe, Mem.pf]
                first | refine Mem.tkN 4 ?r141 | (refine Mem.tkV 4 ?v141 ?y141 ?r141; case y141 => (intro w hSw; clear hSw; go_simp; try with_reducible rfl))
                try simp only [Mem.pa, Mem.pb, Mem.pc, Act.put, Mem.pd, Mem.pe, Mem.pf]
                first | refine Mem.tkN 5 ?r142 | (refine Mem.tkV 5 ?v142 ?y142 ?r142; case y142 => (intro w hSw; clear hSw; go_simp; try with_reducible rfl))
                try simp only [Mem.pa, Mem.pb, Mem.pc, Act.put, Mem.pd, Mem.pe, Mem.pf]
                first | refine Mem.tkN 6 ?r143 | (refine Mem.tkV 6 ?v143 ?y143 ?r143; case y143 => (intro w hSw; obtain ⟨hT0, hT1⟩ := hCl.out w hSw; clear hSw; go_simp; try with_reducible rfl))
                try simp only [Mem.pa, Mem.pb, Mem.pc, Act.put, Mem.pd, Mem.pe, Mem.pf]
                first | refine Mem.tkN 7 ?r144 | (refine Mem.tkV 7 ?v144 ?y144 ?r144; case y144 => (intro w hSw; clear hSw; go_simp; try with_reducible rfl))
                try simp only [Mem.pa, Mem.pb, Mem.pc, Act.put, Mem.pd, Mem.pe, Mem.pf]
                first | refine Mem.tkN 8 ?r145 | (refine Mem.tkV 8 ?v145 ?y145 ?r145; case y145 => (intro w hSw; clear hSw; go_simp; try with_reducible rfl))
                try simp only [Mem.pa, Mem.pb, Mem.pc, Act.put, Mem.pd, Mem.pe, Mem.pf]
                first | refine Mem.tkN 9 ?r146 | (refine Mem.tkV 9 ?v146 ?y146 ?r146; case y146 => (intro w hSw; clear hSw; go_simp; try with_reducible rfl))
                try simp only [Mem.pa, Mem.pb, Mem.pc, Act.put, Mem.pd, Mem.pe, Mem.pf]
                first | refine Mem.tkN 10 ?r147 | (refine Mem.tkV 10 ?v147 ?y147 ?r147; case y147 => (intro w hSw; clear hSw; go_simp; try with_reducible rfl))
                try simp only [Mem.pa, Mem.pb, Mem.pc, Act.put, Mem.pd, Mem.pe, Mem.pf]
                first | refine Mem.tkN 11 ?r148 | (refine Mem.tkV 11 ?v148 ?y148 ?r148; case y148 => (intro w hSw; obtain ⟨hT0, hT1⟩ := hCl.out w hSw; clear hSw; go_simp; try with_reducible rfl))
                try simp only [Mem.pa, Mem.pb, Mem.pc, Act.put, Mem.pd, Mem.pe, Mem.pf]
                refine wpAnyH_ready (rs := [12]) (by kernel_rfl) (by simp) ?_
                refine AllReadyH.cons rfl (fun K hK => ?_) AllReadyH.nil
                go_simp
                (refine (CI.out _ hnn).mono ?_; rintro e w9 ⟨rfl, hbl⟩)
                try go_wp2_with fail
                have hSnew := Mem.bl_step hHeld hbl (by first | exact Nat.le_refl _ | omega | (simp <;> omega))
                refine hK.out _ _ ?_ (fun hHeld2 => ?_)
                · exact hSnew
                try replace hnn := hnn.below hbl
                clear hbl
                clear hK K hHeld hSnew
                have hHeld := hHeld2
                clear hHeld2
                try simp only [Mem.pa, Mem.pb, Mem.pc, Act.put, Mem.pd, Mem.pe, Mem.pf]
                refine Mem.tkV 13 ?v149 ?y149 ?r149
                case y149 => (intro w hSw; clear hSw; go_simp; try with_reducible rfl)
                try simp only [Mem.pa, Mem.pb, Mem.pc, Act.put, Mem.pd, Mem.pe, Mem.pf]
                refine wpAnyH_done (by kernel_rfl) ?_ _
                clear hCl
                have HB9 := Lib.hid (HB8.out.trans (((Below.refl _ _).drew.trans hHeld).mono HB8.out.size))
                have HO9 := Lib.hid (HO8.out.below ((Below.refl _ _).drew.trans hHeld))
                clear hHeld f0 f4 hnn
                have hc1 : (w9.alloc (.cells #[.int .i64 x.id] 3)).cell? ⟨w9.heap.size, 0, none⟩ = some (.int .i64 x.id) := by rw [cell_of_row _ _ _ _ _ _ (heap_alloc_new w9 _)]; rfl
                have q0 : w9.cell? ⟨g, o + j * 5, none⟩ = some (.int .i64 x.id) := HE.out w9 HB9.out
                have hle9 : w.heap.size ≤ w9.heap.size := HB9.out.size
                go_wp2_with (at_builtin; go_loud (refine wpList_app1 rfl _ _ 47 rfl w.heap.size 3 (.int .i64 0) 8 V64 Tryz.underlying47 intInfo3 rfl u5 R x.id rfl _ w9.heap.size rfl (HO9.out.alloc _) hc1 rfl (by omega) (by omega) (by simp; omega) ?_); intro v7 w7 hown7 hb7 hg7)
                have NB := Lib.hid ((HB9.out.alloc hle9 (.cells #[.int .i64 x.id] 3)).trans hb7)
                have NO := Lib.hid hown7
                clear hown7 hb7 hg7
                go_roundw
                case rel => exact ⟨j + 1, by omega, by go_num, by rw [HY.out]; exact NO.out, NB.out⟩
                case measure => simp [intOf]; omega
              · have HN : Hid (waitK xs (j + 1) t = R) := Lib.hid (by rw [HR2.out]; exact HNN.out (by rw [hmt, decide_eq_false hin]; rfl))
                rw [decide_eq_false hin] at CI
                clear hmt hin
                go_wp2_with fail
                refine wp_region_held_drew (S := Go.RowKit.Below ((wc.drew).heap.size) (wc.drew)) (by kernel_rfl) ?hb159 (fun hHeld => ?rest159)
                case hb159 =>
                  exact Go.RowKit.Below.refl _ _
                case' rest159 => skip
                have hCl := fun (wS : World) (hSw : Go.RowKit.Below ((wc.drew).heap.size) (wc.drew) wS) => And.intro (Mem.bl_cell hSw f0 (by first | omega | (dsimp only; omega) | exact World.block_lt_of_cell? _ _ f0 | (simp <;> omega))) <| Mem.bl_cell hSw f4 (by first | omega | (dsimp only; omega) | exact World.block_lt_of_cell? _ _ f4 | (simp <;> omega))
                replace hCl := Go.Lib.hid hCl
                refine Mem.tkV 0 ?v160 ?y160 ?r160
                case y160 => (intro w hSw; clear hSw; go_simp; try with_reducible rfl)
                refine Mem.tkV 1 ?v161 ?y161 ?r161
                case y161 => (intro w hSw; clear hSw; go_simp; try with_reducible rfl)
                try simp only [Mem.pa, Mem.pb, Mem.pc, Act.put, Mem.pd, Mem.pe, Mem.pf]
                first | refine Mem.tkN 2 ?r162 | (refine Mem.tkV 2 ?v162 ?y162 ?r162; case y162 => (intro w hSw; clear hSw; go_simp; try with_reducible rfl))
                try simp only [Mem.pa, Mem.pb, Mem.pc, Act.put, Mem.pd, Mem.pe, Mem.pf]
                first | refine Mem.tkN 3 ?r163 | (refine Mem.tkV 3 ?v163 ?y163 ?r163; case y163 => (intro w hSw; clear hSw; go_simp; try with_reducible rfl))
                try simp only [Mem.pa, Mem.pb, Mem.pc, Act.put, Mem.pd, Mem.pe, Mem.pf]
                first | refine Mem.tkN 4 ?r164 | (refine Mem.tkV 4 ?v164 ?y164 ?r164; case y164 => (intro w hSw; clear hSw; go_simp; try with_reducible rfl))
                try simp only [Mem.pa, Mem.pb, Mem.pc, Act.put, Mem.pd, Mem.pe, Mem.pf]
                first | refine Mem.tkN 5 ?r165 | (refine Mem.tkV 5 ?v165 ?y165 ?r165; case y165 => (intro w hSw; clear hSw; go_simp; try with_reducible rfl))
                try simp only [Mem.pa, Mem.pb, Mem.pc, Act.put, Mem.pd, Mem.pe, Mem.pf]
                first | refine Mem.tkN 6 ?r166 | (refine Mem.tkV 6 ?v166 ?y166 ?r166; case y166 => (intro w hSw; obtain ⟨hT0, hT1⟩ := hCl.out w hSw; clear hSw; go_simp; try with_reducible rfl))
                try simp only [Mem.pa, Mem.pb, Mem.pc, Act.put, Mem.pd, Mem.pe, Mem.pf]
                first | refine Mem.tkN 7 ?r167 | (refine Mem.tkV 7 ?v167 ?y167 ?r167; case y167 => (intro w hSw; clear hSw; go_simp; try with_reducible rfl))
                try simp only [Mem.pa, Mem.pb, Mem.pc, Act.put, Mem.pd, Mem.pe, Mem.pf]
                first | refine Mem.tkN 8 ?r168 | (refine Mem.tkV 8 ?v168 ?y168 ?r168; case y168 => (intro w hSw; clear hSw; go_simp; try with_reducible rfl))
                try simp only [Mem.pa, Mem.pb, Mem.pc, Act.put, Mem.pd, Mem.pe, Mem.pf]
                first | refine Mem.tkN 9 ?r169 | (refine Mem.tkV 9 ?v169 ?y169 ?r169; case y169 => (intro w hSw; clear hSw; go_simp; try with_reducible rfl))
                try simp only [Mem.pa, Mem.pb, Mem.pc, Act.put, Mem.pd, Mem.pe, Mem.pf]
                first | refine Mem.tkN 10 ?r170 | (refine Mem.tkV 10 ?v170 ?y170 ?r170; case y170 => (intro w hSw; clear hSw; go_simp; try with_reducible rfl))
                try simp only [Mem.pa, Mem.pb, Mem.pc, Act.put, Mem.pd, Mem.pe, Mem.pf]
                first | refine Mem.tkN 11 ?r171 | (refine Mem.tkV 11 ?v171 ?y171 ?r171; case y171 => (intro w hSw; obtain ⟨hT0, hT1⟩ := hCl.out w hSw; clear hSw; go_simp; try with_reducible rfl))
                try simp only [Mem.pa, Mem.pb, Mem.pc, Act.put, Mem.pd, Mem.pe, Mem.pf]
                refine wpAnyH_ready (rs := [12]) (by kernel_rfl) (by simp) ?_
                refine AllReadyH.cons rfl (fun K hK => ?_) AllReadyH.nil
                go_simp
                (refine (CI.out _ hnn).mono ?_; rintro e w9 ⟨rfl, hbl⟩)
                try go_wp2_with fail
                have hSnew := Mem.bl_step hHeld hbl (by first | exact Nat.le_refl _ | omega | (simp <;> omega))
                refine hK.out _ _ ?_ (fun hHeld2 => ?_)
                · exact hSnew
                try replace hnn := hnn.below hbl
                clear hbl
                clear hK K hHeld hSnew
                have hHeld := hHeld2
                clear hHeld2
                try simp only [Mem.pa, Mem.pb, Mem.pc, Act.put, Mem.pd, Mem.pe, Mem.pf]
                refine Mem.tkV 13 ?v172 ?y172 ?r172
                case y172 => (intro w hSw; clear hSw; go_simp; try with_reducible rfl)
                try simp only [Mem.pa, Mem.pb, Mem.pc, Act.put, Mem.pd, Mem.pe, Mem.pf]
                refine wpAnyH_done (by kernel_rfl) ?_ _
                clear hCl
                have HB9 := Lib.hid (HB8.out.trans (((Below.refl _ _).drew.trans hHeld).mono HB8.out.size))
                have HO9 := Lib.hid (HO8.out.below ((Below.refl _ _).drew.trans hHeld))
                clear hHeld f0 f4 hnn
                go_wp2_with fail
                go_roundw
                case rel => exact ⟨j + 1, by omega, by go_num, by rw [HN.out]; exact HO9.out, HB9.out⟩
                case measure => simp [intOf]; omega
        · obtain rfl : j = k := by omega
          have HO := Lib.hid hown
          clear hown
          go_wp2
          go_ret
          exact ⟨_, rfl, by rw [HR.out]; exact HO.out, hbr⟩
end Go.Proofs.YtbamhiegabeicaaGreat.Rd

/- The document's Ready. No statement is proved here. -/
namespace Go.Proofs.YtbamhiegabeicaaGreat.Rd
open Go.RowKit Go.Proofs.YtbamhiegabeicaaGreat.Mem Go.Proofs.YtbamhiegabeicaaGreat.Open Go.Proofs.YtbamhiegabeicaaGreat.Kind Go.Proofs.YtbamhiegabeicaaGreat.Blk Go.Proofs.YtbamhiegabeicaaGreat.App Go.Proofs.YtbamhiegabeicaaGreat.Pat
set_option linter.unusedVariables false
set_option linter.unusedSimpArgs false
theorem own_is {w : World} {B : Nat} {v : Value} {xs : List Int} (h : Ns w B v xs) (hw : ∀ x ∈ xs, WfI x) : ∃ A c, v = .slice A xs.length c ∧ xs.length ≤ c ∧ c ≤ M63 ∧ (A = none → c = 0) ∧ Is w A xs := by
  rcases h.2 with ⟨rfl, h0⟩ | ⟨g, cap, cur, rfl, hg, hh, h1, h2, h3⟩
  · have : xs = [] := List.eq_nil_of_length_eq_zero h0
    subst this
    exact ⟨none, 0, rfl, by simp, by simp, fun _ => rfl, Rw.nil _ _ _ _⟩
  · simp only [maxLen] at h2
    refine ⟨_, cap, rfl, h1, h2, fun h => (by cases h), rfl, by show xs.length ≤ 9223372036854775807; omega, .inr ⟨g, 0, rfl, row_lt hh, row_lt hh, fun i x hx => ⟨[V64 x], ⟨rfl, hw x (List.mem_of_getElem? hx)⟩, fun j v hv => ?_⟩⟩⟩
    cases j with
    | succ j => simp at hv
    | zero =>
      simp at hv
      subst hv
      obtain ⟨hi, rfl⟩ := List.getElem?_eq_some_iff.1 hx
      have := h.cell i hi
      rw [show 0 + i * (kInt .i64).sz + 0 = i from by show 0 + i * 1 + 0 = i; omega]
      exact this
theorem rdy_wf {w : World} {A : Option Addr} {xs : List Chg} (h : Chs w A xs) (b : Int) (k : Nat) : ∀ n ∈ rdy xs b k, WfI n := by
  intro n hn
  obtain ⟨i, hi, _, rfl, _⟩ := mem_rdy hn
  obtain ⟨g, o, rfl, _⟩ := ch_form h (by omega)
  obtain ⟨_, _, _, _, hq⟩ := ch_at h i hi
  exact hq.ok.1
theorem waitK_wf {w : World} {A : Option Addr} {xs : List Chg} (h : Chs w A xs) (t : Chg) (k : Nat) : ∀ n ∈ waitK xs k t, WfI n := by
  intro n hn
  obtain ⟨x, h1, _, rfl⟩ := mem_waitK.1 hn
  obtain ⟨i, hi, rfl⟩ := List.mem_iff_getElem.1 (List.mem_of_mem_take h1)
  obtain ⟨g, o, rfl, _⟩ := ch_form h (by omega)
  obtain ⟨_, _, _, _, hq⟩ := ch_at h i hi
  exact hq.ok.1
set_option maxHeartbeats 4000000 in
set_option maxRecDepth 100000 in
theorem RReady_any (A : Option Addr) (c : Nat) (xs : List Chg) (bl : Int) (w : World) (hx : Chs w A xs) (hn : xs.length ≤ 1000) :
    Calls Tryz.prog 51 #[.slice A xs.length c, .int .i64 bl] w fun r w' => ∃ v, r = .returned v ∧ Ns w' w.heap.size v (readyS xs bl) ∧ Below w.heap.size w w' := by
  have CC := Lib.hid (may_any A c xs w hx)
  have hl : xs.length ≤ 9223372036854775807 := hx.2.1
  cases hm : mayF 0 xs with
  | false =>
    rw [hm] at CC
    have HR : Hid (readyS xs bl = []) := Lib.hid (if_neg (by rw [hm]; simp))
    clear hm
    go_enter Tryz.func51, Tryz.ntmps51
    go_wp2_with fail
    refine CC.out.mono ?_
    rintro e w2 ⟨rfl, hb2⟩
    go_wp2
    go_ret
    exact ⟨_, rfl, by rw [HR.out]; exact Own.nil _ _ _ _, hb2⟩
  | true =>
    rw [hm] at CC
    have HR : Hid (readyS xs bl = rdy xs bl xs.length) := Lib.hid (if_pos hm)
    have CW := Lib.hid (fun id w' h => RWaits_any A c xs id w' h hn)
    have HWS := Lib.hid (fun k hk => waitsS_at hm (k := k) hk)
    clear hm
    go_enter Tryz.func51, Tryz.ntmps51
    go_wp2_with fail
    refine CC.out.mono ?_
    rintro e w2 ⟨rfl, hb2⟩
    go_wp2_with fail
    go_loopw [5, 6] (fun v i wr => ∃ (k : Nat), k ≤ xs.length ∧ i = .int .i64 k ∧ Ns wr w.heap.size v (rdy xs bl k) ∧ Below w.heap.size w wr) (fun _ i _ => xs.length - (intOf i).toNat)
    case atStart => exact ⟨0, by omega, rfl, Own.nil _ _ _ _, hb2⟩
    case round =>
      clear hb2
      obtain ⟨k, hk, rfl, hown, hbr⟩ := hrel
      by_cases hlt : k < xs.length
      · obtain ⟨g0, o, rfl, hg⟩ := ch_form hx (by omega)
        obtain ⟨A1, c1, A2, c2, hat0⟩ := ch_at hx k hlt
        have e0 := (hat0.below hbr).v0
        have e1 := (hat0.below hbr).v1
        have HE : Hid (∀ w9, Below w.heap.size w w9 → w9.cell? ⟨g0, o + k * 5, none⟩ = some (.int .i64 xs[k].id)) := Lib.hid fun w9 h => (hat0.below h).v0
        have HY := Lib.hid (rdy_yes (b := bl) hlt)
        have HN := Lib.hid (rdy_no (b := bl) hlt)
        have CW1 := Lib.hid (CW.out xs[k].id wr (hx.below hbr))
        have hws := HWS.out k hlt
        rw [hws] at CW1
        have hrl := rdy_len xs bl k
        have hrw := rdy_wf hx bl k
        have hww := waitK_wf hx xs[k] k
        have hwl := waitK_len xs xs[k] k
        generalize rdy xs bl k = R at *
        obtain ⟨R2, hR2⟩ : ∃ R2, rdy xs bl (k + 1) = R2 := ⟨_, rfl⟩
        rw [hR2] at HY HN
        have HR2 := Lib.hid hR2
        clear hR2 hws hat0
        generalize waitK xs k xs[k] = W at *
        generalize xs[k] = x at *
        have HO := Lib.hid hown
        have HB := Lib.hid hbr
        have HRW := Lib.hid hrw
        have HWW := Lib.hid hww
        have hle := hbr.size
        clear hown hbr hrw hww
        by_cases hbk : x.blk = bl
        · have hne : (x.blk != bl) = false := by rw [hbk]; exact bne_self_eq_false _
          have HBK := Lib.hid hbk
          clear hbk
          go_wp2_with fail
          refine CW1.out.mono ?_
          rintro e w5 ⟨v5, rfl, hown5, hb5⟩
          have HO := Lib.hid (HO.out.below hb5)
          have HB := Lib.hid (HB.out.trans (hb5.mono HB.out.size))
          obtain ⟨AW, cW, rfl, _, _, _, hisW⟩ := own_is hown5 HWW.out
          obtain ⟨AR, cR, hu5, _, _, _, hisR⟩ := own_is HO.out HRW.out
          have HISW := Lib.hid hisW
          have HISR := Lib.hid hisR
          have hle5 : w.heap.size ≤ w5.heap.size := HB.out.size
          clear hown5 hb5 CW1 hisW hisR e0 e1
          subst hu5
          go_wp2_with fail
          go_loopw [8, 9] (fun fr i wq => ∃ (j : Nat), j ≤ W.length ∧ i = .int .i64 j ∧ fr = .bool (freeB (W.take j) R) ∧ Below w5.heap.size w5 wq) (fun _ i _ => W.length - (intOf i).toNat)
          case atStart => exact ⟨0, by omega, rfl, rfl, Below.refl _ _⟩
          case round =>
            obtain ⟨j, hj, rfl, rfl, hbq⟩ := hrel
            by_cases hjl : j < W.length
            · obtain ⟨gw, ow, rfl, hgw, hc0⟩ := is_at HISW.out j hjl
              have hc := (hbq.cell (p := ⟨gw, ow + j, none⟩) hgw).trans hc0
              have HT := Lib.hid (take_next hjl)
              have CI := Lib.hid (in_any AR cR R W[j] wr (HISR.out.below hbq))
              clear hc0
              generalize W[j] = n at *
              cases hfr : freeB (W.take j) R with
              | false =>
                have HF : Hid (freeB (W.take (j + 1)) R = false) := Lib.hid (by rw [HT.out]; exact free_snoc_false hfr)
                clear hfr
                go_wp2
                go_roundw
                case rel => exact ⟨j + 1, by omega, by go_num, by rw [HF.out], hbq⟩
                case measure => simp [intOf]; omega
              | true =>
                by_cases hz : n ∈ R
                · have HF : Hid (freeB (W.take (j + 1)) R = true) := Lib.hid (by rw [HT.out, free_snoc_yes hz]; exact hfr)
                  rw [decide_eq_true hz] at CI
                  clear hfr hz
                  go_wp2_with fail
                  refine CI.out.mono ?_
                  rintro e wx ⟨rfl, hbx⟩
                  have hbq2 := hbq.trans (hbx.mono hbq.size)
                  clear hbx
                  go_wp2
                  go_roundw
                  case rel => exact ⟨j + 1, by omega, by go_num, by rw [HF.out], hbq2⟩
                  case measure => simp [intOf]; omega
                · have HF : Hid (freeB (W.take (j + 1)) R = false) := Lib.hid (by rw [HT.out]; exact free_snoc_no hz)
                  rw [decide_eq_false hz] at CI
                  clear hfr hz
                  go_wp2_with fail
                  refine CI.out.mono ?_
                  rintro e wx ⟨rfl, hbx⟩
                  have hbq2 := hbq.trans (hbx.mono hbq.size)
                  clear hbx
                  go_wp2
                  go_roundw
                  case rel => exact ⟨j + 1, by omega, by go_num, by rw [HF.out], hbq2⟩
                  case measure => simp [intOf]; omega
            · obtain rfl : j = W.length := by omega
              rw [List.take_length]
              have HOq := Lib.hid (HO.out.below hbq)
              have HBq := Lib.hid (HB.out.trans (hbq.mono HB.out.size))
              have q0 : wr.cell? ⟨g0, o + k * 5, none⟩ = some (.int .i64 x.id) := HE.out wr HBq.out
              have hleq : w.heap.size ≤ wr.heap.size := HBq.out.size
              clear hbq
              cases hfr : freeB W R with
              | false =>
                have hN2 : Hid (R2 = R) := Lib.hid (HN.out fun h => by have := of_decide_eq_false hfr; exact this h.2)
                clear hfr
                go_wp2_with fail
                go_roundw
                case rel => exact ⟨k + 1, by omega, by go_num, by rw [HR2.out, hN2.out]; exact HOq.out, HBq.out⟩
                case measure => simp [intOf]; omega
              | true =>
                have hY2 : Hid (R2 = R ++ [x.id]) := Lib.hid (HY.out HBK.out (of_decide_eq_true hfr))
                have hc1 : (wr.alloc (.cells #[.int .i64 x.id] 3)).cell? ⟨wr.heap.size, 0, none⟩ = some (.int .i64 x.id) := by
                  rw [cell_of_row _ _ _ _ _ _ (heap_alloc_new wr _)]; rfl
                clear hfr
                go_wp2_with (at_builtin; go_loud (refine wpList_app1 rfl _ _ 47 rfl w.heap.size 3 (.int .i64 0) 8 V64 Tryz.underlying47 intInfo3 rfl (.slice AR R.length cR) R x.id rfl _ wr.heap.size rfl (HOq.out.alloc _) hc1 rfl (by omega) (by omega) (by simp; omega) ?_); intro v7 w7 hown7 hb7 hg7)
                have NB := Lib.hid ((HBq.out.alloc hleq (.cells #[.int .i64 x.id] 3)).trans hb7)
                have NO := Lib.hid hown7
                clear hown7 hb7 hg7
                go_roundw
                case rel => exact ⟨k + 1, by omega, by go_num, by rw [HR2.out, hY2.out]; exact NO.out, NB.out⟩
                case measure => simp [intOf]; omega
        · have hne : (x.blk != bl) = true := bne_iff_ne.2 hbk
          have hN2 : Hid (R2 = R) := Lib.hid (HN.out fun h => hbk h.1)
          clear hbk
          go_wp2_with fail
          go_roundw
          case rel => exact ⟨k + 1, by omega, by go_num, by rw [HR2.out, hN2.out]; exact HO.out, HB.out⟩
          case measure => simp [intOf]; omega
      · obtain rfl : k = xs.length := by omega
        have HO := Lib.hid hown
        clear hown
        go_wp2
        go_ret
        exact ⟨_, rfl, by rw [HR.out]; exact HO.out, hbr⟩
end Go.Proofs.YtbamhiegabeicaaGreat.Rd


