/- The contract of ready.Ready. No statement is proved here. -/
import Derived.Test.YteeodeooicoekaaRw
namespace Go.Proofs.Yteeodeooicoekaa.Rd
open Go.RowKit Go.Proofs.Yteeodeooicoekaa.Mem Go.Proofs.Yteeodeooicoekaa.Open Go.Proofs.Yteeodeooicoekaa.Kind Go.Proofs.Yteeodeooicoekaa.Blk Go.Proofs.Yteeodeooicoekaa.App Go.Proofs.Yteeodeooicoekaa.Pat
set_option linter.unusedVariables false
set_option linter.unusedSimpArgs false
theorem mp_ne_own {α : Type} {w : World} {b n B : Nat} {f : Int → Int} {E : TypeId} {V : α → Value} {v : Value} {xs : List α} (h : Mp w b n f) (ho : Own w B E V v xs) : ∀ q, v.ownBlock = some q → some q ≠ some b := by
  intro q hq e
  injection e with e
  subst e
  obtain ⟨D, ⟨es, clock, hb, _⟩, _⟩ := h
  rcases ho.2 with ⟨rfl, _⟩ | ⟨g, cap, cur, rfl, _, hh, _⟩
  · cases hq
  · injection hq with hq
    subst hq
    rw [hb] at hh
    injection hh with hh
    cases hh
theorem mp_ne_own' {α : Type} {w : World} {b n B : Nat} {f : Int → Int} {E : TypeId} {V : α → Value} {v : Value} {xs : List α} (h : Mp w b n f) (ho : Own w B E V v xs) : some b ≠ v.ownBlock := fun e => mp_ne_own h ho b e.symm rfl
theorem mp_ne_row {w : World} {b n g : Nat} {f : Int → Int} {T : TypeId} {cs : Array Value} (h : Mp w b n f) (hr : Row w g T cs) : some g ≠ some b := by
  intro e
  injection e with e
  subst e
  obtain ⟨D, ⟨es, clock, hb, _⟩, _⟩ := h
  have := hr.out
  rw [hb] at this
  injection this with this
  cases this
/-- What is left of a map of places, when some are struck. -/
def Left (xs : List Chg) (g : Int → Int) (R : List Int) : Prop := ∀ x ∈ xs, g x.id = 0 ↔ x.id ∈ R
theorem left_start {xs : List Chg} (h : (xs.map (·.id)).Pairwise (· < ·)) : Left xs (idxF xs 0 fun _ => 0) [] := by
  intro x hx
  obtain ⟨i, hi, rfl⟩ := List.mem_iff_getElem.1 hx
  rw [idxF_at h hi]
  constructor
  · intro e; omega
  · intro e; simp at e
theorem left_del {xs : List Chg} {g : Int → Int} {R : List Int} {n : Int} (hl : Left xs g R) : Left xs (upd g n 0) (R ++ [n]) := by
  intro x hx
  rw [List.mem_append, List.mem_singleton]
  by_cases e : x.id = n
  · rw [e, upd_same]
    exact ⟨fun _ => .inr rfl, fun _ => rfl⟩
  · rw [upd_ne _ _ e, hl x hx]
    exact ⟨.inl, fun h => h.elim id fun h => absurd h e⟩
def freeB (W R : List Int) : Bool := decide (∀ n ∈ W, n ∈ R)
theorem free_snoc_no {W R : List Int} {n : Int} (h : n ∉ R) : freeB (W ++ [n]) R = false := decide_eq_false fun h2 => h (h2 n (by simp))
theorem free_snoc_yes {W R : List Int} {n : Int} (h : n ∈ R) : freeB (W ++ [n]) R = freeB W R := by
  unfold freeB
  by_cases hw : ∀ m ∈ W, m ∈ R
  · rw [decide_eq_true hw, decide_eq_true]
    intro m hm
    rcases List.mem_append.1 hm with hm | hm
    · exact hw m hm
    · simp at hm; rw [hm]; exact h
  · rw [decide_eq_false hw, decide_eq_false]
    exact fun h2 => hw fun m hm => h2 m (List.mem_append_left _ hm)
theorem free_snoc_false {W R : List Int} {n : Int} (h : freeB W R = false) : freeB (W ++ [n]) R = false := by
  unfold freeB at *
  rw [decide_eq_false_iff_not] at *
  exact fun h2 => h fun m hm => h2 m (List.mem_append_left _ hm)
set_option maxHeartbeats 4000000 in
set_option maxRecDepth 100000 in
theorem Ready_any (A : Option Addr) (c : Nat) (xs : List Chg) (bl : Int) (w : World) (hx : Chs w A xs) (hcap : xs.length ≤ c) (hcm : c ≤ M63) (hn : xs.length ≤ 1000) (hs : Small xs) :
    Calls Try.prog 59 #[.slice A xs.length c, .int .i64 bl] w fun r w' => ∃ v, r = .returned v ∧ Ns w' w.heap.size v (readyS xs bl) ∧ Below w.heap.size w w' := by
  have CC := Lib.hid (chk_any A c xs w hx)
  cases hm : mayF 0 xs with
  | false =>
    rw [hm] at CC
    have HR : Hid (readyS xs bl = []) := Lib.hid (if_neg (by rw [hm]; simp))
    clear hm
    go_enter Try.func59, Try.ntmps59
    go_wp2_with fail
    refine CC.out.mono ?_
    rintro e w2 ⟨rfl, hb2⟩
    go_wp2
    go_ret
    exact ⟨_, rfl, by rw [HR.out]; exact Own.nil _ _ _ _, hb2⟩
  | true =>
    rw [hm] at CC
    have HR : Hid (readyS xs bl = rdy xs bl xs.length) := Lib.hid (if_pos hm)
    have CI := Lib.hid (fun w' h => index_any A c xs w' h hn)
    have CW := Lib.hid (fun k hk b m w' h hmp => waits_any A c xs k hk b m hm w' h hcap hcm hmp hn hs)
    have HIDS := Lib.hid (mayF_iff.1 hm).1
    have HL0 := Lib.hid (left_start (mayF_iff.1 hm).1)
    clear hm
    go_enter Try.func59, Try.ntmps59
    go_wp2_with fail
    refine CC.out.mono ?_
    rintro e w2 ⟨rfl, hb2⟩
    go_wp2_with fail
    refine (CI.out _ (hx.below hb2)).mono ?_
    rintro e w3 ⟨b5, rfl, hm5, hb5, hb3⟩
    have hb23 := hb2.trans (hb3.mono hb2.size)
    have hl5 := hm5.lt
    go_wp2_with fail
    refine (CI.out _ (hx.below hb23)).mono ?_
    rintro e w4 ⟨b6, rfl, hm6, hb6, hb4⟩
    have hb24 := hb23.trans (hb4.mono hb23.size)
    have hm54 := hm5.below hb4
    have hle2 := hb2.size
    have HI0 := Lib.hid (show (idxF xs 0 fun _ => 0) = _ from rfl)
    generalize (idxF xs 0 fun _ => 0) = f at *
    clear hm5 hb2 hb3 hb23 hb4 HI0 CI CC
    go_wp2_with fail
    go_loopw [7, 22] (fun v i wr => ∃ (k : Nat) (g : Int → Int), k ≤ xs.length ∧ i = .int .i64 k ∧ Ns wr w.heap.size v (rdy xs bl k) ∧ Mp wr b5 xs.length g ∧ Hid (Left xs g (rdy xs bl k)) ∧ Mp wr b6 xs.length f ∧ Below w.heap.size w wr) (fun _ i _ => xs.length - (intOf i).toNat)
    case atStart => exact ⟨0, f, by omega, rfl, Own.nil _ _ _ _, hm54, HL0, hm6, hb24⟩
    case round =>
      clear hm54 hm6 hb24 HL0
      obtain ⟨k, g, hk, rfl, hown, hm5, hleft, hm6, hbr⟩ := hrel
      by_cases hlt : k < xs.length
      · obtain ⟨g0, o, rfl, hg⟩ := ch_form hx (by omega)
        obtain ⟨A1, c1, A2, c2, hat0⟩ := ch_at hx k hlt
        have hat := hat0.below hbr
        have e0 := hat.v0
        have e1 := hat.v1
        have e2 := hat.v2
        have e3 : wr.cell? ⟨g0, o + k * 5 + 3, none⟩ = _ := hat.v3
        have e4 := hat.v4
        have hid := hat.ok.1
        have CW1 := Lib.hid (fun b m w' h hmp => CW.out k hlt b m w' h hmp)
        have HY := Lib.hid (rdy_yes (b := bl) hlt)
        have HN := Lib.hid (rdy_no (b := bl) hlt)
        have hxs := hx.below hbr
        have hrl := rdy_len xs bl k
        have HWx : Hid (∀ n ∈ waitK xs k xs[k], ∃ x ∈ xs, x.id = n) := Lib.hid fun n h => by
          obtain ⟨x, h1, _, h2⟩ := mem_waitK.1 h
          exact ⟨x, List.mem_of_mem_take h1, h2⟩
        have HWl : Hid ((waitK xs k xs[k]).length ≤ 1000) := Lib.hid (by unfold waitK; rw [List.length_map]; exact Nat.le_trans (List.length_filter_le _ _) (by rw [List.length_take]; omega))
        generalize rdy xs bl k = R at *
        obtain ⟨R2, hR2⟩ : ∃ R2, rdy xs bl (k + 1) = R2 := ⟨_, rfl⟩
        rw [hR2] at HY HN
        have HR2 := Lib.hid hR2
        clear hR2
        generalize waitK xs k xs[k] = W at *
        clear hat0 hat
        generalize xs[k] = x at *
        obtain ⟨⟨b1, b2, b3⟩⟩ : Nonempty (_ ∧ _ ∧ _) := ⟨boxed wr 62 chZ (chC x A1 c1 A2 c2)⟩
        have R0 : Row (wr.alloc (.cells chZ 62)) wr.heap.size 62 chZ := Row.new _ _ _
        have k1 : World.cell? _ ⟨wr.heap.size, 1, none⟩ = some (.int .i64 x.blk) := b1.cell 1 rfl
        have KB := Lib.hid b1
        have HO := Lib.hid (hown.below b2)
        have M5 := Lib.hid (hm5.below b2)
        have M6 := Lib.hid (hm6.below b2)
        have HB := Lib.hid (hbr.trans (b2.mono hbr.size))
        have HX := Lib.hid (hxs.below b2)
        have hltB : wr.heap.size < ((wr.alloc (.cells chZ 62)).setRow wr.heap.size (chC x A1 c1 A2 c2)).heap.size := b3
        have hle := hbr.size
        clear b1 b2 b3 hown hm5 hm6 hbr hxs
        by_cases hbk : x.blk = bl
        · have hne : (x.blk != bl) = false := by rw [hbk]; exact bne_self_eq_false _
          have HBK := Lib.hid hbk
          clear hbk
          go_wp2_with (first
            | (with_reducible refine wpList_allocA rfl 62 rfl _ chZero ?_)
            | (with_reducible refine wpList_storeRow rfl 62 _ _ rfl wr.heap.size rfl (chC x A1 c1 A2 c2) rfl chZ 62 5 chSize rfl rfl (chC_one _ _ _ _ _) R0 ?_))
          clear R0 k1 e0 e1 e2 e3 e4
          generalize (wr.alloc (.cells chZ 62)).setRow wr.heap.size (chC x A1 c1 A2 c2) = wB at *
          generalize hg9 : wr.heap.size = g9 at *
          refine (CW1.out _ _ _ HX.out M6.out).mono ?_
          rintro e w5 ⟨v5, rfl, hown5, hb5'⟩
          obtain ⟨AW, cW, rfl⟩ := hown5.slice
          have hsl := hown5.sl.2
          have KB := Lib.hid (KB.out.below hb5')
          have HO := Lib.hid (HO.out.below hb5')
          have M5 := Lib.hid (M5.out.below hb5')
          have M6 := Lib.hid (M6.out.below hb5')
          have HB := Lib.hid (HB.out.trans (hb5'.mono HB.out.size))
          have hlt5 : g9 < w5.heap.size := Nat.lt_of_lt_of_le hltB hb5'.size
          have hle5 : w.heap.size ≤ w5.heap.size := HB.out.size
          have hwl := HWl.out
          have hcW : ∀ j, (hj : j < W.length) → ∃ gw ow, AW = some ⟨gw, ow, none⟩ ∧ w5.cell? ⟨gw, ow + j, none⟩ = some (.int .i64 W[j]) := by
            rcases hown5.2 with ⟨e, h0⟩ | ⟨gw, cap, cur, e, _⟩
            · intro j hj; omega
            · injection e with e1 e2 e3
              subst e1
              intro j hj
              exact ⟨gw, 0, rfl, by rw [Nat.zero_add]; exact hown5.cell j hj⟩
          have HCW := Lib.hid hcW
          have HWW : Hid (∀ n ∈ W, WfI n) := Lib.hid fun n h => by
            obtain ⟨y, hy, rfl⟩ := HWx.out n h
            obtain ⟨i, hi, rfl⟩ := List.mem_iff_getElem.1 hy
            obtain ⟨_, _, _, _, hq⟩ := ch_at hx i hi
            exact hq.ok.1
          clear hown5 hb5' CW1 hsl hcW
          go_wp2_with fail
          go_loopw [10, 36] (fun fr i wq => ∃ (j : Nat), j ≤ W.length ∧ i = .int .i64 j ∧ fr = .bool (freeB (W.take j) R) ∧ wq = w5) (fun _ i _ => W.length - (intOf i).toNat)
          case atStart => exact ⟨0, by omega, rfl, rfl, by first | trivial | rfl⟩
          case round =>
            obtain ⟨j, hj, rfl, rfl, rfl⟩ := hrel
            by_cases hjl : j < W.length
            · obtain ⟨gw, ow, rfl, hc⟩ := HCW.out j hjl
              have HT := Lib.hid (take_next hjl)
              have hww := HWW.out _ (List.getElem_mem hjl)
              obtain ⟨y, hy, hyn⟩ := HWx.out _ (List.getElem_mem hjl)
              have hiff := hleft.out y hy
              rw [hyn] at hiff
              generalize W[j] = n at *
              clear hy hyn
              cases hfr : freeB (W.take j) R with
              | false =>
                have HF : Hid (freeB (W.take (j + 1)) R = false) := Lib.hid (by rw [HT.out]; exact free_snoc_false hfr)
                clear hfr
                go_wp2
                go_roundw
                case rel => exact ⟨j + 1, by omega, by go_num, by rw [HF.out], by first | trivial | rfl⟩
                case measure => simp [intOf]; omega
              | true =>
                have hr := M5.out.get hww Try.underlying82
                by_cases hz : g n = 0
                · have HF : Hid (freeB (W.take (j + 1)) R = true) := Lib.hid (by rw [HT.out, free_snoc_yes (hiff.1 hz)]; exact hfr)
                  rw [hz] at hr
                  clear hfr hz hiff
                  go_wp2
                  go_roundw
                  case rel => exact ⟨j + 1, by omega, by go_num, by rw [HF.out], by first | trivial | rfl⟩
                  case measure => simp [intOf]; omega
                · have HF : Hid (freeB (W.take (j + 1)) R = false) := Lib.hid (by rw [HT.out]; exact free_snoc_no fun h => hz (hiff.2 h))
                  have hq : (g n == 0) = false := beq_eq_false_iff_ne.2 hz
                  generalize g n = gn at *
                  clear hfr hz hiff
                  go_wp2
                  go_roundw
                  case rel => exact ⟨j + 1, by omega, by go_num, by rw [HF.out], by first | trivial | rfl⟩
                  case measure => simp [intOf]; omega
            · obtain rfl : j = W.length := by omega
              rw [List.take_length]
              cases hfr : freeB W R with
              | false =>
                have hN2 : Hid (R2 = R) := Lib.hid (HN.out fun h => by have := of_decide_eq_false hfr; exact this h.2)
                clear hfr
                go_wp2_with fail
                go_roundw
                case rel => exact ⟨k + 1, g, by omega, by go_num, by rw [HR2.out, hN2.out]; exact HO.out, M5.out, by rw [HR2.out, hN2.out]; exact hleft, M6.out, HB.out⟩
                case measure => simp [intOf]; omega
              | true =>
                have hY2 : Hid (R2 = R ++ [x.id]) := Lib.hid (HY.out HBK.out (of_decide_eq_true hfr))
                clear hfr
                have hm5 := M5.out
                have k0 : World.cell? _ ⟨g9, 0, none⟩ = some (.int .i64 x.id) := KB.out.cell 0 rfl
                have NE1 := Lib.hid (mp_ne_row M5.out KB.out)
                have NE2 := Lib.hid (mp_ne_own M5.out HO.out)
                go_wp2_with (first
                  | (at_delete
                     refine wpList_mapDel rfl _ _ rfl rfl rfl hm5 x.id rfl hid ?_
                     intro w6 hm6 hg6
                     have k6 : World.cell? _ ⟨g9, 0, none⟩ = some (.int .i64 x.id) := (gb_row hg6 KB.out NE1.out).cell 0 rfl
                     have HO6 := Lib.hid (own_grown HO.out hg6 NE2.out)
                     have M66 := Lib.hid (M6.out.kept hg6 (by intro e; injection e with e; omega))
                     have M56 := Lib.hid hm6
                     have HB6 := Lib.hid (HB.out.grown hg6 HB.out.size (fun q hq => by injection hq with hq; omega))
                     have hle6 : w.heap.size ≤ w6.heap.size := HB6.out.size
                     have hc1 : (w6.alloc (.cells #[.int .i64 x.id] 3)).cell? ⟨w6.heap.size, 0, none⟩ = some (.int .i64 x.id) := by
                       rw [cell_of_row _ _ _ _ _ _ (heap_alloc_new w6 _)]; rfl
                     clear hm5 hm6 hg6)
                  | (at_builtin
                     go_loud (refine wpList_app1 rfl _ _ 28 rfl w.heap.size 3 (.int .i64 0) 8 V64 Try.underlying28 intInfo3 rfl u7 R x.id rfl _ w6.heap.size rfl (HO6.out.alloc _) hc1 rfl (by omega) (by omega) (by simp; omega) ?_)
                     intro v7 w7 hown7 hb7 hg7))
                have N5 := Lib.hid ((M56.out.alloc (.cells #[.int .i64 x.id] 3)).kept hg7 (mp_ne_own' (M56.out.alloc (.cells #[.int .i64 x.id] 3)) (HO6.out.alloc (.cells #[.int .i64 x.id] 3))))
                have N6 := Lib.hid ((M66.out.alloc (.cells #[.int .i64 x.id] 3)).kept hg7 (mp_ne_own' (M66.out.alloc (.cells #[.int .i64 x.id] 3)) (HO6.out.alloc (.cells #[.int .i64 x.id] 3))))
                have NB := Lib.hid ((HB6.out.alloc hle6 (.cells #[.int .i64 x.id] 3)).trans hb7)
                have NO := Lib.hid hown7
                clear hown7 hb7 hg7
                go_roundw
                case rel => exact ⟨k + 1, _, by omega, by go_num, by rw [HR2.out, hY2.out]; exact NO.out, N5.out, by rw [HR2.out, hY2.out]; exact Lib.hid (left_del hleft.out), N6.out, NB.out⟩
                case measure => simp [intOf]; omega
        · have hne : (x.blk != bl) = true := bne_iff_ne.2 hbk
          have hN2 : Hid (R2 = R) := Lib.hid (HN.out fun h => hbk h.1)
          clear hbk
          go_wp2_with (first
            | (with_reducible refine wpList_allocA rfl 62 rfl _ chZero ?_)
            | (with_reducible refine wpList_storeRow rfl 62 _ _ rfl wr.heap.size rfl (chC x A1 c1 A2 c2) rfl chZ 62 5 chSize rfl rfl (chC_one _ _ _ _ _) R0 ?_))
          go_roundw
          case rel => exact ⟨k + 1, g, by omega, by go_num, by rw [HR2.out, hN2.out]; exact HO.out, M5.out, by rw [HR2.out, hN2.out]; exact hleft, M6.out, HB.out⟩
          case measure => simp [intOf]; omega
      · obtain rfl : k = xs.length := by omega
        have HO := Lib.hid hown
        clear hown
        go_wp2
        go_ret
        exact ⟨_, rfl, by rw [HR.out]; exact HO.out, hbr⟩
end Go.Proofs.Yteeodeooicoekaa.Rd
