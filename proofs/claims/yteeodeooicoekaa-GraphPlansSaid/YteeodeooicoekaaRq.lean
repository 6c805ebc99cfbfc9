/- The document's Ready. No statement is proved here. -/
import Derived.Test.YteeodeooicoekaaRz
namespace Go.Proofs.Yteeodeooicoekaa.Rd
open Go.RowKit Go.Proofs.Yteeodeooicoekaa.Mem Go.Proofs.Yteeodeooicoekaa.Open Go.Proofs.Yteeodeooicoekaa.Kind Go.Proofs.Yteeodeooicoekaa.Blk Go.Proofs.Yteeodeooicoekaa.App Go.Proofs.Yteeodeooicoekaa.Pat
set_option linter.unusedVariables false
set_option linter.unusedSimpArgs false
theorem own_is {w : World} {B : Nat} {v : Value} {xs : List Int} (h : Ns w B v xs) (hw : ∀ x ∈ xs, WfI x) : ∃ A c, v = .slice A xs.length c ∧ xs.length ≤ c ∧ c ≤ M63 ∧ (A = none → c = 0) ∧ Is w A xs := by
  rcases h.2 with ⟨rfl, h0⟩ | ⟨g, cap, cur, rfl, hg, hh, h1, h2, h3⟩
  · have : xs = [] := List.eq_nil_of_length_eq_zero h0
    subst this
    exact ⟨none, 0, rfl, by simp, by simp, fun _ => rfl, Rw.nil _ _ _ _⟩
  · simp only [maxLen] at h2
    refine ⟨_, cap, rfl, h1, h2, fun h => (by cases h), rfl, by show xs.length ≤ 9223372036854775807; omega, .inr ⟨g, 0, rfl, row_lt hh, row_lt hh, fun i x hx => ⟨[V64 x], ⟨rfl, hw x (List.mem_of_getElem? hx)⟩, fun j v hv => ?_⟩⟩⟩
    cases j with
    | succ j => simp at hv
    | zero =>
      simp at hv
      subst hv
      obtain ⟨hi, rfl⟩ := List.getElem?_eq_some_iff.1 hx
      have := h.cell i hi
      rw [show 0 + i * (kInt .i64).sz + 0 = i from by show 0 + i * 1 + 0 = i; omega]
      exact this
theorem rdy_wf {w : World} {A : Option Addr} {xs : List Chg} (h : Chs w A xs) (b : Int) (k : Nat) : ∀ n ∈ rdy xs b k, WfI n := by
  intro n hn
  obtain ⟨i, hi, _, rfl, _⟩ := mem_rdy hn
  obtain ⟨g, o, rfl, _⟩ := ch_form h (by omega)
  obtain ⟨_, _, _, _, hq⟩ := ch_at h i hi
  exact hq.ok.1
theorem waitK_wf {w : World} {A : Option Addr} {xs : List Chg} (h : Chs w A xs) (t : Chg) (k : Nat) : ∀ n ∈ waitK xs k t, WfI n := by
  intro n hn
  obtain ⟨x, h1, _, rfl⟩ := mem_waitK.1 hn
  obtain ⟨i, hi, rfl⟩ := List.mem_iff_getElem.1 (List.mem_of_mem_take h1)
  obtain ⟨g, o, rfl, _⟩ := ch_form h (by omega)
  obtain ⟨_, _, _, _, hq⟩ := ch_at h i hi
  exact hq.ok.1
set_option maxHeartbeats 4000000 in
set_option maxRecDepth 100000 in
theorem RReady_any (A : Option Addr) (c : Nat) (xs : List Chg) (bl : Int) (w : World) (hx : Chs w A xs) (hn : xs.length ≤ 1000) :
    Calls Try.prog 16 #[.slice A xs.length c, .int .i64 bl] w fun r w' => ∃ v, r = .returned v ∧ Ns w' w.heap.size v (readyS xs bl) ∧ Below w.heap.size w w' := by
  have CC := Lib.hid (may_any A c xs w hx)
  have hl : xs.length ≤ 9223372036854775807 := hx.2.1
  cases hm : mayF 0 xs with
  | false =>
    rw [hm] at CC
    have HR : Hid (readyS xs bl = []) := Lib.hid (if_neg (by rw [hm]; simp))
    clear hm
    go_enter Try.func16, Try.ntmps16
    go_wp2_with fail
    refine CC.out.mono ?_
    rintro e w2 ⟨rfl, hb2⟩
    go_wp2
    go_ret
    exact ⟨_, rfl, by rw [HR.out]; exact Own.nil _ _ _ _, hb2⟩
  | true =>
    rw [hm] at CC
    have HR : Hid (readyS xs bl = rdy xs bl xs.length) := Lib.hid (if_pos hm)
    have CW := Lib.hid (fun id w' h => RWaits_any A c xs id w' h hn)
    have HWS := Lib.hid (fun k hk => waitsS_at hm (k := k) hk)
    clear hm
    go_enter Try.func16, Try.ntmps16
    go_wp2_with fail
    refine CC.out.mono ?_
    rintro e w2 ⟨rfl, hb2⟩
    go_wp2_with fail
    go_loopw [5, 6] (fun v i wr => ∃ (k : Nat), k ≤ xs.length ∧ i = .int .i64 k ∧ Ns wr w.heap.size v (rdy xs bl k) ∧ Below w.heap.size w wr) (fun _ i _ => xs.length - (intOf i).toNat)
    case atStart => exact ⟨0, by omega, rfl, Own.nil _ _ _ _, hb2⟩
    case round =>
      clear hb2
      obtain ⟨k, hk, rfl, hown, hbr⟩ := hrel
      by_cases hlt : k < xs.length
      · obtain ⟨g0, o, rfl, hg⟩ := ch_form hx (by omega)
        obtain ⟨A1, c1, A2, c2, hat0⟩ := ch_at hx k hlt
        have e0 := (hat0.below hbr).v0
        have e1 := (hat0.below hbr).v1
        have HE : Hid (∀ w9, Below w.heap.size w w9 → w9.cell? ⟨g0, o + k * 5, none⟩ = some (.int .i64 xs[k].id)) := Lib.hid fun w9 h => (hat0.below h).v0
        have HY := Lib.hid (rdy_yes (b := bl) hlt)
        have HN := Lib.hid (rdy_no (b := bl) hlt)
        have CW1 := Lib.hid (CW.out xs[k].id wr (hx.below hbr))
        have hws := HWS.out k hlt
        rw [hws] at CW1
        have hrl := rdy_len xs bl k
        have hrw := rdy_wf hx bl k
        have hww := waitK_wf hx xs[k] k
        have hwl := waitK_len xs xs[k] k
        generalize rdy xs bl k = R at *
        obtain ⟨R2, hR2⟩ : ∃ R2, rdy xs bl (k + 1) = R2 := ⟨_, rfl⟩
        rw [hR2] at HY HN
        have HR2 := Lib.hid hR2
        clear hR2 hws hat0
        generalize waitK xs k xs[k] = W at *
        generalize xs[k] = x at *
        have HO := Lib.hid hown
        have HB := Lib.hid hbr
        have HRW := Lib.hid hrw
        have HWW := Lib.hid hww
        have hle := hbr.size
        clear hown hbr hrw hww
        by_cases hbk : x.blk = bl
        · have hne : (x.blk != bl) = false := by rw [hbk]; exact bne_self_eq_false _
          have HBK := Lib.hid hbk
          clear hbk
          go_wp2_with fail
          refine CW1.out.mono ?_
          rintro e w5 ⟨v5, rfl, hown5, hb5⟩
          have HO := Lib.hid (HO.out.below hb5)
          have HB := Lib.hid (HB.out.trans (hb5.mono HB.out.size))
          obtain ⟨AW, cW, rfl, _, _, _, hisW⟩ := own_is hown5 HWW.out
          obtain ⟨AR, cR, hu5, _, _, _, hisR⟩ := own_is HO.out HRW.out
          have HISW := Lib.hid hisW
          have HISR := Lib.hid hisR
          have hle5 : w.heap.size ≤ w5.heap.size := HB.out.size
          clear hown5 hb5 CW1 hisW hisR e0 e1
          subst hu5
          go_wp2_with fail
          go_loopw [8, 9] (fun fr i wq => ∃ (j : Nat), j ≤ W.length ∧ i = .int .i64 j ∧ fr = .bool (freeB (W.take j) R) ∧ Below w5.heap.size w5 wq) (fun _ i _ => W.length - (intOf i).toNat)
          case atStart => exact ⟨0, by omega, rfl, rfl, Below.refl _ _⟩
          case round =>
            obtain ⟨j, hj, rfl, rfl, hbq⟩ := hrel
            by_cases hjl : j < W.length
            · obtain ⟨gw, ow, rfl, hgw, hc0⟩ := is_at HISW.out j hjl
              have hc := (hbq.cell (p := ⟨gw, ow + j, none⟩) hgw).trans hc0
              have HT := Lib.hid (take_next hjl)
              have CI := Lib.hid (in_any AR cR R W[j] wr (HISR.out.below hbq))
              clear hc0
              generalize W[j] = n at *
              cases hfr : freeB (W.take j) R with
              | false =>
                have HF : Hid (freeB (W.take (j + 1)) R = false) := Lib.hid (by rw [HT.out]; exact free_snoc_false hfr)
                clear hfr
                go_wp2
                go_roundw
                case rel => exact ⟨j + 1, by omega, by go_num, by rw [HF.out], hbq⟩
                case measure => simp [intOf]; omega
              | true =>
                by_cases hz : n ∈ R
                · have HF : Hid (freeB (W.take (j + 1)) R = true) := Lib.hid (by rw [HT.out, free_snoc_yes hz]; exact hfr)
                  rw [decide_eq_true hz] at CI
                  clear hfr hz
                  go_wp2_with fail
                  refine CI.out.mono ?_
                  rintro e wx ⟨rfl, hbx⟩
                  have hbq2 := hbq.trans (hbx.mono hbq.size)
                  clear hbx
                  go_wp2
                  go_roundw
                  case rel => exact ⟨j + 1, by omega, by go_num, by rw [HF.out], hbq2⟩
                  case measure => simp [intOf]; omega
                · have HF : Hid (freeB (W.take (j + 1)) R = false) := Lib.hid (by rw [HT.out]; exact free_snoc_no hz)
                  rw [decide_eq_false hz] at CI
                  clear hfr hz
                  go_wp2_with fail
                  refine CI.out.mono ?_
                  rintro e wx ⟨rfl, hbx⟩
                  have hbq2 := hbq.trans (hbx.mono hbq.size)
                  clear hbx
                  go_wp2
                  go_roundw
                  case rel => exact ⟨j + 1, by omega, by go_num, by rw [HF.out], hbq2⟩
                  case measure => simp [intOf]; omega
            · obtain rfl : j = W.length := by omega
              rw [List.take_length]
              have HOq := Lib.hid (HO.out.below hbq)
              have HBq := Lib.hid (HB.out.trans (hbq.mono HB.out.size))
              have q0 : wr.cell? ⟨g0, o + k * 5, none⟩ = some (.int .i64 x.id) := HE.out wr HBq.out
              have hleq : w.heap.size ≤ wr.heap.size := HBq.out.size
              clear hbq
              cases hfr : freeB W R with
              | false =>
                have hN2 : Hid (R2 = R) := Lib.hid (HN.out fun h => by have := of_decide_eq_false hfr; exact this h.2)
                clear hfr
                go_wp2_with fail
                go_roundw
                case rel => exact ⟨k + 1, by omega, by go_num, by rw [HR2.out, hN2.out]; exact HOq.out, HBq.out⟩
                case measure => simp [intOf]; omega
              | true =>
                have hY2 : Hid (R2 = R ++ [x.id]) := Lib.hid (HY.out HBK.out (of_decide_eq_true hfr))
                have hc1 : (wr.alloc (.cells #[.int .i64 x.id] 3)).cell? ⟨wr.heap.size, 0, none⟩ = some (.int .i64 x.id) := by
                  rw [cell_of_row _ _ _ _ _ _ (heap_alloc_new wr _)]; rfl
                clear hfr
                go_wp2_with (at_builtin; go_loud (refine wpList_app1 rfl _ _ 28 rfl w.heap.size 3 (.int .i64 0) 8 V64 Try.underlying28 intInfo3 rfl (.slice AR R.length cR) R x.id rfl _ wr.heap.size rfl (HOq.out.alloc _) hc1 rfl (by omega) (by omega) (by simp; omega) ?_); intro v7 w7 hown7 hb7 hg7)
                have NB := Lib.hid ((HBq.out.alloc hleq (.cells #[.int .i64 x.id] 3)).trans hb7)
                have NO := Lib.hid hown7
                clear hown7 hb7 hg7
                go_roundw
                case rel => exact ⟨k + 1, by omega, by go_num, by rw [HR2.out, hY2.out]; exact NO.out, NB.out⟩
                case measure => simp [intOf]; omega
        · have hne : (x.blk != bl) = true := bne_iff_ne.2 hbk
          have hN2 : Hid (R2 = R) := Lib.hid (HN.out fun h => hbk h.1)
          clear hbk
          go_wp2_with fail
          go_roundw
          case rel => exact ⟨k + 1, by omega, by go_num, by rw [HR2.out, hN2.out]; exact HO.out, HB.out⟩
          case measure => simp [intOf]; omega
      · obtain rfl : k = xs.length := by omega
        have HO := Lib.hid hown
        clear hown
        go_wp2
        go_ret
        exact ⟨_, rfl, by rw [HR.out]; exact HO.out, hbr⟩
end Go.Proofs.Yteeodeooicoekaa.Rd
