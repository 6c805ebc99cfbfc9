/- GraphRows. -/
import Derived.Test.YteeodeooicoekaaGl
namespace Go.Proofs.Yteeodeooicoekaa.Rd
open Go.RowKit Go.Proofs.Yteeodeooicoekaa.Mem Go.Proofs.Yteeodeooicoekaa.Open Go.Proofs.Yteeodeooicoekaa.Kind Go.Proofs.Yteeodeooicoekaa.Blk Go.Proofs.Yteeodeooicoekaa.App Go.Proofs.Yteeodeooicoekaa.Pat Go.Proofs.Yteeodeooicoekaa.Same
set_option linter.unusedVariables false
set_option linter.unusedSimpArgs false
theorem plan_wf {w : World} {A : Option Addr} {xs : List Chg} (h : Chs w A xs) (id : Int) : ∀ n ∈ planS xs id, WfI n := by
  have key : ∀ (k : Nat) (ls : List Chg), (∀ x ∈ ls, WfI x.blk) → ∀ n ∈ planN id k ls, WfI n := by
    intro k
    induction k with
    | zero => intro ls _ n hn; cases hn
    | succ k ih =>
      intro ls hl n hn
      rw [planN] at hn
      cases hall : allS ls id with
      | nil => rw [hall] at hn; cases hn
      | cons m r =>
        rw [hall] at hn
        obtain ⟨hm, _⟩ := head_less hall
        obtain ⟨i, hi, he, hf, _⟩ := head_ready hm hall
        simp only at hn
        rw [findD_of hf] at hn
        rcases List.mem_cons.1 hn with e | e
        · subst e; exact hl _ (List.getElem_mem hi)
        · exact ih _ (fun x hx => hl x (mem_woS.1 hx).1) n e
  refine key _ _ fun x hx => ?_
  obtain ⟨i, hi, rfl⟩ := List.mem_iff_getElem.1 hx
  obtain ⟨g, o, rfl, hg⟩ := ch_form h (by omega)
  obtain ⟨A1, c1, A2, c2, hat⟩ := ch_at h i hi
  exact hat.ok.2.1
theorem drain_wf {w : World} {A : Option Addr} {xs : List Chg} (h : Chs w A xs) : ∀ n ∈ drainS xs, WfI n := by
  have key : ∀ (k : Nat) (ls : List Chg), (∀ x ∈ ls, WfI x.blk) → ∀ n ∈ drainN k ls, WfI n := by
    intro k
    induction k with
    | zero => intro ls _ n hn; cases hn
    | succ k ih =>
      intro ls hl n hn
      cases ls with
      | nil => cases hn
      | cons x r =>
        rw [drainN] at hn
        rcases List.mem_cons.1 hn with e | e
        · subst e; exact hl _ List.mem_cons_self
        · exact ih _ (fun y hy => hl y (mem_woS.1 hy).1) n e
  intro n hn
  unfold drainS at hn
  split at hn
  · refine key _ _ (fun x hx => ?_) n hn
    obtain ⟨i, hi, rfl⟩ := List.mem_iff_getElem.1 hx
    obtain ⟨g, o, rfl, hg⟩ := ch_form h (by omega)
    obtain ⟨A1, c1, A2, c2, hat⟩ := ch_at h i hi
    exact hat.ok.2.1
  · cases hn
set_option maxHeartbeats 4000000 in
set_option maxRecDepth 100000 in
theorem rows_walk (A : Option Addr) (c : Nat) (xs : List Chg) (id : Int) (AB : Option Addr) (cB : Nat) (bs : List Int) (w : World) (hx : Chs w A xs) (hc : A = none → c = 0) (hwi : (Lit.int .i64 id).wf = true) (hbs : Is w AB bs) :
    Calls Try.prog 10 #[.slice A xs.length c, .int .i64 id, .slice AB bs.length cB] w fun e w' => e = .returned (.bool true) ∧ Below w.heap.size w w' := by
  have CMu := Lib.hid (much_any A c xs 16 w hx (by omega))
  have HBS := Lib.hid hbs
  go_enter Try.func10, Try.ntmps10
  go_wp2_with fail
  cases hmu : muchC xs 16 with
  | true =>
    rw [hmu] at CMu
    refine CMu.out.mono ?_
    rintro e w1 ⟨rfl, hb1⟩
    clear CMu
    go_wp2_with fail
    refine (works11 _).mono ?_
    rintro e wB ⟨rfl, hbB⟩
    go_wp2
    go_ret
    exact ⟨rfl, hb1.trans (hbB.mono hb1.size)⟩
  | false =>
    rw [hmu] at CMu
    obtain ⟨hn, hs⟩ := muchC_no hmu
    clear hmu
    refine CMu.out.mono ?_
    rintro e w1 ⟨rfl, hb1⟩
    clear CMu
    by_cases hbl : 20 < bs.length
    · have hbl1 : (20 : Int) < (bs.length : Int) := by omega
      go_wp2_with fail
      refine (works11 _).mono ?_
      rintro e wB ⟨rfl, hbB⟩
      go_wp2
      go_ret
      exact ⟨rfl, hb1.trans (hbB.mono hb1.size)⟩
    · have hbl1 : ¬ (20 : Int) < (bs.length : Int) := by omega
      have hx1 := hx.below hb1
      have hwp := plan_wf hx id
      have hwd := drain_wf hx
      have hal : (afterS xs bs).length ≤ 1000 := Nat.le_trans (afterS_len xs bs) (by omega)
      have CT := Lib.hid (to9_any A c xs w1 hx1 hs (by omega))
      have CPl := Lib.hid (fun A' c' w' h k1 k2 => Plan_any A' c' xs id w' h k1 k2 (by omega) hs)
      have CRP := Lib.hid (fun w' h => RPlan_any A c xs id w' h (by omega))
      have CDr := Lib.hid (fun A' c' w' h k1 k2 => Drain_any A' c' xs w' h k1 k2 (by omega) hs)
      have CRD := Lib.hid (fun w' h => RDrain_any A c xs w' h (by omega))
      have CAf := Lib.hid (fun A' c' w' h hb => After_any A' c' xs AB cB bs w' h hb (by omega) hs)
      have CRA := Lib.hid (fun w' h hb => RAfter_any A c xs AB cB bs w' h hb (by omega))
      have CMy0 := fun w' h => may_any A c xs w' h
      generalize planS xs id = PL at *
      generalize drainS xs = DR at *
      generalize afterS xs bs = AF at *
      go_wp2_with fail
      refine CT.out.mono ?_
      rintro e w2 ⟨v2, rfl, hown2, hb2⟩
      obtain ⟨A7, c7, rfl, k1, k2, k3, hy2⟩ := hown2.rw_
      have HB2 := Lib.hid (hb1.trans (hb2.mono hb1.size))
      have HX2 := Lib.hid (hx1.below hb2)
      have HY2 := Lib.hid hy2
      have CPl := Lib.hid (fun w' h => CPl.out A7 c7 w' h k1 k2)
      have CDr := Lib.hid (fun w' h => CDr.out A7 c7 w' h k1 k2)
      have CAf := Lib.hid (fun w' h hb => CAf.out A7 c7 w' h hb)
      clear hown2 hb2 hb1 hx1 k1 k2 k3 CT hbl hbl1
      cases hm : mayF 0 xs with
      | false =>
        rw [hm] at CMy0
        have CMy := Lib.hid CMy0
        have CN := Lib.hid (Next_no A7 c7 xs w2 hy2 hm)
        clear CMy0 hm hy2
        go_wp2_with fail
        refine CN.out.mono ?_
        rintro e w3 ⟨rfl, hb3⟩
        have HB3 := Lib.hid (HB2.out.trans (hb3.mono HB2.out.size))
        have HX3 := Lib.hid (HX2.out.below hb3)
        have HY3 := Lib.hid (HY2.out.below hb3)
        clear hb3 HB2 HX2 HY2 CN
        go_wp2_with fail
        refine (CMy.out _ HX3.out).mono ?_
        rintro e w4 ⟨rfl, hb4⟩
        have HB4 := Lib.hid (HB3.out.trans (hb4.mono HB3.out.size))
        have HX4 := Lib.hid (HX3.out.below hb4)
        have HY4 := Lib.hid (HY3.out.below hb4)
        clear hb4 HB3 HX3 HY3 CMy
        go_wp2_with fail
        refine (CPl.out _ HY4.out).mono ?_
        rintro e w5 ⟨v5, rfl, ho5, hb5⟩
        obtain ⟨A5, c5, rfl, -, -, -, hi5⟩ := own_is ho5 hwp
        have HB5 := Lib.hid (HB4.out.trans (hb5.mono HB4.out.size))
        have HX5 := Lib.hid (HX4.out.below hb5)
        have HY5 := Lib.hid (HY4.out.below hb5)
        clear ho5 hb5 HB4 HX4 HY4 CPl
        go_wp2_with fail
        refine (CRP.out _ HX5.out).mono ?_
        rintro e w6 ⟨v6, rfl, ho6, hb6⟩
        obtain ⟨A6, c6, rfl, -, -, -, hi6⟩ := own_is ho6 hwp
        have CI := Lib.hid (ints_yes A5 A6 _ _ c5 c6 PL _ (hi5.below hb6).sl_int hi6.sl_int)
        have HB6 := Lib.hid (HB5.out.trans (hb6.mono HB5.out.size))
        have HX6 := Lib.hid (HX5.out.below hb6)
        have HY6 := Lib.hid (HY5.out.below hb6)
        clear ho6 hb6 HB5 HX5 HY5 CRP hi5 hi6
        go_wp2_with fail
        refine CI.out.mono ?_
        rintro e w7 ⟨rfl, hb7⟩
        have HB7 := Lib.hid (HB6.out.trans (hb7.mono HB6.out.size))
        have HX7 := Lib.hid (HX6.out.below hb7)
        have HY7 := Lib.hid (HY6.out.below hb7)
        clear hb7 HB6 HX6 HY6 CI
        go_wp2_with fail
        refine (CDr.out _ HY7.out).mono ?_
        rintro e w8 ⟨v8, rfl, ho8, hb8⟩
        obtain ⟨A8, c8, rfl, -, -, -, hi8⟩ := own_is ho8 hwd
        have HB8 := Lib.hid (HB7.out.trans (hb8.mono HB7.out.size))
        have HX8 := Lib.hid (HX7.out.below hb8)
        have HY8 := Lib.hid (HY7.out.below hb8)
        clear ho8 hb8 HB7 HX7 HY7 CDr
        go_wp2_with fail
        refine (CRD.out _ HX8.out).mono ?_
        rintro e w9 ⟨v9, rfl, ho9, hb9⟩
        obtain ⟨A9, c9, rfl, -, -, -, hi9⟩ := own_is ho9 hwd
        have CI := Lib.hid (ints_yes A8 A9 _ _ c8 c9 DR _ (hi8.below hb9).sl_int hi9.sl_int)
        have HB9 := Lib.hid (HB8.out.trans (hb9.mono HB8.out.size))
        have HX9 := Lib.hid (HX8.out.below hb9)
        have HY9 := Lib.hid (HY8.out.below hb9)
        clear ho9 hb9 HB8 HX8 HY8 CRD hi8 hi9
        go_wp2_with fail
        refine CI.out.mono ?_
        rintro e w10 ⟨rfl, hb10⟩
        have HB10 := Lib.hid (HB9.out.trans (hb10.mono HB9.out.size))
        have HX10 := Lib.hid (HX9.out.below hb10)
        have HY10 := Lib.hid (HY9.out.below hb10)
        clear hb10 HB9 HX9 HY9 CI
        go_wp2_with fail
        refine (CAf.out _ HY10.out (HBS.out.below HB10.out)).mono ?_
        rintro e w11 ⟨A11, c11, rfl, -, -, hz11, hb11⟩
        have HB11 := Lib.hid (HB10.out.trans (hb11.mono HB10.out.size))
        have HX11 := Lib.hid (HX10.out.below hb11)
        have COf := Lib.hid (lof_any A11 c11 AF w11 hz11.chs hal)
        clear hb11 HB10 HX10 HY10 CAf hz11
        go_wp2_with fail
        refine COf.out.mono ?_
        rintro e w12 ⟨v12, rfl, ho12, hb12⟩
        obtain ⟨A12, c12, rfl, -, -, -, hz12⟩ := ho12.rw_
        have HB12 := Lib.hid (HB11.out.trans (hb12.mono HB11.out.size))
        have HX12 := Lib.hid (HX11.out.below hb12)
        have HZ12 := Lib.hid hz12
        clear ho12 hb12 HB11 HX11 COf hz12
        go_wp2_with fail
        refine (CRA.out _ HX12.out (HBS.out.below HB12.out)).mono ?_
        rintro e w13 ⟨A13, c13, rfl, hz13, hb13⟩
        have HB13 := Lib.hid (HB12.out.trans (hb13.mono HB12.out.size))
        have CSm := Lib.hid (sameall_yes A12 c12 A13 c13 AF w13 (HZ12.out.below hb13) hz13)
        clear hb13 HB12 HX12 CRA hz13 HZ12
        go_wp2_with fail
        refine CSm.out.mono ?_
        rintro e w14 ⟨rfl, hb14⟩
        have HB14 := Lib.hid (HB13.out.trans (hb14.mono HB13.out.size))
        clear hb14 HB13 CSm
        go_wp2_with fail
        refine (works11 _).mono ?_
        rintro e wB ⟨rfl, hbB⟩
        go_wp2
        go_ret
        exact ⟨rfl, HB14.out.trans (hbB.mono HB14.out.size)⟩
      | true =>
        rw [hm] at CMy0
        have CMy := Lib.hid CMy0
        cases xs with
        | nil =>
          have CN := Lib.hid (Next_nil A7 c7 w2)
          clear CMy0 hm hy2
          go_wp2_with fail
          refine CN.out.mono ?_
          rintro e w3 ⟨rfl, hb3⟩
          have HB3 := Lib.hid (HB2.out.trans (hb3.mono HB2.out.size))
          have HX3 := Lib.hid (HX2.out.below hb3)
          have HY3 := Lib.hid (HY2.out.below hb3)
          clear hb3 HB2 HX2 HY2 CN
          go_wp2_with fail
          refine (CMy.out _ HX3.out).mono ?_
          rintro e w4 ⟨rfl, hb4⟩
          have HB4 := Lib.hid (HB3.out.trans (hb4.mono HB3.out.size))
          have HX4 := Lib.hid (HX3.out.below hb4)
          have HY4 := Lib.hid (HY3.out.below hb4)
          clear hb4 HB3 HX3 HY3 CMy
          go_wp2_with fail
          refine (CPl.out _ HY4.out).mono ?_
          rintro e w5 ⟨v5, rfl, ho5, hb5⟩
          obtain ⟨A5, c5, rfl, -, -, -, hi5⟩ := own_is ho5 hwp
          have HB5 := Lib.hid (HB4.out.trans (hb5.mono HB4.out.size))
          have HX5 := Lib.hid (HX4.out.below hb5)
          have HY5 := Lib.hid (HY4.out.below hb5)
          clear ho5 hb5 HB4 HX4 HY4 CPl
          go_wp2_with fail
          refine (CRP.out _ HX5.out).mono ?_
          rintro e w6 ⟨v6, rfl, ho6, hb6⟩
          obtain ⟨A6, c6, rfl, -, -, -, hi6⟩ := own_is ho6 hwp
          have CI := Lib.hid (ints_yes A5 A6 _ _ c5 c6 PL _ (hi5.below hb6).sl_int hi6.sl_int)
          have HB6 := Lib.hid (HB5.out.trans (hb6.mono HB5.out.size))
          have HX6 := Lib.hid (HX5.out.below hb6)
          have HY6 := Lib.hid (HY5.out.below hb6)
          clear ho6 hb6 HB5 HX5 HY5 CRP hi5 hi6
          go_wp2_with fail
          refine CI.out.mono ?_
          rintro e w7 ⟨rfl, hb7⟩
          have HB7 := Lib.hid (HB6.out.trans (hb7.mono HB6.out.size))
          have HX7 := Lib.hid (HX6.out.below hb7)
          have HY7 := Lib.hid (HY6.out.below hb7)
          clear hb7 HB6 HX6 HY6 CI
          go_wp2_with fail
          refine (CDr.out _ HY7.out).mono ?_
          rintro e w8 ⟨v8, rfl, ho8, hb8⟩
          obtain ⟨A8, c8, rfl, -, -, -, hi8⟩ := own_is ho8 hwd
          have HB8 := Lib.hid (HB7.out.trans (hb8.mono HB7.out.size))
          have HX8 := Lib.hid (HX7.out.below hb8)
          have HY8 := Lib.hid (HY7.out.below hb8)
          clear ho8 hb8 HB7 HX7 HY7 CDr
          go_wp2_with fail
          refine (CRD.out _ HX8.out).mono ?_
          rintro e w9 ⟨v9, rfl, ho9, hb9⟩
          obtain ⟨A9, c9, rfl, -, -, -, hi9⟩ := own_is ho9 hwd
          have CI := Lib.hid (ints_yes A8 A9 _ _ c8 c9 DR _ (hi8.below hb9).sl_int hi9.sl_int)
          have HB9 := Lib.hid (HB8.out.trans (hb9.mono HB8.out.size))
          have HX9 := Lib.hid (HX8.out.below hb9)
          have HY9 := Lib.hid (HY8.out.below hb9)
          clear ho9 hb9 HB8 HX8 HY8 CRD hi8 hi9
          go_wp2_with fail
          refine CI.out.mono ?_
          rintro e w10 ⟨rfl, hb10⟩
          have HB10 := Lib.hid (HB9.out.trans (hb10.mono HB9.out.size))
          have HX10 := Lib.hid (HX9.out.below hb10)
          have HY10 := Lib.hid (HY9.out.below hb10)
          clear hb10 HB9 HX9 HY9 CI
          go_wp2_with fail
          refine (CAf.out _ HY10.out (HBS.out.below HB10.out)).mono ?_
          rintro e w11 ⟨A11, c11, rfl, -, -, hz11, hb11⟩
          have HB11 := Lib.hid (HB10.out.trans (hb11.mono HB10.out.size))
          have HX11 := Lib.hid (HX10.out.below hb11)
          have COf := Lib.hid (lof_any A11 c11 AF w11 hz11.chs hal)
          clear hb11 HB10 HX10 HY10 CAf hz11
          go_wp2_with fail
          refine COf.out.mono ?_
          rintro e w12 ⟨v12, rfl, ho12, hb12⟩
          obtain ⟨A12, c12, rfl, -, -, -, hz12⟩ := ho12.rw_
          have HB12 := Lib.hid (HB11.out.trans (hb12.mono HB11.out.size))
          have HX12 := Lib.hid (HX11.out.below hb12)
          have HZ12 := Lib.hid hz12
          clear ho12 hb12 HB11 HX11 COf hz12
          go_wp2_with fail
          refine (CRA.out _ HX12.out (HBS.out.below HB12.out)).mono ?_
          rintro e w13 ⟨A13, c13, rfl, hz13, hb13⟩
          have HB13 := Lib.hid (HB12.out.trans (hb13.mono HB12.out.size))
          have CSm := Lib.hid (sameall_yes A12 c12 A13 c13 AF w13 (HZ12.out.below hb13) hz13)
          clear hb13 HB12 HX12 CRA hz13 HZ12
          go_wp2_with fail
          refine CSm.out.mono ?_
          rintro e w14 ⟨rfl, hb14⟩
          have HB14 := Lib.hid (HB13.out.trans (hb14.mono HB13.out.size))
          clear hb14 HB13 CSm
          go_wp2_with fail
          refine (works11 _).mono ?_
          rintro e wB ⟨rfl, hbB⟩
          go_wp2
          go_ret
          exact ⟨rfl, HB14.out.trans (hbB.mono HB14.out.size)⟩
        | cons x r =>
          have CN := Lib.hid (Next_yes A7 c7 x r w2 hy2 hm)
          have hpos : (0 : Int) < ((x :: r).length : Int) := by first | (simp; done) | (simp; omega)
          have hpos2 : 0 < (x :: r).length := by simp
          obtain ⟨g, o, rfl, hg⟩ := ch_form hx (by simp)
          obtain ⟨A1, c1, A2, c2, hat⟩ := ch_at hx 0 (by simp)
          have e1 : w.cell? ⟨g, o + 1, none⟩ = some (.int .i64 x.blk) := by have := hat.v1; rwa [Nat.zero_mul, Nat.add_zero] at this
          have hbb : (x.blk != x.blk) = false := by simp
          clear CMy0 hm hy2 hat
          generalize x.blk = b at *
          generalize (x :: r) = ls at *
          go_wp2_with fail
          refine CN.out.mono ?_
          rintro e w3 ⟨rfl, hb3⟩
          have HB3 := Lib.hid (HB2.out.trans (hb3.mono HB2.out.size))
          have HX3 := Lib.hid (HX2.out.below hb3)
          have HY3 := Lib.hid (HY2.out.below hb3)
          clear hb3 HB2 HX2 HY2 CN
          go_wp2_with fail
          refine (CMy.out _ HX3.out).mono ?_
          rintro e w4 ⟨rfl, hb4⟩
          have HB4 := Lib.hid (HB3.out.trans (hb4.mono HB3.out.size))
          have HX4 := Lib.hid (HX3.out.below hb4)
          have HY4 := Lib.hid (HY3.out.below hb4)
          have e4 := (HB4.out.cell (p := ⟨g, o + 1, none⟩) hg).trans e1
          clear hb4 HB3 HX3 HY3 CMy
          go_wp2_with fail
          refine (CPl.out _ HY4.out).mono ?_
          rintro e w5 ⟨v5, rfl, ho5, hb5⟩
          obtain ⟨A5, c5, rfl, -, -, -, hi5⟩ := own_is ho5 hwp
          have HB5 := Lib.hid (HB4.out.trans (hb5.mono HB4.out.size))
          have HX5 := Lib.hid (HX4.out.below hb5)
          have HY5 := Lib.hid (HY4.out.below hb5)
          clear ho5 hb5 HB4 HX4 HY4 CPl
          go_wp2_with fail
          refine (CRP.out _ HX5.out).mono ?_
          rintro e w6 ⟨v6, rfl, ho6, hb6⟩
          obtain ⟨A6, c6, rfl, -, -, -, hi6⟩ := own_is ho6 hwp
          have CI := Lib.hid (ints_yes A5 A6 _ _ c5 c6 PL _ (hi5.below hb6).sl_int hi6.sl_int)
          have HB6 := Lib.hid (HB5.out.trans (hb6.mono HB5.out.size))
          have HX6 := Lib.hid (HX5.out.below hb6)
          have HY6 := Lib.hid (HY5.out.below hb6)
          clear ho6 hb6 HB5 HX5 HY5 CRP hi5 hi6
          go_wp2_with fail
          refine CI.out.mono ?_
          rintro e w7 ⟨rfl, hb7⟩
          have HB7 := Lib.hid (HB6.out.trans (hb7.mono HB6.out.size))
          have HX7 := Lib.hid (HX6.out.below hb7)
          have HY7 := Lib.hid (HY6.out.below hb7)
          clear hb7 HB6 HX6 HY6 CI
          go_wp2_with fail
          refine (CDr.out _ HY7.out).mono ?_
          rintro e w8 ⟨v8, rfl, ho8, hb8⟩
          obtain ⟨A8, c8, rfl, -, -, -, hi8⟩ := own_is ho8 hwd
          have HB8 := Lib.hid (HB7.out.trans (hb8.mono HB7.out.size))
          have HX8 := Lib.hid (HX7.out.below hb8)
          have HY8 := Lib.hid (HY7.out.below hb8)
          clear ho8 hb8 HB7 HX7 HY7 CDr
          go_wp2_with fail
          refine (CRD.out _ HX8.out).mono ?_
          rintro e w9 ⟨v9, rfl, ho9, hb9⟩
          obtain ⟨A9, c9, rfl, -, -, -, hi9⟩ := own_is ho9 hwd
          have CI := Lib.hid (ints_yes A8 A9 _ _ c8 c9 DR _ (hi8.below hb9).sl_int hi9.sl_int)
          have HB9 := Lib.hid (HB8.out.trans (hb9.mono HB8.out.size))
          have HX9 := Lib.hid (HX8.out.below hb9)
          have HY9 := Lib.hid (HY8.out.below hb9)
          clear ho9 hb9 HB8 HX8 HY8 CRD hi8 hi9
          go_wp2_with fail
          refine CI.out.mono ?_
          rintro e w10 ⟨rfl, hb10⟩
          have HB10 := Lib.hid (HB9.out.trans (hb10.mono HB9.out.size))
          have HX10 := Lib.hid (HX9.out.below hb10)
          have HY10 := Lib.hid (HY9.out.below hb10)
          clear hb10 HB9 HX9 HY9 CI
          go_wp2_with fail
          refine (CAf.out _ HY10.out (HBS.out.below HB10.out)).mono ?_
          rintro e w11 ⟨A11, c11, rfl, -, -, hz11, hb11⟩
          have HB11 := Lib.hid (HB10.out.trans (hb11.mono HB10.out.size))
          have HX11 := Lib.hid (HX10.out.below hb11)
          have COf := Lib.hid (lof_any A11 c11 AF w11 hz11.chs hal)
          clear hb11 HB10 HX10 HY10 CAf hz11
          go_wp2_with fail
          refine COf.out.mono ?_
          rintro e w12 ⟨v12, rfl, ho12, hb12⟩
          obtain ⟨A12, c12, rfl, -, -, -, hz12⟩ := ho12.rw_
          have HB12 := Lib.hid (HB11.out.trans (hb12.mono HB11.out.size))
          have HX12 := Lib.hid (HX11.out.below hb12)
          have HZ12 := Lib.hid hz12
          clear ho12 hb12 HB11 HX11 COf hz12
          go_wp2_with fail
          refine (CRA.out _ HX12.out (HBS.out.below HB12.out)).mono ?_
          rintro e w13 ⟨A13, c13, rfl, hz13, hb13⟩
          have HB13 := Lib.hid (HB12.out.trans (hb13.mono HB12.out.size))
          have CSm := Lib.hid (sameall_yes A12 c12 A13 c13 AF w13 (HZ12.out.below hb13) hz13)
          clear hb13 HB12 HX12 CRA hz13 HZ12
          go_wp2_with fail
          refine CSm.out.mono ?_
          rintro e w14 ⟨rfl, hb14⟩
          have HB14 := Lib.hid (HB13.out.trans (hb14.mono HB13.out.size))
          clear hb14 HB13 CSm
          go_wp2_with fail
          refine (works11 _).mono ?_
          rintro e wB ⟨rfl, hbB⟩
          go_wp2
          go_ret
          exact ⟨rfl, HB14.out.trans (hbB.mono HB14.out.size)⟩
end Go.Proofs.Yteeodeooicoekaa.Rd
