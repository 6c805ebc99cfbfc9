/- GraphPlans. -/
import Derived.Test.YteeodeooicoekaaGn
import Derived.Test.YteeodeooicoekaaRh
namespace Go.Proofs.Yteeodeooicoekaa.Rd
open Go.RowKit Go.Proofs.Yteeodeooicoekaa.Mem Go.Proofs.Yteeodeooicoekaa.Open Go.Proofs.Yteeodeooicoekaa.Kind Go.Proofs.Yteeodeooicoekaa.Blk Go.Proofs.Yteeodeooicoekaa.App Go.Proofs.Yteeodeooicoekaa.Pat Go.Proofs.Yteeodeooicoekaa.Same
set_option linter.unusedVariables false
set_option linter.unusedSimpArgs false
theorem rch_nx {xs : List Chg} (hm : mayF 0 xs = true) {b id n : Int} (h : Rch (nx xs b) id n) : Rch xs id n := by
  induction h with
  | here => exact .here
  | @step p m _ hw ih =>
    refine ih.step ?_
    rcases has_or (xs := nx xs b) p with h0 | ⟨i, hi, rfl⟩
    · rw [waitsS_not h0] at hw; cases hw
    · exact wo_waits hm _ (List.getElem_mem hi) m hw
theorem all_nx {xs : List Chg} (hm : mayF 0 xs = true) {b id n : Int} (h : n ∈ allS (nx xs b) id) : n ∈ allS xs id := by
  obtain ⟨⟨x, hx, rfl⟩, hr⟩ := (mem_all (nx_may hm b)).1 h
  exact (mem_all hm).2 ⟨⟨x, (mem_woS.1 hx).1, rfl⟩, rch_nx hm hr⟩
theorem after_may : ∀ {bs : List Int} {xs : List Chg}, mayF 0 xs = true → mayF 0 (afterS xs bs) = true
  | [], xs, h => h
  | b :: r, xs, h => after_may (bs := r) (nx_may h b)
theorem all_after : ∀ {bs : List Int} {xs : List Chg}, mayF 0 xs = true → ∀ {id n : Int}, n ∈ allS (afterS xs bs) id → n ∈ allS xs id
  | [], xs, _, id, n, h => h
  | b :: r, xs, hm, id, n, h => all_nx hm (all_after (bs := r) (nx_may hm b) h)
theorem head_gone {xs : List Chg} {id m : Int} {r : List Int} (h : allS xs id = m :: r) : ∀ x ∈ nx xs (findD m xs).blk, x.id ≠ m := by
  obtain ⟨hm, _⟩ := head_less h
  obtain ⟨i, hi, he, hf, hr⟩ := head_ready hm h
  rw [findD_of hf]
  intro x hx e
  rw [← e] at hr
  exact (mem_woS.1 hx).2 hr
theorem planN_len (id : Int) : ∀ (n : Nat) (xs : List Chg), (planN id n xs).length ≤ (allS xs id).length
  | 0, xs => Nat.zero_le _
  | n + 1, xs => by
    rw [planN]
    cases h : allS xs id with
    | nil => exact Nat.le_refl _
    | cons m r =>
      obtain ⟨hm, _⟩ := head_less h
      have ih := planN_len id n (nx xs (findD m xs).blk)
      have hs : (allS (nx xs (findD m xs).blk) id).length ≤ r.length := by
        refine sub_len (all_sorted _ _) fun n hn => ?_
        have h1 := all_nx hm hn
        rw [h] at h1
        rcases List.mem_cons.1 h1 with e | e
        · obtain ⟨⟨x, hx, e2⟩, _⟩ := (mem_all (nx_may hm _)).1 hn
          exact absurd (e2.trans e) (head_gone h x hx)
        · exact e
      simp only [List.length_cons]
      omega
theorem plan_len (xs : List Chg) (id : Int) : (planS xs id).length ≤ (allS xs id).length := planN_len id _ xs
theorem plan_rest {xs : List Chg} (hm : mayF 0 xs = true) (id : Int) : ∀ k, k ≤ (planS xs id).length → planS (afterS xs ((planS xs id).take k)) id = (planS xs id).drop k
  | 0, _ => rfl
  | k + 1, hk => by
    have ih := plan_rest hm id k (by omega)
    have hk1 : k < (planS xs id).length := by omega
    rw [afterS_next hk1]
    rw [List.drop_eq_getElem_cons hk1] at ih
    cases h : allS (afterS xs ((planS xs id).take k)) id with
    | nil => rw [planS_nil h] at ih; cases ih
    | cons m r =>
      rw [planS_cons h] at ih
      injection ih with h1 h2
      rw [← h1]
      exact h2
theorem hasB_in {xs : List Chg} {n : Int} (h : ∃ x ∈ xs, x.id = n) : hasB xs n = true := by
  cases hh : hasB xs n with
  | true => rfl
  | false =>
    obtain ⟨x, hx, e⟩ := h
    exact absurd e (hasB_no hh x hx)
theorem hasB_out {xs : List Chg} {n : Int} (h : ∀ x ∈ xs, x.id ≠ n) : hasB xs n = false := by
  cases hh : hasB xs n with
  | false => rfl
  | true =>
    obtain ⟨i, hi, e⟩ := hasB_yes hh
    exact absurd e (h _ (List.getElem_mem hi))
def didF (ls ls2 : List Chg) (L : List Int) : Bool := L.any fun n => hasB ls n && !hasB ls2 n
theorem didF_next {ls ls2 : List Chg} {L : List Int} {q : Nat} (hq : q < L.length) : didF ls ls2 (L.take (q + 1)) = (didF ls ls2 (L.take q) || (hasB ls L[q] && !hasB ls2 L[q])) := by
  unfold didF
  rw [List.take_add_one, List.getElem?_eq_getElem hq, List.any_append]
  simp
/-- Each step: the change is there yet, and one of those that it needs is done. -/
theorem plan_step {xs : List Chg} (hm : mayF 0 xs = true) (id : Int) {k : Nat} (hk : k < (planS xs id).length) :
    hasB (afterS xs ((planS xs id).take k)) id = true ∧ didF (afterS xs ((planS xs id).take k)) (nx (afterS xs ((planS xs id).take k)) (planS xs id)[k]) (allS xs id) = true := by
  have hr := plan_rest hm id k (by omega)
  rw [List.drop_eq_getElem_cons hk] at hr
  have hm2 := after_may (bs := (planS xs id).take k) hm
  have hsub := fun n => all_after (bs := (planS xs id).take k) hm (id := id) (n := n)
  obtain ⟨ls, hls⟩ : ∃ ls, afterS xs ((planS xs id).take k) = ls := ⟨_, rfl⟩
  obtain ⟨b, hb⟩ : ∃ b, (planS xs id)[k] = b := ⟨_, rfl⟩
  rw [hls] at hr hm2 hsub ⊢
  rw [hb] at hr ⊢
  cases h : allS ls id with
  | nil => rw [planS_nil h] at hr; cases hr
  | cons m r =>
    rw [planS_cons h] at hr
    injection hr with h1 h2
    have hmem : m ∈ allS ls id := by rw [h]; exact List.mem_cons_self
    refine ⟨?_, ?_⟩
    · cases hh : hasB ls id with
      | true => rfl
      | false => rw [all_none (hasB_no hh)] at h; cases h
    · unfold didF
      rw [List.any_eq_true]
      refine ⟨m, hsub m hmem, ?_⟩
      rw [hasB_in ((mem_all hm2).1 hmem).1, ← h1, hasB_out (head_gone h)]
      rfl
theorem plan_step2 {xs : List Chg} (hm : mayF 0 xs = true) {id : Int} {P L : List Int} (hP : planS xs id = P) (hL : allS xs id = L) {k : Nat} (hk : k < P.length) :
    hasB (afterS xs (P.take k)) id = true ∧ didF (afterS xs (P.take k)) (nx (afterS xs (P.take k)) P[k]) L = true := by
  subst hP hL
  exact plan_step hm id hk
theorem plan_end {xs : List Chg} (hm : mayF 0 xs = true) (id : Int) : hasB (afterS xs (planS xs id)) id = false := by
  have hr := plan_rest hm id _ (Nat.le_refl _)
  rw [List.take_length, List.drop_length] at hr
  have hm2 := after_may (bs := planS xs id) hm
  cases hh : hasB (afterS xs (planS xs id)) id with
  | false => rfl
  | true =>
    obtain ⟨m, r, h⟩ := all_cons hh hm2
    rw [planS_cons h] at hr
    cases hr
theorem plan_pos {xs : List Chg} (hm : mayF 0 xs = true) {i : Nat} (hi : i < xs.length) : 0 < (planS xs xs[i].id).length := by
  obtain ⟨m, r, h⟩ := all_cons (hasB_in ⟨xs[i], List.getElem_mem hi, rfl⟩) hm
  rw [planS_cons h]
  simp
set_option maxHeartbeats 8000000 in
set_option maxRecDepth 100000 in
theorem plans_walk (A : Option Addr) (c : Nat) (xs : List Chg) (a : Int) (w : World) (hx : Chs w A xs) (hc : A = none → c = 0) (hwa : (Lit.int .u8 a).wf = true) :
    Calls Try.prog 8 #[.slice A xs.length c, .int .u8 a] w fun e w' => e = .returned (.bool true) ∧ Below w.heap.size w w' := by
  have CMu := Lib.hid (much_any A c xs 16 w hx (by omega))
  have CMy0 := fun w' h => may_any A c xs w' h
  have ha : 0 ≤ a ∧ a ≤ 255 := by simpa [Lit.wf, IntKind.min, IntKind.max, IntKind.signed, IntKind.bits] using hwa
  have hl : xs.length ≤ 9223372036854775807 := hx.2.1
  go_enter Try.func8, Try.ntmps8
  go_wp2_with fail
  cases hmu : muchC xs 16 with
  | true =>
    rw [hmu] at CMu
    refine CMu.out.mono ?_
    rintro e w1 ⟨rfl, hb1⟩
    clear CMu CMy0
    go_wp2_with fail
    refine (works11 _).mono ?_
    rintro e wB ⟨rfl, hbB⟩
    go_wp2
    go_ret
    exact ⟨rfl, hb1.trans (hbB.mono hb1.size)⟩
  | false =>
    rw [hmu] at CMu
    obtain ⟨hn, hs⟩ := muchC_no hmu
    clear hmu
    refine CMu.out.mono ?_
    rintro e w1 ⟨rfl, hb1⟩
    clear CMu
    cases hm : mayF 0 xs with
    | false =>
      rw [hm] at CMy0
      have CMy := Lib.hid CMy0
      clear CMy0 hm
      go_wp2_with fail
      refine (CMy.out _ (hx.below hb1)).mono ?_
      rintro e w2 ⟨rfl, hb2⟩
      have hb12 := hb1.trans (hb2.mono hb1.size)
      clear CMy
      go_wp2_with fail
      refine (works11 _).mono ?_
      rintro e wB ⟨rfl, hbB⟩
      go_wp2
      go_ret
      exact ⟨rfl, hb12.trans (hbB.mono hb12.size)⟩
    | true =>
      rw [hm] at CMy0
      have CMy := Lib.hid CMy0
      clear CMy0
      rcases Nat.eq_zero_or_pos xs.length with h0 | h0
      · have hnil : xs = [] := List.eq_nil_of_length_eq_zero h0
        subst hnil
        clear hm
        go_wp2_with fail
        refine (CMy.out _ (hx.below hb1)).mono ?_
        rintro e w2 ⟨rfl, hb2⟩
        have hb12 := hb1.trans (hb2.mono hb1.size)
        clear CMy
        go_wp2_with fail
        refine (works11 _).mono ?_
        rintro e wB ⟨rfl, hbB⟩
        go_wp2
        go_ret
        exact ⟨rfl, hb12.trans (hbB.mono hb12.size)⟩
      · obtain ⟨i, hi, hie⟩ : ∃ i : Nat, i < xs.length ∧ a.tmod (xs.length : Int) = (i : Int) := by
          have h1 := Int.tmod_nonneg (xs.length : Int) ha.1
          have h2 := Int.tmod_lt_of_pos a (show (0 : Int) < (xs.length : Int) by omega)
          exact ⟨(a.tmod (xs.length : Int)).toNat, by omega, by omega⟩
        have hne1 : ((xs.length : Int) == 0) = false := by simpa using (show (xs.length : Int) ≠ 0 by omega)
        have hne2 : decide ((xs.length : Int) = 0) = false := decide_eq_false (by omega)
        have hne3 : ¬ xs = [] := by intro h; rw [h] at h0; simp at h0
        have hne4 : ¬ ((xs.length : Int) = 0) := by omega
        obtain ⟨g, o, rfl, hg⟩ := ch_form hx h0
        obtain ⟨A1, c1, A2, c2, hat0⟩ := ch_at hx i hi
        go_wp2_with fail
        refine (CMy.out _ (hx.below hb1)).mono ?_
        rintro e w2 ⟨rfl, hb2⟩
        have hb12 := hb1.trans (hb2.mono hb1.size)
        have hx2 := hx.below hb12
        have e0 := (hat0.below hb12).v0
        have hwa0 : IntKind.i64.wrap a = a := by rw [IntKind.wrap_i64]; omega
        have hwai : IntKind.i64.wrap (i : Int) = (i : Int) := by rw [IntKind.wrap_i64]; omega
        have hio : (i : Int) < (xs.length : Int) := by omega
        have CT := Lib.hid (to9_any (some ⟨g, o, none⟩) c xs w2 hx2 hs (by omega))
        clear hb2 CMy hb1
        go_wp2_with fail
        have hpos := plan_pos hm hi
        have hidw : WfI xs[i].id := hat0.ok.1
        obtain ⟨id, hid⟩ : ∃ id, xs[i].id = id := ⟨_, rfl⟩
        rw [hid] at e0 hpos hidw ⊢
        have hal := all_len xs id
        have hlw := all_wf hx id
        have hpw := plan_wf hx id
        have hpl := plan_len xs id
        have HEND := Lib.hid (plan_end hm id)
        have HAL := Lib.hid (afterS_len xs)
        have HAS := Lib.hid (fun bs => small_after (bs := bs) hs)
        clear hat0 hwa hne1 hne2 hne3 hne4 hwa0 hwai hie hc hid
        have CA := Lib.hid (fun A' c' w' h k1 k2 => All_any A' c' xs id w' h k1 k2 (by omega) hs)
        have CP := Lib.hid (fun A' c' w' h k1 k2 => Plan_any A' c' xs id w' h k1 k2 (by omega) hs)
        obtain ⟨L, hL⟩ : ∃ L, allS xs id = L := ⟨_, rfl⟩
        rw [hL] at CA hal hlw hpl
        obtain ⟨P, hP⟩ : ∃ P, planS xs id = P := ⟨_, rfl⟩
        rw [hP] at CP hpos hpw hpl HEND
        have HSTEP := Lib.hid (fun k (hk : k < P.length) => plan_step2 hm hP hL hk)
        have HAN := Lib.hid (fun k (hk : k < P.length) => afterS_next (xs := xs) hk)
        clear hL hP hm
        refine CT.out.mono ?_
        rintro e w3 ⟨v3, rfl, hown3, hb3⟩
        obtain ⟨A7, c7, rfl, k1, k2, k3, hy3⟩ := hown3.rw_
        have HB3 := Lib.hid (hb12.trans (hb3.mono hb12.size))
        have HY3 := Lib.hid hy3
        have CA := Lib.hid (CA.out A7 c7 w3 hy3 k1 k2)
        have CP := Lib.hid (fun w' h => CP.out A7 c7 w' h k1 k2)
        have K1 := Lib.hid k1
        have K2 := Lib.hid k2
        clear hown3 hb3 hb12 hx2 hy3 k1 k2 k3 CT e0 hx
        go_wp2_with fail
        refine CA.out.mono ?_
        rintro e w4 ⟨v4, rfl, ho4, hb4⟩
        obtain ⟨AL, cL, rfl, -, -, -, hi4⟩ := own_is ho4 hlw
        have HB4 := Lib.hid (HB3.out.trans (hb4.mono HB3.out.size))
        have HY4 := Lib.hid (HY3.out.below hb4)
        have CP := Lib.hid (CP.out w4 HY4.out)
        clear ho4 hb4 HB3 HY3 CA
        go_wp2_with fail
        refine CP.out.mono ?_
        rintro e w5 ⟨v5, rfl, ho5, hb5⟩
        obtain ⟨AP, cP, rfl, hcp1, hcp2, -, hi5⟩ := own_is ho5 hpw
        have HB5 := Lib.hid (HB4.out.trans (hb5.mono HB4.out.size))
        have HY5 := Lib.hid (HY4.out.below hb5)
        have HL5 := Lib.hid (hi4.below hb5)
        have HP5 := Lib.hid hi5
        obtain ⟨gp, op, rfl, hgp⟩ : ∃ gp op, AP = some ⟨gp, op, none⟩ ∧ gp < w5.heap.size := by
          obtain ⟨gp, op, e, h, _⟩ := is_at hi5 0 hpos
          exact ⟨gp, op, e, h⟩
        have hp1 : ((P.length : Int) == 0) = false := by simpa using (show (P.length : Int) ≠ 0 by omega)
        have hp2 : decide ((P.length : Int) = 0) = false := decide_eq_false (by omega)
        have hp3 : ¬ P = [] := by intro h; rw [h] at hpos; simp at hpos
        have hp4 : ¬ ((L.length : Int) < (P.length : Int)) := by omega
        have hp5 : decide ((L.length : Int) < (P.length : Int)) = false := decide_eq_false hp4
        have hp7 : decide (L.length < P.length) = false := decide_eq_false (by omega)
        clear ho5 hb5 HB4 HY4 hi4 hi5 CP
        go_wp2_with fail
        go_loopw [6, 9] (fun v i wr => ∃ (k : Nat) (A9 : Option Addr) (c9 : Nat), k ≤ P.length ∧ i = .int .i64 k ∧ v = .slice A9 (afterS xs (P.take k)).length c9 ∧ Chs wr A9 (afterS xs (P.take k)) ∧ Below w5.heap.size w5 wr) (fun _ i _ => P.length - (intOf i).toNat)
        case atStart => exact ⟨0, A7, c7, by omega, rfl, rfl, HY5.out, Below.refl _ _⟩
        case round =>
          obtain ⟨k, A9, c9, hk, rfl, rfl, hls, hbr⟩ := hrel
          have hln := HAL.out (P.take k)
          have hsm := HAS.out (P.take k)
          have CF := Lib.hid (fun n w' h => Find_any A9 c9 (afterS xs (P.take k)) n w' h hsm (by omega))
          by_cases hlt : k < P.length
          · obtain ⟨hst1, hst2⟩ := HSTEP.out k hlt
            have HN := Lib.hid (HAN.out k hlt)
            have hpk := hpw P[k] (List.getElem_mem hlt)
            have hisk : Is wr (some ⟨gp, op + k, none⟩) [P[k]] := by
              have h1 := (Rw.drop (HP5.out.below hbr) k (by omega)).take 1 (by omega)
              have h2 : (P.drop k).take 1 = [P[k]] := by rw [List.drop_eq_getElem_cons hlt]; rfl
              rw [h2] at h1
              have h3 : op + k * (kInt .i64).sz = op + k := by show op + k * 1 = _; omega
              rw [h3] at h1
              exact h1
            obtain ⟨b, hb'⟩ : ∃ b, P[k] = b := ⟨_, rfl⟩
            rw [hb'] at hst2 HN hisk hpk
            clear hb'
            have CAf := Lib.hid (fun w' h hb => After_any A9 c9 (afterS xs (P.take k)) (some ⟨gp, op + k, none⟩) (cP - k) [b] w' h hb (by omega) hsm)
            rw [show afterS (afterS xs (P.take k)) [b] = nx (afterS xs (P.take k)) b from rfl] at CAf
            have hnl := nx_le (afterS xs (P.take k)) b
            have hsm2 := small_nx hsm b
            have CF2 := Lib.hid (fun A' c' n w' h => Find_any A' c' (nx (afterS xs (P.take k)) b) n w' h hsm2 (by omega))
            have CFi := Lib.hid (CF.out id wr hls)
            rw [show (findF id (afterS xs (P.take k))).isSome = true from hst1] at CFi
            have HD := Lib.hid hst2
            have HI := Lib.hid hisk
            have HX := Lib.hid hls
            have HB := Lib.hid hbr
            clear hst1 hst2 hisk hls hbr hsm hsm2 hpk
            obtain ⟨ls, hls'⟩ : ∃ ls, afterS xs (P.take k) = ls := ⟨_, rfl⟩
            rw [hls'] at CF CF2 CFi CAf HD HX HN hln hnl ⊢
            have HLS := Lib.hid hls'
            clear hls'
            obtain ⟨ls2, hl2⟩ : ∃ ls2, nx ls b = ls2 := ⟨_, rfl⟩
            rw [hl2] at CF2 CAf HD HN hnl
            clear hl2
            generalize findD id ls = y at CFi
            go_wp2_with fail
            refine CFi.out.mono ?_
            rintro e w9 ⟨B3, d3, B4, d4, rfl, hf9, hb9⟩
            obtain ⟨⟨r5, b5, z5⟩⟩ : Nonempty (_ ∧ _ ∧ _) := ⟨boxed w9 62 chZ (chC y B3 d3 B4 d4)⟩
            have hbx := hb9.trans (b5.mono hb9.size)
            have HXa := Lib.hid (HX.out.below hbx)
            have HIa := Lib.hid (HI.out.below hbx)
            have HBa := Lib.hid (HB.out.trans (hbx.mono HB.out.size))
            have CAfa := Lib.hid (CAf.out _ HXa.out HIa.out)
            have hko : (k : Int) < (P.length : Int) := by omega
            have hko2 : (k : Int) + 1 ≤ (P.length : Int) := by omega
            have hcp3 : P.length ≤ cP := hcp1
            clear hf9 hb9 r5 b5 z5 hbx HX HI HB CFi CAf
            have R0 : Row (w9.alloc (.cells chZ 62)) w9.heap.size 62 chZ := Row.new _ _ _
            go_wp2_with (first
              | (with_reducible refine wpList_allocA rfl 62 rfl _ chZero ?_)
              | (with_reducible refine wpList_storeRow rfl 62 _ _ rfl w9.heap.size rfl (chC y B3 d3 B4 d4) rfl chZ 62 5 chSize rfl rfl (chC_one _ _ _ _ _) R0 ?_))
            refine CAfa.out.mono ?_
            rintro e w10 ⟨A12, c12, rfl, -, -, hz10, hb10⟩
            have HX10 := Lib.hid (HXa.out.below hb10)
            have HZ10 := Lib.hid hz10.chs
            have HB10 := Lib.hid (HBa.out.trans (hb10.mono HBa.out.size))
            clear hz10 hb10 HXa HIa HBa CAfa R0
            go_wp2_with fail
            go_loopw [13, 14] (fun d i wq => ∃ (q : Nat), q ≤ L.length ∧ i = .int .i64 q ∧ d = .bool (didF ls ls2 (L.take q)) ∧ Below w10.heap.size w10 wq) (fun _ i _ => L.length - (intOf i).toNat)
            case atStart => exact ⟨0, by omega, rfl, rfl, Below.refl _ _⟩
            case round =>
              rename World => wr0
              obtain ⟨q, hq, rfl, rfl, hbq⟩ := hrel
              by_cases hql : q < L.length
              · have hb05 := HB10.out.trans (hbq.mono HB10.out.size)
                obtain ⟨gl, ol, rfl, hgl, hl0⟩ := is_at (HL5.out.below hb05) q hql
                have HDN := Lib.hid (didF_next (ls := ls) (ls2 := ls2) hql)
                obtain ⟨m, hm'⟩ : ∃ m, L[q] = m := ⟨_, rfl⟩
                rw [hm'] at hl0 HDN
                clear hm'
                have CF1 := CF.out m wr0 (HX10.out.below hbq)
                have CFm := fun w' h => CF2.out A12 c12 m w' h
                rw [show (findF m ls).isSome = hasB ls m from rfl] at CF1
                simp only [show (findF m ls2).isSome = hasB ls2 m from rfl] at CFm
                have HBQ := Lib.hid hbq
                generalize hasB ls m = p1 at *
                generalize hasB ls2 m = p2 at *
                generalize findD m ls = y1 at *
                generalize findD m ls2 = y2 at *
                generalize didF ls ls2 (L.take q) = dv at *
                have CF1 := Lib.hid CF1
                have CFm := Lib.hid CFm
                clear hbq hb05
                go_wp2_with fail
                refine CF1.out.mono ?_
                rintro e w9 ⟨B3, d3, B4, d4, rfl, hf9, hb9⟩
                obtain ⟨⟨r5, b5, z5⟩⟩ : Nonempty (_ ∧ _ ∧ _) := ⟨boxed w9 62 chZ (chC y1 B3 d3 B4 d4)⟩
                have hbx := hb9.trans (b5.mono hb9.size)
                have HBa := Lib.hid (HBQ.out.trans (hbx.mono HBQ.out.size))
                have CFb := Lib.hid (CFm.out _ (HZ10.out.below HBa.out))
                have hd0 := (hb9.cell (p := ⟨gl, ol + q, none⟩) hgl).trans hl0
                have hd1 := (hbx.cell (p := ⟨gl, ol + q, none⟩) hgl).trans hl0
                clear hf9 hb9 r5 b5 z5 hbx HBQ CF1 CFm hl0 hd0
                have R0 : Row (w9.alloc (.cells chZ 62)) w9.heap.size 62 chZ := Row.new _ _ _
                go_wp2_with (first
                  | (with_reducible refine wpList_allocA rfl 62 rfl _ chZero ?_)
                  | (with_reducible refine wpList_storeRow rfl 62 _ _ rfl w9.heap.size rfl (chC y1 B3 d3 B4 d4) rfl chZ 62 5 chSize rfl rfl (chC_one _ _ _ _ _) R0 ?_))
                refine CFb.out.mono ?_
                rintro e w11 ⟨B5, d5, B6, d6, rfl, hf9, hb9⟩
                obtain ⟨⟨r5, b5, z5⟩⟩ : Nonempty (_ ∧ _ ∧ _) := ⟨boxed w11 62 chZ (chC y2 B5 d5 B6 d6)⟩
                have hbx := hb9.trans (b5.mono hb9.size)
                have HBb := Lib.hid (HBa.out.trans (hbx.mono HBa.out.size))
                clear hf9 hb9 r5 b5 z5 hbx HBa CFb R0 hd1
                cases dv with
                | true =>
                  have R0 : Row (w11.alloc (.cells chZ 62)) w11.heap.size 62 chZ := Row.new _ _ _
                  go_wp2_with (first
                    | (with_reducible refine wpList_allocA rfl 62 rfl _ chZero ?_)
                    | (with_reducible refine wpList_storeRow rfl 62 _ _ rfl w11.heap.size rfl (chC y2 B5 d5 B6 d6) rfl chZ 62 5 chSize rfl rfl (chC_one _ _ _ _ _) R0 ?_))
                  go_roundw
                  case rel => exact ⟨q + 1, by omega, by go_num, by rw [HDN.out]; rfl, HBb.out⟩
                  case measure => simp [intOf]; omega
                | false =>
                  cases p1 with
                  | false =>
                    have R0 : Row (w11.alloc (.cells chZ 62)) w11.heap.size 62 chZ := Row.new _ _ _
                    go_wp2_with (first
                      | (with_reducible refine wpList_allocA rfl 62 rfl _ chZero ?_)
                      | (with_reducible refine wpList_storeRow rfl 62 _ _ rfl w11.heap.size rfl (chC y2 B5 d5 B6 d6) rfl chZ 62 5 chSize rfl rfl (chC_one _ _ _ _ _) R0 ?_))
                    go_roundw
                    case rel => exact ⟨q + 1, by omega, by go_num, by rw [HDN.out]; rfl, HBb.out⟩
                    case measure => simp [intOf]; omega
                  | true =>
                    cases p2 with
                    | false =>
                      have R0 : Row (w11.alloc (.cells chZ 62)) w11.heap.size 62 chZ := Row.new _ _ _
                      go_wp2_with (first
                        | (with_reducible refine wpList_allocA rfl 62 rfl _ chZero ?_)
                        | (with_reducible refine wpList_storeRow rfl 62 _ _ rfl w11.heap.size rfl (chC y2 B5 d5 B6 d6) rfl chZ 62 5 chSize rfl rfl (chC_one _ _ _ _ _) R0 ?_))
                      go_roundw
                      case rel => exact ⟨q + 1, by omega, by go_num, by rw [HDN.out]; rfl, HBb.out⟩
                      case measure => simp [intOf]; omega
                    | true =>
                      have R0 : Row (w11.alloc (.cells chZ 62)) w11.heap.size 62 chZ := Row.new _ _ _
                      go_wp2_with (first
                        | (with_reducible refine wpList_allocA rfl 62 rfl _ chZero ?_)
                        | (with_reducible refine wpList_storeRow rfl 62 _ _ rfl w11.heap.size rfl (chC y2 B5 d5 B6 d6) rfl chZ 62 5 chSize rfl rfl (chC_one _ _ _ _ _) R0 ?_))
                      go_roundw
                      case rel => exact ⟨q + 1, by omega, by go_num, by rw [HDN.out]; rfl, HBb.out⟩
                      case measure => simp [intOf]; omega
              · obtain rfl : q = L.length := by omega
                rw [List.take_length, HD.out]
                have HBc := Lib.hid (HB10.out.trans (hbq.mono HB10.out.size))
                have HZc := Lib.hid (HZ10.out.below hbq)
                clear hbq HB10 HZ10 HX10
                go_wp2_with fail
                go_roundw
                case rel => exact ⟨k + 1, A12, c12, by omega, by go_num, by rw [HN.out], by rw [HN.out]; exact HZc.out, HBc.out⟩
                case measure => simp [intOf]; omega
          · obtain rfl : k = P.length := by omega
            have CFi := CF.out id wr hls
            rw [List.take_length] at CFi
            rw [show (findF id (afterS xs P)).isSome = false from HEND.out] at CFi
            have CFi := Lib.hid CFi
            have HB := Lib.hid (HB5.out.trans (hbr.mono HB5.out.size))
            rw [List.take_length] at hln ⊢
            obtain ⟨ls, hls'⟩ : ∃ ls, afterS xs P = ls := ⟨_, rfl⟩
            rw [hls'] at CFi hln ⊢
            clear hls hbr hsm CF hls'
            generalize findD id ls = y at CFi
            go_wp2_with fail
            refine CFi.out.mono ?_
            rintro e w9 ⟨B3, d3, B4, d4, rfl, hf9, hb9⟩
            obtain ⟨⟨r5, b5, z5⟩⟩ : Nonempty (_ ∧ _ ∧ _) := ⟨boxed w9 62 chZ (chC y B3 d3 B4 d4)⟩
            have hbx := hb9.trans (b5.mono hb9.size)
            have HBa := Lib.hid (HB.out.trans (hbx.mono HB.out.size))
            clear hf9 hb9 r5 b5 z5 hbx HB CFi
            have R0 : Row (w9.alloc (.cells chZ 62)) w9.heap.size 62 chZ := Row.new _ _ _
            go_wp2_with (first
              | (with_reducible refine wpList_allocA rfl 62 rfl _ chZero ?_)
              | (with_reducible refine wpList_storeRow rfl 62 _ _ rfl w9.heap.size rfl (chC y B3 d3 B4 d4) rfl chZ 62 5 chSize rfl rfl (chC_one _ _ _ _ _) R0 ?_))
            refine (works11 _).mono ?_
            rintro e wB ⟨rfl, hbB⟩
            go_wp2
            go_ret
            exact ⟨rfl, HBa.out.trans (hbB.mono HBa.out.size)⟩
end Go.Proofs.Yteeodeooicoekaa.Rd
