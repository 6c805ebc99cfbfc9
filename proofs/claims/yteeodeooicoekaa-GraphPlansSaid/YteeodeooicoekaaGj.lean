/- Laws and contracts of several chapters, laid in one text. No statement is proved here. -/
import Derived.Test.YteeodeooicoekaaGe
import Derived.Test.YteeodeooicoekaaRz
/- All that a change needs, by the document: the contract of its All. No statement is proved here. -/
namespace Go.Proofs.Yteeodeooicoekaa.Rd
open Go.RowKit Go.Proofs.Yteeodeooicoekaa.Mem Go.Proofs.Yteeodeooicoekaa.Open Go.Proofs.Yteeodeooicoekaa.Kind Go.Proofs.Yteeodeooicoekaa.Blk Go.Proofs.Yteeodeooicoekaa.App Go.Proofs.Yteeodeooicoekaa.Pat
set_option linter.unusedVariables false
set_option linter.unusedSimpArgs false
theorem boolInfo : (Try.prog.info? 4).map (fun i => (i.zero, i.size, i.bytes)) = some (some (.bool false), 1, 1) := by kernel_rfl
/-- Which of some changes are of a set. -/
def ndB (xs : List Chg) (S : List Int) : List Bool := xs.map fun x => decide (x.id ∈ S)
theorem ndB_len (xs : List Chg) (S : List Int) : (ndB xs S).length = xs.length := List.length_map _
theorem ndB_get {xs : List Chg} {S : List Int} {j : Nat} (hj : j < xs.length) : (ndB xs S)[j]'(by rw [ndB_len]; exact hj) = decide (xs[j].id ∈ S) := by unfold ndB; rw [List.getElem_map]
theorem ndB_nil (xs : List Chg) : List.replicate xs.length false = ndB xs [] := by
  unfold ndB
  refine List.ext_getElem (by simp) fun i h1 h2 => by simp
theorem ndB_set {xs : List Chg} (hs : (xs.map (·.id)).Pairwise (· < ·)) (S : List Int) {j : Nat} (hj : j < xs.length) : (ndB xs S).set j true = ndB xs (S ++ [xs[j].id]) := by
  refine List.ext_getElem (by rw [List.length_set, ndB_len, ndB_len]) fun i h1 h2 => ?_
  have hi : i < xs.length := by rw [ndB_len] at h2; exact h2
  rw [ndB_get hi, List.getElem_set]
  by_cases e : j = i
  · subst e; rw [if_pos rfl]; simp
  · rw [if_neg e, ndB_get hi, decide_eq_decide, List.mem_append, List.mem_singleton]
    constructor
    · exact fun h => .inl h
    · rintro (h | h)
      · exact h
      · exact absurd (id_inj hs hi hj h).symm e
def keepT (T : List Int) (xs : List Chg) : List Int := (xs.map (·.id)).filter fun n => decide (n ∈ T)
theorem keepT_next {T : List Int} {xs : List Chg} {k : Nat} (hk : k < xs.length) : keepT T (xs.take (k + 1)) = if xs[k].id ∈ T then keepT T (xs.take k) ++ [xs[k].id] else keepT T (xs.take k) := by
  unfold keepT
  rw [take_next hk, List.map_append, List.filter_append]
  simp only [List.map_cons, List.map_nil]
  by_cases h : xs[k].id ∈ T
  · rw [if_pos h]; simp [h]
  · rw [if_neg h]; simp [h]
theorem keepT_len (T : List Int) (xs : List Chg) : (keepT T xs).length ≤ xs.length := Nat.le_trans (List.length_filter_le _ _) (by rw [List.length_map]; exact Nat.le_refl _)
theorem allS_keep {xs : List Chg} (hm : mayF 0 xs = true) (id : Int) : allS xs id = keepT (rcN xs xs.length [id]) xs := by
  unfold allS keepT
  rw [if_pos hm]
theorem rcN_next {xs : List Chg} {k : Nat} (hk : k < xs.length) (S : List Int) : rcN xs (k + 1) S = rcN xs k (if xs[k].id ∈ S then S ++ waitsS xs xs[k].id else S) := by
  rw [rcN, List.getElem?_eq_getElem hk]
set_option maxHeartbeats 8000000 in
set_option maxRecDepth 100000 in
theorem RAll_any (A : Option Addr) (c : Nat) (xs : List Chg) (id : Int) (w : World) (hx : Chs w A xs) (hn : xs.length ≤ 1000) :
    Calls Try.prog 34 #[.slice A xs.length c, .int .i64 id] w fun r w' => ∃ v, r = .returned v ∧ Ns w' w.heap.size v (allS xs id) ∧ Below w.heap.size w w' := by
  have CM0 := may_any A c xs w hx
  have CP0 := fun n w' h => place_any A c xs n w' h
  cases hm : mayF 0 xs with
  | false =>
    rw [hm] at CM0
    have CM := Lib.hid CM0
    have HV := Lib.hid (all_may hm id)
    clear CM0 CP0 hm
    go_enter Try.func34, Try.ntmps34
    go_wp2_with fail
    refine CM.out.mono ?_
    rintro e w2 ⟨rfl, hb2⟩
    go_wp2
    go_ret
    exact ⟨_, rfl, by rw [HV.out]; exact Own.nil _ _ _ _, hb2⟩
  | true =>
    rw [hm] at CM0
    have CM := Lib.hid CM0
    have hso := (mayF_iff.1 hm).1
    rcases has_or (xs := xs) id with h0 | ⟨i, hi, he⟩
    · have HV := Lib.hid (all_none h0)
      have CP1 := CP0 id
      rw [placeF_not h0] at CP1
      have CP := Lib.hid CP1
      clear CM0 CP0 CP1 hm
      go_enter Try.func34, Try.ntmps34
      go_wp2_with fail
      refine CM.out.mono ?_
      rintro e w2 ⟨rfl, hb2⟩
      go_wp2_with fail
      refine (CP.out _ (hx.below hb2)).mono ?_
      rintro e w3 ⟨rfl, hb3⟩
      go_wp2
      go_ret
      exact ⟨_, rfl, by rw [HV.out]; exact Own.nil _ _ _ _, hb2.trans (hb3.mono hb2.size)⟩
    · have CP1 := CP0 id
      rw [show placeF id xs 0 = (i : Int) from by rw [← he, placeF_at hso hi, Nat.zero_add]] at CP1
      have CP := Lib.hid CP1
      have CPA := Lib.hid CP0
      have HV := Lib.hid (allS_keep hm id)
      obtain ⟨T, hT⟩ : ∃ T, rcN xs xs.length [id] = T := ⟨_, rfl⟩
      rw [hT] at HV
      have HT := Lib.hid hT
      have HE := Lib.hid he
      have HM := Lib.hid hm
      have HSO := Lib.hid hso
      clear CM0 CP0 CP1 hm hT he hso
      have hl : xs.length ≤ 9223372036854775807 := hx.2.1
      go_enter Try.func34, Try.ntmps34
      go_wp2_with fail
      refine CM.out.mono ?_
      rintro e w2 ⟨rfl, hb2⟩
      go_wp2_with fail
      refine (CP.out _ (hx.below hb2)).mono ?_
      rintro e w3 ⟨rfl, hb3⟩
      have hb13 := hb2.trans (hb3.mono hb2.size)
      clear hb2 hb3 CM
      go_wp2_with (at_make; refine wpList_make rfl 87 _ _ rfl w3.heap.size 4 Value.bool false 1 Try.underlying87 boolInfo rfl xs.length (by first | rfl | simp) (by first | rfl | simp) (by omega) (by omega) (Nat.le_refl _) ?_; intro w4 hnd4 hb4 hsz4)
      obtain ⟨gs, hgs⟩ : ∃ gs, w3.heap.size = gs := ⟨_, rfl⟩
      have hgw : w.heap.size ≤ gs := by have := hb13.size; omega
      have hb14 := hb13.trans (hb4.mono hb13.size)
      rw [hgs] at hnd4 hsz4 ⊢
      rw [ndB_nil] at hnd4
      refine (CP.out _ (hx.below hb14)).mono ?_
      rintro e w5 ⟨rfl, hb5⟩
      have hnd5 := hnd4.below hb5
      have hb15 := hb14.trans (hb5.mono hb14.size)
      have hil : i < (ndB xs []).length := by rw [ndB_len]; exact hi
      have hse := hnd5.cell i hil
      have hsf := hnd5.frozen i
      have hst := hnd5.stored i true
      have HS0 : Hid ((ndB xs []).set i true = ndB xs [id]) := Lib.hid (by rw [ndB_set HSO.out [] hi, HE.out]; rfl)
      rw [HS0.out] at hst
      have hgs5 : gs < w5.heap.size := Nat.lt_of_lt_of_le hsz4 hb5.size
      have hbq : Below w.heap.size w (w5.setCell ⟨gs, i, none⟩ (.bool true)) := hb15.setCell hgw _
      have HST := Lib.hid hst
      have HBQ := Lib.hid hbq
      have hio : (i : Int) < (xs.length : Int) := by omega
      clear hst hbq hnd5 hnd4 hb4 hb5 hb15 hb14 hb13 hgs HS0 CP hsz4 hgs5
      go_wp2_with fail
      generalize w5.setCell ⟨gs, i, none⟩ (.bool true) = w6 at *
      clear hse hsf hil
      go_loopw [6] (fun v wr => ∃ (k : Nat) (S : List Int), k ≤ xs.length ∧ v = .int .i64 ((k : Int) - 1) ∧ Own wr gs 4 Value.bool (.slice (some ⟨gs, 0, none⟩) xs.length xs.length) (ndB xs S) ∧ Hid (rcN xs k S = T) ∧ Below w.heap.size w wr) (fun v _ => (intOf v + 1).toNat)
      case atStart => exact ⟨xs.length, [id], Nat.le_refl _, rfl, HST.out, HT, HBQ.out⟩
      case round =>
        obtain ⟨k, S, hk, rfl, hnd, hT, hbr⟩ := hrel
        have hx' := hx.below hbr
        cases k with
        | zero =>
          have hT := hT.out
          rw [rcN] at hT
          subst hT
          have HND := Lib.hid hnd
          have HB := Lib.hid hbr
          have HX := Lib.hid hx'
          have e0 : (((0 : Nat) : Int) - 1) = -1 := by omega
          rw [e0]
          clear hnd hbr hx' e0
          go_wp2_with fail
          have hle := HB.out.size
          go_loopw [9, 10] (fun v i wq => ∃ (k : Nat), k ≤ xs.length ∧ i = .int .i64 k ∧ Ns wq wr.heap.size v (keepT S (xs.take k)) ∧ Below wr.heap.size wr wq) (fun _ i _ => xs.length - (intOf i).toNat)
          case atStart => exact ⟨0, by omega, rfl, Own.nil _ _ _ _, Below.refl _ _⟩
          case round =>
            rename World => wr0
            obtain ⟨k, hk2, rfl, hown, hbq⟩ := hrel
            by_cases hlt : k < xs.length
            · have hx2 := HX.out.below hbq
              obtain ⟨g, o, rfl, hg⟩ := ch_form hx2 (by omega)
              obtain ⟨A1, c1, A2, c2, hat⟩ := ch_at hx2 k hlt
              have e0 := hat.v0
              have hkl : k < (ndB xs S).length := by rw [ndB_len]; exact hlt
              have hnc := (HND.out.below hbq).cell k hkl
              rw [ndB_get hlt] at hnc
              have HKN := Lib.hid (keepT_next (T := S) hlt)
              have hl2 : (keepT S (xs.take k)).length ≤ 1000 := by have := keepT_len S (xs.take k); rw [List.length_take] at this; omega
              have hko : (k : Int) < (xs.length : Int) := by omega
              have hle2 := hbq.size
              have HB2 := Lib.hid hbq
              clear hat hx2 hbq
              obtain ⟨out, hout⟩ : ∃ out, keepT S (xs.take k) = out := ⟨_, rfl⟩
              rw [hout] at HKN hl2 hown
              clear hout
              obtain ⟨A7, c7, rfl⟩ := hown.slice
              have HO := Lib.hid hown
              clear hown
              by_cases hin : xs[k].id ∈ S
              · rw [decide_eq_true hin] at hnc
                have HK2 : Hid (keepT S (xs.take (k + 1)) = out ++ [xs[k].id]) := Lib.hid (by rw [HKN.out, if_pos hin])
                clear hin HKN
                generalize xs[k].id = m at *
                have hc1 : World.cell? (wr0.alloc (.cells #[.int .i64 m] 3)) ⟨wr0.heap.size, 0, none⟩ = some (.int .i64 m) := (rowAt (w := wr0) (g := wr0.heap.size) 3 #[.int .i64 m] rfl).cell 0 rfl
                have hob : (out.length + 1) * 8 ≤ 140737488355328 := by omega
                have ho6 : out.length + 1 ≤ 9223372036854775807 := by omega
                go_wp2_with (at_builtin; go_loud (refine wpList_app1 rfl _ _ 28 rfl _ 3 (.int .i64 0) 8 V64 Try.underlying28 intInfo3 rfl (.slice A7 out.length c7) out m rfl _ wr0.heap.size rfl (HO.out.alloc _) hc1 rfl hob ho6 (Nat.le_trans hle2 (by simp)) ?_); intro v7 w7 hown7 hb7 hg7)
                have HO7 := Lib.hid hown7
                have HB7 := Lib.hid ((HB2.out.alloc hle2 (.cells #[.int .i64 m] 3)).trans hb7)
                clear hown7 hb7 hg7
                go_roundw
                case rel => exact ⟨k + 1, by omega, by go_num, by rw [HK2.out]; exact HO7.out, HB7.out⟩
                case measure => simp [intOf]; omega
              · rw [decide_eq_false hin] at hnc
                have HK2 : Hid (keepT S (xs.take (k + 1)) = out) := Lib.hid (by rw [HKN.out, if_neg hin])
                clear hin HKN
                go_wp2_with fail
                go_roundw
                case rel => exact ⟨k + 1, by omega, by go_num, by rw [HK2.out]; exact HO.out, HB2.out⟩
                case measure => simp [intOf]; omega
            · obtain rfl : k = xs.length := by omega
              rw [List.take_length] at hown
              have HO := Lib.hid hown
              clear hown
              go_wp2
              go_ret
              exact ⟨_, rfl, by rw [HV.out]; exact HO.out.mono hle, HB.out.trans (hbq.mono hle)⟩
        | succ j =>
          have e0 : (((j + 1 : Nat) : Int) - 1) = (j : Int) := by omega
          rw [e0]
          have hj : j < xs.length := by omega
          have hjl : j < (ndB xs S).length := by rw [ndB_len]; exact hj
          have hc := hnd.cell j hjl
          rw [ndB_get hj] at hc
          have hT := hT.out
          rw [rcN_next hj] at hT
          have hjo : (j : Int) < (xs.length : Int) := by omega
          have hlast : ((j : Int) + 1).toNat = j + 1 := by omega
          by_cases hin : xs[j].id ∈ S
          · rw [decide_eq_true hin] at hc
            rw [if_pos hin] at hT
            have HT := Lib.hid hT
            have hwlt := Lib.hid (fun n hn => waits_lt HM.out hj (n := n) hn)
            have hww := waits_wf hx' xs[j].id
            have hwl := waits_len xs xs[j].id
            have CW := Lib.hid (RWaits_any A c xs xs[j].id wr hx' hn)
            have HX' := Lib.hid hx'
            obtain ⟨g, o, rfl, hg⟩ := ch_form hx' (by omega)
            obtain ⟨A1, c1, A2, c2, hat⟩ := ch_at hx' j hj
            have e1 := hat.v0
            generalize xs[j].id = m at *
            obtain ⟨W, hW⟩ : ∃ W, waitsS xs m = W := ⟨_, rfl⟩
            rw [hW] at HT hww hwl CW hwlt
            have HND := Lib.hid hnd
            have HB := Lib.hid hbr
            clear hT hnd hbr hx' hin e0 hat hW
            go_wp2_with fail
            refine CW.out.mono ?_
            rintro e w7 ⟨v7, rfl, hown7, hb7⟩
            obtain ⟨AW, cW, rfl, -, -, -, hisW⟩ := own_is hown7 hww
            have HO7 := Lib.hid hown7
            have HI7 := Lib.hid hisW
            have HB7 := Lib.hid (HB.out.trans (hb7.mono HB.out.size))
            have hnd7 := HND.out.below hb7
            have hgsw : gs < wr.heap.size := (Own.base HND.out).2
            rw [show S = S ++ W.take 0 from by simp] at hnd7
            clear hown7 hisW hb7 HB HND CW hc hjl HX' e1
            go_wp2_with fail
            go_loopw [8] (fun v wq => ∃ (q : Nat), q ≤ W.length ∧ v = .int .i64 q ∧ Own wq gs 4 Value.bool (.slice (some ⟨gs, 0, none⟩) xs.length xs.length) (ndB xs (S ++ W.take q)) ∧ w7.grownBy wq (some gs)) (fun v _ => W.length - (intOf v).toNat)
            case atStart => exact ⟨0, by omega, rfl, hnd7, gb_refl _ _⟩
            case round =>
              rename World => wr0
              obtain ⟨q, hq, rfl, hnq, hgq⟩ := hrel
              have hbq : Below w.heap.size w wr0 := HB7.out.grown hgq HB7.out.size (fun z hz => by injection hz with hz; omega)
              by_cases hql : q < W.length
              · obtain ⟨gw, ow, rfl, hgw', hw0⟩ := is_at HI7.out q hql
                have hgne : gw ≠ gs := by have := (Own.lt HO7.out gw rfl).1; omega
                have hwc := gb_cell hgq hw0 (by intro e; injection e with e; exact hgne e)
                obtain ⟨l, hll, hlj, hle⟩ := hwlt.out W[q] (List.getElem_mem hql)
                have hpl : placeF W[q] xs 0 = (l : Int) := by rw [← hle, placeF_at HSO.out hll, Nat.zero_add]
                have CP0 := CPA.out W[q] wr0 (hx.below hbq)
                rw [hpl] at CP0
                have CP := Lib.hid CP0
                have HSET : Hid ((ndB xs (S ++ W.take q)).set l true = ndB xs (S ++ W.take (q + 1))) := Lib.hid (by rw [ndB_set HSO.out _ hll, hle, List.append_assoc]; congr 2; rw [List.take_add_one, List.getElem?_eq_getElem hql]; rfl)
                have HNQ := Lib.hid hnq
                have HGQ := Lib.hid hgq
                clear CP0 hpl hle hnq hgq hbq hw0
                generalize W[q] = n at *
                go_wp2_with fail
                refine CP.out.mono ?_
                rintro e w8 ⟨rfl, hb8⟩
                have hn8 := HNQ.out.below hb8
                have hll2 : l < (ndB xs (S ++ W.take q)).length := by rw [ndB_len]; exact hll
                have hse := hn8.cell l hll2
                have hsf := hn8.frozen l
                have hst := hn8.stored l true
                rw [HSET.out] at hst
                have HST := Lib.hid hst
                have HG8 := Lib.hid (gb_setCell (gb_below HGQ.out hb8) l (.bool true))
                have hlo : (l : Int) < (xs.length : Int) := by omega
                clear hst hn8 hb8 CP HNQ HGQ hwc
                go_wp2_with fail
                go_roundw
                case rel => exact ⟨q + 1, by omega, by go_num, HST.out, HG8.out⟩
                case measure => simp [intOf]; omega
              · obtain rfl : q = W.length := by omega
                rw [List.take_length] at hnq
                have HNQ := Lib.hid hnq
                have HBQ := Lib.hid hbq
                clear hnq hgq hbq
                go_wp2_with fail
                go_roundw
                case rel => exact ⟨j, S ++ W, by omega, by go_num, HNQ.out, HT, HBQ.out⟩
                case measure => simp [intOf]
          · rw [decide_eq_false hin] at hc
            rw [if_neg hin] at hT
            have HT := Lib.hid hT
            have HND := Lib.hid hnd
            have HB := Lib.hid hbr
            clear hT hnd hbr hx' hin e0
            go_wp2_with fail
            go_roundw
            case rel => exact ⟨j, S, by omega, by go_num, HND.out, HT, HB.out⟩
            case measure => simp [intOf]
end Go.Proofs.Yteeodeooicoekaa.Rd

/- How deep a change is, by the document: the contract of its Depth. No statement is proved here. -/
namespace Go.Proofs.Yteeodeooicoekaa.Rd
open Go.RowKit Go.Proofs.Yteeodeooicoekaa.Mem Go.Proofs.Yteeodeooicoekaa.Open Go.Proofs.Yteeodeooicoekaa.Kind Go.Proofs.Yteeodeooicoekaa.Blk Go.Proofs.Yteeodeooicoekaa.App Go.Proofs.Yteeodeooicoekaa.Pat
set_option linter.unusedVariables false
set_option linter.unusedSimpArgs false
def gL (xs : List Chg) (G : Int → Int) : List Int := xs.map fun x => G x.id
theorem gL_len (xs : List Chg) (G : Int → Int) : (gL xs G).length = xs.length := List.length_map _
theorem gL_get {xs : List Chg} {G : Int → Int} {j : Nat} (hj : j < xs.length) : (gL xs G)[j]'(by rw [gL_len]; exact hj) = G xs[j].id := by unfold gL; rw [List.getElem_map]
theorem gL_nil (xs : List Chg) : List.replicate xs.length (0 : Int) = gL xs (fun _ => 0) := by
  unfold gL
  refine List.ext_getElem (by simp) fun i h1 h2 => by simp
theorem gL_set {xs : List Chg} (hs : (xs.map (·.id)).Pairwise (· < ·)) (G : Int → Int) (v : Int) {j : Nat} (hj : j < xs.length) : (gL xs G).set j v = gL xs (upd G xs[j].id v) := by
  refine List.ext_getElem (by rw [List.length_set, gL_len, gL_len]) fun i h1 h2 => ?_
  have hi : i < xs.length := by rw [gL_len] at h2; exact h2
  rw [gL_get hi, List.getElem_set]
  by_cases e : j = i
  · subst e; rw [if_pos rfl, upd_same]
  · rw [if_neg e, gL_get hi, upd_ne _ _ (fun h => e (id_inj hs hi hj h).symm)]
theorem depS_nil {xs : List Chg} {id : Int} (h : allS xs id = []) : depS xs id = 0 := by unfold depS; rw [h]; rfl
set_option maxHeartbeats 8000000 in
set_option maxRecDepth 100000 in
theorem RDepth_any (A : Option Addr) (c : Nat) (xs : List Chg) (id : Int) (w : World) (hx : Chs w A xs) (hn : xs.length ≤ 1000) :
    Calls Try.prog 36 #[.slice A xs.length c, .int .i64 id] w fun r w' => r = .returned (.int .i64 (depS xs id)) ∧ Below w.heap.size w w' := by
  have CM0 := fun w' h => may_any A c xs w' h
  have CP0 := fun n w' h => place_any A c xs n w' h
  cases hm : mayF 0 xs with
  | false =>
    rw [hm] at CM0
    have CM := Lib.hid CM0
    have HV := Lib.hid (depS_nil (all_may hm id))
    have CP := Lib.hid (CP0 id w hx)
    clear CM0 CP0 hm
    generalize placeF id xs 0 = at5 at *
    go_enter Try.func36, Try.ntmps36
    go_wp2_with fail
    refine CP.out.mono ?_
    rintro e w2 ⟨rfl, hb2⟩
    go_wp2_with fail
    refine (CM.out _ (hx.below hb2)).mono ?_
    rintro e w3 ⟨rfl, hb3⟩
    go_wp2
    go_ret
    exact ⟨by rw [HV.out]; rfl, hb2.trans (hb3.mono hb2.size)⟩
  | true =>
    rw [hm] at CM0
    have CM := Lib.hid CM0
    have hso := (mayF_iff.1 hm).1
    rcases has_or (xs := xs) id with h0 | ⟨i, hi, he⟩
    · have HV := Lib.hid (depS_nil (all_none h0))
      have CP1 := CP0 id w hx
      rw [placeF_not h0] at CP1
      have CP := Lib.hid CP1
      clear CM0 CP0 CP1 hm
      go_enter Try.func36, Try.ntmps36
      go_wp2_with fail
      refine CP.out.mono ?_
      rintro e w2 ⟨rfl, hb2⟩
      go_wp2_with fail
      refine (CM.out _ (hx.below hb2)).mono ?_
      rintro e w3 ⟨rfl, hb3⟩
      go_wp2
      go_ret
      exact ⟨by rw [HV.out]; rfl, hb2.trans (hb3.mono hb2.size)⟩
    · have CP1 := CP0 id w hx
      rw [show placeF id xs 0 = (i : Int) from by rw [← he, placeF_at hso hi, Nat.zero_add]] at CP1
      have CP := Lib.hid CP1
      have CPA := Lib.hid CP0
      have HV := Lib.hid (depS_whole hm id)
      have HE := Lib.hid he
      have HM := Lib.hid hm
      have HSO := Lib.hid hso
      have HIL : Hid ((xs.map (·.id)).length = xs.length) := Lib.hid (List.length_map _)
      clear CM0 CP0 CP1 hm he hso
      have hl : xs.length ≤ 9223372036854775807 := hx.2.1
      go_enter Try.func36, Try.ntmps36
      go_wp2_with fail
      refine CP.out.mono ?_
      rintro e w2 ⟨rfl, hb2⟩
      go_wp2_with fail
      refine (CM.out _ (hx.below hb2)).mono ?_
      rintro e w3 ⟨rfl, hb3⟩
      have hb13 := hb2.trans (hb3.mono hb2.size)
      clear hb2 hb3 CM CP
      have hlt0 : ¬ ((i : Int) < 0) := by omega
      go_wp2_with (at_make; refine wpList_make rfl 28 _ _ rfl w3.heap.size 3 V64 0 8 Try.underlying28 intInfo3 rfl xs.length (by first | rfl | simp) (by first | rfl | simp) (by omega) (by omega) (Nat.le_refl _) ?_; intro w4 hnd4 hb4 hsz4)
      obtain ⟨gs, hgs⟩ : ∃ gs, w3.heap.size = gs := ⟨_, rfl⟩
      have hgw : w.heap.size ≤ gs := by have := hb13.size; omega
      have hb14 := hb13.trans (hb4.mono hb13.size)
      rw [hgs] at hnd4 hsz4 ⊢
      rw [gL_nil] at hnd4
      clear hb4 hb13 hgs hsz4
      go_loopw [7] (fun v wr => ∃ (k : Nat), k ≤ xs.length ∧ v = .int .i64 k ∧ Own wr gs 3 V64 (.slice (some ⟨gs, 0, none⟩) xs.length xs.length) (gL xs (dG xs (fun _ => 0) ((xs.map (·.id)).take k))) ∧ Below w.heap.size w wr) (fun v _ => xs.length - (intOf v).toNat)
      case atStart => exact ⟨0, by omega, rfl, hnd4, hb14⟩
      case round =>
        obtain ⟨k, hk, rfl, hnd, hbr⟩ := hrel
        have hx' := hx.below hbr
        by_cases hlt : k < xs.length
        · have hkm : k < (xs.map (·.id)).length := by rw [List.length_map]; exact hlt
          have HNX := Lib.hid (dG_next (xs := xs) (g := fun _ => 0) hkm)
          have hid0 : (xs.map (·.id))[k] = xs[k].id := List.getElem_map _
          rw [hid0] at HNX
          have hgb := dG_b xs ((xs.map (·.id)).take k) (fun _ => 0) 0 (Int.le_refl _) (fun _ => ⟨Int.le_refl _, Int.le_refl _⟩)
          have hkl : ((xs.map (·.id)).take k).length ≤ 1000 := by rw [List.length_take, List.length_map]; omega
          obtain ⟨G, hG⟩ : ∃ G, dG xs (fun _ => 0) ((xs.map (·.id)).take k) = G := ⟨_, rfl⟩
          rw [hG] at HNX hnd hgb
          have HGB : Hid (∀ n, 0 ≤ G n ∧ G n ≤ 1000) := Lib.hid (fun n => by have := hgb n; omega)
          clear hG hgb hid0 hkm hkl
          have hwlt := Lib.hid (fun n hn => waits_lt HM.out hlt (n := n) hn)
          have hww := waits_wf hx' xs[k].id
          have hwl := waits_len xs xs[k].id
          have CW := Lib.hid (RWaits_any A c xs xs[k].id wr hx' hn)
          have HSET := Lib.hid (fun v => gL_set HSO.out G v hlt)
          obtain ⟨g, o, rfl, hg⟩ := ch_form hx' (by omega)
          obtain ⟨A1, c1, A2, c2, hat⟩ := ch_at hx' k hlt
          have e1 := hat.v0
          generalize xs[k].id = a at *
          obtain ⟨W, hW⟩ : ∃ W, waitsS xs a = W := ⟨_, rfl⟩
          rw [hW] at hww hwl CW hwlt HNX
          have HND := Lib.hid hnd
          have HB := Lib.hid hbr
          have hko : (k : Int) < (xs.length : Int) := by omega
          clear hnd hbr hx' hat hW
          go_wp2_with fail
          refine CW.out.mono ?_
          rintro e w7 ⟨v7, rfl, hown7, hb7⟩
          obtain ⟨AW, cW, rfl, -, -, -, hisW⟩ := own_is hown7 hww
          have HI7 := Lib.hid hisW
          have HB7 := Lib.hid (HB.out.trans (hb7.mono HB.out.size))
          have HND7 := Lib.hid (HND.out.below hb7)
          clear hown7 hisW hb7 HB HND CW e1
          go_wp2_with fail
          go_loopw [9, 10] (fun mo v wq => ∃ (q : Nat), q ≤ W.length ∧ v = .int .i64 q ∧ mo = .int .i64 (mxG G (W.take q)) ∧ Below w7.heap.size w7 wq) (fun _ v _ => W.length - (intOf v).toNat)
          case atStart => exact ⟨0, by omega, rfl, rfl, Below.refl _ _⟩
          case round =>
            rename World => wr0
            obtain ⟨q, hq, rfl, rfl, hbq⟩ := hrel
            have hmb := mxG_b (g := G) (W := W.take q) (c := 1000) (by omega) (fun m => (HGB.out m).2)
            by_cases hql : q < W.length
            · obtain ⟨gw, ow, rfl, hgw', hw0⟩ := is_at HI7.out q hql
              have hwc := (hbq.cell (p := ⟨gw, ow + q, none⟩) hgw').trans hw0
              obtain ⟨l, hll, hlj, hle⟩ := hwlt.out W[q] (List.getElem_mem hql)
              have hpl : placeF W[q] xs 0 = (l : Int) := by rw [← hle, placeF_at HSO.out hll, Nat.zero_add]
              have CP0 := CPA.out W[q] wr0 (hx.below (HB7.out.trans (hbq.mono HB7.out.size)))
              rw [hpl] at CP0
              have CP := Lib.hid CP0
              have HMX := Lib.hid (mxG_next (g := G) hql)
              have hll2 : l < (gL xs G).length := by rw [gL_len]; exact hll
              have HGE : Hid ((gL xs G)[l] = G W[q]) := Lib.hid (by rw [gL_get hll, hle])
              have HBQ := Lib.hid hbq
              clear CP0 hpl hle hbq hw0
              generalize W[q] = n at *
              generalize mxG G (W.take q) = mo at *
              go_wp2_with fail
              refine CP.out.mono ?_
              rintro e w8 ⟨rfl, hb8⟩
              have HB8 := Lib.hid (HBQ.out.trans (hb8.mono HBQ.out.size))
              have hse := (HND7.out.below HB8.out).cell l hll2
              rw [HGE.out] at hse
              have hlo : (l : Int) < (xs.length : Int) := by omega
              generalize G n = gm at *
              clear hb8 CP HBQ hwc HGE
              by_cases hgt : mo < gm
              · have hd : decide (mo < gm) = true := decide_eq_true hgt
                have HM2 : Hid (mxG G (W.take (q + 1)) = gm) := Lib.hid (by rw [HMX.out]; omega)
                clear HMX
                go_wp2_with fail
                go_roundw
                case rel => exact ⟨q + 1, by omega, by go_num, by rw [HM2.out], HB8.out⟩
                case measure => simp [intOf]; omega
              · have hd : decide (mo < gm) = false := decide_eq_false hgt
                have HM2 : Hid (mxG G (W.take (q + 1)) = mo) := Lib.hid (by rw [HMX.out]; omega)
                clear HMX
                go_wp2_with fail
                go_roundw
                case rel => exact ⟨q + 1, by omega, by go_num, by rw [HM2.out], HB8.out⟩
                case measure => simp [intOf]; omega
            · obtain rfl : q = W.length := by omega
              rw [List.take_length] at hmb ⊢
              have hn9 := HND7.out.below hbq
              have hkl2 : k < (gL xs G).length := by rw [gL_len]; exact hlt
              have hse := hn9.cell k hkl2
              have hsf := hn9.frozen k
              have hst := hn9.stored k (mxG G W + 1)
              rw [HSET.out, ← HNX.out] at hst
              have HST := Lib.hid hst
              have HBQ := Lib.hid ((HB7.out.trans (hbq.mono HB7.out.size)).setCell (p := ⟨gs, k, none⟩) hgw (V64 (mxG G W + 1)))
              clear hst hn9 hbq HSET HNX
              generalize mxG G W = mo at *
              go_wp2_with fail
              go_roundw
              case rel => exact ⟨k + 1, by omega, by go_num, HST.out, HBQ.out⟩
              case measure => simp [intOf]; omega
        · obtain rfl : k = xs.length := by omega
          rw [List.take_of_length_le (by rw [HIL.out]; exact Nat.le_refl _)] at hnd
          have hil2 : i < (gL xs (dG xs (fun _ => 0) (xs.map (·.id)))).length := by rw [gL_len]; exact hi
          have hse := hnd.cell i hil2
          rw [gL_get hi, HE.out, HV.out] at hse
          have HB := Lib.hid hbr
          have hio : (i : Int) < (xs.length : Int) := by omega
          clear hnd hbr hx' hil2
          go_wp2
          go_ret
          exact ⟨rfl, HB.out⟩
end Go.Proofs.Yteeodeooicoekaa.Rd

