/- ReadyOrder. -/
import Derived.Test.YtechlhmmgabikaaRh
import Derived.Test.YtechlhmmgabikaaRdT
import Derived.Test.YtechlhmmgabikaaRo
import Derived.Laws.ResultCell
namespace Go.Proofs.Ytechlhmmgabikaa.Rd
open Go.RowKit Go.Proofs.Ytechlhmmgabikaa.Mem Go.Proofs.Ytechlhmmgabikaa.Open Go.Proofs.Ytechlhmmgabikaa.Kind Go.Proofs.Ytechlhmmgabikaa.Blk Go.Proofs.Ytechlhmmgabikaa.App Go.Proofs.Ytechlhmmgabikaa.Pat Go.Proofs.Ytechlhmmgabikaa.Same
set_option linter.unusedVariables false
set_option linter.unusedSimpArgs false
theorem wf_id {w : World} {A : Option Addr} {xs : List Chg} (h : Chs w A xs) {x : Chg} (hx : x ∈ xs) : WfI x.id := by
  obtain ⟨i, hi, rfl⟩ := List.mem_iff_getElem.1 hx
  obtain ⟨g, o, rfl, hg⟩ := ch_form h (by omega)
  obtain ⟨A1, c1, A2, c2, hat⟩ := ch_at h i hi
  exact hat.ok.1
theorem ready_wf {w : World} {A : Option Addr} {xs : List Chg} (h : Chs w A xs) (b : Int) : ∀ n ∈ readyS xs b, WfI n := by
  intro n hn
  obtain ⟨i, hi, rfl, _⟩ := ready_mem hn
  exact wf_id h (List.getElem_mem hi)
theorem waits_wf {w : World} {A : Option Addr} {xs : List Chg} (h : Chs w A xs) (id : Int) : ∀ n ∈ waitsS xs id, WfI n := by
  intro n hn
  unfold waitsS at hn
  split at hn
  · obtain ⟨x, hx, _, rfl⟩ := mem_waitK.1 hn
    exact wf_id h (List.mem_of_mem_take hx)
  · simp at hn
theorem waits_len (xs : List Chg) (id : Int) : (waitsS xs id).length ≤ xs.length := by
  unfold waitsS
  split
  · unfold waitK
    rw [List.length_map]
    exact Nat.le_trans (List.length_filter_le _ _) (by rw [List.length_take]; omega)
  · simp
theorem readyS_len (xs : List Chg) (b : Int) : (readyS xs b).length ≤ xs.length := by
  unfold readyS
  split
  · exact rdy_len xs b _
  · simp
set_option maxHeartbeats 4000000 in
set_option maxRecDepth 100000 in
theorem order_walk (A : Option Addr) (c : Nat) (xs : List Chg) (Ab : Option Addr) (cb : Nat) (bs : List Int) (w : World) (hx : Chs w A xs) (hc : A = none → c = 0) (hb : Is w Ab bs) :
    Calls Try.prog 9 #[.slice A xs.length c, .slice Ab bs.length cb] w fun e w' => e = .returned (.bool true) ∧ Below w.heap.size w w' := by
  have CMu := Lib.hid (much_any A c xs 20 w hx (by omega))
  have CM := Lib.hid (fun w' h => may_any A c xs w' h)
  cases hmu : muchC xs 20 with
  | true =>
    rw [hmu] at CMu
    go_enter Try.func9, Try.ntmps9
    go_wp2_with fail
    refine CMu.out.mono ?_
    rintro e w1 ⟨rfl, hb1⟩
    go_wp2_with fail
    refine (works9 _).mono ?_
    rintro e wB ⟨rfl, hbB⟩
    go_wp2
    go_ret
    exact ⟨rfl, hb1.trans (hbB.mono hb1.size)⟩
  | false =>
    rw [hmu] at CMu
    obtain ⟨hn, hs⟩ := muchC_no hmu
    clear hmu
    cases hm : mayF 0 xs with
    | false =>
      rw [hm] at CM
      clear hm
      go_enter Try.func9, Try.ntmps9
      go_wp2_with fail
      refine CMu.out.mono ?_
      rintro e w1 ⟨rfl, hb1⟩
      go_wp2_with fail
      refine (CM.out w1 (hx.below hb1)).mono ?_
      rintro e w2 ⟨rfl, hb2⟩
      have hb12 := hb1.trans (hb2.mono hb1.size)
      go_wp2_with fail
      refine (works9 _).mono ?_
      rintro e wB ⟨rfl, hbB⟩
      go_wp2
      go_ret
      exact ⟨rfl, hb12.trans (hbB.mono hb12.size)⟩
    | true =>
      rw [hm] at CM
      have HM := Lib.hid hm
      clear hm
      by_cases hl : 20 < bs.length
      · have hl1 : (20 : Int) < (bs.length : Int) := by omega
        go_enter Try.func9, Try.ntmps9
        go_wp2_with fail
        refine CMu.out.mono ?_
        rintro e w1 ⟨rfl, hb1⟩
        go_wp2_with fail
        refine (CM.out w1 (hx.below hb1)).mono ?_
        rintro e w2 ⟨rfl, hb2⟩
        have hb12 := hb1.trans (hb2.mono hb1.size)
        go_wp2_with fail
        refine (works9 _).mono ?_
        rintro e wB ⟨rfl, hbB⟩
        go_wp2
        go_ret
        exact ⟨rfl, hb12.trans (hbB.mono hb12.size)⟩
      · have hl1 : ¬ (20 : Int) < (bs.length : Int) := by omega
        go_enter Try.func9, Try.ntmps9
        go_wp2_with fail
        refine CMu.out.mono ?_
        rintro e w1 ⟨rfl, hb1⟩
        go_wp2_with fail
        refine (CM.out w1 (hx.below hb1)).mono ?_
        rintro e w2 ⟨rfl, hb2⟩
        have hb12 := hb1.trans (hb2.mono hb1.size)
        clear hb1 hb2 CM CMu
        have hbl20 : bs.length ≤ 20 := by omega
        clear hl hl1
        go_wp2_with fail
        refine (to9_any A c xs w2 (hx.below hb12) hs (by omega)).mono ?_
        rintro e w3 ⟨v3, rfl, hown3, hb3⟩
        obtain ⟨A3, c3, rfl, h1, h2, h3, hx3⟩ := hown3.rw_
        have hb13 := hb12.trans (hb3.mono hb12.size)
        clear hown3 hb3 hb12
        go_wp2_with fail
        go_loopw [5, 6] (fun v i wr => ∃ (k : Nat) (A7 : Option Addr) (c7 : Nat) (ls : List Chg), k ≤ bs.length ∧ i = .int .i64 k ∧ v = .slice A7 ls.length c7 ∧ Hid (ls.length ≤ c7) ∧ Hid (c7 ≤ M63) ∧ Chs wr A7 ls ∧ Hid (mayF 0 ls = true) ∧ ls.length ≤ 20 ∧ Hid (Small ls) ∧ Below w.heap.size w wr) (fun _ i _ => bs.length - (intOf i).toNat)
        case atStart => exact ⟨0, A3, c3, xs, by omega, rfl, rfl, Lib.hid h1, Lib.hid h2, hx3, HM, hn, Lib.hid hs, hb13⟩
        case round =>
          obtain ⟨k, A7, c7, ls, hk, rfl, rfl, hcap, hcm, hls, hmay, hln, hsm, hbr⟩ := hrel
          by_cases hlt : k < bs.length
          · obtain ⟨gb, ob, rfl, hgb, hc0⟩ := is_at hb k hlt
            obtain ⟨b, hbe⟩ : ∃ b, bs[k] = b := ⟨_, rfl⟩
            rw [hbe] at hc0
            clear hbe
            have hcb := (hbr.cell (p := ⟨gb, ob + k, none⟩) hgb).trans hc0
            have HLS := Lib.hid hls
            have HB := Lib.hid hbr
            have CR := Lib.hid (Ready_any A7 c7 ls b wr hls hcap.out hcm.out (by omega) hsm.out)
            have hle := hbr.size
            clear hls hbr
            go_wp2_with fail
            refine CR.out.mono ?_
            rintro e w7 ⟨v7, rfl, hown7, hb7⟩
            obtain ⟨AR, cR, hvR, _, _, _, hisR⟩ := own_is hown7 (ready_wf HLS.out b)
            have HLS7 := Lib.hid (HLS.out.below hb7)
            have HB7 := Lib.hid (HB.out.trans (hb7.mono HB.out.size))
            have hrl := readyS_len ls b
            have HRF := Lib.hid (fun n => ready_find hmay.out (b := b) (n := n))
            have HWL := Lib.hid (wo_len hmay.out b)
            obtain ⟨R, hR⟩ : ∃ R, readyS ls b = R := ⟨_, rfl⟩
            rw [hR] at hvR hisR hrl HRF HWL
            have HIR := Lib.hid hisR
            have hc7 : w7.cell? ⟨gb, ob + k, none⟩ = some (.int .i64 b) := (HB7.out.cell (p := ⟨gb, ob + k, none⟩) hgb).trans hc0
            clear hown7 hb7 HLS HB CR hisR hcb
            subst hvR
            go_wp2_with fail
            go_loopw [8] (fun i wq => ∃ (j : Nat), j ≤ R.length ∧ i = .int .i64 j ∧ Below w7.heap.size w7 wq) (fun i _ => R.length - (intOf i).toNat)
            case atStart => exact ⟨0, by omega, rfl, Below.refl _ _⟩
            case round =>
              obtain ⟨j, hj, rfl, hbq⟩ := hrel
              have hlsq := HLS7.out.below hbq
              by_cases hjl : j < R.length
              · obtain ⟨gr, og, rfl, hgr, hr0⟩ := is_at HIR.out j hjl
                have hrc := (hbq.cell (p := ⟨gr, og + j, none⟩) hgr).trans hr0
                obtain ⟨y, hy1, hy2, hy3⟩ := HRF.out R[j] (List.getElem_mem hjl)
                have hwn : WfI R[j] := is_wf HIR.out R[j] (List.getElem_mem hjl)
                obtain ⟨n, hne⟩ : ∃ n, R[j] = n := ⟨_, rfl⟩
                rw [hne] at hr0 hrc hy1 hy3 hwn
                clear hne
                have CF0 := Find_any A7 c7 ls n wr hlsq hsm.out (by omega)
                rw [show findD n ls = y from by unfold findD; rw [hy1]; rfl, hy1] at CF0
                have CF := Lib.hid CF0
                have HY3 := Lib.hid hy3
                have HY2 := Lib.hid hy2
                have HBQ := Lib.hid hbq
                have HWN := Lib.hid hwn
                clear CF0 hy1 hy2 hy3 hbq hlsq hwn hc7
                go_wp2_with fail
                refine CF.out.mono ?_
                rintro e w8 ⟨A3, c3, A4, c4, rfl, hf8, hb8⟩
                obtain ⟨⟨r9, b9, z9⟩⟩ : Nonempty (_ ∧ _ ∧ _) := ⟨boxed w8 72 chZ (chC y A3 c3 A4 c4)⟩
                have R0 : Row (w8.alloc (.cells chZ 72)) w8.heap.size 72 chZ := Row.new _ _ _
                have hB9 : Below w7.heap.size w7 (World.drew ((w8.alloc (.cells chZ 72)).setRow w8.heap.size (chC y A3 c3 A4 c4))) := (HBQ.out.trans ((hb8.trans (b9.mono hb8.size)).mono HBQ.out.size)).drew
                have p1 : World.cell? (World.drew ((w8.alloc (.cells chZ 72)).setRow w8.heap.size (chC y A3 c3 A4 c4))) ⟨w8.heap.size, 1, none⟩ = some (.int .i64 b) := by rw [← HY2.out]; exact r9.cell 1 rfl
                have p2 : World.cell? (World.drew ((w8.alloc (.cells chZ 72)).setRow w8.heap.size (chC y A3 c3 A4 c4))) ⟨gb, ob + k, none⟩ = some (.int .i64 b) := ((HB7.out.trans (hB9.mono HB7.out.size)).cell (p := ⟨gb, ob + k, none⟩) hgb).trans hc0
                have p3 : World.cell? (World.drew ((w8.alloc (.cells chZ 72)).setRow w8.heap.size (chC y A3 c3 A4 c4))) ⟨gr, og + j, none⟩ = some (.int .i64 n) := (hB9.cell (p := ⟨gr, og + j, none⟩) hgr).trans hr0
                have CW := Lib.hid (Waits_any A7 c7 ls n HWN.out _ (HLS7.out.below hB9) hcap.out hcm.out (by omega) hsm.out)
                have HB9 := Lib.hid hB9
                have zz : w8.heap.size < (World.drew ((w8.alloc (.cells chZ 72)).setRow w8.heap.size (chC y A3 c3 A4 c4))).heap.size := z9
                have zb : gb < (World.drew ((w8.alloc (.cells chZ 72)).setRow w8.heap.size (chC y A3 c3 A4 c4))).heap.size := Nat.lt_of_lt_of_le hgb (HB7.out.trans (hB9.mono HB7.out.size)).size
                have hkb : (k : Int) < (bs.length : Int) := by omega
                have hww := waits_wf HLS7.out n
                have hwlen := waits_len ls n
                clear hf8 hb8 b9 z9 r9 hB9 CF hrc HBQ HWN HY2
                go_wp2_with (first
                  | (with_reducible refine wpList_allocA rfl 72 rfl _ chZero ?_)
                  | (with_reducible refine wpList_storeRow rfl 72 _ _ rfl w8.heap.size rfl (chC y A3 c3 A4 c4) rfl chZ 72 5 chSize rfl rfl (chC_one _ _ _ _ _) R0 ?_))
                refine wp_region_held_drew (S := Go.RowKit.Below ((((w8.alloc (.cells chZ 72)).setRow w8.heap.size (chC y A3 c3 A4 c4)).drew).heap.size) (((w8.alloc (.cells chZ 72)).setRow w8.heap.size (chC y A3 c3 A4 c4)).drew)) (by kernel_rfl) ?hb2 (fun hHeld => ?rest2)
                case hb2 =>
                  exact Go.RowKit.Below.refl _ _
                case' rest2 => skip
                have hCl := fun (wS : World) (hSw : Go.RowKit.Below ((((w8.alloc (.cells chZ 72)).setRow w8.heap.size (chC y A3 c3 A4 c4)).drew).heap.size) (((w8.alloc (.cells chZ 72)).setRow w8.heap.size (chC y A3 c3 A4 c4)).drew) wS) => And.intro (Mem.bl_cell hSw p1 (by first | omega | (dsimp only; omega) | exact World.block_lt_of_cell? _ _ p1 | (simp <;> omega))) <| Mem.bl_cell hSw p2 (by first | omega | (dsimp only; omega) | exact World.block_lt_of_cell? _ _ p2 | (simp <;> omega))
                replace hCl := Go.Lib.hid hCl
                refine Mem.tkY 0 ?v3 (hy := Or.inl ⟨by rfl, ?y3⟩) (hS := by assumption) (h := ?r3)
                case y3 => (intro w hSw; clear hSw; go_simp; try with_reducible rfl)
                case' r3 => skip
                refine Mem.tkY 1 ?v4 (hy := Or.inl ⟨by rfl, ?y4⟩) (hS := by assumption) (h := ?r4)
                case y4 => (intro w hSw; clear hSw; go_simp; try with_reducible rfl)
                case' r4 => skip
                refine Mem.tkY 2 ?v5 (hy := Or.inl ⟨by rfl, ?y5⟩) (hS := by assumption) (h := ?r5)
                case y5 => (intro w hSw; clear hSw; go_simp; try with_reducible rfl)
                case' r5 => skip
                try simp only [List.getElem_toArray, List.getElem_cons_succ, List.getElem_cons_zero, Act.put, List.setIfInBounds_toArray, List.set_cons_zero, List.set_cons_succ]
                first | refine Mem.tkY 3 undef (hy := Or.inr ⟨by rfl, rfl⟩) (hS := by assumption) (h := ?r6) | (refine Mem.tkY 3 ?v6 (hy := Or.inl ⟨by rfl, ?y6⟩) (hS := by assumption) (h := ?r6); case y6 => (intro w hSw; clear hSw; go_simp; try with_reducible rfl))
                case' r6 => skip
                try simp only [List.getElem_toArray, List.getElem_cons_succ, List.getElem_cons_zero, Act.put, List.setIfInBounds_toArray, List.set_cons_zero, List.set_cons_succ]
                first | refine Mem.tkY 4 undef (hy := Or.inr ⟨by rfl, rfl⟩) (hS := by assumption) (h := ?r7) | (refine Mem.tkY 4 ?v7 (hy := Or.inl ⟨by rfl, ?y7⟩) (hS := by assumption) (h := ?r7); case y7 => (intro w hSw; obtain ⟨hT0, hT1⟩ := hCl.out w hSw; clear hSw; go_simp; try with_reducible rfl))
                case' r7 => skip
                try simp only [List.getElem_toArray, List.getElem_cons_succ, List.getElem_cons_zero, Act.put, List.setIfInBounds_toArray, List.set_cons_zero, List.set_cons_succ]
                first | refine Mem.tkY 5 undef (hy := Or.inr ⟨by rfl, rfl⟩) (hS := by assumption) (h := ?r8) | (refine Mem.tkY 5 ?v8 (hy := Or.inl ⟨by rfl, ?y8⟩) (hS := by assumption) (h := ?r8); case y8 => (intro w hSw; clear hSw; go_simp; try with_reducible rfl))
                case' r8 => skip
                try simp only [List.getElem_toArray, List.getElem_cons_succ, List.getElem_cons_zero, Act.put, List.setIfInBounds_toArray, List.set_cons_zero, List.set_cons_succ]
                first | refine Mem.tkY 6 undef (hy := Or.inr ⟨by rfl, rfl⟩) (hS := by assumption) (h := ?r9) | (refine Mem.tkY 6 ?v9 (hy := Or.inl ⟨by rfl, ?y9⟩) (hS := by assumption) (h := ?r9); case y9 => (intro w hSw; clear hSw; go_simp; try with_reducible rfl))
                case' r9 => skip
                try simp only [List.getElem_toArray, List.getElem_cons_succ, List.getElem_cons_zero, Act.put, List.setIfInBounds_toArray, List.set_cons_zero, List.set_cons_succ]
                first | refine Mem.tkY 7 undef (hy := Or.inr ⟨by rfl, rfl⟩) (hS := by assumption) (h := ?r10) | (refine Mem.tkY 7 ?v10 (hy := Or.inl ⟨by rfl, ?y10⟩) (hS := by assumption) (h := ?r10); case y10 => (intro w hSw; clear hSw; go_simp; try with_reducible rfl))
                case' r10 => skip
                try simp only [List.getElem_toArray, List.getElem_cons_succ, List.getElem_cons_zero, Act.put, List.setIfInBounds_toArray, List.set_cons_zero, List.set_cons_succ]
                first | refine Mem.tkY 8 undef (hy := Or.inr ⟨by rfl, rfl⟩) (hS := by assumption) (h := ?r11) | (refine Mem.tkY 8 ?v11 (hy := Or.inl ⟨by rfl, ?y11⟩) (hS := by assumption) (h := ?r11); case y11 => (intro w hSw; obtain ⟨hT0, hT1⟩ := hCl.out w hSw; clear hSw; go_simp; try with_reducible rfl))
                case' r11 => skip
                try simp only [List.getElem_toArray, List.getElem_cons_succ, List.getElem_cons_zero, Act.put, List.setIfInBounds_toArray, List.set_cons_zero, List.set_cons_succ]
                first | refine Mem.tkY 9 undef (hy := Or.inr ⟨by rfl, rfl⟩) (hS := by assumption) (h := ?r12) | (refine Mem.tkY 9 ?v12 (hy := Or.inl ⟨by rfl, ?y12⟩) (hS := by assumption) (h := ?r12); case y12 => (intro w hSw; clear hSw; go_simp; try with_reducible rfl))
                case' r12 => skip
                refine Mem.tkY 10 ?v13 (hy := Or.inl ⟨by rfl, ?y13⟩) (hS := by assumption) (h := ?r13)
                case y13 => (intro w hSw; clear hSw; go_simp; try with_reducible rfl)
                case' r13 => skip
                try simp only [List.getElem_toArray, List.getElem_cons_succ, List.getElem_cons_zero, Act.put, List.setIfInBounds_toArray, List.set_cons_zero, List.set_cons_succ]
                refine wpAnyH_done (by kernel_rfl) ?_ _
                clear hCl
                clear hHeld
                go_wp2_with fail
                refine CW.out.mono ?_
                rintro e w10 ⟨v10, rfl, hown10, hb10⟩
                obtain ⟨AW, cW, rfl, _, _, _, hisW⟩ := own_is hown10 hww
                have HB10 := Lib.hid (HB9.out.trans (hb10.mono HB9.out.size))
                clear hown10 hb10 HB9 CW hww p1 p2 p3 R0 zz zb
                generalize waitsS ls n = W at *
                have HIW := Lib.hid hisW
                clear hisW
                go_wp2_with fail
                go_loopw [12] (fun i wq => ∃ (q : Nat), q ≤ W.length ∧ i = .int .i64 q ∧ Below w10.heap.size w10 wq) (fun i _ => W.length - (intOf i).toNat)
                case atStart => exact ⟨0, by omega, rfl, Below.refl _ _⟩
                case round =>
                  obtain ⟨q, hq, rfl, hbz⟩ := hrel
                  by_cases hql : q < W.length
                  · obtain ⟨gw, ow, rfl, hgw, hw0⟩ := is_at HIW.out q hql
                    have hwc := (hbz.cell (p := ⟨gw, ow + q, none⟩) hgw).trans hw0
                    have CI0 := in_any _ cR R W[q] wr (HIR.out.below (HB10.out.trans (hbz.mono HB10.out.size)))
                    rw [decide_eq_true (HY3.out W[q] (List.getElem_mem hql))] at CI0
                    have CI := Lib.hid CI0
                    have HBZ := Lib.hid hbz
                    clear CI0 hw0 hbz
                    generalize W[q] = m at *
                    go_wp2_with fail
                    refine CI.out.mono ?_
                    rintro e wX ⟨rfl, hbX⟩
                    have HBX := Lib.hid (HBZ.out.trans (hbX.mono HBZ.out.size))
                    clear hbX CI
                    go_wp2_with fail
                    go_roundw
                    case rel => exact ⟨q + 1, by omega, by go_num, HBX.out⟩
                    case measure => simp [intOf]; omega
                  · obtain rfl : q = W.length := by omega
                    have HBZ := Lib.hid (HB10.out.trans (hbz.mono HB10.out.size))
                    clear hbz
                    go_wp2_with fail
                    go_roundw
                    case rel => exact ⟨j + 1, by omega, by go_num, HBZ.out⟩
                    case measure => simp [intOf]; omega
              · obtain rfl : j = R.length := by omega
                have CWo := Lib.hid (Without_any A7 c7 ls AR cR R wr hlsq (HIR.out.below hbq) hsm.out (by omega) (by omega))
                have HMN := Lib.hid (may_wo hmay.out R)
                have HSN := Lib.hid (small_wo hsm.out R)
                have HWW := Lib.hid (fun x (hx : x ∈ woS ls R) => wo_waits hmay.out R hx)
                have hwl := HWL.out
                have HBQ := Lib.hid hbq
                obtain ⟨NX, hNX⟩ : ∃ NX, woS ls R = NX := ⟨_, rfl⟩
                rw [hNX] at CWo HMN HSN HWW hwl
                clear hbq hlsq hNX HWL hc7
                go_wp2_with fail
                refine CWo.out.mono ?_
                rintro e w11 ⟨v11, rfl, hown11, hb11⟩
                obtain ⟨AN, cN, rfl, hn1, hn2, _, hxN⟩ := hown11.rw_
                have HN1 := Lib.hid hn1
                have HN2 := Lib.hid hn2
                have hsub : (ls.length : Int) - (R.length : Int) = (NX.length : Int) := by omega
                have hNl : NX.length ≤ 20 := by omega
                have CK0 := chk_any AN cN NX w11 hxN
                rw [HMN.out, show okN true = 0 from rfl] at CK0
                have CK := Lib.hid CK0
                have HXN := Lib.hid hxN
                have HB11 := Lib.hid (HBQ.out.trans (hb11.mono HBQ.out.size))
                clear hown11 hb11 CWo HBQ hn1 hn2 CK0 hxN
                go_wp2_with fail
                refine CK.out.mono ?_
                rintro e w12 ⟨rfl, hb12⟩
                have HXN := Lib.hid (HXN.out.below hb12)
                have HB12 := Lib.hid (HB11.out.trans (hb12.mono HB11.out.size))
                clear hb12 CK HB11 hsub
                go_wp2_with fail
                go_loopw [14] (fun i wq => ∃ (j : Nat), j ≤ NX.length ∧ i = .int .i64 j ∧ Below w12.heap.size w12 wq) (fun i _ => NX.length - (intOf i).toNat)
                case atStart => exact ⟨0, by omega, rfl, Below.refl _ _⟩
                case round =>
                  obtain ⟨j, hj, rfl, hbq⟩ := hrel
                  have hxq := HXN.out.below hbq
                  by_cases hjl : j < NX.length
                  · obtain ⟨g, o, rfl, hg⟩ := ch_form HXN.out (by omega)
                    obtain ⟨A1, c1, A2, c2, hat0⟩ := ch_at HXN.out j hjl
                    have e0 := (hat0.below hbq).v0
                    have hidw := hat0.ok.1
                    have HWx := Lib.hid (HWW.out NX[j] (List.getElem_mem hjl))
                    have HE0 := Lib.hid (fun w9 (h : Below w12.heap.size w12 w9) => (hat0.below h).v0)
                    generalize NX[j].id = n at *
                    have CU := Lib.hid (Waits_any _ cN NX n hidw wr hxq HN1.out HN2.out (by omega) HSN.out)
                    have CV := Lib.hid (fun w9 h => Waits_any A7 c7 ls n hidw w9 h hcap.out hcm.out (by omega) hsm.out)
                    have hwu := waits_wf hxq n
                    have hulen := waits_len NX n
                    have hwv := waits_wf HLS7.out n
                    have HBQ := Lib.hid hbq
                    clear hat0 hbq hxq hidw
                    generalize waitsS NX n = U at *
                    generalize waitsS ls n = V at *
                    have HWU := Lib.hid hwu
                    have HWV := Lib.hid hwv
                    clear hwu hwv
                    go_wp2_with fail
                    refine CU.out.mono ?_
                    rintro e w13 ⟨v13, rfl, hown13, hb13⟩
                    obtain ⟨AU, cU, rfl, _, _, _, hisU⟩ := own_is hown13 HWU.out
                    have HB13 := Lib.hid (HBQ.out.trans (hb13.mono HBQ.out.size))
                    have f0 := HE0.out w13 HB13.out
                    have HIU := Lib.hid hisU
                    have CV := Lib.hid (CV.out w13 (HLS7.out.below (HB12.out.trans (HB13.out.mono HB12.out.size))))
                    clear hown13 hb13 CU HBQ e0 hisU HE0
                    go_wp2_with fail
                    refine CV.out.mono ?_
                    rintro e w14 ⟨v14, rfl, hown14, hb14⟩
                    obtain ⟨AV, cV, rfl, _, _, _, hisV⟩ := own_is hown14 HWV.out
                    have HIU := Lib.hid (HIU.out.below hb14)
                    have HB14 := Lib.hid (HB13.out.trans (hb14.mono HB13.out.size))
                    have HIV := Lib.hid hisV
                    clear hown14 hb14 CV HB13 f0 hisV
                    go_wp2_with fail
                    go_loopw [17] (fun i wq => ∃ (q : Nat), q ≤ U.length ∧ i = .int .i64 q ∧ Below w14.heap.size w14 wq) (fun i _ => U.length - (intOf i).toNat)
                    case atStart => exact ⟨0, by omega, rfl, Below.refl _ _⟩
                    case round =>
                      obtain ⟨q, hq, rfl, hbz⟩ := hrel
                      by_cases hql : q < U.length
                      · obtain ⟨gw, ow, rfl, hgw, hw0⟩ := is_at HIU.out q hql
                        have hwc := (hbz.cell (p := ⟨gw, ow + q, none⟩) hgw).trans hw0
                        have CI0 := in_any AV cV V U[q] wr (HIV.out.below hbz)
                        rw [decide_eq_true (HWx.out U[q] (List.getElem_mem hql))] at CI0
                        have CI := Lib.hid CI0
                        have HBZ := Lib.hid hbz
                        clear CI0 hw0 hbz
                        generalize U[q] = m at *
                        go_wp2_with fail
                        refine CI.out.mono ?_
                        rintro e wX ⟨rfl, hbX⟩
                        have HBX := Lib.hid (HBZ.out.trans (hbX.mono HBZ.out.size))
                        clear hbX CI
                        go_wp2_with fail
                        go_roundw
                        case rel => exact ⟨q + 1, by omega, by go_num, HBX.out⟩
                        case measure => simp [intOf]; omega
                      · obtain rfl : q = U.length := by omega
                        have HBZ := Lib.hid (HB14.out.trans (hbz.mono HB14.out.size))
                        clear hbz
                        go_wp2_with fail
                        go_roundw
                        case rel => exact ⟨j + 1, by omega, by go_num, HBZ.out⟩
                        case measure => simp [intOf]; omega
                  · obtain rfl : j = NX.length := by omega
                    have HBQ := Lib.hid hbq
                    have HXQ := Lib.hid hxq
                    clear hbq hxq
                    go_wp2_with fail
                    go_roundw
                    case rel => exact ⟨k + 1, AN, cN, NX, by omega, by go_num, rfl, HN1, HN2, HXQ.out, HMN, hNl, HSN, (HB7.out.trans (HB12.out.mono HB7.out.size)).trans (HBQ.out.mono (HB7.out.trans (HB12.out.mono HB7.out.size)).size)⟩
                    case measure => simp [intOf]; omega
          · obtain rfl : k = bs.length := by omega
            go_wp2_with fail
            refine (works9 _).mono ?_
            rintro e wB ⟨rfl, hbB⟩
            go_wp2
            go_ret
            exact ⟨rfl, hbr.trans (hbB.mono hbr.size)⟩
end Go.Proofs.Ytechlhmmgabikaa.Rd
