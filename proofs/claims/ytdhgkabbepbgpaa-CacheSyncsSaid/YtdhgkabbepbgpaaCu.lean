/- CacheSyncs. -/
import Derived.Test.YtdhgkabbepbgpaaCv
import Derived.Test.YtdhgkabbepbgpaaDi
namespace Go.Proofs.Ytdhgkabbepbgpaa.Cb
open Go.RowKit Go.Proofs.Ytdhgkabbepbgpaa.Mem Go.Proofs.Ytdhgkabbepbgpaa.Open Go.Proofs.Ytdhgkabbepbgpaa.Kind Go.Proofs.Ytdhgkabbepbgpaa.Blk Go.Proofs.Ytdhgkabbepbgpaa.App Go.Proofs.Ytdhgkabbepbgpaa.Pat Go.Proofs.Ytdhgkabbepbgpaa.Rd
open Go.Proofs.Ytdhgkabbepbgpaa.Db (Dv Dev Asd Bks)
set_option linter.unusedVariables false
set_option linter.unusedSimpArgs false
theorem seen_nil {s : St} (h : s.xs = []) (i : Int) : seen s i = s.dv.bs.getD i.toNat zblk := by unfold seen; rw [h]; rfl
/-- What is told of an empty list. -/
theorem chs_none {w : World} {B : Nat} {v : Value} (h : OwnK kChg w B 80 v []) : ∃ A n, v = .slice A 0 n := by
  obtain ⟨A, n, rfl, _⟩ := h.rw_
  exact ⟨A, n, rfl⟩
theorem ns_none {w : World} {B : Nat} {v : Value} (h : Ns w B v []) : ∃ A n, v = .slice A 0 n := by
  obtain ⟨A, n, rfl, _⟩ := own_is h (by intro x hx; cases hx)
  exact ⟨A, n, rfl⟩
set_option maxHeartbeats 4000000 in
set_option maxRecDepth 100000 in
theorem syncs_walk (A : Option Addr) (n : Nat) (xs : List Chg) (w : World) (hx : Chs w A xs) (hA : A = none → n = 0) :
    Calls Try.prog 7 #[.slice A xs.length n] w fun e w' => e = .returned (.bool true) ∧ Below w.heap.size w w' := by
  have hz : (blk zblk).size = 256 := zblk_size
  have CM := Lib.hid (muchT_any A n xs 20 w hx (by omega))
  have hl9 : xs.length ≤ 9223372036854775807 := hx.2.1
  cases hm : muchT xs 20 with
  | true =>
    rw [hm] at CM
    go_enter Try.func7, Try.ntmps7
    go_wp2_with fail
    refine CM.out.mono ?_
    rintro e w1 ⟨rfl, hb1⟩
    go_wp2_with fail
    refine (works12 _).mono ?_
    rintro e w2 ⟨rfl, hb2⟩
    go_wp2
    go_ret
    exact ⟨rfl, hb1.trans (hb2.mono hb1.size)⟩
  | false =>
    obtain ⟨hl20, hsm⟩ := muchT_no hm
    have hby := chs_bytes hx
    rw [hm] at CM
    go_enter Try.func7, Try.ntmps7
    go_wp2_with fail
    refine CM.out.mono ?_
    rintro e w1 ⟨rfl, hb1⟩
    go_wp2_with fail
    refine (Db.new_any 16 16 (.inl ⟨by omega, rfl⟩) w1).mono ?_
    rintro e w2 ⟨d, rfl, g, hd, hd1, hg1, hb2⟩
    go_wp2_with fail
    refine (New_any d g _ w2 hd).mono ?_
    rintro e w3 ⟨c, b, rfl, hc3, hc1, hbb1, hb3⟩
    obtain ⟨N, hN⟩ : ∃ N : Nat → Prop, N = fun j => j < w3.heap.size := ⟨_, rfl⟩
    rw [← hN] at hc3
    have hs1 := hb1.size
    have hs2 := hb2.size
    have hs3 := hb3.size
    have HBD : Hid (Bd w.heap.size c d g b N) := Lib.hid ⟨by omega, by omega, by omega, by omega, fun k hk => by rw [hN]; omega⟩
    have HB3 := Lib.hid ((hb1.trans (hb2.mono hs1)).trans (hb3.mono (by omega)))
    have HC3 := Lib.hid hc3
    clear hd hd1 hg1 hb1 hb2 hb3 hc3 hN hs1 hs2 hs3 hc1 hbb1 hm CM
    go_wp2
    go_loopw [5] (fun i wr => ∃ (k : Nat) (v : Value) (S : St), k ≤ xs.length ∧ i = .int .i64 k ∧ Ca wr c d g b N v S ∧ Hid (Inv S) ∧ Hid (S.dv.rd ≤ k ∧ S.last ≤ k) ∧ Hid (Lit S) ∧ Below w.heap.size w wr) (fun i _ => xs.length - (intOf i).toNat)
    case atStart => exact ⟨0, _, _, by omega, rfl, HC3.out, Lib.hid i0, Lib.hid ⟨by show (0 : Int) ≤ 0; decide, by show (0 : Int) ≤ 0; decide⟩, Lib.hid ⟨rfl, rfl⟩, HB3.out⟩
    case round =>
      obtain ⟨k, v, S, hk, rfl, hc, HIS, HRD, HLT, hbr⟩ := hrel
      by_cases hlt : k < xs.length
      · obtain ⟨gx, ox, rfl, hgx⟩ := ch_form hx (by omega)
        obtain ⟨A1, c1, A2, c2, hat0⟩ := ch_at hx k hlt
        have hat := hat0.below hbr
        have hxm := List.getElem_mem hlt
        have hxb := hby _ hxm
        obtain ⟨hxp, hxn⟩ := hsm _ hxm
        generalize xs[k] = x at *
        have e0 := hat.v0
        by_cases q4 : x.id = 4
        · have b4 : (x.id == 4) = true := by rw [q4]; rfl
          have HC := Lib.hid hc
          have HBR := Lib.hid hbr
          have HRD2 : Hid (S.dv.rd ≤ ((k + 1 : Nat) : Int) ∧ S.last ≤ ((k + 1 : Nat) : Int)) := Lib.hid (by have := HRD.out; omega)
          clear hc hbr hat hat0 q4
          go_wp2
          go_roundw
          case rel => exact ⟨k + 1, v, S, by omega, by go_num, HC.out, HIS, HRD2, HLT, HBR.out⟩
          case measure => simp [intOf]; omega
        · have b4 : (x.id == 4) = false := beq_eq_false_iff_ne.2 q4
          have e1 := hat.v1
          have e2 := hat.v2
          have e3 : wr.cell? ⟨gx, ox + k * 5 + 3, none⟩ = _ := hat.v3
          have e4 := hat.v4
          have CG := Lib.hid (Go_any x A1 c1 A2 c2 c d g b N v S wr hc HIS.out hat.s hxp hxn)
          have HI2 := Lib.hid (goS_inv HIS.out hxb hxp hxn hat.ok.2.1 (by have := HRD.out; omega) (by have := HRD.out; omega))
          have HRD2 : Hid ((goS S x).dv.rd ≤ ((k + 1 : Nat) : Int) ∧ (goS S x).last ≤ ((k + 1 : Nat) : Int)) := Lib.hid (by have := goS_rd S x; have := HRD.out; omega)
          have HLT2 := Lib.hid (HLT.out.goS q4)
          have HBR := Lib.hid hbr
          clear hc hbr hat hat0 hxb hxn q4
          generalize goS S x = S2 at *
          generalize goN S x = N2 at *
          generalize goE S x = E2 at *
          go_wp2_with fail
          refine CG.out.mono ?_
          rintro e w5 ⟨v5, rfl, hc5, ht5⟩
          have HC5 := Lib.hid hc5
          have HB5 := Lib.hid (Tn.bel HBR.out ht5 HBD.out)
          clear hc5 ht5 CG HBR e0 e1 e2 e3 e4
          go_wp2
          go_roundw
          case rel => exact ⟨k + 1, v5, S2, by omega, by go_num, HC5.out, HI2, HRD2, HLT2, HB5.out⟩
          case measure => simp [intOf]; omega
      · obtain rfl : k = xs.length := by omega
        obtain ⟨hU1, hU2⟩ := HLT.out.upS HIS.out
        have CS := Sync_any c d g b N v S wr hc HIS.out
        rw [hU1] at CS
        have HI2 := Lib.hid (upG_inv (S.xs.length + 1) HIS.out S.last)
        have HRD2 : Hid ((upS S S.last).dv.rd ≤ 20) := Lib.hid (by have := (upG_rd (S.xs.length + 1) S S.last).1; have := HRD.out; unfold upS; omega)
        have HLT2 := Lib.hid (Lit.upG (S.xs.length + 1) HLT.out S.last)
        replace HI2 : Hid (Inv (upS S S.last)) := HI2
        replace HLT2 : Hid (Lit (upS S S.last)) := HLT2
        have HCS := Lib.hid CS
        have HBR := Lib.hid hbr
        have HXS := Lib.hid hU2
        clear hc hbr CS hU1 hU2 HIS HLT HRD
        generalize upS S S.last = S2 at *
        go_wp2_with fail
        refine HCS.out.mono ?_
        rintro e w5 ⟨v5, rfl, hc5, ht5⟩
        have hb5 := Tn.bel HBR.out ht5 HBD.out
        have CL := Left_any c d g b N v5 S2 w5 hc5 HI2.out
        rw [HXS.out] at CL
        have HCL := Lib.hid CL
        have HC5 := Lib.hid hc5
        have HB5 := Lib.hid hb5
        clear hc5 ht5 hb5 CL HCS HBR
        go_wp2_with fail
        refine HCL.out.mono ?_
        rintro e w6 ⟨v6, rfl, ho6, hb6⟩
        obtain ⟨A6, n6, rfl⟩ := chs_none ho6
        have hc6 := HC5.out.below hb6
        have HB6 := Lib.hid (HB5.out.trans (hb6.mono HB5.out.size))
        have CD := Dirty_any c d g b N v5 S2 w6 hc6 HI2.out
        rw [HXS.out] at CD
        have HCD := Lib.hid CD
        have HC6 := Lib.hid hc6
        clear ho6 hb6 hc6 CD HC5 HB5 HCL
        go_wp2_with fail
        refine HCD.out.mono ?_
        rintro e w7 ⟨v7, rfl, ho7, hb7⟩
        obtain ⟨A7, n7, rfl⟩ := ns_none ho7
        have hc7 := HC6.out.below hb7
        have HB7 := Lib.hid (HB6.out.trans (hb7.mono HB6.out.size))
        have HCW := Lib.hid (Db.writes_any d g S2.dv w7 hc7.dev)
        have HCL := Lib.hid (Last_any c d g b N v5 S2 w7 hc7)
        have HC7 := Lib.hid hc7
        have hwl : S2.dv.wr ≤ S2.last := by have := HI2.out.cw; rw [HXS.out] at this; simpa using this
        clear ho7 hb7 hc7 HC6 HB6 HCD
        generalize hWR : S2.dv.wr = WR at *
        generalize hLA : S2.last = LA at *
        have HWR := Lib.hid hWR
        have HLA := Lib.hid hLA
        clear hWR hLA
        have hwl2 : ¬ LA < WR := by omega
        go_wp2_with fail
        refine HCW.out.mono ?_
        rintro e w8 ⟨rfl, hw8⟩
        subst w8
        go_wp2_with fail
        refine HCL.out.mono ?_
        rintro e w8 ⟨rfl, hw8⟩
        subst w8
        have HCI := Lib.hid (Db.image_any d g S2.dv w7 HC7.out.dev (by rw [HI2.out.len]; omega) (by rw [HI2.out.len]; omega))
        rw [HI2.out.len] at HCI
        clear HCW HCL
        go_wp2_with fail
        refine HCI.out.mono ?_
        rintro e w9 ⟨gi, ci, rfl, hbk9, hgi, hci1, hci2, hb9⟩
        have hc9 := HC7.out.grow hb9
        obtain ⟨N2, hN2⟩ : ∃ N2 : Nat → Prop, N2 = fun j => N j ∨ (w7.heap.size ≤ j ∧ j < w9.heap.size) := ⟨_, rfl⟩
        rw [← hN2] at hc9
        have FK : Far N2 c d g b gi := ⟨by rw [hN2]; exact .inr ⟨hgi, hbk9.2.2⟩, by have := HC7.out.row.lt; omega, by have := HC7.out.dev.1.lt; omega, by have := HC7.out.dev.2.1.2.2; omega, by have := HC7.out.map.lt; omega⟩
        have HBD2 : Hid (Bd w.heap.size c d g b N2) := Lib.hid (by rw [hN2]; exact HBD.out.or)
        have HC9 := Lib.hid hc9
        have HBK9 := Lib.hid hbk9
        have HB9 := Lib.hid (HB7.out.trans (hb9.mono HB7.out.size))
        have HBS : Hid (∀ i : Nat, i < 16 → S2.dv.bs[i]? = some (seen S2 i)) := Lib.hid (fun i hi => by
          have h16 := HI2.out.len
          rw [seen_nil HXS.out, Int.toNat_natCast, List.getD_eq_getElem?_getD, List.getElem?_eq_getElem (by omega)]
          rfl)
        clear hc9 hbk9 hb9 hN2 HC7 HB7 HCI HBD hwl hwl2
        generalize S2.dv.bs = W at *
        go_wp2_with fail
        go_loopw [7] (fun i wr => ∃ (q : Nat) (v : Value) (S' : St), q ≤ 16 ∧ i = .int .i64 q ∧ Ca wr c d g b N2 v S' ∧ Hid (Inv S') ∧ Hid (S'.dv.off = false ∧ S'.dv.rd ≤ 20 + q) ∧ Bks wr gi W ∧ Hid (∀ i : Nat, i < 16 → W[i]? = some (seen S' i)) ∧ Below w.heap.size w wr) (fun i _ => 16 - (intOf i).toNat)
        case atStart => exact ⟨0, _, _, by omega, rfl, HC9.out, HI2, Lib.hid ⟨HLT2.out.2, by have := HRD2.out; omega⟩, HBK9.out, HBS, HB9.out⟩
        case round =>
          obtain ⟨q, v, S', hq, rfl, hc, HIS, HRD, hbk, HWT, hbr⟩ := hrel
          by_cases hlt : q < 16
          · have hE := kE_in HIS.out hlt HRD.out.1
            have CG := Get_any (q : Int) ((wf_iff _).2 ⟨by omega, by omega⟩) c d g b N2 v S' wr hc HIS.out
            rw [hE, gV_seen hE] at CG
            have HI3 := Lib.hid (kS_inv HIS.out (q : Int) (by have := HRD.out.2; omega))
            have HRD3 : Hid ((kS S' q).dv.off = false ∧ (kS S' q).dv.rd ≤ 20 + ((q + 1 : Nat) : Int)) := Lib.hid ⟨by rw [kS_off]; exact HRD.out.1, by have h1 := HRD.out.2; have h2 := (kS_rd S' q).1; omega⟩
            have HW3 : Hid (∀ i : Nat, i < 16 → W[i]? = some (seen (kS S' q) i)) := Lib.hid (fun i hi => by rw [seen_kS S' q i]; exact HWT.out i hi)
            have hLg := HWT.out q hlt
            have hfl : (seen S' q).length = 256 := seen_len HIS.out _
            generalize kS S' q = S3 at *
            generalize seen S' q = L at *
            have HCG := Lib.hid CG
            have HBK := Lib.hid hbk
            have HBR := Lib.hid hbr
            clear CG hc hbk hbr hE HC9 HBK9 HB9 HI2 HBS HRD2 HLT2
            go_wp2_with fail
            refine HCG.out.mono ?_
            rintro e w6 ⟨rfl, hc6, ht6⟩
            obtain ⟨⟨q1, q2, q3⟩⟩ : Nonempty (_ ∧ _ ∧ _) := ⟨boxed w6 38 (blk zblk) (blk L)⟩
            have b1 := heap_alloc_new w6 (.cells (blk zblk) 38)
            have hB6 := Tn.bel HBR.out ht6 HBD2.out
            have hbk6 := Bks.tn HBK.out ht6 FK
            have HC7 := Lib.hid (hc6.below q2)
            have HBK7 := Lib.hid (Bks.below hbk6 q2)
            have HB7 := Lib.hid (hB6.trans (q2.mono hB6.size))
            have k7 := q1
            have hsX : (blk L).size = 256 := by rw [blk_size, hfl]
            clear q1 q2 q3 hc6 ht6 hB6 hbk6 HCG HBR HBK
            go_wp2_with (first
              | (with_reducible refine wpList_allocA rfl 38 rfl _ blkZero ?_)
              | (with_reducible refine wpList_store rfl 38 _ _ rfl _ rfl (blk L) rfl (blk zblk) 38 256 blkSize hsX zblk_size (blk_one _) b1 ?_))
            clear b1
            generalize (w6.alloc (.cells (blk zblk) 38)).setRow w6.heap.size (blk L) = w7 at *
            have r1 : w7.drew.rangeAt gi (q * 256) (blk L).toList := (HBK7.out.1 q L hLg).2
            have hg7 := HBK7.out.2.2
            have k7d := k7.drew
            have hi : (Try.prog.info? 38).map (·.size) = some (blk L).toList.length := blkSizeL L hfl
            have heq : ∀ w, (Op.equalIn 10000 38 (.agg (blk L)) (.agg (blk L))).run Try.prog w = .ok true w := fun w => by rw [run_eq_blk _ _ hfl hfl, decide_eq_true rfl]
            have hgd := blkGuard
            clear k7 hfl hLg hsX
            refine wp_region_held_drew (S := Go.RowKit.Below ((w7.drew).heap.size) (w7.drew)) (by kernel_rfl) ?hb6 (fun hHeld => ?rest6)
            case hb6 =>
              exact Go.RowKit.Below.refl _ _
            case' rest6 => skip
            refine Mem.tkY 0 ?v7 (hy := Or.inl ⟨by rfl, ?y7⟩) (hS := by assumption) (h := ?r7)
            case y7 => (intro w hSw; clear hSw; go_simp; try with_reducible rfl)
            case' r7 => skip
            refine Mem.tkY 1 ?v8 (hy := Or.inl ⟨by rfl, ?y8⟩) (hS := by assumption) (h := ?r8)
            case y8 => (intro w hSw; clear hSw; go_simp; try with_reducible rfl)
            case' r8 => skip
            refine Mem.tkY 2 ?v9 (hy := Or.inl ⟨by rfl, ?y9⟩) (hS := by assumption) (h := ?r9)
            case y9 => (intro w hSw; clear hSw; go_simp; try with_reducible rfl)
            case' r9 => skip
            try simp only [List.getElem_toArray, List.getElem_cons_succ, List.getElem_cons_zero, Act.put, List.setIfInBounds_toArray, List.set_cons_zero, List.set_cons_succ]
            first | refine Mem.tkY 3 undef (hy := Or.inr ⟨by rfl, rfl⟩) (hS := by assumption) (h := ?r10) | (refine Mem.tkY 3 ?v10 (hy := Or.inl ⟨by rfl, ?y10⟩) (hS := by assumption) (h := ?r10); case y10 => (intro w hSw; clear hSw; go_simp; try with_reducible rfl))
            case' r10 => skip
            try simp only [List.getElem_toArray, List.getElem_cons_succ, List.getElem_cons_zero, Act.put, List.setIfInBounds_toArray, List.set_cons_zero, List.set_cons_succ]
            first | refine Mem.tkY 4 undef (hy := Or.inr ⟨by rfl, rfl⟩) (hS := by assumption) (h := ?r11) | (refine Mem.tkY 4 ?v11 (hy := Or.inl ⟨by rfl, ?y11⟩) (hS := by assumption) (h := ?r11); case y11 => (intro w hSw; clear hSw; go_simp; try with_reducible rfl))
            case' r11 => skip
            try simp only [List.getElem_toArray, List.getElem_cons_succ, List.getElem_cons_zero, Act.put, List.setIfInBounds_toArray, List.set_cons_zero, List.set_cons_succ]
            first | refine Mem.tkY 5 undef (hy := Or.inr ⟨by rfl, rfl⟩) (hS := by assumption) (h := ?r12) | (refine Mem.tkY 5 ?v12 (hy := Or.inl ⟨by rfl, ?y12⟩) (hS := by assumption) (h := ?r12); case y12 => (intro w hSw; clear hSw; go_simp; try with_reducible rfl))
            case' r12 => skip
            refine Mem.tkY 6 ?v13 (hy := Or.inl ⟨by rfl, ?y13⟩) (hS := by assumption) (h := ?r13)
            case y13 => (intro w hSw; clear hSw; go_simp; try with_reducible rfl)
            case' r13 => skip
            refine Mem.tkY 7 ?v14 (hy := Or.inl ⟨by rfl, ?y14⟩) (hS := by assumption) (h := ?r14)
            case y14 => (intro w hSw; clear hSw; go_simp; try with_reducible rfl)
            case' r14 => skip
            try simp only [List.getElem_toArray, List.getElem_cons_succ, List.getElem_cons_zero, Act.put, List.setIfInBounds_toArray, List.set_cons_zero, List.set_cons_succ]
            first | refine Mem.tkY 8 undef (hy := Or.inr ⟨by rfl, rfl⟩) (hS := by assumption) (h := ?r15) | (refine Mem.tkY 8 ?v15 (hy := Or.inl ⟨by rfl, ?y15⟩) (hS := by assumption) (h := ?r15); case y15 => (intro w hSw; clear hSw; go_simp; try with_reducible rfl))
            case' r15 => skip
            try simp only [List.getElem_toArray, List.getElem_cons_succ, List.getElem_cons_zero, Act.put, List.setIfInBounds_toArray, List.set_cons_zero, List.set_cons_succ]
            first | refine Mem.tkY 9 undef (hy := Or.inr ⟨by rfl, rfl⟩) (hS := by assumption) (h := ?r16) | (refine Mem.tkY 9 ?v16 (hy := Or.inl ⟨by rfl, ?y16⟩) (hS := by assumption) (h := ?r16); case y16 => (intro w hSw; clear hSw; go_simp; try with_reducible rfl))
            case' r16 => skip
            try simp only [List.getElem_toArray, List.getElem_cons_succ, List.getElem_cons_zero, Act.put, List.setIfInBounds_toArray, List.set_cons_zero, List.set_cons_succ]
            first | refine Mem.tkY 10 undef (hy := Or.inr ⟨by rfl, rfl⟩) (hS := by assumption) (h := ?r17) | (refine Mem.tkY 10 ?v17 (hy := Or.inl ⟨by rfl, ?y17⟩) (hS := by assumption) (h := ?r17); case y17 => (intro w hSw; clear hSw; go_simp; try with_reducible rfl))
            case' r17 => skip
            first
              | refine' wpAnyH_take (i := 11) (v := _) rfl (by kernel_rfl) (by kernel_rfl) (by kernel_rfl) (fun _ _ _ h => h) (yieldsIf_load_mid (by rfl) _ _ rfl _ _ rfl _ _ (fun w hSw => Mem.range_below hSw (by first | omega | (simp <;> omega)) r1) blkUnd rfl hi) (by assumption) ?rest18
              | refine wpAnyH_take (i := 11) (v := undef) rfl (by kernel_rfl) (by kernel_rfl) (by kernel_rfl) (fun _ _ _ h => h) (Or.inr ⟨by rfl, rfl⟩) (by assumption) ?rest18
            case' rest18 => skip
            try simp only [List.getElem_toArray, List.getElem_cons_succ, List.getElem_cons_zero, Act.put, List.setIfInBounds_toArray, List.set_cons_zero, List.set_cons_succ]
            first
              | refine' wpAnyH_take (i := 12) (v := _) rfl (by kernel_rfl) (by kernel_rfl) (by kernel_rfl) (fun _ _ _ h => h) (yieldsIf_load_mid (by rfl) _ _ rfl _ _ rfl _ _ (fun w hSw => (Mem.bl_row hSw k7d (by first | exact Mem.Row.lt k7d | omega | (simp <;> omega))).range) blkUnd rfl hi) (by assumption) ?rest19
              | refine wpAnyH_take (i := 12) (v := undef) rfl (by kernel_rfl) (by kernel_rfl) (by kernel_rfl) (fun _ _ _ h => h) (Or.inr ⟨by rfl, rfl⟩) (by assumption) ?rest19
            case' rest19 => skip
            try simp only [List.getElem_toArray, List.getElem_cons_succ, List.getElem_cons_zero, Act.put, List.setIfInBounds_toArray, List.set_cons_zero, List.set_cons_succ]
            try simp only [List.getElem_toArray, List.getElem_cons_succ, List.getElem_cons_zero, Act.put, List.setIfInBounds_toArray, List.set_cons_zero, List.set_cons_succ]
            first | refine Mem.tkY 13 undef (hy := Or.inr ⟨by rfl, rfl⟩) (hS := by assumption) (h := ?r20) | (refine Mem.tkY 13 ?v20 (hy := Or.inl ⟨by rfl, ?y20⟩) (hS := by assumption) (h := ?r20); case y20 => (intro w hSw; clear hSw; go_simp; try with_reducible rfl))
            case' r20 => skip
            refine Mem.tkY 14 ?v21 (hy := Or.inl ⟨by rfl, ?y21⟩) (hS := by assumption) (h := ?r21)
            case y21 => (intro w hSw; clear hSw; go_simp; try with_reducible rfl)
            case' r21 => skip
            try simp only [List.getElem_toArray, List.getElem_cons_succ, List.getElem_cons_zero, Act.put, List.setIfInBounds_toArray, List.set_cons_zero, List.set_cons_succ]
            refine wpAnyH_done (by kernel_rfl) ?_ _
            go_wp2_with fail
            go_roundw
            case rel => exact ⟨q + 1, v, S3, by omega, by go_num, HC7.out.below ((Below.refl _ _).drew.trans hHeld), HI3, HRD3, Bks.below HBK7.out ((Below.refl _ _).drew.trans hHeld), HW3, HB7.out.trans (((Below.refl _ _).drew.trans hHeld).mono HB7.out.size)⟩
            case measure => simp [intOf]; omega
          · obtain rfl : q = 16 := by omega
            have HBR := Lib.hid hbr
            clear hc hbk hbr
            go_wp2_with (refine (works12 _).mono ?_; rintro e w9 ⟨rfl, hb9⟩)
            go_ret
            exact ⟨rfl, HBR.out.trans (hb9.mono HBR.out.size)⟩
end Go.Proofs.Ytdhgkabbepbgpaa.Cb
