/- For whom a change waits: the contract of ready.waits. No statement is proved here. -/
import Derived.Test.YteeodeooicoekaaIx
import Derived.Deep.RegionHeld3
namespace Go.Proofs.Yteeodeooicoekaa.Rd
open Go.RowKit Go.Proofs.Yteeodeooicoekaa.Mem Go.Proofs.Yteeodeooicoekaa.Open Go.Proofs.Yteeodeooicoekaa.Kind Go.Proofs.Yteeodeooicoekaa.Blk Go.Proofs.Yteeodeooicoekaa.App Go.Proofs.Yteeodeooicoekaa.Pat
set_option linter.unusedVariables false
set_option linter.unusedSimpArgs false
/-- Those of some numbers that a map has, put in. -/
def wN (f : Int → Int) : List Int → List Int → List Int
  | [], out => out
  | n :: r, out => wN f r (if f n = 0 then out else putL out n)
/-- Does a change meet one of its block? -/
def metC (x t : Chg) : Bool := decide (x.blk = t.blk) && meetB x.pa x.pd.length t.pa t.pd.length
def wM (t : Chg) : List Chg → List Int → List Int
  | [], out => out
  | x :: r, out => wM t r (if metC x t then putL out x.id else out)
def wP (xs : List Chg) (k : Nat) (t : Chg) (f : Int → Int) : List Int := wM t (xs.take k) (wN f t.needs [])
theorem chs_take {w : World} {A : Option Addr} {xs : List Chg} (h : Chs w A xs) (m : Nat) (hm : m ≤ xs.length) : Chs w A (xs.take m) := by
  have e : (xs.take m).length = m := by rw [List.length_take]; omega
  show Rw kChg w (All w) A (xs.take m).length (xs.take m)
  rw [e]
  exact h.take m hm
set_option maxHeartbeats 4000000 in
set_option maxRecDepth 100000 in
theorem waits_core (A : Option Addr) (c : Nat) (xs : List Chg) (k : Nat) (hk : k < xs.length) (b m : Nat) (f : Int → Int) (w : World) (hx : Chs w A xs) (hcap : xs.length ≤ c) (hcm : c ≤ M63) (hmp : Mp w b m f) (hn : xs.length ≤ 1000) (hs : Small xs) :
    Calls Try.prog 70 #[.slice A xs.length c, .int .i64 k, .map (some b)] w fun r w' => ∃ v, r = .returned v ∧ Own w' w.heap.size 3 V64 v (wP xs k xs[k] f) ∧ (wP xs k xs[k] f).length ≤ 2000 ∧ Below w.heap.size w w' := by
  have hl := hx.2.1
  unfold M63 at hl hcm
  obtain ⟨g, o, rfl, hg⟩ := ch_form hx (by omega)
  obtain ⟨T1, d1, T2, d2, hat⟩ := ch_at hx k hk
  have hsm := (hs _ (List.getElem_mem hk)).2
  have hxt := chs_take hx k (by omega)
  have hlt : (xs.take k).length = k := by rw [List.length_take]; omega
  have HP : Hid (wP xs k xs[k] f = wM xs[k] (xs.take k) (wN f xs[k].needs [])) := Lib.hid rfl
  have hisn := hat.n.2.2.2
  have hwfn := is_wf hisn
  have h4 := hat.v4
  have hpl : xs[k].pd.length ≤ M63 := hat.p.2.2.2.2.1
  have HAT := Lib.hid hat
  clear hat
  generalize xs.take k = ys at *
  generalize xs[k] = t at *
  generalize wP xs k t f = R at *
  go_enter Try.func70, Try.ntmps70
  go_wp2
  go_loopw [7, 18] (fun v i wr => ∃ (j : Nat) (out : List Int), j ≤ t.needs.length ∧ i = .int .i64 j ∧ out.length ≤ j ∧ Hid (wN f t.needs [] = wN f (t.needs.drop j) out) ∧ Own wr w.heap.size 3 V64 v out ∧ Below w.heap.size w wr) (fun _ i _ => t.needs.length - (intOf i).toNat)
  case atStart => exact ⟨0, [], by omega, rfl, by simp, Lib.hid rfl, Own.nil _ _ _ _, Below.refl _ _⟩
  case round =>
    obtain ⟨j, out, hj, rfl, hol, hv, hown, hbr⟩ := hrel
    by_cases hjl : j < t.needs.length
    · obtain ⟨g2, o2, rfl, hg2, hc0⟩ := is_at hisn j hjl
      have hc := (hbr.cell (p := ⟨g2, o2 + j, none⟩) hg2).trans hc0
      have hv := hv.out
      rw [drop_at hjl] at hv
      have hwx := hwfn _ (List.getElem_mem hjl)
      have hm := hmp.below hbr
      have hbs := hbr.size
      clear hc0
      generalize t.needs[j] = x at *
      by_cases hf : f x = 0
      · have HV : Hid (wN f t.needs [] = wN f (t.needs.drop (j + 1)) out) := Lib.hid (by rw [hv, wN, if_pos hf])
        have hne : (f x != 0) = false := by rw [hf]; rfl
        have HO := Lib.hid hown
        clear hv hf hown
        go_wp2_with (at_lookup; go_loud (refine wpList_mapGet rfl _ _ rfl rfl hm x rfl hwx ?_))
        go_roundw
        case rel => exact ⟨j + 1, out, by omega, by go_num, by omega, HV, HO.out, hbr⟩
        case measure => simp [intOf]; omega
      · have HV : Hid (wN f t.needs [] = wN f (t.needs.drop (j + 1)) (putL out x)) := Lib.hid (by rw [hv, wN, if_neg hf])
        have hne : (f x != 0) = true := bne_iff_ne.2 hf
        have CP := Lib.hid (put_any w.heap.size _ out x wr hown hbr.size (by omega) hwx)
        have hpl2 := putL_len out x
        generalize putL out x = out2 at *
        clear hv hf hown
        go_wp2_with (at_lookup; go_loud (refine wpList_mapGet rfl _ _ rfl rfl hm x rfl hwx ?_))
        refine CP.out.mono ?_
        rintro e wb ⟨v2, rfl, hown2, hbl⟩
        have HO := Lib.hid hown2
        have hb2 := hbr.trans hbl
        clear hown2 hbl CP
        go_wp2_with fail
        go_roundw
        case rel => exact ⟨j + 1, out2, by omega, by go_num, by omega, HV, HO.out, hb2⟩
        case measure => simp [intOf]; omega
    · obtain rfl : j = t.needs.length := by omega
      have hv := hv.out
      rw [drop_end] at hv
      have HV : Hid (wN f t.needs [] = out) := Lib.hid hv
      have HO := Lib.hid hown
      clear hv hown hisn hwfn h4
      have hkc : k ≤ c := by omega
      go_wp2_with fail
      have hol2 : out.length ≤ 60 := by omega
      generalize u7 = v7 at *
      clear hjl hj hol
      go_loopw [7, 34] (fun v i wr => ∃ (j : Nat) (out2 : List Int), j ≤ k ∧ i = .int .i64 j ∧ out2.length ≤ 60 + j ∧ Hid (wM t ys out = wM t (ys.drop j) out2) ∧ Own wr w.heap.size 3 V64 v out2 ∧ Below w.heap.size w wr) (fun _ i _ => k - (intOf i).toNat)
      case atStart => exact ⟨0, out, by omega, rfl, by omega, Lib.hid rfl, HO.out, hbr⟩
      case round =>
        clear hbr HO
        obtain ⟨j, out2, hj, rfl, hol, hv, hown, hbr⟩ := hrel
        by_cases hjk : j < k
        · obtain ⟨A1, c1, A2, c2, hat0⟩ := ch_at hxt j (by omega)
          have hat := hat0.below hbr
          have e0 := hat.v0
          have e1 := hat.v1
          have e2 := hat.v2
          have e3 : wr.cell? ⟨g, o + j * 5 + 3, none⟩ = _ := hat.v3
          have e4 := hat.v4
          have hp1 : ys[j].pd.length ≤ M63 := hat.p.2.2.2.2.1
          have hid := hat.ok.1
          have hv := hv.out
          rw [drop_at (by omega : j < ys.length)] at hv
          clear hat0 hat
          generalize ys[j]'(by omega) = x at *
          obtain ⟨⟨b1, b2, b3⟩⟩ : Nonempty (_ ∧ _ ∧ _) := ⟨boxed wr 62 chZ (chC x A1 c1 A2 c2)⟩
          have R0 : Row (wr.alloc (.cells chZ 62)) wr.heap.size 62 chZ := Row.new _ _ _
          have KB := Lib.hid b1
          have S := Lib.hid ((HAT.out.below hbr).below b2)
          have HOB := Lib.hid (hown.below b2)
          have HBB := Lib.hid (hbr.trans (b2.mono hbr.size))
          have hgB : g < ((wr.alloc (.cells chZ 62)).setRow wr.heap.size (chC x A1 c1 A2 c2)).heap.size := by have := hbr.size; have := b2.size; omega
          have hsz := hbr.size
          have hltB : wr.heap.size < ((wr.alloc (.cells chZ 62)).setRow wr.heap.size (chC x A1 c1 A2 c2)).heap.size := b3
          clear b1 b2 b3 hown hbr
          by_cases hblk : x.blk = t.blk
          · have hq : (x.blk == t.blk) = true := by rw [hblk]; exact beq_self_eq_true _
            have CM := Lib.hid (fun w' => meet_any x.pa A1 x.pd.length c1 t.pa T1 t.pd.length d1 w' hp1 hpl)
            cases hmt : meetB x.pa x.pd.length t.pa t.pd.length with
            | true =>
              have HV : Hid (wM t ys out = wM t (ys.drop (j + 1)) (putL out2 x.id)) := Lib.hid (by rw [hv, wM, if_pos (by unfold metC; rw [decide_eq_true hblk, hmt]; rfl)])
              rw [hmt] at CM
              have CP0 := Lib.hid (fun (u : Value) (w9 : World) (h1 : Own w9 w.heap.size 3 V64 u out2) (h2 : w.heap.size ≤ w9.heap.size) => put_any w.heap.size u out2 x.id w9 h1 h2 (by omega) hid)
              have hpl2 := putL_len out2 x.id
              obtain ⟨out3, ho3⟩ : ∃ o, putL out2 x.id = o := ⟨_, rfl⟩
              rw [ho3] at HV CP0 hpl2
              clear hv hblk hmt ho3
              go_wp2_with (first
                | (with_reducible refine wpList_allocA rfl 62 rfl _ chZero ?_)
                | (with_reducible refine wpList_storeRow rfl 62 _ _ rfl wr.heap.size rfl (chC x A1 c1 A2 c2) rfl chZ 62 5 chSize rfl rfl (chC_one _ _ _ _ _) R0 ?_))
              generalize (wr.alloc (.cells chZ 62)).setRow wr.heap.size (chC x A1 c1 A2 c2) = wB at *
              have hkb : Row wB.drew wr.heap.size 62 (chC x A1 c1 A2 c2) := KB.out
              have s1 : wB.drew.cell? ⟨g, o + k * 5 + 1, none⟩ = some (.int .i64 t.blk) := S.out.v1
              have s2 : wB.drew.cell? ⟨g, o + k * 5 + 2, none⟩ = some (.int .i64 t.pa) := S.out.v2
              have s3 : wB.drew.cell? ⟨g, o + k * 5 + 2 + 1, none⟩ = some (.slice T1 t.pd.length d1) := S.out.v3
              have hgl : g < wB.drew.heap.size := hgB
              have hkt := hkb
              refine wp_region_held_drew (S := Go.RowKit.Below ((wB.drew).heap.size) (wB.drew)) (by kernel_rfl) ?hb18 (fun hHeld => ?rest18)
              case hb18 =>
                exact Go.RowKit.Below.refl _ _
              case' rest18 => skip
              have hCl := fun (wS : World) (hSw : Go.RowKit.Below ((wB.drew).heap.size) (wB.drew) wS) => And.intro ((Mem.bl_row hSw hkb (by first | exact Mem.Row.lt hkb | omega | (simp <;> omega))).cell 0 rfl) <| And.intro ((Mem.bl_row hSw hkb (by first | exact Mem.Row.lt hkb | omega | (simp <;> omega))).cell 1 rfl) <| And.intro ((Mem.bl_row hSw hkb (by first | exact Mem.Row.lt hkb | omega | (simp <;> omega))).cell 2 rfl) <| And.intro ((Mem.bl_row hSw hkb (by first | exact Mem.Row.lt hkb | omega | (simp <;> omega))).cell 3 rfl) <| And.intro (Mem.bl_cell hSw s1 (by first | omega | (dsimp only; omega) | exact World.block_lt_of_cell? _ _ s1 | (simp <;> omega))) <| And.intro (Mem.bl_cell hSw s2 (by first | omega | (dsimp only; omega) | exact World.block_lt_of_cell? _ _ s2 | (simp <;> omega))) <| Mem.bl_cell hSw s3 (by first | omega | (dsimp only; omega) | exact World.block_lt_of_cell? _ _ s3 | (simp <;> omega))
              replace hCl := Go.Lib.hid hCl
              refine Mem.tkY 0 ?v19 (hy := Or.inl ⟨by rfl, ?y19⟩) (hS := by assumption) (h := ?r19)
              case y19 => (intro w hSw; clear hSw; go_simp; try with_reducible rfl)
              case' r19 => skip
              refine Mem.tkY 1 ?v20 (hy := Or.inl ⟨by rfl, ?y20⟩) (hS := by assumption) (h := ?r20)
              case y20 => (intro w hSw; obtain ⟨hT0, hT1, hT2, hT3, hT4, hT5, hT6⟩ := hCl.out w hSw; clear hSw; go_simp; try with_reducible rfl)
              case' r20 => skip
              refine Mem.tkY 2 ?v21 (hy := Or.inl ⟨by rfl, ?y21⟩) (hS := by assumption) (h := ?r21)
              case y21 => (intro w hSw; clear hSw; go_simp; try with_reducible rfl)
              case' r21 => skip
              try simp only [List.getElem_toArray, List.getElem_cons_succ, List.getElem_cons_zero, Act.put, List.setIfInBounds_toArray, List.set_cons_zero, List.set_cons_succ]
              refine Mem.tkY 3 ?v22 (hy := Or.inl ⟨by rfl, ?y22⟩) (hS := by assumption) (h := ?r22)
              case y22 => (intro w hSw; clear hSw; go_simp; try with_reducible rfl)
              case' r22 => skip
              refine Mem.tkY 4 ?v23 (hy := Or.inl ⟨by rfl, ?y23⟩) (hS := by assumption) (h := ?r23)
              case y23 => (intro w hSw; clear hSw; go_simp; try with_reducible rfl)
              case' r23 => skip
              refine Mem.tkY 5 ?v24 (hy := Or.inl ⟨by rfl, ?y24⟩) (hS := by assumption) (h := ?r24)
              case y24 => (intro w hSw; clear hSw; go_simp; try with_reducible rfl)
              case' r24 => skip
              try simp only [List.getElem_toArray, List.getElem_cons_succ, List.getElem_cons_zero, Act.put, List.setIfInBounds_toArray, List.set_cons_zero, List.set_cons_succ]
              refine Mem.tkY 6 ?v25 (hy := Or.inl ⟨by rfl, ?y25⟩) (hS := by assumption) (h := ?r25)
              case y25 => (intro w hSw; obtain ⟨hT0, hT1, hT2, hT3, hT4, hT5, hT6⟩ := hCl.out w hSw; clear hSw; go_simp; try with_reducible rfl)
              case' r25 => skip
              refine Mem.tkY 7 ?v26 (hy := Or.inl ⟨by rfl, ?y26⟩) (hS := by assumption) (h := ?r26)
              case y26 => (intro w hSw; clear hSw; go_simp; try with_reducible rfl)
              case' r26 => skip
              refine Mem.tkY 8 ?v27 (hy := Or.inl ⟨by rfl, ?y27⟩) (hS := by assumption) (h := ?r27)
              case y27 => (intro w hSw; clear hSw; go_simp; try with_reducible rfl)
              case' r27 => skip
              try simp only [List.getElem_toArray, List.getElem_cons_succ, List.getElem_cons_zero, Act.put, List.setIfInBounds_toArray, List.set_cons_zero, List.set_cons_succ]
              first | refine Mem.tkY 9 undef (hy := Or.inr ⟨by rfl, rfl⟩) (hS := by assumption) (h := ?r28) | (refine Mem.tkY 9 ?v28 (hy := Or.inl ⟨by rfl, ?y28⟩) (hS := by assumption) (h := ?r28); case y28 => (intro w hSw; clear hSw; go_simp; try with_reducible rfl))
              case' r28 => skip
              try simp only [List.getElem_toArray, List.getElem_cons_succ, List.getElem_cons_zero, Act.put, List.setIfInBounds_toArray, List.set_cons_zero, List.set_cons_succ]
              first | refine Mem.tkY 10 undef (hy := Or.inr ⟨by rfl, rfl⟩) (hS := by assumption) (h := ?r29) | (refine Mem.tkY 10 ?v29 (hy := Or.inl ⟨by rfl, ?y29⟩) (hS := by assumption) (h := ?r29); case y29 => (intro w hSw; obtain ⟨hT0, hT1, hT2, hT3, hT4, hT5, hT6⟩ := hCl.out w hSw; clear hSw; go_simp; try with_reducible rfl))
              case' r29 => skip
              try simp only [List.getElem_toArray, List.getElem_cons_succ, List.getElem_cons_zero, Act.put, List.setIfInBounds_toArray, List.set_cons_zero, List.set_cons_succ]
              first | refine Mem.tkY 11 undef (hy := Or.inr ⟨by rfl, rfl⟩) (hS := by assumption) (h := ?r30) | (refine Mem.tkY 11 ?v30 (hy := Or.inl ⟨by rfl, ?y30⟩) (hS := by assumption) (h := ?r30); case y30 => (intro w hSw; clear hSw; go_simp; try with_reducible rfl))
              case' r30 => skip
              try simp only [List.getElem_toArray, List.getElem_cons_succ, List.getElem_cons_zero, Act.put, List.setIfInBounds_toArray, List.set_cons_zero, List.set_cons_succ]
              first | refine Mem.tkY 12 undef (hy := Or.inr ⟨by rfl, rfl⟩) (hS := by assumption) (h := ?r31) | (refine Mem.tkY 12 ?v31 (hy := Or.inl ⟨by rfl, ?y31⟩) (hS := by assumption) (h := ?r31); case y31 => (intro w hSw; clear hSw; go_simp; try with_reducible rfl))
              case' r31 => skip
              try simp only [List.getElem_toArray, List.getElem_cons_succ, List.getElem_cons_zero, Act.put, List.setIfInBounds_toArray, List.set_cons_zero, List.set_cons_succ]
              first | refine Mem.tkY 13 undef (hy := Or.inr ⟨by rfl, rfl⟩) (hS := by assumption) (h := ?r32) | (refine Mem.tkY 13 ?v32 (hy := Or.inl ⟨by rfl, ?y32⟩) (hS := by assumption) (h := ?r32); case y32 => (intro w hSw; clear hSw; go_simp; try with_reducible rfl))
              case' r32 => skip
              try simp only [List.getElem_toArray, List.getElem_cons_succ, List.getElem_cons_zero, Act.put, List.setIfInBounds_toArray, List.set_cons_zero, List.set_cons_succ]
              first | refine Mem.tkY 14 undef (hy := Or.inr ⟨by rfl, rfl⟩) (hS := by assumption) (h := ?r33) | (refine Mem.tkY 14 ?v33 (hy := Or.inl ⟨by rfl, ?y33⟩) (hS := by assumption) (h := ?r33); case y33 => (intro w hSw; clear hSw; go_simp; try with_reducible rfl))
              case' r33 => skip
              try simp only [List.getElem_toArray, List.getElem_cons_succ, List.getElem_cons_zero, Act.put, List.setIfInBounds_toArray, List.set_cons_zero, List.set_cons_succ]
              first | refine Mem.tkY 15 undef (hy := Or.inr ⟨by rfl, rfl⟩) (hS := by assumption) (h := ?r34) | (refine Mem.tkY 15 ?v34 (hy := Or.inl ⟨by rfl, ?y34⟩) (hS := by assumption) (h := ?r34); case y34 => (intro w hSw; obtain ⟨hT0, hT1, hT2, hT3, hT4, hT5, hT6⟩ := hCl.out w hSw; clear hSw; go_simp; try with_reducible rfl))
              case' r34 => skip
              try simp only [List.getElem_toArray, List.getElem_cons_succ, List.getElem_cons_zero, Act.put, List.setIfInBounds_toArray, List.set_cons_zero, List.set_cons_succ]
              refine wpAnyH_ready (rs := [16]) (by kernel_rfl) (by simp) ?_
              refine AllReadyH.cons rfl (fun K hK => ?_) AllReadyH.nil
              go_simp
              (refine (CM.out _).mono ?_; rintro e wb ⟨rfl, hbl⟩)
              try go_wp2_with fail
              have hSnew := Mem.bl_step hHeld hbl (by first | exact Nat.le_refl _ | omega | (simp <;> omega))
              refine hK.out _ _ ?_ (fun hHeld2 => ?_)
              · exact hSnew
              try replace hkt := hkt.below hbl
              clear hbl
              clear hK K hHeld hSnew
              have hHeld := hHeld2
              clear hHeld2
              try simp only [List.getElem_toArray, List.getElem_cons_succ, List.getElem_cons_zero, Act.put, List.setIfInBounds_toArray, List.set_cons_zero, List.set_cons_succ]
              refine Mem.tkY 17 ?v35 (hy := Or.inl ⟨by rfl, ?y35⟩) (hS := by assumption) (h := ?r35)
              case y35 => (intro w hSw; clear hSw; go_simp; try with_reducible rfl)
              case' r35 => skip
              try simp only [List.getElem_toArray, List.getElem_cons_succ, List.getElem_cons_zero, Act.put, List.setIfInBounds_toArray, List.set_cons_zero, List.set_cons_succ]
              refine wpAnyH_done (by kernel_rfl) ?_ _
              clear hCl
              have q0 : World.cell? _ ⟨wr.heap.size, 0, none⟩ = some (.int .i64 x.id) := hkt.cell 0 rfl
              have hb5 := (Below.refl wB.heap.size wB).drew.trans hHeld
              have CP := Lib.hid (CP0.out _ _ (HOB.out.below hb5) (Nat.le_trans HBB.out.size hb5.size))
              have HB6 := Lib.hid (HBB.out.trans (hb5.mono HBB.out.size))
              clear s1 s2 s3 hb5 hkb hkt HOB
              go_wp2_with fail
              refine CP.out.mono ?_
              rintro e wd ⟨v2, rfl, hown2, hbl2⟩
              have HO2 := Lib.hid hown2
              have HB7 := Lib.hid (HB6.out.trans hbl2)
              clear hown2 hbl2 CP HB6
              go_wp2_with fail
              go_roundw
              case rel => exact ⟨j + 1, out3, by omega, by go_num, by omega, HV, HO2.out, HB7.out⟩
              case measure => simp [intOf]; omega
            | false =>
              have HV : Hid (wM t ys out = wM t (ys.drop (j + 1)) out2) := Lib.hid (by rw [hv, wM, if_neg (by unfold metC; rw [hmt, Bool.and_false]; simp)])
              rw [hmt] at CM
              clear hv hblk hmt
              go_wp2_with (first
                | (with_reducible refine wpList_allocA rfl 62 rfl _ chZero ?_)
                | (with_reducible refine wpList_storeRow rfl 62 _ _ rfl wr.heap.size rfl (chC x A1 c1 A2 c2) rfl chZ 62 5 chSize rfl rfl (chC_one _ _ _ _ _) R0 ?_))
              generalize (wr.alloc (.cells chZ 62)).setRow wr.heap.size (chC x A1 c1 A2 c2) = wB at *
              have hkb : Row wB.drew wr.heap.size 62 (chC x A1 c1 A2 c2) := KB.out
              have s1 : wB.drew.cell? ⟨g, o + k * 5 + 1, none⟩ = some (.int .i64 t.blk) := S.out.v1
              have s2 : wB.drew.cell? ⟨g, o + k * 5 + 2, none⟩ = some (.int .i64 t.pa) := S.out.v2
              have s3 : wB.drew.cell? ⟨g, o + k * 5 + 2 + 1, none⟩ = some (.slice T1 t.pd.length d1) := S.out.v3
              have hgl : g < wB.drew.heap.size := hgB
              have hkt := hkb
              refine wp_region_held_drew (S := Go.RowKit.Below ((wB.drew).heap.size) (wB.drew)) (by kernel_rfl) ?hb46 (fun hHeld => ?rest46)
              case hb46 =>
                exact Go.RowKit.Below.refl _ _
              case' rest46 => skip
              have hCl := fun (wS : World) (hSw : Go.RowKit.Below ((wB.drew).heap.size) (wB.drew) wS) => And.intro ((Mem.bl_row hSw hkb (by first | exact Mem.Row.lt hkb | omega | (simp <;> omega))).cell 0 rfl) <| And.intro ((Mem.bl_row hSw hkb (by first | exact Mem.Row.lt hkb | omega | (simp <;> omega))).cell 1 rfl) <| And.intro ((Mem.bl_row hSw hkb (by first | exact Mem.Row.lt hkb | omega | (simp <;> omega))).cell 2 rfl) <| And.intro ((Mem.bl_row hSw hkb (by first | exact Mem.Row.lt hkb | omega | (simp <;> omega))).cell 3 rfl) <| And.intro (Mem.bl_cell hSw s1 (by first | omega | (dsimp only; omega) | exact World.block_lt_of_cell? _ _ s1 | (simp <;> omega))) <| And.intro (Mem.bl_cell hSw s2 (by first | omega | (dsimp only; omega) | exact World.block_lt_of_cell? _ _ s2 | (simp <;> omega))) <| Mem.bl_cell hSw s3 (by first | omega | (dsimp only; omega) | exact World.block_lt_of_cell? _ _ s3 | (simp <;> omega))
              replace hCl := Go.Lib.hid hCl
              refine Mem.tkY 0 ?v47 (hy := Or.inl ⟨by rfl, ?y47⟩) (hS := by assumption) (h := ?r47)
              case y47 => (intro w hSw; clear hSw; go_simp; try with_reducible rfl)
              case' r47 => skip
              refine Mem.tkY 1 ?v48 (hy := Or.inl ⟨by rfl, ?y48⟩) (hS := by assumption) (h := ?r48)
              case y48 => (intro w hSw; obtain ⟨hT0, hT1, hT2, hT3, hT4, hT5, hT6⟩ := hCl.out w hSw; clear hSw; go_simp; try with_reducible rfl)
              case' r48 => skip
              refine Mem.tkY 2 ?v49 (hy := Or.inl ⟨by rfl, ?y49⟩) (hS := by assumption) (h := ?r49)
              case y49 => (intro w hSw; clear hSw; go_simp; try with_reducible rfl)
              case' r49 => skip
              try simp only [List.getElem_toArray, List.getElem_cons_succ, List.getElem_cons_zero, Act.put, List.setIfInBounds_toArray, List.set_cons_zero, List.set_cons_succ]
              refine Mem.tkY 3 ?v50 (hy := Or.inl ⟨by rfl, ?y50⟩) (hS := by assumption) (h := ?r50)
              case y50 => (intro w hSw; clear hSw; go_simp; try with_reducible rfl)
              case' r50 => skip
              refine Mem.tkY 4 ?v51 (hy := Or.inl ⟨by rfl, ?y51⟩) (hS := by assumption) (h := ?r51)
              case y51 => (intro w hSw; clear hSw; go_simp; try with_reducible rfl)
              case' r51 => skip
              refine Mem.tkY 5 ?v52 (hy := Or.inl ⟨by rfl, ?y52⟩) (hS := by assumption) (h := ?r52)
              case y52 => (intro w hSw; clear hSw; go_simp; try with_reducible rfl)
              case' r52 => skip
              try simp only [List.getElem_toArray, List.getElem_cons_succ, List.getElem_cons_zero, Act.put, List.setIfInBounds_toArray, List.set_cons_zero, List.set_cons_succ]
              refine Mem.tkY 6 ?v53 (hy := Or.inl ⟨by rfl, ?y53⟩) (hS := by assumption) (h := ?r53)
              case y53 => (intro w hSw; obtain ⟨hT0, hT1, hT2, hT3, hT4, hT5, hT6⟩ := hCl.out w hSw; clear hSw; go_simp; try with_reducible rfl)
              case' r53 => skip
              refine Mem.tkY 7 ?v54 (hy := Or.inl ⟨by rfl, ?y54⟩) (hS := by assumption) (h := ?r54)
              case y54 => (intro w hSw; clear hSw; go_simp; try with_reducible rfl)
              case' r54 => skip
              refine Mem.tkY 8 ?v55 (hy := Or.inl ⟨by rfl, ?y55⟩) (hS := by assumption) (h := ?r55)
              case y55 => (intro w hSw; clear hSw; go_simp; try with_reducible rfl)
              case' r55 => skip
              try simp only [List.getElem_toArray, List.getElem_cons_succ, List.getElem_cons_zero, Act.put, List.setIfInBounds_toArray, List.set_cons_zero, List.set_cons_succ]
              first | refine Mem.tkY 9 undef (hy := Or.inr ⟨by rfl, rfl⟩) (hS := by assumption) (h := ?r56) | (refine Mem.tkY 9 ?v56 (hy := Or.inl ⟨by rfl, ?y56⟩) (hS := by assumption) (h := ?r56); case y56 => (intro w hSw; clear hSw; go_simp; try with_reducible rfl))
              case' r56 => skip
              try simp only [List.getElem_toArray, List.getElem_cons_succ, List.getElem_cons_zero, Act.put, List.setIfInBounds_toArray, List.set_cons_zero, List.set_cons_succ]
              first | refine Mem.tkY 10 undef (hy := Or.inr ⟨by rfl, rfl⟩) (hS := by assumption) (h := ?r57) | (refine Mem.tkY 10 ?v57 (hy := Or.inl ⟨by rfl, ?y57⟩) (hS := by assumption) (h := ?r57); case y57 => (intro w hSw; obtain ⟨hT0, hT1, hT2, hT3, hT4, hT5, hT6⟩ := hCl.out w hSw; clear hSw; go_simp; try with_reducible rfl))
              case' r57 => skip
              try simp only [List.getElem_toArray, List.getElem_cons_succ, List.getElem_cons_zero, Act.put, List.setIfInBounds_toArray, List.set_cons_zero, List.set_cons_succ]
              first | refine Mem.tkY 11 undef (hy := Or.inr ⟨by rfl, rfl⟩) (hS := by assumption) (h := ?r58) | (refine Mem.tkY 11 ?v58 (hy := Or.inl ⟨by rfl, ?y58⟩) (hS := by assumption) (h := ?r58); case y58 => (intro w hSw; clear hSw; go_simp; try with_reducible rfl))
              case' r58 => skip
              try simp only [List.getElem_toArray, List.getElem_cons_succ, List.getElem_cons_zero, Act.put, List.setIfInBounds_toArray, List.set_cons_zero, List.set_cons_succ]
              first | refine Mem.tkY 12 undef (hy := Or.inr ⟨by rfl, rfl⟩) (hS := by assumption) (h := ?r59) | (refine Mem.tkY 12 ?v59 (hy := Or.inl ⟨by rfl, ?y59⟩) (hS := by assumption) (h := ?r59); case y59 => (intro w hSw; clear hSw; go_simp; try with_reducible rfl))
              case' r59 => skip
              try simp only [List.getElem_toArray, List.getElem_cons_succ, List.getElem_cons_zero, Act.put, List.setIfInBounds_toArray, List.set_cons_zero, List.set_cons_succ]
              first | refine Mem.tkY 13 undef (hy := Or.inr ⟨by rfl, rfl⟩) (hS := by assumption) (h := ?r60) | (refine Mem.tkY 13 ?v60 (hy := Or.inl ⟨by rfl, ?y60⟩) (hS := by assumption) (h := ?r60); case y60 => (intro w hSw; clear hSw; go_simp; try with_reducible rfl))
              case' r60 => skip
              try simp only [List.getElem_toArray, List.getElem_cons_succ, List.getElem_cons_zero, Act.put, List.setIfInBounds_toArray, List.set_cons_zero, List.set_cons_succ]
              first | refine Mem.tkY 14 undef (hy := Or.inr ⟨by rfl, rfl⟩) (hS := by assumption) (h := ?r61) | (refine Mem.tkY 14 ?v61 (hy := Or.inl ⟨by rfl, ?y61⟩) (hS := by assumption) (h := ?r61); case y61 => (intro w hSw; clear hSw; go_simp; try with_reducible rfl))
              case' r61 => skip
              try simp only [List.getElem_toArray, List.getElem_cons_succ, List.getElem_cons_zero, Act.put, List.setIfInBounds_toArray, List.set_cons_zero, List.set_cons_succ]
              first | refine Mem.tkY 15 undef (hy := Or.inr ⟨by rfl, rfl⟩) (hS := by assumption) (h := ?r62) | (refine Mem.tkY 15 ?v62 (hy := Or.inl ⟨by rfl, ?y62⟩) (hS := by assumption) (h := ?r62); case y62 => (intro w hSw; obtain ⟨hT0, hT1, hT2, hT3, hT4, hT5, hT6⟩ := hCl.out w hSw; clear hSw; go_simp; try with_reducible rfl))
              case' r62 => skip
              try simp only [List.getElem_toArray, List.getElem_cons_succ, List.getElem_cons_zero, Act.put, List.setIfInBounds_toArray, List.set_cons_zero, List.set_cons_succ]
              refine wpAnyH_ready (rs := [16]) (by kernel_rfl) (by simp) ?_
              refine AllReadyH.cons rfl (fun K hK => ?_) AllReadyH.nil
              go_simp
              (refine (CM.out _).mono ?_; rintro e wb ⟨rfl, hbl⟩)
              try go_wp2_with fail
              have hSnew := Mem.bl_step hHeld hbl (by first | exact Nat.le_refl _ | omega | (simp <;> omega))
              refine hK.out _ _ ?_ (fun hHeld2 => ?_)
              · exact hSnew
              try replace hkt := hkt.below hbl
              clear hbl
              clear hK K hHeld hSnew
              have hHeld := hHeld2
              clear hHeld2
              try simp only [List.getElem_toArray, List.getElem_cons_succ, List.getElem_cons_zero, Act.put, List.setIfInBounds_toArray, List.set_cons_zero, List.set_cons_succ]
              refine Mem.tkY 17 ?v63 (hy := Or.inl ⟨by rfl, ?y63⟩) (hS := by assumption) (h := ?r63)
              case y63 => (intro w hSw; clear hSw; go_simp; try with_reducible rfl)
              case' r63 => skip
              try simp only [List.getElem_toArray, List.getElem_cons_succ, List.getElem_cons_zero, Act.put, List.setIfInBounds_toArray, List.set_cons_zero, List.set_cons_succ]
              refine wpAnyH_done (by kernel_rfl) ?_ _
              clear hCl
              have hb5 := (Below.refl wB.heap.size wB).drew.trans hHeld
              have HB6 := Lib.hid (HBB.out.trans (hb5.mono HBB.out.size))
              have HO2 := Lib.hid (HOB.out.below hb5)
              clear s1 s2 s3 hb5 hkb hkt
              go_wp2_with fail
              go_roundw
              case rel => exact ⟨j + 1, out2, by omega, by go_num, by omega, HV, HO2.out, HB6.out⟩
              case measure => simp [intOf]; omega
          · have hq : (x.blk == t.blk) = false := beq_eq_false_iff_ne.2 hblk
            have HV : Hid (wM t ys out = wM t (ys.drop (j + 1)) out2) := Lib.hid (by rw [hv, wM, if_neg (by unfold metC; rw [decide_eq_false hblk]; simp)])
            clear hv hblk
            go_wp2_with (first
              | (with_reducible refine wpList_allocA rfl 62 rfl _ chZero ?_)
              | (with_reducible refine wpList_storeRow rfl 62 _ _ rfl wr.heap.size rfl (chC x A1 c1 A2 c2) rfl chZ 62 5 chSize rfl rfl (chC_one _ _ _ _ _) R0 ?_))
            generalize (wr.alloc (.cells chZ 62)).setRow wr.heap.size (chC x A1 c1 A2 c2) = wB at *
            have hkb : Row wB.drew wr.heap.size 62 (chC x A1 c1 A2 c2) := KB.out
            have s1 : wB.drew.cell? ⟨g, o + k * 5 + 1, none⟩ = some (.int .i64 t.blk) := S.out.v1
            have s2 : wB.drew.cell? ⟨g, o + k * 5 + 2, none⟩ = some (.int .i64 t.pa) := S.out.v2
            have s3 : wB.drew.cell? ⟨g, o + k * 5 + 2 + 1, none⟩ = some (.slice T1 t.pd.length d1) := S.out.v3
            have hgl : g < wB.drew.heap.size := hgB
            have hkt := hkb
            refine wp_region_held_drew (S := Go.RowKit.Below ((wB.drew).heap.size) (wB.drew)) (by kernel_rfl) ?hb73 (fun hHeld => ?rest73)
            case hb73 =>
              exact Go.RowKit.Below.refl _ _
            case' rest73 => skip
            have hCl := fun (wS : World) (hSw : Go.RowKit.Below ((wB.drew).heap.size) (wB.drew) wS) => And.intro ((Mem.bl_row hSw hkb (by first | exact Mem.Row.lt hkb | omega | (simp <;> omega))).cell 0 rfl) <| And.intro ((Mem.bl_row hSw hkb (by first | exact Mem.Row.lt hkb | omega | (simp <;> omega))).cell 1 rfl) <| And.intro ((Mem.bl_row hSw hkb (by first | exact Mem.Row.lt hkb | omega | (simp <;> omega))).cell 2 rfl) <| And.intro ((Mem.bl_row hSw hkb (by first | exact Mem.Row.lt hkb | omega | (simp <;> omega))).cell 3 rfl) <| And.intro (Mem.bl_cell hSw s1 (by first | omega | (dsimp only; omega) | exact World.block_lt_of_cell? _ _ s1 | (simp <;> omega))) <| And.intro (Mem.bl_cell hSw s2 (by first | omega | (dsimp only; omega) | exact World.block_lt_of_cell? _ _ s2 | (simp <;> omega))) <| Mem.bl_cell hSw s3 (by first | omega | (dsimp only; omega) | exact World.block_lt_of_cell? _ _ s3 | (simp <;> omega))
            replace hCl := Go.Lib.hid hCl
            refine Mem.tkY 0 ?v74 (hy := Or.inl ⟨by rfl, ?y74⟩) (hS := by assumption) (h := ?r74)
            case y74 => (intro w hSw; clear hSw; go_simp; try with_reducible rfl)
            case' r74 => skip
            refine Mem.tkY 1 ?v75 (hy := Or.inl ⟨by rfl, ?y75⟩) (hS := by assumption) (h := ?r75)
            case y75 => (intro w hSw; obtain ⟨hT0, hT1, hT2, hT3, hT4, hT5, hT6⟩ := hCl.out w hSw; clear hSw; go_simp; try with_reducible rfl)
            case' r75 => skip
            refine Mem.tkY 2 ?v76 (hy := Or.inl ⟨by rfl, ?y76⟩) (hS := by assumption) (h := ?r76)
            case y76 => (intro w hSw; clear hSw; go_simp; try with_reducible rfl)
            case' r76 => skip
            try simp only [List.getElem_toArray, List.getElem_cons_succ, List.getElem_cons_zero, Act.put, List.setIfInBounds_toArray, List.set_cons_zero, List.set_cons_succ]
            refine Mem.tkY 3 ?v77 (hy := Or.inl ⟨by rfl, ?y77⟩) (hS := by assumption) (h := ?r77)
            case y77 => (intro w hSw; clear hSw; go_simp; try with_reducible rfl)
            case' r77 => skip
            refine Mem.tkY 4 ?v78 (hy := Or.inl ⟨by rfl, ?y78⟩) (hS := by assumption) (h := ?r78)
            case y78 => (intro w hSw; clear hSw; go_simp; try with_reducible rfl)
            case' r78 => skip
            refine Mem.tkY 5 ?v79 (hy := Or.inl ⟨by rfl, ?y79⟩) (hS := by assumption) (h := ?r79)
            case y79 => (intro w hSw; clear hSw; go_simp; try with_reducible rfl)
            case' r79 => skip
            try simp only [List.getElem_toArray, List.getElem_cons_succ, List.getElem_cons_zero, Act.put, List.setIfInBounds_toArray, List.set_cons_zero, List.set_cons_succ]
            refine Mem.tkY 6 ?v80 (hy := Or.inl ⟨by rfl, ?y80⟩) (hS := by assumption) (h := ?r80)
            case y80 => (intro w hSw; obtain ⟨hT0, hT1, hT2, hT3, hT4, hT5, hT6⟩ := hCl.out w hSw; clear hSw; go_simp; try with_reducible rfl)
            case' r80 => skip
            refine Mem.tkY 7 ?v81 (hy := Or.inl ⟨by rfl, ?y81⟩) (hS := by assumption) (h := ?r81)
            case y81 => (intro w hSw; clear hSw; go_simp; try with_reducible rfl)
            case' r81 => skip
            refine Mem.tkY 8 ?v82 (hy := Or.inl ⟨by rfl, ?y82⟩) (hS := by assumption) (h := ?r82)
            case y82 => (intro w hSw; clear hSw; go_simp; try with_reducible rfl)
            case' r82 => skip
            try simp only [List.getElem_toArray, List.getElem_cons_succ, List.getElem_cons_zero, Act.put, List.setIfInBounds_toArray, List.set_cons_zero, List.set_cons_succ]
            first | refine Mem.tkY 9 undef (hy := Or.inr ⟨by rfl, rfl⟩) (hS := by assumption) (h := ?r83) | (refine Mem.tkY 9 ?v83 (hy := Or.inl ⟨by rfl, ?y83⟩) (hS := by assumption) (h := ?r83); case y83 => (intro w hSw; clear hSw; go_simp; try with_reducible rfl))
            case' r83 => skip
            try simp only [List.getElem_toArray, List.getElem_cons_succ, List.getElem_cons_zero, Act.put, List.setIfInBounds_toArray, List.set_cons_zero, List.set_cons_succ]
            first | refine Mem.tkY 10 undef (hy := Or.inr ⟨by rfl, rfl⟩) (hS := by assumption) (h := ?r84) | (refine Mem.tkY 10 ?v84 (hy := Or.inl ⟨by rfl, ?y84⟩) (hS := by assumption) (h := ?r84); case y84 => (intro w hSw; obtain ⟨hT0, hT1, hT2, hT3, hT4, hT5, hT6⟩ := hCl.out w hSw; clear hSw; go_simp; try with_reducible rfl))
            case' r84 => skip
            try simp only [List.getElem_toArray, List.getElem_cons_succ, List.getElem_cons_zero, Act.put, List.setIfInBounds_toArray, List.set_cons_zero, List.set_cons_succ]
            first | refine Mem.tkY 11 undef (hy := Or.inr ⟨by rfl, rfl⟩) (hS := by assumption) (h := ?r85) | (refine Mem.tkY 11 ?v85 (hy := Or.inl ⟨by rfl, ?y85⟩) (hS := by assumption) (h := ?r85); case y85 => (intro w hSw; clear hSw; go_simp; try with_reducible rfl))
            case' r85 => skip
            try simp only [List.getElem_toArray, List.getElem_cons_succ, List.getElem_cons_zero, Act.put, List.setIfInBounds_toArray, List.set_cons_zero, List.set_cons_succ]
            first | refine Mem.tkY 12 undef (hy := Or.inr ⟨by rfl, rfl⟩) (hS := by assumption) (h := ?r86) | (refine Mem.tkY 12 ?v86 (hy := Or.inl ⟨by rfl, ?y86⟩) (hS := by assumption) (h := ?r86); case y86 => (intro w hSw; clear hSw; go_simp; try with_reducible rfl))
            case' r86 => skip
            try simp only [List.getElem_toArray, List.getElem_cons_succ, List.getElem_cons_zero, Act.put, List.setIfInBounds_toArray, List.set_cons_zero, List.set_cons_succ]
            first | refine Mem.tkY 13 undef (hy := Or.inr ⟨by rfl, rfl⟩) (hS := by assumption) (h := ?r87) | (refine Mem.tkY 13 ?v87 (hy := Or.inl ⟨by rfl, ?y87⟩) (hS := by assumption) (h := ?r87); case y87 => (intro w hSw; clear hSw; go_simp; try with_reducible rfl))
            case' r87 => skip
            try simp only [List.getElem_toArray, List.getElem_cons_succ, List.getElem_cons_zero, Act.put, List.setIfInBounds_toArray, List.set_cons_zero, List.set_cons_succ]
            first | refine Mem.tkY 14 undef (hy := Or.inr ⟨by rfl, rfl⟩) (hS := by assumption) (h := ?r88) | (refine Mem.tkY 14 ?v88 (hy := Or.inl ⟨by rfl, ?y88⟩) (hS := by assumption) (h := ?r88); case y88 => (intro w hSw; clear hSw; go_simp; try with_reducible rfl))
            case' r88 => skip
            try simp only [List.getElem_toArray, List.getElem_cons_succ, List.getElem_cons_zero, Act.put, List.setIfInBounds_toArray, List.set_cons_zero, List.set_cons_succ]
            first | refine Mem.tkY 15 undef (hy := Or.inr ⟨by rfl, rfl⟩) (hS := by assumption) (h := ?r89) | (refine Mem.tkY 15 ?v89 (hy := Or.inl ⟨by rfl, ?y89⟩) (hS := by assumption) (h := ?r89); case y89 => (intro w hSw; obtain ⟨hT0, hT1, hT2, hT3, hT4, hT5, hT6⟩ := hCl.out w hSw; clear hSw; go_simp; try with_reducible rfl))
            case' r89 => skip
            try simp only [List.getElem_toArray, List.getElem_cons_succ, List.getElem_cons_zero, Act.put, List.setIfInBounds_toArray, List.set_cons_zero, List.set_cons_succ]
            first | refine Mem.tkY 16 undef (hy := Or.inr ⟨by rfl, rfl⟩) (hS := by assumption) (h := ?r90) | (refine Mem.tkY 16 ?v90 (hy := Or.inl ⟨by rfl, ?y90⟩) (hS := by assumption) (h := ?r90); case y90 => (intro w hSw; clear hSw; go_simp; try with_reducible rfl))
            case' r90 => skip
            refine Mem.tkY 17 ?v91 (hy := Or.inl ⟨by rfl, ?y91⟩) (hS := by assumption) (h := ?r91)
            case y91 => (intro w hSw; clear hSw; go_simp; try with_reducible rfl)
            case' r91 => skip
            try simp only [List.getElem_toArray, List.getElem_cons_succ, List.getElem_cons_zero, Act.put, List.setIfInBounds_toArray, List.set_cons_zero, List.set_cons_succ]
            refine wpAnyH_done (by kernel_rfl) ?_ _
            clear hCl
            have hb5 := (Below.refl wB.heap.size wB).drew.trans hHeld
            have HB6 := Lib.hid (HBB.out.trans (hb5.mono HBB.out.size))
            have HO2 := Lib.hid (HOB.out.below hb5)
            clear s1 s2 s3 hb5 hkb hkt
            go_wp2_with fail
            go_roundw
            case rel => exact ⟨j + 1, out2, by omega, by go_num, by omega, HV, HO2.out, HB6.out⟩
            case measure => simp [intOf]; omega
        · obtain rfl : j = k := by omega
          have hv := hv.out
          rw [List.drop_of_length_le (by omega : ys.length ≤ j)] at hv
          have HR : Hid (R = out2) := Lib.hid (by rw [HP.out, HV.out, hv]; rfl)
          have HO2 := Lib.hid hown
          clear hv hown
          go_wp2
          go_ret
          exact ⟨_, rfl, by rw [HR.out]; exact HO2.out, by rw [HR.out]; omega, hbr⟩
end Go.Proofs.Yteeodeooicoekaa.Rd
