/- Laws and contracts of several chapters, laid in one text. No statement is proved here. -/
import Derived.Test.YteeodeooicoekaaLe
import Derived.Test.YteeodeooicoekaaLf
/- Which changes are held: the contract of roll.Held. No statement is proved here. -/
namespace Go.Proofs.Yteeodeooicoekaa.Rd
open Go.RowKit Go.Proofs.Yteeodeooicoekaa.Mem Go.Proofs.Yteeodeooicoekaa.Open Go.Proofs.Yteeodeooicoekaa.Kind Go.Proofs.Yteeodeooicoekaa.Blk Go.Proofs.Yteeodeooicoekaa.App Go.Proofs.Yteeodeooicoekaa.Pat
set_option linter.unusedVariables false
set_option linter.unusedSimpArgs false
theorem held_eq {xs : List Chg} (hm : mayF 0 xs = true) (b : Int) : (woS (ofS xs b) (readyS xs b)).map (·.id) = heldF xs b := by
  unfold heldF
  rw [if_pos hm]
  congr 1
  unfold woS ofS
  rw [List.filter_filter]
  apply List.filter_congr
  intro x _
  unfold inBlk
  by_cases h : x.blk = b
  · simp [h]
  · simp [h]
theorem held_not {xs : List Chg} (hm : mayF 0 xs = false) (b : Int) : heldF xs b = [] := by unfold heldF; rw [hm]; rfl
theorem small_of {xs : List Chg} (h : Small xs) (b : Int) : Small (ofS xs b) := fun x hx => h x (List.mem_filter.1 hx).1
set_option maxHeartbeats 4000000 in
set_option maxRecDepth 100000 in
theorem Held_any (A : Option Addr) (c : Nat) (xs : List Chg) (bl : Int) (w : World) (hx : Chs w A xs) (hcap : xs.length ≤ c) (hcm : c ≤ M63) (hn : xs.length ≤ 1000) (hs : Small xs) :
    Calls Try.prog 24 #[.slice A xs.length c, .int .i64 bl] w fun r w' => ∃ v, r = .returned v ∧ Ns w' w.heap.size v (heldF xs bl) ∧ Below w.heap.size w w' := by
  have CC0 := chk_any A c xs w hx
  cases hm : mayF 0 xs with
  | false =>
    rw [hm, show okN false = 1 from rfl] at CC0
    have CC := Lib.hid CC0
    have HV := Lib.hid (held_not hm bl)
    clear hm CC0
    go_enter Try.func24, Try.ntmps24
    go_wp2_with fail
    refine CC.out.mono ?_
    rintro e w2 ⟨rfl, hb2⟩
    go_wp2
    go_ret
    exact ⟨_, rfl, by rw [HV.out]; exact Own.nil _ _ _ _, hb2⟩
  | true =>
    rw [hm, show okN true = 0 from rfl] at CC0
    have CC := Lib.hid CC0
    have HV := Lib.hid (held_eq hm bl)
    clear hm CC0
    have hwf := ready_wf2 hx bl
    have hrl := ready_len2 xs bl
    go_enter Try.func24, Try.ntmps24
    go_wp2_with fail
    refine CC.out.mono ?_
    rintro e w2 ⟨rfl, hb2⟩
    have hx2 := hx.below hb2
    have CO := Lib.hid (Of_any A c xs bl w2 hx2 hs hn)
    go_wp2_with fail
    refine CO.out.mono ?_
    rintro e w3 ⟨v3, rfl, ho3, hb3⟩
    obtain ⟨A3, c3, rfl, _, _, _, hx3⟩ := ho3.rw_
    have hb13 := hb2.trans (hb3.mono hb2.size)
    have CR := Lib.hid (Ready_any A c xs bl w3 (hx.below hb13) hcap hcm hn hs)
    clear ho3 hb2 hb3 hx2 CO CC
    go_wp2_with fail
    refine CR.out.mono ?_
    rintro e w4 ⟨v4, rfl, ho4, hb4⟩
    obtain ⟨A4, c4, rfl, _, _, _, hi4⟩ := own_is ho4 hwf
    have hb14 := hb13.trans (hb4.mono hb13.size)
    have hol : (ofS xs bl).length ≤ 1000 := Nat.le_trans (List.length_filter_le _ _) hn
    have CW := Lib.hid (Without_any A3 c3 (ofS xs bl) A4 c4 (readyS xs bl) w4 (hx3.below hb4) hi4 (small_of hs bl) hol (by omega))
    clear ho4 hb13 hb4 CR hi4 hx3
    go_wp2_with fail
    refine CW.out.mono ?_
    rintro e w5 ⟨v5, rfl, ho5, hb5⟩
    obtain ⟨A5, c5, rfl, _, _, _, hy⟩ := ho5.rw_
    have hb15 := hb14.trans (hb5.mono hb14.size)
    have hyl : (woS (ofS xs bl) (readyS xs bl)).length ≤ 1000 := Nat.le_trans (List.length_filter_le _ _) hol
    obtain ⟨ys, hys⟩ : ∃ ys, woS (ofS xs bl) (readyS xs bl) = ys := ⟨_, rfl⟩
    rw [hys] at hy hyl HV ⊢
    have HB5 := Lib.hid hb15
    clear ho5 hb14 hb5 hb15 CW hys
    go_wp2_with fail
    go_loopw [5, 19] (fun v i wr => ∃ (k : Nat), k ≤ ys.length ∧ i = .int .i64 k ∧ Ns wr w5.heap.size v ((ys.take k).map (·.id)) ∧ Below w5.heap.size w5 wr) (fun _ i _ => ys.length - (intOf i).toNat)
    case atStart => exact ⟨0, by omega, rfl, Own.nil _ _ _ _, Below.refl _ _⟩
    case round =>
      obtain ⟨k, hk, rfl, hown, hbr⟩ := hrel
      by_cases hlt : k < ys.length
      · obtain ⟨g, o, rfl, hg⟩ := ch_form hy (by omega)
        obtain ⟨A1, c1, A2, c2, hat0⟩ := ch_at hy k hlt
        have hat := hat0.below hbr
        have e0 := hat.v0
        have e1 := hat.v1
        have e2 := hat.v2
        have e3 : wr.cell? ⟨g, o + k * 5 + 3, none⟩ = _ := hat.v3
        have e4 := hat.v4
        have HT : Hid ((ys.take (k + 1)).map (·.id) = (ys.take k).map (·.id) ++ [ys[k].id]) := Lib.hid (by rw [take_next hlt, List.map_append]; rfl)
        have hl2 : ((ys.take k).map (·.id)).length = k := by rw [List.length_map, List.length_take]; omega
        clear hat0 hat
        generalize ys[k] = x at *
        obtain ⟨out, hout⟩ : ∃ out, (ys.take k).map (·.id) = out := ⟨_, rfl⟩
        rw [hout] at HT hl2 hown
        clear hout
        obtain ⟨A7, c7, rfl⟩ := hown.slice
        rw [hl2] at hown ⊢
        have HN := Lib.hid hl2
        clear hl2
        obtain ⟨⟨b1, b2, b3⟩⟩ : Nonempty (_ ∧ _ ∧ _) := ⟨boxed wr 62 chZ (chC x A1 c1 A2 c2)⟩
        have R0 : Row (wr.alloc (.cells chZ 62)) wr.heap.size 62 chZ := Row.new _ _ _
        have k0 : World.cell? _ ⟨wr.heap.size, 0, none⟩ = some (.int .i64 x.id) := b1.cell 0 rfl
        have HO := Lib.hid (hown.below b2)
        have HB := Lib.hid (hbr.trans (b2.mono hbr.size))
        have hc1 : World.cell? (((wr.alloc (.cells chZ 62)).setRow wr.heap.size (chC x A1 c1 A2 c2)).alloc (.cells #[.int .i64 x.id] 3)) ⟨wr.heap.size + 1, 0, none⟩ = some (.int .i64 x.id) := (rowAt (g := wr.heap.size + 1) 3 #[.int .i64 x.id] (by simp)).cell 0 rfl
        have hob : (out.length + 1) * 8 ≤ 140737488355328 := by have := HN.out; omega
        have ho6 : out.length + 1 ≤ 9223372036854775807 := by have := HN.out; omega
        have hle : w.heap.size ≤ wr.heap.size := Nat.le_trans HB5.out.size hbr.size
        have hle2 : w5.heap.size ≤ wr.heap.size := hbr.size
        clear b1 b2 b3 hown hbr
        go_wp2_with (first
          | (with_reducible refine wpList_allocA rfl 62 rfl _ chZero ?_)
          | (with_reducible refine wpList_storeRow rfl 62 _ _ rfl wr.heap.size rfl (chC x A1 c1 A2 c2) rfl chZ 62 5 chSize rfl rfl (chC_one _ _ _ _ _) R0 ?_)
          | (at_builtin; go_loud (refine wpList_app1 rfl _ _ 28 rfl w5.heap.size 3 (.int .i64 0) 8 V64 Try.underlying28 intInfo3 rfl (.slice A7 k c7) out x.id rfl _ (wr.heap.size + 1) rfl (HO.out.alloc _) hc1 rfl hob ho6 (by simp; omega) ?_); intro v7 w7 hown7 hb7 hg7))
        have HO7 := Lib.hid hown7
        have HB7 := Lib.hid ((HB.out.alloc (Nat.le_trans hle2 (by simp)) (.cells #[.int .i64 x.id] 3)).trans hb7)
        clear hown7 hb7 hg7
        go_roundw
        case rel => exact ⟨k + 1, by omega, by go_num, by rw [HT.out]; exact HO7.out, HB7.out⟩
        case measure => simp [intOf]; omega
      · obtain rfl : k = ys.length := by omega
        rw [List.take_length] at hown
        have HO := Lib.hid hown
        clear hown
        go_wp2
        go_ret
        exact ⟨_, rfl, by rw [← HV.out]; exact HO.out.mono HB5.out.size, HB5.out.trans (hbr.mono HB5.out.size)⟩
end Go.Proofs.Yteeodeooicoekaa.Rd

/- Which changes are held: the document's Held. No statement is proved here. -/
namespace Go.Proofs.Yteeodeooicoekaa.Rd
open Go.RowKit Go.Proofs.Yteeodeooicoekaa.Mem Go.Proofs.Yteeodeooicoekaa.Open Go.Proofs.Yteeodeooicoekaa.Kind Go.Proofs.Yteeodeooicoekaa.Blk Go.Proofs.Yteeodeooicoekaa.App Go.Proofs.Yteeodeooicoekaa.Pat
set_option linter.unusedVariables false
set_option linter.unusedSimpArgs false
set_option maxHeartbeats 4000000 in
set_option maxRecDepth 100000 in
theorem RHeld_any (A : Option Addr) (c : Nat) (xs : List Chg) (bl : Int) (w : World) (hx : Chs w A xs) (hn : xs.length ≤ 1000) :
    Calls Try.prog 27 #[.slice A xs.length c, .int .i64 bl] w fun r w' => ∃ v, r = .returned v ∧ Ns w' w.heap.size v (heldF xs bl) ∧ Below w.heap.size w w' := by
  have CR := Lib.hid (RReady_any A c xs bl w hx hn)
  have CM0 := fun w' h => may_any A c xs w' h
  have hwf := ready_wf2 hx bl
  go_enter Try.func27, Try.ntmps27
  go_wp2_with fail
  refine CR.out.mono ?_
  rintro e w2 ⟨v2, rfl, ho2, hb2⟩
  obtain ⟨A2, c2, rfl, _, _, _, hi⟩ := own_is ho2 hwf
  have HB2 := Lib.hid hb2
  have HI := Lib.hid hi
  have hx2 := hx.below hb2
  have HX2 := Lib.hid hx2
  clear ho2 CR hi hb2
  cases hm : mayF 0 xs with
  | false =>
    rw [hm] at CM0
    have CM := Lib.hid CM0
    have HV := Lib.hid (held_not hm bl)
    clear hm CM0
    go_wp2_with fail
    go_loopw [5, 7] (fun v i wr => i = .int .i64 (0 : Nat) ∧ v = .slice none 0 0 ∧ Below w2.heap.size w2 wr) (fun _ _ _ => 0)
    case atStart => exact ⟨rfl, rfl, Below.refl _ _⟩
    case round =>
      obtain ⟨rfl, rfl, hbr⟩ := hrel
      by_cases h0 : 0 < xs.length
      · have CMr := Lib.hid (CM.out wr (HX2.out.below hbr))
        have HB := Lib.hid (HB2.out.trans (hbr.mono HB2.out.size))
        clear hbr
        go_wp2_with fail
        refine CMr.out.mono ?_
        rintro e w3 ⟨rfl, hb3⟩
        go_wp2
        go_ret
        exact ⟨_, rfl, by rw [HV.out]; exact Own.nil _ _ _ _, HB.out.trans (hb3.mono HB.out.size)⟩
      · have HB := Lib.hid (HB2.out.trans (hbr.mono HB2.out.size))
        clear hbr
        go_wp2
        go_ret
        exact ⟨_, rfl, by rw [HV.out]; exact Own.nil _ _ _ _, HB.out⟩
  | true =>
    rw [hm] at CM0
    have CM := Lib.hid CM0
    obtain ⟨p, hp⟩ : ∃ p, p = inBlk bl fun n => !decide (n ∈ readyS xs bl) := ⟨_, rfl⟩
    have HV : Hid (heldF xs bl = (xs.filter p).map (·.id)) := Lib.hid (by unfold heldF; rw [hm, hp]; rfl)
    have HP : Hid (∀ x : Chg, p x = (decide (x.blk = bl) && !decide (x.id ∈ readyS xs bl))) := Lib.hid (fun x => by rw [hp]; rfl)
    clear hm CM0 hp
    generalize readyS xs bl = ids at *
    go_wp2_with fail
    go_loopw [5, 7] (fun v i wr => ∃ (k : Nat), k ≤ xs.length ∧ i = .int .i64 k ∧ Ns wr w2.heap.size v (((xs.take k).filter p).map (·.id)) ∧ Below w2.heap.size w2 wr) (fun _ i _ => xs.length - (intOf i).toNat)
    case atStart => exact ⟨0, by omega, rfl, Own.nil _ _ _ _, Below.refl _ _⟩
    case round =>
      obtain ⟨k, hk, rfl, hown, hbr⟩ := hrel
      by_cases hlt : k < xs.length
      · obtain ⟨g, o, rfl, hg⟩ := ch_form hx2 (by omega)
        obtain ⟨A1, c1, An, cn, hat0⟩ := ch_at hx2 k hlt
        have CMr := Lib.hid (CM.out wr (HX2.out.below hbr))
        have HE := Lib.hid (fun w9 (h : Below w2.heap.size w2 w9) => hat0.below h)
        have HT := Lib.hid (take_next hlt)
        have hl2 : (((xs.take k).filter p).map (·.id)).length ≤ k := by rw [List.length_map]; exact Nat.le_trans (List.length_filter_le _ _) (by rw [List.length_take]; omega)
        clear hat0
        generalize xs[k] = x at *
        obtain ⟨out, hout⟩ : ∃ out, ((xs.take k).filter p).map (·.id) = out := ⟨_, rfl⟩
        rw [hout] at hl2 hown
        have HOUT := Lib.hid hout
        clear hout
        obtain ⟨A7, c7, rfl⟩ := hown.slice
        obtain ⟨n, hnn⟩ : ∃ n, out.length = n := ⟨_, rfl⟩
        rw [hnn] at hl2 hown ⊢
        have HN := Lib.hid hnn
        clear hnn
        have HO := Lib.hid hown
        have HB := Lib.hid hbr
        clear hown hbr
        go_wp2_with fail
        refine CMr.out.mono ?_
        rintro e w3 ⟨rfl, hb3⟩
        have HO := Lib.hid (HO.out.below hb3)
        have HB := Lib.hid (HB.out.trans (hb3.mono HB.out.size))
        have hat3 := HE.out w3 HB.out
        have e0 := hat3.v0
        have e1 := hat3.v1
        clear hb3 CMr hat3
        by_cases hbk : x.blk = bl
        · have hq : (x.blk == bl) = true := by rw [hbk]; exact beq_self_eq_true _
          have CI0 := in_any A2 c2 ids x.id w3 (HI.out.below HB.out)
          cases hf : decide (x.id ∈ ids) with
          | true =>
            have HNO : Hid (p x = false) := Lib.hid (by rw [HP.out, hf]; simp)
            rw [hf] at CI0
            have CI := Lib.hid CI0
            clear CI0 hf hbk
            go_wp2_with fail
            refine CI.out.mono ?_
            rintro e w4 ⟨rfl, hb4⟩
            have HO := Lib.hid (HO.out.below hb4)
            have HB := Lib.hid (HB.out.trans (hb4.mono HB.out.size))
            clear hb4 CI e0 e1
            have HT2 : Hid (((xs.take (k + 1)).filter p).map (·.id) = out) := Lib.hid (by rw [HT.out, List.filter_append, List.filter_cons_of_neg (by rw [HNO.out]; simp), List.filter_nil, List.append_nil, HOUT.out])
            go_wp2_with fail
            go_roundw
            case rel => exact ⟨k + 1, by omega, by go_num, by rw [HT2.out]; exact HO.out, HB.out⟩
            case measure => simp [intOf]; omega
          | false =>
            have HT2 : Hid (((xs.take (k + 1)).filter p).map (·.id) = out ++ [x.id]) := Lib.hid (by rw [HT.out, List.filter_append, List.filter_cons_of_pos (by rw [HP.out, hf, decide_eq_true hbk]; rfl), List.filter_nil, List.map_append, HOUT.out]; rfl)
            rw [hf] at CI0
            have CI := Lib.hid CI0
            clear CI0 hf hbk
            go_wp2_with fail
            refine CI.out.mono ?_
            rintro e w4 ⟨rfl, hb4⟩
            have HO := Lib.hid (HO.out.below hb4)
            have HB := Lib.hid (HB.out.trans (hb4.mono HB.out.size))
            have f0 := (HE.out w4 HB.out).v0
            have hc1 : World.cell? (w4.alloc (.cells #[.int .i64 x.id] 3)) ⟨w4.heap.size, 0, none⟩ = some (.int .i64 x.id) := (rowAt (g := w4.heap.size) 3 #[.int .i64 x.id] rfl).cell 0 rfl
            have hob : (out.length + 1) * 8 ≤ 140737488355328 := by have := HN.out; omega
            have ho6 : out.length + 1 ≤ 9223372036854775807 := by have := HN.out; omega
            have hle2 : w2.heap.size ≤ w4.heap.size := HB.out.size
            clear hb4 CI e0 e1
            go_wp2_with (at_builtin; go_loud (refine wpList_app1 rfl _ _ 28 rfl w2.heap.size 3 (.int .i64 0) 8 V64 Try.underlying28 intInfo3 rfl (.slice A7 n c7) out x.id rfl _ w4.heap.size rfl (HO.out.alloc _) hc1 rfl hob ho6 (by simp; omega) ?_); intro v7 w7 hown7 hb7 hg7)
            have HO7 := Lib.hid hown7
            have HB7 := Lib.hid ((HB.out.alloc hle2 (.cells #[.int .i64 x.id] 3)).trans hb7)
            clear hown7 hb7 hg7
            go_roundw
            case rel => exact ⟨k + 1, by omega, by go_num, by rw [HT2.out]; exact HO7.out, HB7.out⟩
            case measure => simp [intOf]; omega
        · have hq : (x.blk == bl) = false := beq_eq_false_iff_ne.2 hbk
          have HNO : Hid (p x = false) := Lib.hid (by rw [HP.out, decide_eq_false hbk]; rfl)
          clear hbk
          have HT2 : Hid (((xs.take (k + 1)).filter p).map (·.id) = out) := Lib.hid (by rw [HT.out, List.filter_append, List.filter_cons_of_neg (by rw [HNO.out]; simp), List.filter_nil, List.append_nil, HOUT.out])
          go_wp2_with fail
          go_roundw
          case rel => exact ⟨k + 1, by omega, by go_num, by rw [HT2.out]; exact HO.out, HB.out⟩
          case measure => simp [intOf]; omega
      · obtain rfl : k = xs.length := by omega
        rw [List.take_length] at hown
        have HO := Lib.hid hown
        have HB := Lib.hid (HB2.out.trans (hbr.mono HB2.out.size))
        clear hown hbr
        go_wp2
        go_ret
        exact ⟨_, rfl, by rw [HV.out]; exact HO.out.mono HB2.out.size, HB.out⟩
end Go.Proofs.Yteeodeooicoekaa.Rd

