/- Laws and contracts of several chapters, laid in one text. No statement is proved here. -/
import Derived.Test.YtdhgkabbepbgpaaLb
import Derived.Test.YtdhgkabbepbgpaaRd3
import Derived.Test.YtdhgkabbepbgpaaRq
import Derived.Test.YtdhgkabbepbgpaaLo
import Derived.Test.YtdhgkabbepbgpaaLe
/- The document's Laid, View, Image. No statement is proved here. -/
namespace Go.Proofs.Ytdhgkabbepbgpaa.Rd
open Go.RowKit Go.Proofs.Ytdhgkabbepbgpaa.Mem Go.Proofs.Ytdhgkabbepbgpaa.Open Go.Proofs.Ytdhgkabbepbgpaa.Kind Go.Proofs.Ytdhgkabbepbgpaa.Blk Go.Proofs.Ytdhgkabbepbgpaa.App Go.Proofs.Ytdhgkabbepbgpaa.Pat
set_option linter.unusedVariables false
set_option linter.unusedSimpArgs false
set_option maxHeartbeats 2000000 in
set_option maxRecDepth 100000 in
theorem rlaid_in (A : Option Addr) (c : Nat) (xs : List Chg) (bl : Int) (AB : Option Addr) (cB : Nat) (B : List Nat) (AI : Option Addr) (cI : Nat) (ids : List Int) (w : World) (hx : Chs w A xs) (hB : B.length = 256) (hB1 : 256 ≤ cB) (hB2 : cB ≤ M63) (hB3 : AB = none → cB = 0) (hby : By w AB B) (hi : Is w AI ids) (hn : xs.length ≤ 1000) :
    Calls Try.prog 71 #[.slice AB 256 cB, .slice A xs.length c, .int .i64 bl, .slice AI ids.length cI, .bool false] w fun r w' => ∃ A' c', r = .returned (.slice A' 256 c') ∧ 256 ≤ c' ∧ c' ≤ M63 ∧ (A' = none → c' = 0) ∧ By w' A' (laidF bl (fun n => decide (n ∈ ids)) B xs) ∧ Below w.heap.size w w' := by
  obtain ⟨is, his, hiseq⟩ : ∃ is : Int → Bool, (∀ n, is n = decide (n ∈ ids)) ∧ is = fun n => decide (n ∈ ids) := ⟨fun n => decide (n ∈ ids), fun _ => rfl, rfl⟩
  rw [← hiseq]
  clear hiseq
  have hl : xs.length ≤ 9223372036854775807 := hx.2.1
  go_enter Try.func71, Try.ntmps71
  go_wp2
  go_loopw [0, 11] (fun v i wr => ∃ (k : Nat) (A1 : Option Addr) (c1 : Nat), k ≤ xs.length ∧ i = .int .i64 k ∧ v = .slice A1 256 c1 ∧ 256 ≤ c1 ∧ c1 ≤ M63 ∧ Hid (A1 = none → c1 = 0) ∧ By wr A1 (laidF bl is B (xs.take k)) ∧ Below w.heap.size w wr) (fun _ i _ => xs.length - (intOf i).toNat)
  case atStart => exact ⟨0, AB, cB, by omega, rfl, rfl, hB1, hB2, Lib.hid hB3, hby, Below.refl _ _⟩
  case round =>
    obtain ⟨k, A1, c1, hk, rfl, rfl, h1, h2, h3, hbyr, hbr⟩ := hrel
    obtain ⟨L, hL⟩ : ∃ L, laidF bl is B (xs.take k) = L := ⟨_, rfl⟩
    have hLl : L.length = 256 := by rw [← hL, laidF_len]; exact hB
    have HL := Lib.hid hL
    rw [hL] at hbyr
    clear hL
    by_cases hlt : k < xs.length
    · obtain ⟨gx, ox, rfl, hgx⟩ := ch_form hx (by omega)
      obtain ⟨Ap, cp, An, cn, hat0⟩ := ch_at hx k hlt
      have hat := hat0.below hbr
      have e0 := hat.v0
      have e1 := hat.v1
      have e2 := hat.v2
      have e3 := hat.v3
      have hS := hat.s
      have HE := Lib.hid (fun w9 (h : Below w.heap.size w w9) => hat0.below h)
      have HT := Lib.hid (take_next hlt)
      have hkl : (k : Int) < (xs.length : Int) := by omega
      clear hat0 hat
      generalize xs[k] = x at *
      have HY := Lib.hid hbyr
      have HB := Lib.hid hbr
      have HS := Lib.hid hS
      clear hbyr hbr hS
      by_cases hbk : x.blk = bl
      · have hq : (x.blk == bl) = true := by rw [hbk]; exact beq_self_eq_true _
        have HBK := Lib.hid hbk
        clear hbk
        have CI0 := in_any AI cI ids x.id wr (hi.below HB.out)
        cases hf : decide (x.id ∈ ids) with
        | false =>
          rw [hf] at CI0
          have CI := Lib.hid CI0
          have HL2 : Hid (laidF bl is B (xs.take (k + 1)) = L) := Lib.hid (by rw [HT.out, laidF_app, if_neg (fun h => by have := h.2; rw [his, hf] at this; cases this), HL.out])
          clear hf CI0
          go_wp2_with fail
          refine CI.out.mono ?_
          rintro e w5 ⟨rfl, hb5⟩
          have HY := Lib.hid (HY.out.below hb5)
          have HB := Lib.hid (HB.out.trans (hb5.mono HB.out.size))
          clear hb5 CI
          go_wp2_with fail
          go_roundw
          case rel => exact ⟨k + 1, A1, c1, by omega, by go_num, rfl, h1, h2, h3, by rw [HL2.out]; exact HY.out, HB.out⟩
          case measure => simp [intOf]; omega
        | true =>
          rw [hf] at CI0
          have CI := Lib.hid CI0
          have HT2 : Hid (laidF bl is B (xs.take (k + 1)) = layL L x.pa x.pd) := Lib.hid (by rw [HT.out, laidF_app, if_pos ⟨HBK.out, (his _).trans hf⟩, HL.out]; rfl)
          clear hf CI0
          go_wp2_with fail
          refine CI.out.mono ?_
          rintro e w5 ⟨rfl, hb5⟩
          have HY := Lib.hid (HY.out.below hb5)
          have HB := Lib.hid (HB.out.trans (hb5.mono HB.out.size))
          have hat5 := HE.out w5 HB.out
          have f2 := hat5.v2
          have f3 := hat5.v3
          have CL0 := rlay_any A1 c1 L x.pa Ap cp x.pd w5 HY.out hat5.s.p4 hLl (by rw [hLl]; exact h1) h2 h3.out
          rw [hLl] at CL0
          have CL := Lib.hid CL0
          clear CL0 hb5 CI hat5 e0 e1 e2 e3
          go_wp2_with fail
          refine CL.out.mono ?_
          rintro e w7 ⟨A7, c7, rfl, h71, h72, h73, h74, hb7⟩
          have HN : Hid (By w7 A7 (laidF bl is B (xs.take (k + 1)))) := Lib.hid (by rw [HT2.out]; exact h74)
          have HB := Lib.hid (HB.out.trans (hb7.mono HB.out.size))
          clear h74 hb7 CL
          go_wp2_with fail
          go_roundw
          case rel => exact ⟨k + 1, A7, c7, by omega, by go_num, rfl, h71, h72, Lib.hid h73, HN.out, HB.out⟩
          case measure => simp [intOf]; omega
      · have hq : (x.blk == bl) = false := beq_eq_false_iff_ne.2 hbk
        have HL2 : Hid (laidF bl is B (xs.take (k + 1)) = L) := Lib.hid (by rw [HT.out, laidF_app, if_neg (fun h => hbk h.1), HL.out])
        clear hbk
        go_wp2_with fail
        go_roundw
        case rel => exact ⟨k + 1, A1, c1, by omega, by go_num, rfl, h1, h2, h3, by rw [HL2.out]; exact HY.out, HB.out⟩
        case measure => simp [intOf]; omega
    · obtain rfl : k = xs.length := by omega
      rw [List.take_length] at HL
      have HY := Lib.hid hbyr
      clear hbyr
      go_wp2
      go_ret
      exact ⟨A1, c1, rfl, h1, h2, h3.out, by rw [HL.out]; exact HY.out, hbr⟩
end Go.Proofs.Ytdhgkabbepbgpaa.Rd

/- The document's Image. No statement is proved here. -/
namespace Go.Proofs.Ytdhgkabbepbgpaa.Rd
open Go.RowKit Go.Proofs.Ytdhgkabbepbgpaa.Mem Go.Proofs.Ytdhgkabbepbgpaa.Open Go.Proofs.Ytdhgkabbepbgpaa.Kind Go.Proofs.Ytdhgkabbepbgpaa.Blk Go.Proofs.Ytdhgkabbepbgpaa.App Go.Proofs.Ytdhgkabbepbgpaa.Pat
set_option linter.unusedVariables false
set_option linter.unusedSimpArgs false
set_option maxHeartbeats 2000000 in
set_option maxRecDepth 100000 in
theorem RImage_any (A : Option Addr) (c : Nat) (xs : List Chg) (bl : Int) (AB : Option Addr) (cB : Nat) (B : List Nat) (w : World) (hx : Chs w A xs) (hB : B.length = 256) (hB1 : 256 ≤ cB) (hB2 : cB ≤ M63) (hB3 : AB = none → cB = 0) (hby : By w AB B) (hn : xs.length ≤ 1000) :
    Calls Try.prog 62 #[.slice AB 256 cB, .slice A xs.length c, .int .i64 bl] w fun r w' => ∃ A' c', r = .returned (.slice A' 256 c') ∧ 256 ≤ c' ∧ c' ≤ M63 ∧ (A' = none → c' = 0) ∧ By w' A' (imgF B xs bl) ∧ Below w.heap.size w w' := by
  have CR := Lib.hid (RReady_any A c xs bl w hx hn)
  have hwf := ready_wf2 hx bl
  have HX := Lib.hid hx
  go_enter Try.func62, Try.ntmps62
  go_wp2_with fail
  refine CR.out.mono ?_
  rintro e w2 ⟨v2, rfl, hown2, hb2⟩
  obtain ⟨A2, c2, rfl, _, _, _, hi⟩ := own_is hown2 hwf
  have CL := Lib.hid (rlaid_in A c xs bl AB cB B A2 c2 (readyS xs bl) w2 (HX.out.below hb2) hB hB1 hB2 hB3 (hby.below hb2) hi hn)
  have HB2 := Lib.hid hb2
  clear hown2 hi CR hb2
  go_wp2_with fail
  refine CL.out.mono ?_
  rintro e w3 ⟨A3, c3, rfl, h1, h2, h3, h4, hb3⟩
  have H4 := Lib.hid h4
  have HB3 := Lib.hid (HB2.out.trans (hb3.mono HB2.out.size))
  clear h4 hb3 CL
  go_wp2
  go_ret
  exact ⟨A3, c3, rfl, h1, h2, h3, H4.out, HB3.out⟩
end Go.Proofs.Ytdhgkabbepbgpaa.Rd

