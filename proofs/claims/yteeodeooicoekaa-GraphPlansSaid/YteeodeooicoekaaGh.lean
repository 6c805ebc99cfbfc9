/- Laws and contracts of several chapters, laid in one text. No statement is proved here. -/
import Derived.Test.YteeodeooicoekaaGe
import Derived.Test.YteeodeooicoekaaNa
/- What is left behind some blocks, and by which blocks a change, and all, are done: the contracts of graph.After, Plan and Drain. No statement is proved here. -/
namespace Go.Proofs.Yteeodeooicoekaa.Rd
open Go.RowKit Go.Proofs.Yteeodeooicoekaa.Mem Go.Proofs.Yteeodeooicoekaa.Open Go.Proofs.Yteeodeooicoekaa.Kind Go.Proofs.Yteeodeooicoekaa.Blk Go.Proofs.Yteeodeooicoekaa.App Go.Proofs.Yteeodeooicoekaa.Pat
set_option linter.unusedVariables false
set_option linter.unusedSimpArgs false
theorem small_nx {xs : List Chg} (h : Small xs) (b : Int) : Small (nx xs b) := small_wo h _
theorem small_after : ∀ {bs : List Int} {xs : List Chg}, Small xs → Small (afterS xs bs)
  | [], xs, h => h
  | b :: r, xs, h => small_after (bs := r) (small_nx h b)
theorem afterS_next {xs : List Chg} {bs : List Int} {k : Nat} (hk : k < bs.length) : afterS xs (bs.take (k + 1)) = nx (afterS xs (bs.take k)) bs[k] := by
  rw [List.take_add_one, List.getElem?_eq_getElem hk]
  exact afterS_app xs (bs.take k) bs[k]
/-- Changes that are read, all of whose parts lie from block B on. -/
abbrev ChsF (w : World) (B : Nat) (A : Option Addr) (xs : List Chg) : Prop := Rw kChg w (fun b => B ≤ b ∧ b < w.heap.size) A xs.length xs
theorem ChsF.chs {w : World} {B : Nat} {A : Option Addr} {xs : List Chg} (h : ChsF w B A xs) : Chs w A xs := Rw.mono (fun b hb => hb.2) h
theorem ChsF.below {w w' : World} {B : Nat} {A : Option Addr} {xs : List Chg} (h : ChsF w B A xs) (hb : Below w.heap.size w w') : ChsF w' B A xs :=
  Rw.mono (fun b h => ⟨h.1, Nat.lt_of_lt_of_le h.2 hb.size⟩) (Rw.stay (fun b h => hb.block b h.2) h)
theorem ChsF.less {w : World} {B B' : Nat} {A : Option Addr} {xs : List Chg} (h : ChsF w B A xs) (hB : B' ≤ B) : ChsF w B' A xs := Rw.mono (fun b hb => ⟨Nat.le_trans hB hb.1, hb.2⟩) h
theorem ownK_fr {α : Type} {k : Kd α} {w : World} {B : Nat} {E : TypeId} {v : Value} {xs : List α} (h : OwnK (kF k B) w B E v xs) : ∃ A c, v = .slice A xs.length c ∧ xs.length ≤ c ∧ c ≤ M63 ∧ (A = none → c = 0) ∧ Rw k w (fun b => B ≤ b ∧ b < w.heap.size) A xs.length xs := by
  have hlt := h.lt
  obtain ⟨rows, h1, h2, h3⟩ := h
  have hl := OwnK.rows_len (k := kF k B) h1 h2
  rcases h3.2 with ⟨rfl, h0⟩ | ⟨g, cap, cur, rfl, hg, hh, n1, n2, n3⟩
  · have : xs = [] := List.eq_nil_of_length_eq_zero h0
    subst this
    exact ⟨none, 0, rfl, by simp, by simp, fun _ => rfl, Rw.nil _ _ _ _⟩
  · simp only [maxLen] at n2
    refine ⟨_, cap, rfl, n1, n2, fun h => (by cases h), rfl, by show xs.length ≤ 9223372036854775807; omega, .inr ⟨g, 0, rfl, hlt g rfl, row_lt hh, fun i x hx => ?_⟩⟩
    obtain ⟨cs, c1, c2⟩ := h2 i x hx
    refine ⟨cs, k.mono (fun b hb => ⟨hb.2, hb.1.2⟩) c2, fun j u hu => ?_⟩
    have := World.ownsRow.cells h3 (g := g) rfl (i * k.sz + j) u (flat_get hl i cs j u c1 hu)
    rw [addr_add] at this
    rwa [show 0 + i * k.sz + j = 0 + (i * k.sz + j) from by omega]
set_option maxHeartbeats 2000000 in
set_option maxRecDepth 100000 in
theorem After_any (A : Option Addr) (c : Nat) (xs : List Chg) (AB : Option Addr) (cB : Nat) (bs : List Int) (w : World) (hx : Chs w A xs) (hi : Is w AB bs) (hn : xs.length ≤ 1000) (hs : Small xs) :
    Calls Try.prog 40 #[.slice A xs.length c, .slice AB bs.length cB] w fun r w' => ∃ A' c', r = .returned (.slice A' (afterS xs bs).length c') ∧ (afterS xs bs).length ≤ c' ∧ c' ≤ M63 ∧ ChsF w' w.heap.size A' (afterS xs bs) ∧ Below w.heap.size w w' := by
  have CW0 := WithoutF_any A c xs none 0 [] w hx (Rw.nil _ _ _ _) hs hn (by simp)
  rw [woS_nil] at CW0
  have CW := Lib.hid CW0
  have hzv := blkZero
  clear CW0
  go_enter Try.func40, Try.ntmps40
  go_wp2_with fail
  refine CW.out.mono ?_
  rintro e w3 ⟨v3, rfl, ho3, hb3⟩
  obtain ⟨A3, c3, rfl, k1, k2, -, hx3⟩ := ownK_fr ho3
  have hl : bs.length ≤ 9223372036854775807 := hi.2.1
  clear ho3 CW
  go_wp2_with fail
  go_loopw [0, 11] (fun v i wr => ∃ (k : Nat) (A7 : Option Addr) (c7 : Nat), k ≤ bs.length ∧ i = .int .i64 k ∧ v = .slice A7 (afterS xs (bs.take k)).length c7 ∧ Hid ((afterS xs (bs.take k)).length ≤ c7) ∧ Hid (c7 ≤ M63) ∧ ChsF wr w.heap.size A7 (afterS xs (bs.take k)) ∧ Below w.heap.size w wr) (fun _ i _ => bs.length - (intOf i).toNat)
  case atStart => exact ⟨0, A3, c3, by omega, rfl, rfl, Lib.hid k1, Lib.hid k2, hx3, hb3⟩
  case round =>
    obtain ⟨k, A7, c7, hk, rfl, rfl, hcap, hcm, hls, hbr⟩ := hrel
    by_cases hlt : k < bs.length
    · obtain ⟨gb, ob, rfl, hgb, hc0⟩ := is_at hi k hlt
      have hcb := (hbr.cell (p := ⟨gb, ob + k, none⟩) hgb).trans hc0
      have HN := Lib.hid (afterS_next (xs := xs) hlt)
      have hll := afterS_len xs (bs.take k)
      have hsm := small_after (bs := bs.take k) hs
      generalize afterS xs (bs.take k) = ls at *
      generalize bs[k] = b at *
      have CR := Lib.hid (Write_any A7 c7 ls b zblk wr hls.chs zblk_length hcap.out hcm.out (by omega) hsm)
      have HB := Lib.hid hbr
      clear hc0 hls hbr hsm
      go_wp2_with fail
      refine CR.out.mono ?_
      rintro e w7 ⟨v5, v6, rfl, ho5, ho6, hb7⟩
      obtain ⟨A8, c8, rfl, m1, m2, -, hx8⟩ := ownK_fr ho5
      have HX8 := Lib.hid (ChsF.less hx8 HB.out.size)
      have HB7 := Lib.hid (HB.out.trans (hb7.mono HB.out.size))
      have M1 := Lib.hid m1
      have M2 := Lib.hid m2
      clear ho5 ho6 hb7 CR hx8 m1 m2 HB
      rw [show woS ls (readyS ls b) = nx ls b from rfl] at *
      go_wp2_with fail
      go_roundw
      case rel => exact ⟨k + 1, A8, c8, by omega, by go_num, by rw [HN.out], by rw [HN.out]; exact M1, M2, by rw [HN.out]; exact HX8.out, HB7.out⟩
      case measure => simp [intOf]; omega
    · obtain rfl : k = bs.length := by omega
      rw [List.take_length] at *
      have HB := Lib.hid hbr
      have HL := Lib.hid hls
      clear hbr hls
      obtain ⟨ls, hE⟩ : ∃ ls, afterS xs bs = ls := ⟨_, rfl⟩
      rw [hE] at HL hcap ⊢
      have HE := Lib.hid hE
      clear hE
      go_wp2
      go_ret
      refine ⟨A7, c7, ?_⟩
      rw [HE.out]
      exact ⟨rfl, hcap.out, hcm.out, HL.out, HB.out⟩
/-- Changes that are read, no part of which lies in the block that a value owns. -/
abbrev ChsN (w : World) (v : Value) (A : Option Addr) (xs : List Chg) : Prop := Rw kChg w (fun b => some b ≠ v.ownBlock ∧ b < w.heap.size) A xs.length xs
theorem ChsN.chs {w : World} {v : Value} {A : Option Addr} {xs : List Chg} (h : ChsN w v A xs) : Chs w A xs := Rw.mono (fun b hb => hb.2) h
theorem ChsN.below {w w' : World} {v : Value} {A : Option Addr} {xs : List Chg} (h : ChsN w v A xs) (hb : Below w.heap.size w w') : ChsN w' v A xs :=
  Rw.mono (fun b h => ⟨h.1, Nat.lt_of_lt_of_le h.2 hb.size⟩) (Rw.stay (fun b h => hb.block b h.2) h)
theorem ChsN.gb {w w' : World} {v : Value} {A : Option Addr} {xs : List Chg} (h : ChsN w v A xs) (hg : w.grownBy w' v.ownBlock) : Chs w' A xs :=
  Rw.mono (fun b h => Nat.lt_of_lt_of_le h.2 hg.size) (Rw.stay (fun b h => hg.block b h.2 h.1) h)
theorem ChsF.n {w : World} {B : Nat} {v : Value} {A : Option Addr} {xs : List Chg} (h : ChsF w B A xs) (hv : ∀ q, v.ownBlock = some q → q < B) : ChsN w v A xs :=
  Rw.mono (fun b hb => ⟨fun e => by have := hv b e.symm; omega, hb.2⟩) h
theorem chsN_nil {w : World} {A : Option Addr} {xs : List Chg} (h : Chs w A xs) : ChsN w (.slice none 0 0) A xs := Rw.mono (fun b hb => ⟨by simp [Value.ownBlock], hb⟩) h
def lenV : Value → Nat
  | .slice _ n _ => n
  | _ => 0
set_option maxHeartbeats 4000000 in
set_option maxRecDepth 100000 in
theorem Drain_any (A : Option Addr) (c : Nat) (xs : List Chg) (w : World) (hx : Chs w A xs) (hcap : xs.length ≤ c) (hcm : c ≤ M63) (hn : xs.length ≤ 1000) (hs : Small xs) :
    Calls Try.prog 45 #[.slice A xs.length c] w fun r w' => ∃ v, r = .returned v ∧ Ns w' w.heap.size v (drainS xs) ∧ Below w.heap.size w w' := by
  obtain ⟨D, hD⟩ : ∃ D, drainS xs = D := ⟨_, rfl⟩
  have HD := Lib.hid hD
  rw [hD]
  clear hD
  go_enter Try.func45, Try.ntmps45
  go_wp2_with fail
  go_loopw [0, 3] (fun v out wr => ∃ (A7 : Option Addr) (c7 : Nat) (ls : List Chg) (ds : List Int), v = .slice A7 ls.length c7 ∧ Hid (ls.length ≤ c7) ∧ Hid (c7 ≤ M63) ∧ ls.length + ds.length ≤ 1000 ∧ Hid (Small ls) ∧ ChsN wr out A7 ls ∧ Ns wr w.heap.size out ds ∧ Hid (D = ds ++ drainS ls) ∧ Below w.heap.size w wr) (fun v _ _ => lenV v)
  case atStart => exact ⟨A, c, xs, [], rfl, Lib.hid hcap, Lib.hid hcm, by simpa using hn, Lib.hid hs, by first | exact chsN_nil hx | exact chsN_nil (hx.drewN _), by first | exact Own.nil _ _ _ _ | exact (Own.nil _ _ _ _).drewN _, Lib.hid (by rw [HD.out]; rfl), by first | exact Below.refl _ _ | exact bdrewN (Below.refl _ _) _⟩
  case round =>
    obtain ⟨A7, c7, ls, ds, rfl, h1, h2, hln, hsm, hls, hown, hdd, hbr⟩ := hrel
    have hle := hbr.size
    obtain ⟨A5, c5, rfl⟩ := hown.slice
    cases ls with
    | nil =>
      have CN := Lib.hid (Next_nil A7 c7 wr)
      have HO := Lib.hid hown
      have HB := Lib.hid hbr
      have HE : Hid (D = ds) := Lib.hid (by rw [hdd.out, show drainS [] = [] from rfl, List.append_nil])
      clear hown hbr hdd hls
      go_wp2_with fail
      refine CN.out.mono ?_
      rintro e w2 ⟨rfl, hb2⟩
      go_wp2
      go_ret
      exact ⟨_, rfl, by rw [HE.out]; first | exact HO.out.below hb2 | exact (HO.out.below hb2).drewN _, by first | exact HB.out.trans (hb2.mono hle) | exact bdrewN (HB.out.trans (hb2.mono hle)) _⟩
    | cons x r =>
      cases hm : mayF 0 (x :: r) with
      | false =>
        have CN := Lib.hid (Next_no A7 c7 (x :: r) wr hls.chs hm)
        have HO := Lib.hid hown
        have HB := Lib.hid hbr
        have HE : Hid (D = ds) := Lib.hid (by rw [hdd.out]; unfold drainS; rw [hm]; exact List.append_nil _)
        clear hown hbr hdd hls hm
        generalize (x :: r) = ls at *
        go_wp2_with fail
        refine CN.out.mono ?_
        rintro e w2 ⟨rfl, hb2⟩
        go_wp2
        go_ret
        exact ⟨_, rfl, by rw [HE.out]; first | exact HO.out.below hb2 | exact (HO.out.below hb2).drewN _, by first | exact HB.out.trans (hb2.mono hle) | exact bdrewN (HB.out.trans (hb2.mono hle)) _⟩
      | true =>
        have CN := Lib.hid (Next_yes A7 c7 x r wr hls.chs hm)
        have HLT := Lib.hid (drain_less hm)
        have HD2 : Hid (D = (ds ++ [x.blk]) ++ drainS (nx (x :: r) x.blk)) := Lib.hid (by rw [hdd.out, drainS_cons hm]; simp)
        have hlx : (x :: r).length ≤ 1000 := by omega
        have hob : (ds.length + 1) * 8 ≤ 140737488355328 := by omega
        have ho6 : ds.length + 1 ≤ 9223372036854775807 := by omega
        have hwb : WfI x.blk := by
          have hls' := hls.chs
          obtain ⟨g, o, rfl, hg⟩ := ch_form hls' (by simp)
          obtain ⟨A1, c1, A2, c2, hat⟩ := ch_at hls' 0 (by simp)
          exact hat.ok.2.1
        have HX := Lib.hid hls
        have HO := Lib.hid hown
        have HB := Lib.hid hbr
        clear hown hbr hdd hls hm
        generalize x.blk = b at *
        generalize (x :: r) = ls at *
        go_wp2_with fail
        refine CN.out.mono ?_
        rintro e w2 ⟨rfl, hb2⟩
        have hc1 : World.cell? (w2.alloc (.cells #[.int .i64 b] 3)) ⟨w2.heap.size, 0, none⟩ = some (.int .i64 b) := (rowAt (g := w2.heap.size) 3 #[.int .i64 b] rfl).cell 0 rfl
        have HO2 := Lib.hid (HO.out.below hb2)
        have HB2 := Lib.hid (HB.out.trans (hb2.mono HB.out.size))
        have HX2 := Lib.hid (HX.out.below hb2)
        have hle2 : w.heap.size ≤ w2.heap.size := HB2.out.size
        clear hb2 HO HB HX CN
        go_wp2_with (at_builtin; go_loud (refine wpList_app1 rfl _ _ 28 rfl w.heap.size 3 (.int .i64 0) 8 V64 Try.underlying28 intInfo3 rfl (.slice A5 ds.length c5) ds b rfl _ w2.heap.size rfl (HO2.out.alloc _) hc1 rfl hob ho6 (by simp; omega) ?_); intro v7 w7 hown7 hb7 hg7)
        have hx7 := ChsN.gb (ChsN.below HX2.out (bb0 w2 (.cells #[.int .i64 b] 3))) hg7
        have hsz7 := hg7.size
        have hlt7 := hown7.lt
        have hb8 := bb0 w7 (.cells #[.int .i64 b] 3)
        have hi8 := is_row (Row.new w7 3 #[.int .i64 b]) (d := [b]) (fun y hy => by simp at hy; subst hy; exact hwb) (show 1 ≤ M63 by decide)
        have CA := Lib.hid (After_any A7 c7 ls (some ⟨w7.heap.size, 0, none⟩) 1 [b] _ (hx7.below hb8) hi8 hlx hsm.out)
        have HO8 := Lib.hid (hown7.below hb8)
        have HB8 := Lib.hid ((((HB2.out.alloc hle2 (.cells #[.int .i64 b] 3)).trans hb7)).trans (hb8.mono (Nat.le_trans hle2 (Nat.le_trans (by simp) hsz7))))
        have HL7 : Hid (∀ q, v7.ownBlock = some q → q < (w7.alloc (.cells #[.int .i64 b] 3)).heap.size) := Lib.hid (fun q hq => by have := (hlt7 q hq).2; simp; omega)
        clear hx7 hsz7 hlt7 hb8 hi8 hown7 hb7 hg7 HX2 HO2 HB2 hc1
        refine CA.out.mono ?_
        rintro e w9 ⟨A9, c9, rfl, m1, m2, hx9, hb9⟩
        have HX9 := Lib.hid (ChsF.n hx9 HL7.out)
        have HO9 := Lib.hid (HO8.out.below hb9)
        have HB9 := Lib.hid (HB8.out.trans (hb9.mono HB8.out.size))
        have M1 := Lib.hid m1
        have M2 := Lib.hid m2
        have hlt := HLT.out
        have HSM := Lib.hid (small_nx hsm.out b)
        clear hx9 hb9 m1 m2 CA HO8 HB8
        have e9 : afterS ls [b] = nx ls b := rfl
        rw [e9] at HX9 M1 ⊢
        clear e9
        generalize nx ls b = ls2 at *
        go_wp2_with fail
        go_roundw
        case rel => exact ⟨A9, c9, ls2, ds ++ [b], rfl, M1, M2, by rw [List.length_append, List.length_singleton]; omega, HSM, HX9.out, HO9.out, HD2, HB9.out⟩
        case measure => simp [lenV]; omega
end Go.Proofs.Yteeodeooicoekaa.Rd

/- By which blocks a change is done: the contract of graph.Plan. No statement is proved here. -/
namespace Go.Proofs.Yteeodeooicoekaa.Rd
open Go.RowKit Go.Proofs.Yteeodeooicoekaa.Mem Go.Proofs.Yteeodeooicoekaa.Open Go.Proofs.Yteeodeooicoekaa.Kind Go.Proofs.Yteeodeooicoekaa.Blk Go.Proofs.Yteeodeooicoekaa.App Go.Proofs.Yteeodeooicoekaa.Pat
set_option linter.unusedVariables false
set_option linter.unusedSimpArgs false
theorem all_cons {xs : List Chg} {id : Int} (hh : hasB xs id = true) (hm : mayF 0 xs = true) : ∃ m r, allS xs id = m :: r := by
  obtain ⟨i, hi, rfl⟩ := hasB_yes hh
  have h := all_self hm hi
  cases hl : allS xs xs[i].id with
  | nil => rw [hl] at h; cases h
  | cons m r => exact ⟨m, r, rfl⟩
theorem all_no {xs : List Chg} {id : Int} (h : (hasB xs id && mayF 0 xs) = false) : allS xs id = [] := by
  rw [Bool.and_eq_false_iff] at h
  rcases h with h | h
  · exact all_none (hasB_no h)
  · exact all_may h id
theorem findD_blk {w : World} {A : Option Addr} {xs : List Chg} (h : Chs w A xs) (m : Int) : WfI (findD m xs).blk := by
  unfold findD
  cases hf : findF m xs with
  | none => exact (wf_iff _).2 (by show -9223372036854775808 ≤ (0 : Int) ∧ (0 : Int) ≤ 9223372036854775807; omega)
  | some y =>
    obtain ⟨h1, _⟩ := findF_some hf
    obtain ⟨i, hi, rfl⟩ := List.mem_iff_getElem.1 h1
    obtain ⟨g, o, rfl, hg⟩ := ch_form h (by omega)
    obtain ⟨A1, c1, A2, c2, hat⟩ := ch_at h i hi
    exact hat.ok.2.1
set_option maxHeartbeats 8000000 in
set_option maxRecDepth 100000 in
theorem Plan_any (A : Option Addr) (c : Nat) (xs : List Chg) (id : Int) (w : World) (hx : Chs w A xs) (hcap : xs.length ≤ c) (hcm : c ≤ M63) (hn : xs.length ≤ 1000) (hs : Small xs) :
    Calls Try.prog 38 #[.slice A xs.length c, .int .i64 id] w fun r w' => ∃ v, r = .returned v ∧ Ns w' w.heap.size v (planS xs id) ∧ Below w.heap.size w w' := by
  obtain ⟨D, hD⟩ : ∃ D, planS xs id = D := ⟨_, rfl⟩
  have HD := Lib.hid hD
  rw [hD]
  clear hD
  go_enter Try.func38, Try.ntmps38
  go_wp2_with fail
  go_loopw [0, 5] (fun v out wr => ∃ (A7 : Option Addr) (c7 : Nat) (ls : List Chg) (ds : List Int), v = .slice A7 ls.length c7 ∧ Hid (ls.length ≤ c7) ∧ Hid (c7 ≤ M63) ∧ ls.length + ds.length ≤ 1000 ∧ Hid (Small ls) ∧ ChsN wr out A7 ls ∧ Ns wr w.heap.size out ds ∧ Hid (D = ds ++ planS ls id) ∧ Below w.heap.size w wr) (fun v _ _ => lenV v)
  case atStart => exact ⟨A, c, xs, [], rfl, Lib.hid hcap, Lib.hid hcm, by simpa using hn, Lib.hid hs, by first | exact chsN_nil hx | exact chsN_nil (hx.drewN _), by first | exact Own.nil _ _ _ _ | exact (Own.nil _ _ _ _).drewN _, Lib.hid (by rw [HD.out]; rfl), by first | exact Below.refl _ _ | exact bdrewN (Below.refl _ _) _⟩
  case round =>
    obtain ⟨A7, c7, ls, ds, rfl, h1, h2, hln, hsm, hls, hown, hdd, hbr⟩ := hrel
    have hle := hbr.size
    obtain ⟨A5, c5, rfl⟩ := hown.slice
    have CM0 := gmay_any A7 c7 ls id wr hls.chs hsm.out (by omega)
    cases hh : (hasB ls id && mayF 0 ls) with
    | false =>
      rw [hh] at CM0
      have CM := Lib.hid CM0
      have HO := Lib.hid hown
      have HB := Lib.hid hbr
      have HE : Hid (D = ds) := Lib.hid (by rw [hdd.out, planS_nil (all_no hh), List.append_nil])
      clear hown hbr hdd hls CM0 hh
      go_wp2_with fail
      refine CM.out.mono ?_
      rintro e w2 ⟨rfl, hb2⟩
      go_wp2
      go_ret
      exact ⟨_, rfl, by rw [HE.out]; first | exact HO.out.below hb2 | exact (HO.out.below hb2).drewN _, by first | exact HB.out.trans (hb2.mono hle) | exact bdrewN (HB.out.trans (hb2.mono hle)) _⟩
    | true =>
      rw [hh] at CM0
      have CM := Lib.hid CM0
      rw [Bool.and_eq_true] at hh
      obtain ⟨m, r, hall⟩ := all_cons hh.1 hh.2
      have HLT := Lib.hid (head_less hall).2
      have HD2 : Hid (D = (ds ++ [(findD m ls).blk]) ++ planS (nx ls (findD m ls).blk) id) := Lib.hid (by rw [hdd.out, planS_cons hall]; simp)
      have hlx : ls.length ≤ 1000 := by omega
      have CA := Lib.hid (fun w' h => All_any A7 c7 ls id w' h h1.out h2.out hlx hsm.out)
      rw [hall] at CA
      have CF := Lib.hid (fun w' h => Find_any A7 c7 ls m w' h hsm.out hlx)
      have hwm : ∀ n ∈ m :: r, WfI n := by rw [← hall]; exact all_wf hls.chs id
      have hwb := findD_blk hls.chs m
      have hob : (ds.length + 1) * 8 ≤ 140737488355328 := by have := (head_less hall).2; omega
      have ho6 : ds.length + 1 ≤ 9223372036854775807 := by omega
      have HX := Lib.hid hls
      have HO := Lib.hid hown
      have HB := Lib.hid hbr
      have hrl : (m :: r).length ≤ 1000 := by rw [← hall]; exact Nat.le_trans (all_len ls id) hlx
      clear hown hbr hdd hls CM0 hh hall
      generalize findD m ls = y at *
      go_wp2_with fail
      refine CM.out.mono ?_
      rintro e w2 ⟨rfl, hb2⟩
      have HX2 := Lib.hid (ChsN.below HX.out hb2)
      have HO2 := Lib.hid (HO.out.below hb2)
      have HB2 := Lib.hid (HB.out.trans (hb2.mono HB.out.size))
      clear hb2 CM HX HO HB
      go_wp2_with fail
      refine (CA.out _ HX2.out.chs).mono ?_
      rintro e w3 ⟨v3, rfl, hown3, hb3⟩
      obtain ⟨AL, cL, rfl, -, -, -, hisL⟩ := own_is hown3 hwm
      obtain ⟨gl, ol, rfl, hgl, hl0⟩ := is_at hisL 0 (by simp)
      rw [Nat.add_zero] at hl0
      have hl0 : w3.cell? ⟨gl, ol, none⟩ = some (.int .i64 m) := hl0
      have HX3 := Lib.hid (ChsN.below HX2.out hb3)
      have HO3 := Lib.hid (HO2.out.below hb3)
      have HB3 := Lib.hid (HB2.out.trans (hb3.mono HB2.out.size))
      have hr0 : 0 < (m :: r).length := by simp
      clear hb3 CA HX2 HO2 HB2 hown3 hisL hwm
      generalize (m :: r).length = nl at *
      go_wp2_with fail
      refine (CF.out _ HX3.out.chs).mono ?_
      rintro e w4 ⟨A3, c3, A4, c4, rfl, hf4, hb4⟩
      obtain ⟨⟨r5, b5, z5⟩⟩ : Nonempty (_ ∧ _ ∧ _) := ⟨boxed w4 62 chZ (chC y A3 c3 A4 c4)⟩
      have R0 : Row (w4.alloc (.cells chZ 62)) w4.heap.size 62 chZ := Row.new _ _ _
      have HNE : Hid (some w4.heap.size ≠ (Value.slice A5 ds.length c5).ownBlock) := Lib.hid (fun e => by have := (Own.lt (HO3.out.below hb4) _ e.symm).2; omega)
      have hb45 := hb4.trans (b5.mono hb4.size)
      have HX5 := Lib.hid (ChsN.below HX3.out hb45)
      have HO5 := Lib.hid (HO3.out.below hb45)
      have HB5 := Lib.hid (HB3.out.trans (hb45.mono HB3.out.size))
      have k1 : World.cell? _ ⟨w4.heap.size, 1, none⟩ = some (.int .i64 y.blk) := r5.cell 1 rfl
      have hle5 : w.heap.size ≤ w4.heap.size := Nat.le_trans HB3.out.size hb4.size
      have k1a := ((r5.alloc (.cells #[.int .i64 y.blk] 3))).cell 1 rfl
      have k1b : World.cell? (((w4.alloc (.cells chZ 62)).setRow w4.heap.size (chC y A3 c3 A4 c4)).alloc (.cells #[.int .i64 y.blk] 3)) ⟨w4.heap.size, 1, none⟩ = some (.int .i64 y.blk) := k1a
      have hc1 : World.cell? (((w4.alloc (.cells chZ 62)).setRow w4.heap.size (chC y A3 c3 A4 c4)).alloc (.cells #[.int .i64 y.blk] 3)) ⟨w4.heap.size + 1, 0, none⟩ = some (.int .i64 y.blk) := (rowAt (g := w4.heap.size + 1) 3 #[.int .i64 y.blk] (by simp)).cell 0 rfl
      clear hf4 hb4 r5 b5 z5 hb45 HX3 HO3 HB3 CF hl0 hr0 k1a
      go_wp2_with (first
        | (with_reducible refine wpList_allocA rfl 62 rfl _ chZero ?_)
        | (with_reducible refine wpList_storeRow rfl 62 _ _ rfl w4.heap.size rfl (chC y A3 c3 A4 c4) rfl chZ 62 5 chSize rfl rfl (chC_one _ _ _ _ _) R0 ?_)
        | (at_builtin; go_loud (refine wpList_app1 rfl _ _ 28 rfl w.heap.size 3 (.int .i64 0) 8 V64 Try.underlying28 intInfo3 rfl (.slice A5 ds.length c5) ds y.blk rfl _ (w4.heap.size + 1) rfl (HO5.out.alloc _) hc1 rfl hob ho6 (by simp; omega) ?_); intro v7 w7 hown7 hb7 hg7; have d7 := gb_cell hg7 k1b HNE.out))
      have hwl := ChsN.below HX5.out (bb0 _ (.cells #[.int .i64 y.blk] 3))
      have hx7 := ChsN.gb hwl hg7
      have hsz7 := hg7.size
      have hlt7 := hown7.lt
      have hb8 := bb0 w7 (.cells #[.int .i64 y.blk] 3)
      have hi8 := is_row (Row.new w7 3 #[.int .i64 y.blk]) (d := [y.blk]) (fun z hz => by simp at hz; subst hz; exact hwb) (show 1 ≤ M63 by decide)
      have CA := Lib.hid (After_any A7 c7 ls (some ⟨w7.heap.size, 0, none⟩) 1 [y.blk] _ (hx7.below hb8) hi8 hlx hsm.out)
      have HO8 := Lib.hid (hown7.below hb8)
      have HB8 := Lib.hid (((HB5.out.alloc HB5.out.size (.cells #[.int .i64 y.blk] 3)).trans hb7).trans (hb8.mono (Nat.le_trans (Nat.le_trans hle5 (by simp; omega)) hsz7)))
      have HL7 : Hid (∀ q, v7.ownBlock = some q → q < (w7.alloc (.cells #[.int .i64 y.blk] 3)).heap.size) := Lib.hid (fun q hq => by have := (hlt7 q hq).2; simp; omega)
      clear hwl hx7 hsz7 hlt7 hb8 hi8 hown7 hb7 hg7 HX5 HO5 HB5 hc1 k1 k1b d7 R0
      refine CA.out.mono ?_
      rintro e w9 ⟨A9, c9, rfl, m1, m2, hx9, hb9⟩
      have HX9 := Lib.hid (ChsF.n hx9 HL7.out)
      have HO9 := Lib.hid (HO8.out.below hb9)
      have HB9 := Lib.hid (HB8.out.trans (hb9.mono HB8.out.size))
      have M1 := Lib.hid m1
      have M2 := Lib.hid m2
      have hlt := HLT.out
      have HSM := Lib.hid (small_nx hsm.out y.blk)
      clear hx9 hb9 m1 m2 CA HO8 HB8
      have e9 : afterS ls [y.blk] = nx ls y.blk := rfl
      rw [e9] at HX9 M1 ⊢
      clear e9
      generalize nx ls y.blk = ls2 at *
      go_wp2_with fail
      go_roundw
      case rel => exact ⟨A9, c9, ls2, ds ++ [y.blk], rfl, M1, M2, by rw [List.length_append, List.length_singleton]; omega, HSM, HX9.out, HO9.out, HD2, HB9.out⟩
      case measure => simp [lenV]; omega
end Go.Proofs.Yteeodeooicoekaa.Rd

/- The example of chapter 11. No statement is proved here. -/
namespace Go.Proofs.Yteeodeooicoekaa.Rd
open Go.RowKit Go.Proofs.Yteeodeooicoekaa.Mem Go.Proofs.Yteeodeooicoekaa.Open Go.Proofs.Yteeodeooicoekaa.Kind Go.Proofs.Yteeodeooicoekaa.Blk Go.Proofs.Yteeodeooicoekaa.App Go.Proofs.Yteeodeooicoekaa.Pat Go.Proofs.Yteeodeooicoekaa.Same
set_option linter.unusedVariables false
set_option linter.unusedSimpArgs false
def exG : List Chg := [⟨1, 5, 0, [9], []⟩, ⟨2, 6, 0, [9], [1]⟩, ⟨3, 5, 4, [1], [2]⟩]
theorem exG1 : allS exG 3 = [1, 2, 3] := by decide +kernel
theorem exG2 : depS exG 3 = 3 := by decide +kernel
theorem exG3 : planS exG 3 = [5, 6, 5] := by decide +kernel
def exGW (w : World) : World := (((((w.alloc (.cells #[.int .u8 9] 5)).alloc (.cells #[.int .i64 0, .slice (some ⟨w.heap.size, 0, none⟩) 1 1] 60)).alloc (.cells #[.int .i64 1] 3)).alloc (.cells #[.int .u8 1] 5)).alloc (.cells #[.int .i64 2] 3)).alloc (.cells #[.int .i64 1, .int .i64 5, .int .i64 0, .slice (some ⟨w.heap.size, 0, none⟩) 1 1, .slice none 0 0, .int .i64 2, .int .i64 6, .int .i64 0, .slice (some ⟨w.heap.size, 0, none⟩) 1 1, .slice (some ⟨w.heap.size + 1 + 1, 0, none⟩) 1 1, .int .i64 3, .int .i64 5, .int .i64 4, .slice (some ⟨w.heap.size + 1 + 1 + 1, 0, none⟩) 1 1, .slice (some ⟨w.heap.size + 1 + 1 + 1 + 1, 0, none⟩) 1 1] 62)
theorem exGW_facts (w : World) : Chs (exGW w) (some ⟨w.heap.size + 1 + 1 + 1 + 1 + 1, 0, none⟩) exG ∧ Below w.heap.size w (exGW w) := by
  have r0 : Row (exGW w) w.heap.size 5 (blk [9]) := (((((rowAt 5 (blk [9]) rfl).alloc _).alloc _).alloc _).alloc _).alloc _
  have r2 : Row (exGW w) (w.heap.size + 1 + 1) 3 (nums [1]) := (((rowAt 3 (nums [1]) (by simp)).alloc _).alloc _).alloc _
  have r3 : Row (exGW w) (w.heap.size + 1 + 1 + 1) 5 (blk [1]) := ((rowAt 5 (blk [1]) (by simp)).alloc _).alloc _
  have r4 : Row (exGW w) (w.heap.size + 1 + 1 + 1 + 1) 3 (nums [2]) := (rowAt 3 (nums [2]) (by simp)).alloc _
  have r5 : Row (exGW w) (w.heap.size + 1 + 1 + 1 + 1 + 1) 62 _ := rowAt 62 _ (by simp)
  have b0 : By (exGW w) (some ⟨w.heap.size, 0, none⟩) [9] := by_row r0 (by simp) (by decide)
  have b3 : By (exGW w) (some ⟨w.heap.size + 1 + 1 + 1, 0, none⟩) [1] := by_row r3 (by simp) (by decide)
  have i2 : Is (exGW w) (some ⟨w.heap.size + 1 + 1, 0, none⟩) [1] := is_row r2 (fun x hx => by simp at hx; subst hx; rfl) (by decide)
  have i4 : Is (exGW w) (some ⟨w.heap.size + 1 + 1 + 1 + 1, 0, none⟩) [2] := is_row r4 (fun x hx => by simp at hx; subst hx; rfl) (by decide)
  refine ⟨chs_row r5 (by decide) fun i x hx => ?_, ?_⟩
  · match i, hx with
    | 0, hx =>
      simp [exG] at hx
      subst hx
      exact ⟨some ⟨w.heap.size, 0, none⟩, 1, none, 0, kChg_mk ⟨rfl, rfl, rfl⟩ (by decide) (by decide) (fun h => by first | rfl | cases h) b0 (by decide) (by decide) (fun h => by first | rfl | cases h) is_nil, fun j v hv => by
        match j, hv with
        | 0, hv | 1, hv | 2, hv | 3, hv | 4, hv => simpa using hv
        | n + 5, hv => simp at hv⟩
    | 1, hx =>
      simp [exG] at hx
      subst hx
      exact ⟨some ⟨w.heap.size, 0, none⟩, 1, some ⟨w.heap.size + 1 + 1, 0, none⟩, 1, kChg_mk ⟨rfl, rfl, rfl⟩ (by decide) (by decide) (fun h => by first | rfl | cases h) b0 (by decide) (by decide) (fun h => by first | rfl | cases h) i2, fun j v hv => by
        match j, hv with
        | 0, hv | 1, hv | 2, hv | 3, hv | 4, hv => simpa using hv
        | n + 5, hv => simp at hv⟩
    | 2, hx =>
      simp [exG] at hx
      subst hx
      exact ⟨some ⟨w.heap.size + 1 + 1 + 1, 0, none⟩, 1, some ⟨w.heap.size + 1 + 1 + 1 + 1, 0, none⟩, 1, kChg_mk ⟨rfl, rfl, rfl⟩ (by decide) (by decide) (fun h => by first | rfl | cases h) b3 (by decide) (by decide) (fun h => by first | rfl | cases h) i4, fun j v hv => by
        match j, hv with
        | 0, hv | 1, hv | 2, hv | 3, hv | 4, hv => simpa using hv
        | n + 5, hv => simp at hv⟩
    | n + 3, hx => simp [exG] at hx
  · exact ((((((Below.refl _ _).alloc (Nat.le_refl _) _).alloc (by simp) _).alloc (by simp; omega) _).alloc (by simp; omega) _).alloc (by simp; omega) _).alloc (by simp; omega) _
set_option maxHeartbeats 2000000 in
set_option maxRecDepth 100000 in
theorem works11 (w : World) :
    Calls Try.prog 32 #[] w fun e w' => e = .returned (.bool true) ∧ Below w.heap.size w w' := by
  obtain ⟨hx, hb⟩ := exGW_facts w
  have sm : Small exG := by intro x hx; simp [exG] at hx; rcases hx with rfl | rfl | rfl <;> simp
  have C1 : Hid (∀ w', Chs w' (some ⟨w.heap.size + 1 + 1 + 1 + 1 + 1, 0, none⟩) exG → Calls Try.prog 33 #[.slice (some ⟨w.heap.size + 1 + 1 + 1 + 1 + 1, 0, none⟩) 3 3, .int .i64 3] w' fun r w'' => ∃ v, r = .returned v ∧ Ns w'' w'.heap.size v [1, 2, 3] ∧ Below w'.heap.size w' w'') := Lib.hid fun w' h => by have := All_any (some ⟨w.heap.size + 1 + 1 + 1 + 1 + 1, 0, none⟩) 3 exG 3 w' h (by decide) (by decide) (by decide) sm; rw [exG1] at this; exact this
  have C2 : Hid (∀ w', Chs w' (some ⟨w.heap.size + 1 + 1 + 1 + 1 + 1, 0, none⟩) exG → Calls Try.prog 35 #[.slice (some ⟨w.heap.size + 1 + 1 + 1 + 1 + 1, 0, none⟩) 3 3, .int .i64 3] w' fun r w'' => r = .returned (.int .i64 3) ∧ Below w'.heap.size w' w'') := Lib.hid fun w' h => by have := Depth_any (some ⟨w.heap.size + 1 + 1 + 1 + 1 + 1, 0, none⟩) 3 exG 3 rfl w' h (by decide) (by decide) (by decide) sm; rw [exG2] at this; exact this
  have C3 : Hid (∀ w', Chs w' (some ⟨w.heap.size + 1 + 1 + 1 + 1 + 1, 0, none⟩) exG → Calls Try.prog 38 #[.slice (some ⟨w.heap.size + 1 + 1 + 1 + 1 + 1, 0, none⟩) 3 3, .int .i64 3] w' fun r w'' => ∃ v, r = .returned v ∧ Ns w'' w'.heap.size v [5, 6, 5] ∧ Below w'.heap.size w' w'') := Lib.hid fun w' h => by have := Plan_any (some ⟨w.heap.size + 1 + 1 + 1 + 1 + 1, 0, none⟩) 3 exG 3 w' h (by decide) (by decide) (by decide) sm; rw [exG3] at this; exact this
  have HX := Lib.hid hx
  have HB := Lib.hid hb
  clear hx hb
  unfold exGW at *
  go_enter Try.func32, Try.ntmps32
  go_wp2_with fail
  generalize (((((w.alloc (.cells #[.int .u8 9] 5)).alloc (.cells #[.int .i64 0, .slice (some ⟨w.heap.size, 0, none⟩) 1 1] 60)).alloc (.cells #[.int .i64 1] 3)).alloc (.cells #[.int .u8 1] 5)).alloc (.cells #[.int .i64 2] 3)).alloc (.cells #[.int .i64 1, .int .i64 5, .int .i64 0, .slice (some ⟨w.heap.size, 0, none⟩) 1 1, .slice none 0 0, .int .i64 2, .int .i64 6, .int .i64 0, .slice (some ⟨w.heap.size, 0, none⟩) 1 1, .slice (some ⟨w.heap.size + 1 + 1, 0, none⟩) 1 1, .int .i64 3, .int .i64 5, .int .i64 4, .slice (some ⟨w.heap.size + 1 + 1 + 1, 0, none⟩) 1 1, .slice (some ⟨w.heap.size + 1 + 1 + 1 + 1, 0, none⟩) 1 1] 62) = W at *
  refine (C1.out W HX.out).mono ?_
  rintro e w1 ⟨v1, rfl, hown1, hb1⟩
  obtain ⟨A1, c1, rfl⟩ := hown1.slice
  have hl3 : Sl (w1.alloc (.cells #[.int .i64 1, .int .i64 2, .int .i64 3] 3)) V64 (some ⟨w1.heap.size, 0, none⟩) 3 [1, 2, 3] := sl_block (Row.new w1 3 #[.int .i64 1, .int .i64 2, .int .i64 3]) rfl (by decide)
  have hs1 : Sl (w1.alloc (.cells #[.int .i64 1, .int .i64 2, .int .i64 3] 3)) V64 A1 3 [1, 2, 3] := (hown1.alloc _).sl.2
  have hb1' := hb1.alloc hb1.size (.cells #[.int .i64 1, .int .i64 2, .int .i64 3] 3)
  have I1 := Lib.hid (ints_yes A1 (some ⟨w1.heap.size, 0, none⟩) 3 3 c1 3 [1, 2, 3] _ hs1 hl3)
  have HB1 := Lib.hid (HB.out.trans (hb1'.mono HB.out.size))
  have HX1 := Lib.hid (HX.out.below hb1')
  clear hown1 hl3 hs1 hb1' hb1 C1 HX HB
  go_wp2_with fail
  refine I1.out.mono ?_
  rintro e w2 ⟨rfl, hb2⟩
  have HX2 := Lib.hid (HX1.out.below hb2)
  have HB2 := Lib.hid (HB1.out.trans (hb2.mono HB1.out.size))
  clear hb2 HX1 HB1 I1
  go_wp2_with fail
  refine (C2.out w2 HX2.out).mono ?_
  rintro e w4 ⟨rfl, hb4⟩
  have HX4 := Lib.hid (HX2.out.below hb4)
  have HB4 := Lib.hid (HB2.out.trans (hb4.mono HB2.out.size))
  clear hb4 HX2 HB2 C2
  go_wp2_with fail
  refine (C3.out w4 HX4.out).mono ?_
  rintro e w5 ⟨v5, rfl, hown5, hb5⟩
  obtain ⟨A5, c5, rfl⟩ := hown5.slice
  have hl5 : Sl (w5.alloc (.cells #[.int .i64 5, .int .i64 6, .int .i64 5] 3)) V64 (some ⟨w5.heap.size, 0, none⟩) 3 [5, 6, 5] := sl_block (Row.new w5 3 #[.int .i64 5, .int .i64 6, .int .i64 5]) rfl (by decide)
  have hs5 : Sl (w5.alloc (.cells #[.int .i64 5, .int .i64 6, .int .i64 5] 3)) V64 A5 3 [5, 6, 5] := (hown5.alloc _).sl.2
  have hb5' := hb5.alloc hb5.size (.cells #[.int .i64 5, .int .i64 6, .int .i64 5] 3)
  have I2 := Lib.hid (ints_yes A5 (some ⟨w5.heap.size, 0, none⟩) 3 3 c5 3 [5, 6, 5] _ hs5 hl5)
  have HB5 := Lib.hid (HB4.out.trans (hb5'.mono HB4.out.size))
  clear hown5 hl5 hs5 hb5' hb5 C3 HX4 HB4
  go_wp2_with fail
  refine I2.out.mono ?_
  rintro e w6 ⟨rfl, hb6⟩
  have HB6 := Lib.hid (HB5.out.trans (hb6.mono HB5.out.size))
  clear hb6 HB5 I2
  go_wp2
  go_ret
  exact ⟨rfl, HB6.out⟩
end Go.Proofs.Yteeodeooicoekaa.Rd

