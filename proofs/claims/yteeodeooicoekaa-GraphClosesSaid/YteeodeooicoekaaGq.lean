/- GraphCloses. -/
import Derived.Test.YteeodeooicoekaaGh
import Derived.Test.YteeodeooicoekaaRz
namespace Go.Proofs.Yteeodeooicoekaa.Rd
open Go.RowKit Go.Proofs.Yteeodeooicoekaa.Mem Go.Proofs.Yteeodeooicoekaa.Open Go.Proofs.Yteeodeooicoekaa.Kind Go.Proofs.Yteeodeooicoekaa.Blk Go.Proofs.Yteeodeooicoekaa.App Go.Proofs.Yteeodeooicoekaa.Pat Go.Proofs.Yteeodeooicoekaa.Same
set_option linter.unusedVariables false
set_option linter.unusedSimpArgs false
/-- Data that is read, no part of which lies in the block that a value owns. -/
abbrev RwN {α : Type} (k : Kd α) (w : World) (v : Value) (A : Option Addr) (xs : List α) : Prop := Rw k w (fun b => some b ≠ v.ownBlock ∧ b < w.heap.size) A xs.length xs
section
variable {α : Type} {k : Kd α} {w w' : World} {v v' : Value} {A : Option Addr} {xs : List α}
theorem RwN.all (h : RwN k w v A xs) : Rw k w (All w) A xs.length xs := Rw.mono (fun b hb => hb.2) h
theorem RwN.below (h : RwN k w v A xs) (hb : Below w.heap.size w w') : RwN k w' v A xs :=
  Rw.mono (fun b h => ⟨h.1, Nat.lt_of_lt_of_le h.2 hb.size⟩) (Rw.stay (fun b h => hb.block b h.2) h)
theorem RwN.app (h : RwN k w v A xs) (hg : w.grownBy w' v.ownBlock) (hat : v'.ownBlock = v.ownBlock ∨ v'.ownBlock = some w.heap.size) : RwN k w' v' A xs :=
  Rw.mono (fun b h => ⟨by rcases hat with e | e <;> rw [e]; exact h.1; intro e2; injection e2 with e2; have := h.2; omega, Nat.lt_of_lt_of_le h.2 hg.size⟩) (Rw.stay (fun b h => hg.block b h.2 h.1) h)
theorem RwN.new (h : Rw k w (All w) A xs.length xs) (hb : Below w.heap.size w w') (hv : ∀ q, v.ownBlock = some q → w.heap.size ≤ q) : RwN k w' v A xs :=
  Rw.mono (fun b h => ⟨fun e => by have := hv b e.symm; have : b < w.heap.size := h; omega, Nat.lt_of_lt_of_le h hb.size⟩) (Rw.stay (fun b h => hb.block b h) h)
end
theorem own_one {α : Type} {w : World} {E : TypeId} {V : α → Value} (y : α) : Own (w.alloc (.cells #[V y] E)) w.heap.size E V (.slice (some ⟨w.heap.size, 0, none⟩) 1 1) [y] :=
  own_made (n := 1) (y := y) (Nat.le_refl _) (by omega) rfl
theorem own_is2 {w : World} {B : Nat} {A : Option Addr} {n c : Nat} {xs : List Int} (h : Ns w B (.slice A n c) xs) (hw : ∀ x ∈ xs, WfI x) : Is w A xs := by
  obtain ⟨A', c', e, -, -, -, hr⟩ := own_is h hw
  injection e with e1 e2 e3
  subst e1
  exact hr
theorem all_wanted {xs : List Chg} (hm : mayF 0 xs = true) {id n : Int} (hn : n ∈ allS xs id) : n = id ∨ ∃ p ∈ allS xs id, n ∈ waitsS xs p := by
  obtain ⟨_, hr⟩ := (mem_all hm).1 hn
  cases hr with
  | here => exact .inl rfl
  | @step p _ hp hw =>
    refine .inr ⟨p, (mem_all hm).2 ⟨?_, hp⟩, hw⟩
    rcases has_or (xs := xs) p with h0 | ⟨i, hi, e⟩
    · rw [waitsS_not h0] at hw; cases hw
    · exact ⟨xs[i], List.getElem_mem hi, e⟩
structure Wnt (xs : List Chg) (id : Int) (L : List Int) (k : Nat) (WT : List Int) : Prop where
  self : id ∈ WT
  has : ∀ j, (hj : j < L.length) → j < k → ∀ m ∈ waitsS xs L[j], m ∈ WT
  wf : ∀ m ∈ WT, WfI m
  len : WT.length ≤ 1 + k * 24
structure WntQ (xs : List Chg) (id : Int) (L : List Int) (k : Nat) (W : List Int) (q : Nat) (WT : List Int) : Prop where
  self : id ∈ WT
  has : ∀ j, (hj : j < L.length) → j < k → ∀ m ∈ waitsS xs L[j], m ∈ WT
  part : ∀ m ∈ W.take q, m ∈ WT
  wf : ∀ m ∈ WT, WfI m
  len : WT.length ≤ 1 + k * 24 + q
theorem wntQ_zero {xs : List Chg} {id : Int} {L : List Int} {k : Nat} {W WT : List Int} (h : Wnt xs id L k WT) : WntQ xs id L k W 0 WT := ⟨h.self, h.has, fun m hm => by simp at hm, h.wf, by have := h.len; omega⟩
theorem wntQ_next {xs : List Chg} {id : Int} {L : List Int} {k : Nat} {W WT : List Int} {q : Nat} (hq : q < W.length) (hw : WfI W[q]) (h : WntQ xs id L k W q WT) : WntQ xs id L k W (q + 1) (WT ++ [W[q]]) where
  self := List.mem_append_left _ h.self
  has j hj hjk m hm := List.mem_append_left _ (h.has j hj hjk m hm)
  part m hm := by
    rw [List.take_add_one, List.getElem?_eq_getElem hq] at hm
    rcases List.mem_append.1 hm with hm | hm
    · exact List.mem_append_left _ (h.part m hm)
    · exact List.mem_append_right _ hm
  wf m hm := by
    rcases List.mem_append.1 hm with hm | hm
    · exact h.wf m hm
    · rw [List.mem_singleton] at hm; subst hm; exact hw
  len := by rw [List.length_append, List.length_singleton]; have := h.len; omega
theorem wntQ_end {xs : List Chg} {id : Int} {L : List Int} {k : Nat} (hk : k < L.length) {W WT : List Int} (hW : waitsS xs L[k] = W) (hl : W.length ≤ 24) (h : WntQ xs id L k W W.length WT) : Wnt xs id L (k + 1) WT where
  self := h.self
  has j hj hjk m hm := by
    by_cases e : j < k
    · exact h.has j hj e m hm
    · obtain rfl : j = k := by omega
      rw [hW] at hm
      have := h.part
      rw [List.take_length] at this
      exact this m hm
  wf := h.wf
  len := by have := h.len; omega
set_option maxHeartbeats 8000000 in
set_option maxRecDepth 100000 in
theorem closes_walk (A : Option Addr) (c : Nat) (xs : List Chg) (a : Int) (w : World) (hx : Chs w A xs) (hc : A = none → c = 0) (hwa : (Lit.int .u8 a).wf = true) :
    Calls Try.prog 9 #[.slice A xs.length c, .int .u8 a] w fun e w' => e = .returned (.bool true) ∧ Below w.heap.size w w' := by
  have CMu := Lib.hid (much_any A c xs 24 w hx (by omega))
  have CMy0 := fun w' h => may_any A c xs w' h
  have ha : 0 ≤ a ∧ a ≤ 255 := by simpa [Lit.wf, IntKind.min, IntKind.max, IntKind.signed, IntKind.bits] using hwa
  have hl : xs.length ≤ 9223372036854775807 := hx.2.1
  go_enter Try.func9, Try.ntmps9
  go_wp2_with fail
  cases hmu : muchC xs 24 with
  | true =>
    rw [hmu] at CMu
    refine CMu.out.mono ?_
    rintro e w1 ⟨rfl, hb1⟩
    clear CMu CMy0
    go_wp2_with fail
    refine (works11 _).mono ?_
    rintro e wB ⟨rfl, hbB⟩
    go_wp2
    go_ret
    exact ⟨rfl, hb1.trans (hbB.mono hb1.size)⟩
  | false =>
    rw [hmu] at CMu
    obtain ⟨hn, hs⟩ := muchC_no hmu
    clear hmu
    refine CMu.out.mono ?_
    rintro e w1 ⟨rfl, hb1⟩
    clear CMu
    cases hm : mayF 0 xs with
    | false =>
      rw [hm] at CMy0
      have CMy := Lib.hid CMy0
      clear CMy0 hm
      go_wp2_with fail
      refine (CMy.out _ (hx.below hb1)).mono ?_
      rintro e w2 ⟨rfl, hb2⟩
      have hb12 := hb1.trans (hb2.mono hb1.size)
      clear CMy
      go_wp2_with fail
      refine (works11 _).mono ?_
      rintro e wB ⟨rfl, hbB⟩
      go_wp2
      go_ret
      exact ⟨rfl, hb12.trans (hbB.mono hb12.size)⟩
    | true =>
      rw [hm] at CMy0
      have CMy := Lib.hid CMy0
      clear CMy0
      rcases Nat.eq_zero_or_pos xs.length with h0 | h0
      · have hnil : xs = [] := List.eq_nil_of_length_eq_zero h0
        subst hnil
        clear hm
        go_wp2_with fail
        refine (CMy.out _ (hx.below hb1)).mono ?_
        rintro e w2 ⟨rfl, hb2⟩
        have hb12 := hb1.trans (hb2.mono hb1.size)
        clear CMy
        go_wp2_with fail
        refine (works11 _).mono ?_
        rintro e wB ⟨rfl, hbB⟩
        go_wp2
        go_ret
        exact ⟨rfl, hb12.trans (hbB.mono hb12.size)⟩
      · obtain ⟨i, hi, hie⟩ : ∃ i : Nat, i < xs.length ∧ a.tmod (xs.length : Int) = (i : Int) := by
          have h1 := Int.tmod_nonneg (xs.length : Int) ha.1
          have h2 := Int.tmod_lt_of_pos a (show (0 : Int) < (xs.length : Int) by omega)
          exact ⟨(a.tmod (xs.length : Int)).toNat, by omega, by omega⟩
        have hne1 : ((xs.length : Int) == 0) = false := by simpa using (show (xs.length : Int) ≠ 0 by omega)
        have hne2 : decide ((xs.length : Int) = 0) = false := decide_eq_false (by omega)
        have hne3 : ¬ xs = [] := by intro h; rw [h] at h0; simp at h0
        have hne4 : ¬ ((xs.length : Int) = 0) := by omega
        obtain ⟨g, o, rfl, hg⟩ := ch_form hx h0
        obtain ⟨A1, c1, A2, c2, hat0⟩ := ch_at hx i hi
        go_wp2_with fail
        refine (CMy.out _ (hx.below hb1)).mono ?_
        rintro e w2 ⟨rfl, hb2⟩
        have hb12 := hb1.trans (hb2.mono hb1.size)
        have hx2 := hx.below hb12
        have e0 := (hat0.below hb12).v0
        have hwa0 : IntKind.i64.wrap a = a := by rw [IntKind.wrap_i64]; omega
        have hwai : IntKind.i64.wrap (i : Int) = (i : Int) := by rw [IntKind.wrap_i64]; omega
        have hio : (i : Int) < (xs.length : Int) := by omega
        have CT := Lib.hid (to9_any (some ⟨g, o, none⟩) c xs w2 hx2 hs (by omega))
        clear hb2 CMy hb1
        go_wp2_with fail
        have hself := all_self hm hi
        have hidw : WfI xs[i].id := hat0.ok.1
        obtain ⟨id, hid⟩ : ∃ id, xs[i].id = id := ⟨_, rfl⟩
        rw [hid] at e0 hself hidw ⊢
        have hal := all_len xs id
        have hlw := all_wf hx id
        have HAW := Lib.hid (fun n m hn hw => all_waits hm (id := id) (n := n) (m := m) hn hw)
        have HWN := Lib.hid (fun n hn => all_wanted hm (id := id) (n := n) hn)
        have HDL := Lib.hid (depS_le xs id)
        have HWF := Lib.hid (fun n => waits_wf hx n)
        have HWL := Lib.hid (waits_len xs)
        clear hat0 hm hwa hne1 hne2 hne3 hne4 hwa0 hwai hie hc hid
        have CA := Lib.hid (fun A' c' w' h k1 k2 => All_any A' c' xs id w' h k1 k2 (by omega) hs)
        have CD := Lib.hid (fun A' c' w' h k1 k2 => Depth_any A' c' xs id hidw w' h k1 k2 (by omega) hs)
        have CW := Lib.hid (fun n hn' A' c' w' h k1 k2 => Waits_any A' c' xs n hn' w' h k1 k2 (by omega) hs)
        obtain ⟨L, hL⟩ : ∃ L, allS xs id = L := ⟨_, rfl⟩
        rw [hL] at CA hself hal hlw HAW HWN HDL
        clear hL
        generalize depS xs id = dd at *
        refine CT.out.mono ?_
        rintro e w3 ⟨v3, rfl, hown3, hb3⟩
        obtain ⟨A7, c7, rfl, k1, k2, k3, hy3⟩ := hown3.rw_
        have HB3 := Lib.hid (hb12.trans (hb3.mono hb12.size))
        have HY3 := Lib.hid hy3
        have CA := Lib.hid (CA.out A7 c7 w3 hy3 k1 k2)
        have CD := Lib.hid (fun w' h => CD.out A7 c7 w' h k1 k2)
        have CW := Lib.hid (fun n hn' w' h => CW.out n hn' A7 c7 w' h k1 k2)
        clear hown3 hb3 hb12 hx2 hy3 k1 k2 k3 CT e0 hx
        go_wp2_with fail
        refine CA.out.mono ?_
        rintro e w4 ⟨v4, rfl, ho4, hb4⟩
        obtain ⟨AL, cL, rfl, -, -, -, hi4⟩ := own_is ho4 hlw
        have HB4 := Lib.hid (HB3.out.trans (hb4.mono HB3.out.size))
        have hy4 := HY3.out.below hb4
        have hb5 := bb0 w4 (.cells #[.int .i64 id] 3)
        have hv5 : ∀ q, (Value.slice (some ⟨w4.heap.size, 0, none⟩) 1 1).ownBlock = some q → w4.heap.size ≤ q := fun q hq => by have hq' : some w4.heap.size = some q := hq; injection hq' with e; omega
        have hno : Ns (w4.alloc (.cells #[.int .i64 id] 3)) w4.heap.size (.slice (some ⟨w4.heap.size, 0, none⟩) 1 1) [id] := own_one id
        have hnl := RwN.new (v := .slice (some ⟨w4.heap.size, 0, none⟩) 1 1) hi4 hb5 hv5
        have hny := RwN.new (v := .slice (some ⟨w4.heap.size, 0, none⟩) 1 1) hy4 hb5 hv5
        have hB5 := HB4.out.trans (hb5.mono HB4.out.size)
        have hle4 := HB4.out.size
        have HW0 : Hid (Wnt xs id L 0 [id]) := Lib.hid ⟨List.mem_singleton.2 rfl, fun j _ h => by omega, fun m hm => by rw [List.mem_singleton] at hm; subst hm; exact hidw, by simp⟩
        clear ho4 hi4 hb4 hy4 hb5 hv5 HB3 HY3 CA HB4
        go_wp2_with fail
        go_loopw [8, 9] (fun v i wr => ∃ (k : Nat) (WT : List Int), k ≤ L.length ∧ i = .int .i64 k ∧ Ns wr w4.heap.size v WT ∧ RwN (kInt .i64) wr v AL L ∧ RwN kChg wr v A7 xs ∧ Hid (Wnt xs id L k WT) ∧ Below w.heap.size w wr) (fun _ i _ => L.length - (intOf i).toNat)
        case atStart => exact ⟨0, [id], by omega, rfl, hno, hnl, hny, HW0, hB5⟩
        case round =>
          obtain ⟨k, WT, hk, rfl, hown, hl1, hy1, hwt, hbr⟩ := hrel
          obtain ⟨g8, c8, rfl⟩ := hown.slice_pos (List.length_pos_of_mem hwt.out.self)
          by_cases hlt : k < L.length
          · obtain ⟨gl, ol, rfl, hgl, hl0⟩ := is_at hl1.all k hlt
            have hlm := List.getElem_mem hlt
            obtain ⟨W, hW⟩ : ∃ W, waitsS xs L[k] = W := ⟨_, rfl⟩
            have HWE := Lib.hid hW
            obtain ⟨lk, hlk⟩ : ∃ lk, L[k] = lk := ⟨_, rfl⟩
            rw [hlk] at hlm hl0 hW
            have hlw1 := hlw lk hlm
            have CWk := Lib.hid (CW.out lk hlw1 wr hy1.all)
            have hww := HWF.out lk
            have hwl := HWL.out lk
            have HAWk := Lib.hid (fun m hw => HAW.out lk m hlm hw)
            rw [hW] at CWk hww hwl HAWk
            have HO := Lib.hid hown
            have HL := Lib.hid hl1
            have HY := Lib.hid hy1
            have HB := Lib.hid hbr
            clear hW hown hl1 hy1 hbr
            clear hlk
            go_wp2_with fail
            refine CWk.out.mono ?_
            rintro e w6 ⟨v6, rfl, ho6, hb6⟩
            obtain ⟨AW, cW, rfl, -, -, -, hi6⟩ := own_is ho6 hww
            have hv6 := (HO.out.lt)
            have hiN : RwN (kInt .i64) w6 (Value.slice (some ⟨g8, 0, none⟩) WT.length c8) AW W := by
              rcases hi6.2.2 with h00 | ⟨gw, ow, rfl, hgw, hgw2, hc6⟩
              · exact ⟨rfl, hi6.2.1, .inl h00⟩
              · refine ⟨rfl, hi6.2.1, .inr ⟨gw, ow, rfl, ⟨fun e => ?_, hgw⟩, hgw2, fun i x hx => ?_⟩⟩
                · have h1 := (hv6 gw e.symm).2
                  have h2 := (Own.lt ho6 gw rfl).1
                  omega
                · obtain ⟨cs, ⟨rfl, h1⟩, h2⟩ := hc6 i x hx
                  exact ⟨_, ⟨rfl, h1⟩, h2⟩
            have hO6 := HO.out.below hb6
            have hL6 := RwN.below HL.out hb6
            have hY6 := RwN.below HY.out hb6
            have hB6 := HB.out.trans (hb6.mono HB.out.size)
            have HQ0 := Lib.hid (wntQ_zero (W := W) hwt.out)
            clear ho6 hi6 hb6 hv6 HO HL HY HB CWk hl0 hwt
            go_wp2_with fail
            go_loopw [8, 11] (fun v i wq => ∃ (q : Nat) (W2 : List Int), q ≤ W.length ∧ i = .int .i64 q ∧ Ns wq w4.heap.size v W2 ∧ RwN (kInt .i64) wq v (some ⟨gl, ol, none⟩) L ∧ RwN kChg wq v A7 xs ∧ RwN (kInt .i64) wq v AW W ∧ Hid (WntQ xs id L k W q W2) ∧ Below w.heap.size w wq) (fun _ i _ => W.length - (intOf i).toNat)
            case atStart => exact ⟨0, WT, by omega, rfl, hO6, hL6, hY6, hiN, HQ0, hB6⟩
            case round =>
              clear hO6 hL6 hY6 hiN hB6
              obtain ⟨q, W2, hq, rfl, hown, hl2, hy2, hw2, hwq, hbq⟩ := hrel
              rename World => wr0
              obtain ⟨g9, c9, rfl⟩ := hown.slice_pos (List.length_pos_of_mem hwq.out.self)
              have hqlen := hwq.out.len
              by_cases hql : q < W.length
              · obtain ⟨gw, ow, rfl, hgw, hw0⟩ := is_at hw2.all q hql
                have hmw := hww W[q] (List.getElem_mem hql)
                have CI0 := in_any (some ⟨gl, ol, none⟩) cL L W[q] wr0 hl2.all
                rw [decide_eq_true (HAWk.out W[q] (List.getElem_mem hql))] at CI0
                have CI := Lib.hid CI0
                have HNX := Lib.hid (wntQ_next hql hmw hwq.out)
                have HO := Lib.hid hown
                have HL := Lib.hid hl2
                have HY := Lib.hid hy2
                have HW := Lib.hid hw2
                have HB := Lib.hid hbq
                clear CI0 hown hl2 hy2 hw2 hbq hwq
                obtain ⟨m, hmq⟩ : ∃ m, W[q] = m := ⟨_, rfl⟩
                rw [hmq] at hw0 hmw CI HNX
                clear hmq
                go_wp2_with fail
                refine CI.out.mono ?_
                rintro e w8 ⟨rfl, hb8⟩
                have hw8 := (hb8.cell (p := ⟨gw, ow + q, none⟩) hgw).trans hw0
                have HO8 := Lib.hid (HO.out.below hb8)
                have HL8 := Lib.hid (RwN.below HL.out hb8)
                have HY8 := Lib.hid (RwN.below HY.out hb8)
                have HW8 := Lib.hid (RwN.below HW.out hb8)
                have HB8 := Lib.hid (HB.out.trans (hb8.mono HB.out.size))
                have hsl : Sl (w8.alloc (.cells #[.int .i64 m] 3)) V64 (some ⟨w8.heap.size, 0, none⟩) 1 [m] := sl_block (Row.new w8 3 #[.int .i64 m]) rfl (by simp)
                have hob : (W2.length + 1) * 8 ≤ 140737488355328 := by omega
                have ho6 : W2.length + 1 ≤ 9223372036854775807 := by omega
                have hB48 : w4.heap.size ≤ (w8.alloc (.cells #[.int .i64 m] 3)).heap.size := by have := Own.base HO8.out; simp; omega
                clear hb8 HO HL HY HW HB CI hw0
                go_wp2_with (at_builtin; go_loud (refine wpList_app (E := 3) (B := w4.heap.size) (V := V64) (xs := W2) (ys := [m]) rfl _ _ 28 rfl (.int .i64 0) 8 Try.underlying28 intInfo3 rfl rfl rfl (HO8.out.alloc _) hsl (fun h => by cases h) (fun _ => rfl) hob ho6 hB48 ?_); intro v7 w7 hown7 hg7 hat7)
                have hb9 := bb0 w8 (.cells #[.int .i64 m] 3)
                have HL9 := Lib.hid (RwN.app (RwN.below HL8.out hb9) hg7 hat7)
                have HY9 := Lib.hid (RwN.app (RwN.below HY8.out hb9) hg7 hat7)
                have HW9 := Lib.hid (RwN.app (RwN.below HW8.out hb9) hg7 hat7)
                have HO9 := Lib.hid hown7
                have HB9 := Lib.hid ((HB8.out.trans (hb9.mono HB8.out.size)).grown hg7 (Nat.le_trans hle4 hB48) (fun z hz => Nat.le_trans hle4 (Own.lt HO8.out z hz).1))
                clear hb9 hown7 hg7 hat7 HL8 HY8 HW8 HO8 HB8
                go_roundw
                case rel => exact ⟨q + 1, W2 ++ [m], by omega, by go_num, HO9.out, HL9.out, HY9.out, HW9.out, HNX, HB9.out⟩
                case measure => simp [intOf]; omega
              · obtain rfl : q = W.length := by omega
                have HWT := Lib.hid (wntQ_end hlt HWE.out (by omega) hwq.out)
                have HO := Lib.hid hown
                have HL := Lib.hid hl2
                have HY := Lib.hid hy2
                have HB := Lib.hid hbq
                clear hown hl2 hy2 hw2 hbq hwq
                go_wp2_with fail
                go_roundw
                case rel => exact ⟨k + 1, W2, by omega, by go_num, HO.out, HL.out, HY.out, HWT, HB.out⟩
                case measure => simp [intOf]; omega
          · obtain rfl : k = L.length := by omega
            have hWI := own_is2 hown hwt.out.wf
            have HIN := Lib.hid (fun n (hn : n ∈ L) => by
              rcases HWN.out n hn with e | ⟨p, hp, hw⟩
              · rw [e]; exact hwt.out.self
              · obtain ⟨j, hj, e⟩ := List.mem_iff_getElem.1 hp
                rw [← e] at hw
                exact hwt.out.has j hj hj n hw : ∀ n, n ∈ L → n ∈ WT)
            have HWI := Lib.hid hWI
            have HL := Lib.hid hl1.all
            have HY := Lib.hid hy1.all
            have HB := Lib.hid hbr
            clear hown hl1 hy1 hbr hwt hWI
            go_wp2_with fail
            go_loopw [12] (fun i wq => ∃ (j : Nat), j ≤ L.length ∧ i = .int .i64 j ∧ Below wr.heap.size wr wq) (fun i _ => L.length - (intOf i).toNat)
            case atStart => exact ⟨0, by omega, rfl, Below.refl _ _⟩
            case round =>
              rename World => wr0
              obtain ⟨j, hj, rfl, hbq⟩ := hrel
              by_cases hjl : j < L.length
              · obtain ⟨gl, ol, rfl, hgl, hl0⟩ := is_at (HL.out.below hbq) j hjl
                have CI0 := in_any (some ⟨g8, 0, none⟩) c8 WT L[j] wr0 (HWI.out.below hbq)
                rw [decide_eq_true (HIN.out L[j] (List.getElem_mem hjl))] at CI0
                have CI := Lib.hid CI0
                have HBQ := Lib.hid hbq
                clear CI0 hbq
                generalize L[j] = m at *
                go_wp2_with fail
                refine CI.out.mono ?_
                rintro e w8 ⟨rfl, hb8⟩
                have HB8 := Lib.hid (HBQ.out.trans (hb8.mono HBQ.out.size))
                clear hb8 CI HBQ hl0
                go_wp2_with fail
                go_roundw
                case rel => exact ⟨j + 1, by omega, by go_num, HB8.out⟩
                case measure => simp [intOf]; omega
              · obtain rfl : j = L.length := by omega
                have CI0 := in_any AL cL L id wr0 (HL.out.below hbq)
                rw [decide_eq_true hself] at CI0
                have CI := Lib.hid CI0
                have HY0 := Lib.hid (HY.out.below hbq)
                have HB0 := Lib.hid (HB.out.trans (hbq.mono HB.out.size))
                clear CI0 hbq HL HY HB HWI
                go_wp2_with fail
                refine CI.out.mono ?_
                rintro e w8 ⟨rfl, hb8⟩
                have HB8 := Lib.hid (HB0.out.trans (hb8.mono HB0.out.size))
                have CD8 := Lib.hid (CD.out w8 (HY0.out.below hb8))
                clear hb8 CI HB0 HY0
                go_wp2_with fail
                refine CD8.out.mono ?_
                rintro e w9 ⟨rfl, hb9⟩
                have HB9 := Lib.hid (HB8.out.trans (hb9.mono HB8.out.size))
                have hdl := HDL.out.2
                have hdd : decide (dd ≤ (L.length : Int)) = true := decide_eq_true hdl
                clear hb9 HB8 CD8
                go_wp2_with fail
                refine (works11 _).mono ?_
                rintro e wB ⟨rfl, hbB⟩
                go_wp2
                go_ret
                exact ⟨rfl, HB9.out.trans (hbB.mono HB9.out.size)⟩
end Go.Proofs.Yteeodeooicoekaa.Rd
