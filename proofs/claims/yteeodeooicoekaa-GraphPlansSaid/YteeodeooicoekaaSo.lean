/- Some of a list of changes: the contracts of ready.some, ready.Of, ready.Without. No statement is proved here. -/
import Derived.Test.YteeodeooicoekaaCy
import Derived.Test.YteeodeooicoekaaMp
import Derived.Test.YteeodeooicoekaaRp
namespace Go.Proofs.Yteeodeooicoekaa.Rd
open Go.RowKit Go.Proofs.Yteeodeooicoekaa.Mem Go.Proofs.Yteeodeooicoekaa.Open Go.Proofs.Yteeodeooicoekaa.Kind Go.Proofs.Yteeodeooicoekaa.Blk Go.Proofs.Yteeodeooicoekaa.App Go.Proofs.Yteeodeooicoekaa.Pat
set_option linter.unusedVariables false
set_option linter.unusedSimpArgs false
/-- A kind of data whose parts lie from a block on. -/
def kF {α : Type} (k : Kd α) (B : Nat) : Kd α where
  sz := k.sz
  K := fun w S x cs => k.K w (fun b => S b ∧ B ≤ b) x cs
  len := fun h => k.len h
  one := fun h => k.one h
  stay := fun hs h => k.stay (fun b hb => hs b hb.1) h
  mono := fun hs h => k.mono (fun b hb => ⟨hs b hb.1, hb.2⟩) h
  bound := fun h => k.mono (fun b hb => ⟨⟨hb.1.1, hb.2⟩, hb.1.2⟩) (k.bound h)
theorem kF_weak {α : Type} {k : Kd α} {B : Nat} {w : World} {B0 : Nat} {E : TypeId} {v : Value} {xs : List α} (h : OwnK (kF k B) w B0 E v xs) : OwnK k w B0 E v xs := by
  obtain ⟨rows, h1, h2, h3⟩ := h
  exact ⟨rows, h1, fun i x hx => by obtain ⟨cs, c1, c2⟩ := h2 i x hx; exact ⟨cs, c1, k.mono (fun b hb => hb.1) c2⟩, h3⟩
theorem kF_mono {α : Type} {k : Kd α} {B B' : Nat} (hB : B' ≤ B) {w : World} {B0 : Nat} {E : TypeId} {v : Value} {xs : List α} (h : OwnK (kF k B) w B0 E v xs) : OwnK (kF k B') w B0 E v xs := by
  obtain ⟨rows, h1, h2, h3⟩ := h
  exact ⟨rows, h1, fun i x hx => by obtain ⟨cs, c1, c2⟩ := h2 i x hx; exact ⟨cs, c1, k.mono (fun b hb => ⟨hb.1, Nat.le_trans hB hb.2⟩) c2⟩, h3⟩
/-- A store ahead of all its blocks leaves it. -/
theorem kF_setRow {α : Type} {k : Kd α} {B : Nat} {w : World} {E : TypeId} {v : Value} {xs : List α} (h : OwnK (kF k B) w B E v xs) (g : Nat) (hg : g < B) (cs : Array Value) : OwnK (kF k B) (w.setRow g cs) B E v xs := by
  have hlt := h.lt
  obtain ⟨rows, h1, h2, h3⟩ := h
  refine ⟨rows, h1, fun i x hx => ?_, World.ownsRow.kept (row := some g) h3 (grown_setRow w g cs) ?_⟩
  · obtain ⟨c, c1, c2⟩ := h2 i x hx
    refine ⟨c, c1, k.mono (fun b hb => ?_) (k.stay (w' := w.setRow g cs) (fun b hb => setRow_other _ _ _ _ (by have := hb.2; omega)) c2)⟩
    exact ⟨⟨hb.1.1, by have := hb.1.2; simpa using this⟩, hb.2⟩
  · cases hv : v.ownBlock with
    | none => simp
    | some q => exact .inr (fun e => by injection e with e; have := (hlt q hv).1; omega)
set_option maxHeartbeats 2000000 in
set_option maxRecDepth 100000 in
theorem some_wo (cap : Value) (is : Chg → Bool) (I : World → Prop) (hI : ∀ w w' : World, I w → Below w.heap.size w w' → I w')
    (hcall : ∀ (w' : World) (x : Chg) (A : Option Addr) (c : Nat) (A2 : Option Addr) (c2 : Nat), I w' → ChOk x → Calls Try.prog 72 #[.agg (chC x A c A2 c2), cap] w' fun e w'' => e = .returned (.bool (is x)) ∧ Below w'.heap.size w' w'')
    (A : Option Addr) (c : Nat) (xs : List Chg) (w : World) (hw : I w) (hx : Chs w A xs) (hs : Small xs) (hn : xs.length ≤ 1000) :
    Calls Try.prog 71 #[.slice A xs.length c, .func (.func 72) #[] #[cap]] w fun r w' => ∃ v, r = .returned v ∧ OwnK (kF kChg w.heap.size) w' w.heap.size 62 v (xs.filter is) ∧ Below w.heap.size w w' := by
  have hl : xs.length ≤ 9223372036854775807 := hx.2.1
  have HW := Lib.hid hw
  clear hw
  go_enter Try.func71, Try.ntmps71
  go_wp2
  go_loopw [5, 10] (fun v i wr => ∃ (k : Nat), k ≤ xs.length ∧ i = .int .i64 k ∧ OwnK (kF kChg w.heap.size) wr w.heap.size 62 v ((xs.take k).filter is) ∧ Below w.heap.size w wr) (fun _ i _ => xs.length - (intOf i).toNat)
  case atStart => exact ⟨0, by omega, rfl, OwnK.nil _ _ _ _, Below.refl _ _⟩
  case round =>
    obtain ⟨k, hk, rfl, hown, hbr⟩ := hrel
    by_cases hlt : k < xs.length
    · obtain ⟨g, o, rfl, hg⟩ := ch_form hx (by omega)
      obtain ⟨A1, c1, A2, c2, hat0⟩ := ch_at hx k hlt
      have hat := hat0.below hbr
      have e0 := hat.v0
      have e1 := hat.v1
      have e2 := hat.v2
      have e3 : wr.cell? ⟨g, o + k * 5 + 3, none⟩ = _ := hat.v3
      have e4 := hat.v4
      have hok := hat.ok
      have hsx := hs _ (List.getElem_mem hlt)
      have HT := Lib.hid (take_next hlt)
      have hl2 : ((xs.take k).filter is).length ≤ k := Nat.le_trans (List.length_filter_le _ _) (by rw [List.length_take]; omega)
      have hS := hat.s
      clear hat0 hat
      generalize xs[k] = x at *
      obtain ⟨⟨b1, b2, b3⟩⟩ : Nonempty (_ ∧ _ ∧ _) := ⟨boxed wr 62 chZ (chC x A1 c1 A2 c2)⟩
      have R0 : Row (wr.alloc (.cells chZ 62)) wr.heap.size 62 chZ := Row.new _ _ _
      have k0 : World.cell? _ ⟨wr.heap.size, 0, none⟩ = some (.int .i64 x.id) := b1.cell 0 rfl
      have k1 : World.cell? _ ⟨wr.heap.size, 1, none⟩ = some (.int .i64 x.blk) := b1.cell 1 rfl
      have k2 : World.cell? _ ⟨wr.heap.size, 2, none⟩ = some (.int .i64 x.pa) := b1.cell 2 rfl
      have k3 : World.cell? _ ⟨wr.heap.size, 3, none⟩ = some (.slice A1 x.pd.length c1) := b1.cell 3 rfl
      have k4 : World.cell? _ ⟨wr.heap.size, 4, none⟩ = some (.slice A2 x.needs.length c2) := b1.cell 4 rfl
      have KB := Lib.hid b1
      have HO := Lib.hid (hown.below b2)
      have HS := Lib.hid (hS.below b2)
      have HB := Lib.hid (hbr.trans (b2.mono hbr.size))
      have HI := Lib.hid (hI w _ HW.out (hbr.trans (b2.mono hbr.size)))
      have h3 := b3
      clear b1 b2 b3 hown hbr hS
      go_wp2_with (first
        | (with_reducible refine wpList_allocA rfl 62 rfl _ chZero ?_)
        | (with_reducible refine wpList_storeRow rfl 62 _ _ rfl wr.heap.size rfl (chC x A1 c1 A2 c2) rfl chZ 62 5 chSize rfl rfl (chC_one _ _ _ _ _) R0 ?_))
      clear e0 e1 e2 e3 e4 R0
      generalize (wr.alloc (.cells chZ 62)).setRow wr.heap.size (chC x A1 c1 A2 c2) = wB at *
      generalize hg9 : wr.heap.size = g9 at *
      have CALL := Lib.hid (hcall wB x A1 c1 A2 c2 HI.out hok)
      cases hf : is x with
      | false =>
        rw [hf] at CALL
        have HT2 : Hid ((xs.take (k + 1)).filter is = (xs.take k).filter is) := Lib.hid (by rw [HT.out, List.filter_append, List.filter_cons_of_neg (by rw [hf]; simp), List.filter_nil, List.append_nil])
        clear hf
        refine CALL.out.mono ?_
        rintro e wb ⟨rfl, hbl⟩
        have HO2 := Lib.hid (HO.out.below hbl)
        have HB2 := Lib.hid (HB.out.trans (hbl.mono HB.out.size))
        clear hbl CALL
        go_wp2_with fail
        go_roundw
        case rel => exact ⟨k + 1, by omega, by go_num, by rw [HT2.out]; exact HO2.out, HB2.out⟩
        case measure => simp [intOf]; omega
      | true =>
        rw [hf] at CALL
        have HT2 : Hid ((xs.take (k + 1)).filter is = (xs.take k).filter is ++ [x]) := Lib.hid (by rw [HT.out, List.filter_append, List.filter_cons_of_pos (by rw [hf]), List.filter_nil])
        clear hf
        refine CALL.out.mono ?_
        rintro e wb ⟨rfl, hbl⟩
        have HO2 := Lib.hid (HO.out.below hbl)
        have HB2 := Lib.hid (HB.out.trans (hbl.mono HB.out.size))
        have KB2 := KB.out.below hbl
        have k0 : World.cell? _ ⟨g9, 0, none⟩ = some (.int .i64 x.id) := KB2.cell 0 rfl
        have k1 : World.cell? _ ⟨g9, 1, none⟩ = some (.int .i64 x.blk) := KB2.cell 1 rfl
        have k2 : World.cell? _ ⟨g9, 2, none⟩ = some (.int .i64 x.pa) := KB2.cell 2 rfl
        have k3 : World.cell? _ ⟨g9, 3, none⟩ = some (.slice A1 x.pd.length c1) := KB2.cell 3 rfl
        have k4 : World.cell? _ ⟨g9, 4, none⟩ = some (.slice A2 x.needs.length c2) := KB2.cell 4 rfl
        have CP := Lib.hid (copied_any x A1 c1 A2 c2 wb (HS.out.below hbl) hsx)
        have hlt2 := HO2.out.lt
        have hle2 : w.heap.size ≤ wb.heap.size := HB2.out.size
        have hn2 : ((xs.take k).filter is).length + 1 ≤ 2000 := by omega
        have HLT := Lib.hid hlt2
        clear hbl CALL KB2 HO HB hlt2
        generalize (xs.take k).filter is = R at *
        go_wp2_with fail
        refine CP.out.mono ?_
        rintro e wd ⟨A3, c3, A4, c4, rfl, hf3, hb3⟩
        have hO3 := HO2.out.below hb3
        have hB3 := HB2.out.trans (hb3.mono HB2.out.size)
        have hrow : Row (wd.alloc (.cells (chC x A3 c3 A4 c4) 62)) wd.heap.size 62 (chC x A3 c3 A4 c4).toList.toArray := by rw [Array.toArray_toList]; exact Row.new wd _ _
        have hf4 := hf3.below (bb0 wd (.cells (chC x A3 c3 A4 c4) 62))
        have hO4 := hO3.alloc (.cells (chC x A3 c3 A4 c4) 62)
        have hK0 := kChg_mk hf4.ok hf4.p1 hf4.p2 hf4.p3 hf4.p4.out hf4.n1 hf4.n2 hf4.n3 hf4.n4.out
        have hK : (kF kChg w.heap.size).K _ _ x _ := kChg.mono (fun b hb => ⟨hb, Nat.le_trans hle2 hb.1⟩) hK0
        clear hK0
        have hB4 := hB3.alloc hB3.size (.cells (chC x A3 c3 A4 c4) 62)
        have HB4 := Lib.hid hB4
        have hle4 := hB4.size
        have hle5 : w.heap.size ≤ (wd.alloc (.cells (chC x A3 c3 A4 c4) 62)).heap.size := hle4
        clear hf3 hb3 hO3 hB3 CP k0 k1 k2 k3 k4 hf4 hB4
        go_wp2_with (at_builtin; go_loud (refine wpList_appK (k := kF kChg w.heap.size) rfl _ _ 27 rfl (.agg chZ) 72 Try.underlying27 chInfo3 rfl (show 0 < 5 by decide) rfl _ _ rfl hO4 62 (chC x A3 c3 A4 c4).toList hrow x _ hK (fun b hb => ⟨fun e => by have := HLT.out b e.symm; omega, hb.2⟩) (by omega) (by omega) hle5 ?_); intro v7 w7 hown7 hg7 hat7)
        have HO7 := Lib.hid hown7
        have HB7 := Lib.hid (HB4.out.grown hg7 hle5 (fun q hq => (HLT.out q hq).1))
        clear hown7 hg7 hat7
        go_roundw
        case rel => exact ⟨k + 1, by omega, by go_num, by rw [HT2.out]; exact HO7.out, HB7.out⟩
        case measure => simp [intOf]; omega
    · obtain rfl : k = xs.length := by omega
      rw [List.take_length] at hown
      have HO := Lib.hid hown
      clear hown
      go_wp2
      go_ret
      exact ⟨_, rfl, HO.out, hbr⟩
set_option maxHeartbeats 2000000 in
set_option maxRecDepth 100000 in
theorem some_of (cap : Value) (is : Chg → Bool) (I : World → Prop) (hI : ∀ w w' : World, I w → Below w.heap.size w w' → I w')
    (hcall : ∀ (w' : World) (x : Chg) (A : Option Addr) (c : Nat) (A2 : Option Addr) (c2 : Nat), I w' → ChOk x → Calls Try.prog 78 #[.agg (chC x A c A2 c2), cap] w' fun e w'' => e = .returned (.bool (is x)) ∧ Below w'.heap.size w' w'')
    (A : Option Addr) (c : Nat) (xs : List Chg) (w : World) (hw : I w) (hx : Chs w A xs) (hs : Small xs) (hn : xs.length ≤ 1000) :
    Calls Try.prog 71 #[.slice A xs.length c, .func (.func 78) #[] #[cap]] w fun r w' => ∃ v, r = .returned v ∧ OwnK (kF kChg w.heap.size) w' w.heap.size 62 v (xs.filter is) ∧ Below w.heap.size w w' := by
  have hl : xs.length ≤ 9223372036854775807 := hx.2.1
  have HW := Lib.hid hw
  clear hw
  go_enter Try.func71, Try.ntmps71
  go_wp2
  go_loopw [5, 10] (fun v i wr => ∃ (k : Nat), k ≤ xs.length ∧ i = .int .i64 k ∧ OwnK (kF kChg w.heap.size) wr w.heap.size 62 v ((xs.take k).filter is) ∧ Below w.heap.size w wr) (fun _ i _ => xs.length - (intOf i).toNat)
  case atStart => exact ⟨0, by omega, rfl, OwnK.nil _ _ _ _, Below.refl _ _⟩
  case round =>
    obtain ⟨k, hk, rfl, hown, hbr⟩ := hrel
    by_cases hlt : k < xs.length
    · obtain ⟨g, o, rfl, hg⟩ := ch_form hx (by omega)
      obtain ⟨A1, c1, A2, c2, hat0⟩ := ch_at hx k hlt
      have hat := hat0.below hbr
      have e0 := hat.v0
      have e1 := hat.v1
      have e2 := hat.v2
      have e3 : wr.cell? ⟨g, o + k * 5 + 3, none⟩ = _ := hat.v3
      have e4 := hat.v4
      have hok := hat.ok
      have hsx := hs _ (List.getElem_mem hlt)
      have HT := Lib.hid (take_next hlt)
      have hl2 : ((xs.take k).filter is).length ≤ k := Nat.le_trans (List.length_filter_le _ _) (by rw [List.length_take]; omega)
      have hS := hat.s
      clear hat0 hat
      generalize xs[k] = x at *
      obtain ⟨⟨b1, b2, b3⟩⟩ : Nonempty (_ ∧ _ ∧ _) := ⟨boxed wr 62 chZ (chC x A1 c1 A2 c2)⟩
      have R0 : Row (wr.alloc (.cells chZ 62)) wr.heap.size 62 chZ := Row.new _ _ _
      have k0 : World.cell? _ ⟨wr.heap.size, 0, none⟩ = some (.int .i64 x.id) := b1.cell 0 rfl
      have k1 : World.cell? _ ⟨wr.heap.size, 1, none⟩ = some (.int .i64 x.blk) := b1.cell 1 rfl
      have k2 : World.cell? _ ⟨wr.heap.size, 2, none⟩ = some (.int .i64 x.pa) := b1.cell 2 rfl
      have k3 : World.cell? _ ⟨wr.heap.size, 3, none⟩ = some (.slice A1 x.pd.length c1) := b1.cell 3 rfl
      have k4 : World.cell? _ ⟨wr.heap.size, 4, none⟩ = some (.slice A2 x.needs.length c2) := b1.cell 4 rfl
      have KB := Lib.hid b1
      have HO := Lib.hid (hown.below b2)
      have HS := Lib.hid (hS.below b2)
      have HB := Lib.hid (hbr.trans (b2.mono hbr.size))
      have HI := Lib.hid (hI w _ HW.out (hbr.trans (b2.mono hbr.size)))
      have h3 := b3
      clear b1 b2 b3 hown hbr hS
      go_wp2_with (first
        | (with_reducible refine wpList_allocA rfl 62 rfl _ chZero ?_)
        | (with_reducible refine wpList_storeRow rfl 62 _ _ rfl wr.heap.size rfl (chC x A1 c1 A2 c2) rfl chZ 62 5 chSize rfl rfl (chC_one _ _ _ _ _) R0 ?_))
      clear e0 e1 e2 e3 e4 R0
      generalize (wr.alloc (.cells chZ 62)).setRow wr.heap.size (chC x A1 c1 A2 c2) = wB at *
      generalize hg9 : wr.heap.size = g9 at *
      have CALL := Lib.hid (hcall wB x A1 c1 A2 c2 HI.out hok)
      cases hf : is x with
      | false =>
        rw [hf] at CALL
        have HT2 : Hid ((xs.take (k + 1)).filter is = (xs.take k).filter is) := Lib.hid (by rw [HT.out, List.filter_append, List.filter_cons_of_neg (by rw [hf]; simp), List.filter_nil, List.append_nil])
        clear hf
        refine CALL.out.mono ?_
        rintro e wb ⟨rfl, hbl⟩
        have HO2 := Lib.hid (HO.out.below hbl)
        have HB2 := Lib.hid (HB.out.trans (hbl.mono HB.out.size))
        clear hbl CALL
        go_wp2_with fail
        go_roundw
        case rel => exact ⟨k + 1, by omega, by go_num, by rw [HT2.out]; exact HO2.out, HB2.out⟩
        case measure => simp [intOf]; omega
      | true =>
        rw [hf] at CALL
        have HT2 : Hid ((xs.take (k + 1)).filter is = (xs.take k).filter is ++ [x]) := Lib.hid (by rw [HT.out, List.filter_append, List.filter_cons_of_pos (by rw [hf]), List.filter_nil])
        clear hf
        refine CALL.out.mono ?_
        rintro e wb ⟨rfl, hbl⟩
        have HO2 := Lib.hid (HO.out.below hbl)
        have HB2 := Lib.hid (HB.out.trans (hbl.mono HB.out.size))
        have KB2 := KB.out.below hbl
        have k0 : World.cell? _ ⟨g9, 0, none⟩ = some (.int .i64 x.id) := KB2.cell 0 rfl
        have k1 : World.cell? _ ⟨g9, 1, none⟩ = some (.int .i64 x.blk) := KB2.cell 1 rfl
        have k2 : World.cell? _ ⟨g9, 2, none⟩ = some (.int .i64 x.pa) := KB2.cell 2 rfl
        have k3 : World.cell? _ ⟨g9, 3, none⟩ = some (.slice A1 x.pd.length c1) := KB2.cell 3 rfl
        have k4 : World.cell? _ ⟨g9, 4, none⟩ = some (.slice A2 x.needs.length c2) := KB2.cell 4 rfl
        have CP := Lib.hid (copied_any x A1 c1 A2 c2 wb (HS.out.below hbl) hsx)
        have hlt2 := HO2.out.lt
        have hle2 : w.heap.size ≤ wb.heap.size := HB2.out.size
        have hn2 : ((xs.take k).filter is).length + 1 ≤ 2000 := by omega
        have HLT := Lib.hid hlt2
        clear hbl CALL KB2 HO HB hlt2
        generalize (xs.take k).filter is = R at *
        go_wp2_with fail
        refine CP.out.mono ?_
        rintro e wd ⟨A3, c3, A4, c4, rfl, hf3, hb3⟩
        have hO3 := HO2.out.below hb3
        have hB3 := HB2.out.trans (hb3.mono HB2.out.size)
        have hrow : Row (wd.alloc (.cells (chC x A3 c3 A4 c4) 62)) wd.heap.size 62 (chC x A3 c3 A4 c4).toList.toArray := by rw [Array.toArray_toList]; exact Row.new wd _ _
        have hf4 := hf3.below (bb0 wd (.cells (chC x A3 c3 A4 c4) 62))
        have hO4 := hO3.alloc (.cells (chC x A3 c3 A4 c4) 62)
        have hK0 := kChg_mk hf4.ok hf4.p1 hf4.p2 hf4.p3 hf4.p4.out hf4.n1 hf4.n2 hf4.n3 hf4.n4.out
        have hK : (kF kChg w.heap.size).K _ _ x _ := kChg.mono (fun b hb => ⟨hb, Nat.le_trans hle2 hb.1⟩) hK0
        clear hK0
        have hB4 := hB3.alloc hB3.size (.cells (chC x A3 c3 A4 c4) 62)
        have HB4 := Lib.hid hB4
        have hle4 := hB4.size
        have hle5 : w.heap.size ≤ (wd.alloc (.cells (chC x A3 c3 A4 c4) 62)).heap.size := hle4
        clear hf3 hb3 hO3 hB3 CP k0 k1 k2 k3 k4 hf4 hB4
        go_wp2_with (at_builtin; go_loud (refine wpList_appK (k := kF kChg w.heap.size) rfl _ _ 27 rfl (.agg chZ) 72 Try.underlying27 chInfo3 rfl (show 0 < 5 by decide) rfl _ _ rfl hO4 62 (chC x A3 c3 A4 c4).toList hrow x _ hK (fun b hb => ⟨fun e => by have := HLT.out b e.symm; omega, hb.2⟩) (by omega) (by omega) hle5 ?_); intro v7 w7 hown7 hg7 hat7)
        have HO7 := Lib.hid hown7
        have HB7 := Lib.hid (HB4.out.grown hg7 hle5 (fun q hq => (HLT.out q hq).1))
        clear hown7 hg7 hat7
        go_roundw
        case rel => exact ⟨k + 1, by omega, by go_num, by rw [HT2.out]; exact HO7.out, HB7.out⟩
        case measure => simp [intOf]; omega
    · obtain rfl : k = xs.length := by omega
      rw [List.take_length] at hown
      have HO := Lib.hid hown
      clear hown
      go_wp2
      go_ret
      exact ⟨_, rfl, HO.out, hbr⟩
end Go.Proofs.Yteeodeooicoekaa.Rd
