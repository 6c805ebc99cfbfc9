/- Laws and contracts of several chapters, laid in one text. No statement is proved here. -/
import Derived.Test.YtbamhiegabeicaaGreatMp
import Derived.Test.YtbamhiegabeicaaGreatRp
import Derived.Test.YtbamhiegabeicaaGreatR9
/- Some of a list of changes: the contracts of ready.some, ready.Of, ready.Without. No statement is proved here. -/
namespace Go.Proofs.YtbamhiegabeicaaGreat.Rd
open Go.RowKit Go.Proofs.YtbamhiegabeicaaGreat.Mem Go.Proofs.YtbamhiegabeicaaGreat.Open Go.Proofs.YtbamhiegabeicaaGreat.Kind Go.Proofs.YtbamhiegabeicaaGreat.Blk Go.Proofs.YtbamhiegabeicaaGreat.App Go.Proofs.YtbamhiegabeicaaGreat.Pat
set_option linter.unusedVariables false
set_option linter.unusedSimpArgs false
/-- A kind of data whose parts lie from a block on. -/
def kF {α : Type} (k : Kd α) (B : Nat) : Kd α where
  sz := k.sz
  K := fun w S x cs => k.K w (fun b => S b ∧ B ≤ b) x cs
  len := fun h => k.len h
  one := fun h => k.one h
  stay := fun hs h => k.stay (fun b hb => hs b hb.1) h
  mono := fun hs h => k.mono (fun b hb => ⟨hs b hb.1, hb.2⟩) h
  bound := fun h => k.mono (fun b hb => ⟨⟨hb.1.1, hb.2⟩, hb.1.2⟩) (k.bound h)
theorem kF_weak {α : Type} {k : Kd α} {B : Nat} {w : World} {B0 : Nat} {E : TypeId} {v : Value} {xs : List α} (h : OwnK (kF k B) w B0 E v xs) : OwnK k w B0 E v xs := by
  obtain ⟨rows, h1, h2, h3⟩ := h
  exact ⟨rows, h1, fun i x hx => by obtain ⟨cs, c1, c2⟩ := h2 i x hx; exact ⟨cs, c1, k.mono (fun b hb => hb.1) c2⟩, h3⟩
theorem kF_mono {α : Type} {k : Kd α} {B B' : Nat} (hB : B' ≤ B) {w : World} {B0 : Nat} {E : TypeId} {v : Value} {xs : List α} (h : OwnK (kF k B) w B0 E v xs) : OwnK (kF k B') w B0 E v xs := by
  obtain ⟨rows, h1, h2, h3⟩ := h
  exact ⟨rows, h1, fun i x hx => by obtain ⟨cs, c1, c2⟩ := h2 i x hx; exact ⟨cs, c1, k.mono (fun b hb => ⟨hb.1, Nat.le_trans hB hb.2⟩) c2⟩, h3⟩
/-- A store ahead of all its blocks leaves it. -/
theorem kF_setRow {α : Type} {k : Kd α} {B : Nat} {w : World} {E : TypeId} {v : Value} {xs : List α} (h : OwnK (kF k B) w B E v xs) (g : Nat) (hg : g < B) (cs : Array Value) : OwnK (kF k B) (w.setRow g cs) B E v xs := by
  have hlt := h.lt
  obtain ⟨rows, h1, h2, h3⟩ := h
  refine ⟨rows, h1, fun i x hx => ?_, World.ownsRow.kept (row := some g) h3 (grown_setRow w g cs) ?_⟩
  · obtain ⟨c, c1, c2⟩ := h2 i x hx
    refine ⟨c, c1, k.mono (fun b hb => ?_) (k.stay (w' := w.setRow g cs) (fun b hb => setRow_other _ _ _ _ (by have := hb.2; omega)) c2)⟩
    exact ⟨⟨hb.1.1, by have := hb.1.2; simpa using this⟩, hb.2⟩
  · cases hv : v.ownBlock with
    | none => simp
    | some q => exact .inr (fun e => by injection e with e; have := (hlt q hv).1; omega)
set_option maxHeartbeats 2000000 in
set_option maxRecDepth 100000 in
theorem some_wo (cap : Value) (is : Chg → Bool) (I : World → Prop) (hI : ∀ w w' : World, I w → Below w.heap.size w w' → I w')
    (hcall : ∀ (w' : World) (x : Chg) (A : Option Addr) (c : Nat) (A2 : Option Addr) (c2 : Nat), I w' → ChOk x → Calls Tryz.prog 82 #[.agg (chC x A c A2 c2), cap] w' fun e w'' => e = .returned (.bool (is x)) ∧ Below w'.heap.size w' w'')
    (A : Option Addr) (c : Nat) (xs : List Chg) (w : World) (hw : I w) (hx : Chs w A xs) (hs : Small xs) (hn : xs.length ≤ 1000) :
    Calls Tryz.prog 81 #[.slice A xs.length c, .func (.func 82) #[] #[cap]] w fun r w' => ∃ v, r = .returned v ∧ OwnK (kF kChg w.heap.size) w' w.heap.size 90 v (xs.filter is) ∧ Below w.heap.size w w' := by
  have hl : xs.length ≤ 9223372036854775807 := hx.2.1
  have HW := Lib.hid hw
  clear hw
  go_enter Tryz.func81, Tryz.ntmps81
  go_wp2
  go_loopw [5, 10] (fun v i wr => ∃ (k : Nat), k ≤ xs.length ∧ i = .int .i64 k ∧ OwnK (kF kChg w.heap.size) wr w.heap.size 90 v ((xs.take k).filter is) ∧ Below w.heap.size w wr) (fun _ i _ => xs.length - (intOf i).toNat)
  case atStart => exact ⟨0, by omega, rfl, OwnK.nil _ _ _ _, Below.refl _ _⟩
  case round =>
    obtain ⟨k, hk, rfl, hown, hbr⟩ := hrel
    by_cases hlt : k < xs.length
    · obtain ⟨g, o, rfl, hg⟩ := ch_form hx (by omega)
      obtain ⟨A1, c1, A2, c2, hat0⟩ := ch_at hx k hlt
      have hat := hat0.below hbr
      have e0 := hat.v0
      have e1 := hat.v1
      have e2 := hat.v2
      have e3 : wr.cell? ⟨g, o + k * 5 + 3, none⟩ = _ := hat.v3
      have e4 := hat.v4
      have hok := hat.ok
      have hsx := hs _ (List.getElem_mem hlt)
      have HT := Lib.hid (take_next hlt)
      have hl2 : ((xs.take k).filter is).length ≤ k := Nat.le_trans (List.length_filter_le _ _) (by rw [List.length_take]; omega)
      have hS := hat.s
      clear hat0 hat
      generalize xs[k] = x at *
      obtain ⟨⟨b1, b2, b3⟩⟩ : Nonempty (_ ∧ _ ∧ _) := ⟨boxed wr 90 chZ (chC x A1 c1 A2 c2)⟩
      have R0 : Row (wr.alloc (.cells chZ 90)) wr.heap.size 90 chZ := Row.new _ _ _
      have k0 : World.cell? _ ⟨wr.heap.size, 0, none⟩ = some (.int .i64 x.id) := b1.cell 0 rfl
      have k1 : World.cell? _ ⟨wr.heap.size, 1, none⟩ = some (.int .i64 x.blk) := b1.cell 1 rfl
      have k2 : World.cell? _ ⟨wr.heap.size, 2, none⟩ = some (.int .i64 x.pa) := b1.cell 2 rfl
      have k3 : World.cell? _ ⟨wr.heap.size, 3, none⟩ = some (.slice A1 x.pd.length c1) := b1.cell 3 rfl
      have k4 : World.cell? _ ⟨wr.heap.size, 4, none⟩ = some (.slice A2 x.needs.length c2) := b1.cell 4 rfl
      have KB := Lib.hid b1
      have HO := Lib.hid (hown.below b2)
      have HS := Lib.hid (hS.below b2)
      have HB := Lib.hid (hbr.trans (b2.mono hbr.size))
      have HI := Lib.hid (hI w _ HW.out (hbr.trans (b2.mono hbr.size)))
      have h3 := b3
      clear b1 b2 b3 hown hbr hS
      go_wp2_with (first
        | (with_reducible refine wpList_allocA rfl 90 rfl _ chZero ?_)
        | (with_reducible refine wpList_storeRow rfl 90 _ _ rfl wr.heap.size rfl (chC x A1 c1 A2 c2) rfl chZ 90 5 chSize rfl rfl (chC_one _ _ _ _ _) R0 ?_))
      clear e0 e1 e2 e3 e4 R0
      generalize (wr.alloc (.cells chZ 90)).setRow wr.heap.size (chC x A1 c1 A2 c2) = wB at *
      generalize hg9 : wr.heap.size = g9 at *
      have CALL := Lib.hid (hcall wB x A1 c1 A2 c2 HI.out hok)
      cases hf : is x with
      | false =>
        rw [hf] at CALL
        have HT2 : Hid ((xs.take (k + 1)).filter is = (xs.take k).filter is) := Lib.hid (by rw [HT.out, List.filter_append, List.filter_cons_of_neg (by rw [hf]; simp), List.filter_nil, List.append_nil])
        clear hf
        refine CALL.out.mono ?_
        rintro e wb ⟨rfl, hbl⟩
        have HO2 := Lib.hid (HO.out.below hbl)
        have HB2 := Lib.hid (HB.out.trans (hbl.mono HB.out.size))
        clear hbl CALL
        go_wp2_with fail
        go_roundw
        case rel => exact ⟨k + 1, by omega, by go_num, by rw [HT2.out]; exact HO2.out, HB2.out⟩
        case measure => simp [intOf]; omega
      | true =>
        rw [hf] at CALL
        have HT2 : Hid ((xs.take (k + 1)).filter is = (xs.take k).filter is ++ [x]) := Lib.hid (by rw [HT.out, List.filter_append, List.filter_cons_of_pos (by rw [hf]), List.filter_nil])
        clear hf
        refine CALL.out.mono ?_
        rintro e wb ⟨rfl, hbl⟩
        have HO2 := Lib.hid (HO.out.below hbl)
        have HB2 := Lib.hid (HB.out.trans (hbl.mono HB.out.size))
        have KB2 := KB.out.below hbl
        have k0 : World.cell? _ ⟨g9, 0, none⟩ = some (.int .i64 x.id) := KB2.cell 0 rfl
        have k1 : World.cell? _ ⟨g9, 1, none⟩ = some (.int .i64 x.blk) := KB2.cell 1 rfl
        have k2 : World.cell? _ ⟨g9, 2, none⟩ = some (.int .i64 x.pa) := KB2.cell 2 rfl
        have k3 : World.cell? _ ⟨g9, 3, none⟩ = some (.slice A1 x.pd.length c1) := KB2.cell 3 rfl
        have k4 : World.cell? _ ⟨g9, 4, none⟩ = some (.slice A2 x.needs.length c2) := KB2.cell 4 rfl
        have CP := Lib.hid (copied_any x A1 c1 A2 c2 wb (HS.out.below hbl) hsx)
        have hlt2 := HO2.out.lt
        have hle2 : w.heap.size ≤ wb.heap.size := HB2.out.size
        have hn2 : ((xs.take k).filter is).length + 1 ≤ 2000 := by omega
        have HLT := Lib.hid hlt2
        clear hbl CALL KB2 HO HB hlt2
        generalize (xs.take k).filter is = R at *
        go_wp2_with fail
        refine CP.out.mono ?_
        rintro e wd ⟨A3, c3, A4, c4, rfl, hf3, hb3⟩
        have hO3 := HO2.out.below hb3
        have hB3 := HB2.out.trans (hb3.mono HB2.out.size)
        have hrow : Row (wd.alloc (.cells (chC x A3 c3 A4 c4) 90)) wd.heap.size 90 (chC x A3 c3 A4 c4).toList.toArray := by rw [Array.toArray_toList]; exact Row.new wd _ _
        have hf4 := hf3.below (bb0 wd (.cells (chC x A3 c3 A4 c4) 90))
        have hO4 := hO3.alloc (.cells (chC x A3 c3 A4 c4) 90)
        have hK0 := kChg_mk hf4.ok hf4.p1 hf4.p2 hf4.p3 hf4.p4.out hf4.n1 hf4.n2 hf4.n3 hf4.n4.out
        have hK : (kF kChg w.heap.size).K _ _ x _ := kChg.mono (fun b hb => ⟨hb, Nat.le_trans hle2 hb.1⟩) hK0
        clear hK0
        have hB4 := hB3.alloc hB3.size (.cells (chC x A3 c3 A4 c4) 90)
        have HB4 := Lib.hid hB4
        have hle4 := hB4.size
        have hle5 : w.heap.size ≤ (wd.alloc (.cells (chC x A3 c3 A4 c4) 90)).heap.size := hle4
        clear hf3 hb3 hO3 hB3 CP k0 k1 k2 k3 k4 hf4 hB4
        go_wp2_with (at_builtin; go_loud (refine wpList_appK (k := kF kChg w.heap.size) rfl _ _ 72 rfl (.agg chZ) 72 Tryz.underlying72 chInfo3 rfl (show 0 < 5 by decide) rfl _ _ rfl hO4 90 (chC x A3 c3 A4 c4).toList hrow x _ hK (fun b hb => ⟨fun e => by have := HLT.out b e.symm; omega, hb.2⟩) (by omega) (by omega) hle5 ?_); intro v7 w7 hown7 hg7 hat7)
        have HO7 := Lib.hid hown7
        have HB7 := Lib.hid (HB4.out.grown hg7 hle5 (fun q hq => (HLT.out q hq).1))
        clear hown7 hg7 hat7
        go_roundw
        case rel => exact ⟨k + 1, by omega, by go_num, by rw [HT2.out]; exact HO7.out, HB7.out⟩
        case measure => simp [intOf]; omega
    · obtain rfl : k = xs.length := by omega
      rw [List.take_length] at hown
      have HO := Lib.hid hown
      clear hown
      go_wp2
      go_ret
      exact ⟨_, rfl, HO.out, hbr⟩
end Go.Proofs.YtbamhiegabeicaaGreat.Rd

/- The contracts of ready.Of, ready.Without, ready.Find, ready.Blocks. No statement is proved here. -/
namespace Go.Proofs.YtbamhiegabeicaaGreat.Rd
open Go.RowKit Go.Proofs.YtbamhiegabeicaaGreat.Mem Go.Proofs.YtbamhiegabeicaaGreat.Open Go.Proofs.YtbamhiegabeicaaGreat.Kind Go.Proofs.YtbamhiegabeicaaGreat.Blk Go.Proofs.YtbamhiegabeicaaGreat.App Go.Proofs.YtbamhiegabeicaaGreat.Pat
set_option linter.unusedVariables false
set_option linter.unusedSimpArgs false
theorem results_cell_tmp {P : Program} {fn : Func} {p t2 : Tmp} {ty : TypeId} (h : fn.results = #[.cell p ty, .tmp t2]) (tmps : Array Value) (w : World) (g : Nat) (t : TypeId) (cs : Array Value) (fr : Nat × Nat) (d : TypeDesc)
    (hp : tmps.getD p undef = .pointer (some ⟨g, 0, none⟩)) (hg : w.heap[g]? = some (.cells cs t fr))
    (hu : P.underlying ty = some d) (hd : (match d with | .struct _ | .array _ _ => true | _ => false) = true) (hi : (P.info? ty).map (·.size) = some cs.size) :
    (results fn tmps).run P w = .ok (.tuple #[.agg cs, tmps.getD t2 undef]) w := by
  have hp' : tmps[p]?.getD undef = .pointer (some ⟨g, 0, none⟩) := by simpa using hp
  simp [results, h, hp', asAddr, run_loadVar_row w g t ty cs fr d hg hu hd hi]
theorem hmf : ∀ (fn : Fn) (first cap : Array Value) (w : World), (Instr.makeFunc fn first cap).run Tryz.prog w = .ok (.func fn first cap) w := fun _ _ _ _ => rfl
theorem wo1_any (x : Chg) (A : Option Addr) (c : Nat) (A2 : Option Addr) (c2 : Nat) (p b m : Nat) (g : Int → Int) (w : World) (h : w.cell? ⟨p, 0, none⟩ = some (.map (some b))) (hm : Mp w b m g) (hid : WfI x.id) :
    Calls Tryz.prog 82 #[.agg (chC x A c A2 c2), .pointer (some ⟨p, 0, none⟩)] w fun e w' => e = .returned (.bool (g x.id == 0)) ∧ Below w.heap.size w w' := by
  have hp := World.block_lt_of_cell? _ _ h
  have h1 : (w.alloc (.cells (chC x A c A2 c2) 90)).cell? ⟨p, 0, none⟩ = some (.map (some b)) := ((bb0 w _).cell hp).trans h
  have hr := (hm.alloc (.cells (chC x A c A2 c2) 90)).get hid Tryz.underlying116
  go_enter Tryz.func82, Tryz.ntmps82
  go_wp2
  go_ret
  exact ⟨rfl, bb0 _ _⟩
def ofS (xs : List Chg) (bl : Int) : List Chg := xs.filter fun x => x.blk == bl
def goneF : List Int → (Int → Int) → Int → Int
  | [], f => f
  | n :: r, f => goneF r (upd f n 1)
theorem goneF_eq : ∀ {l : List Int} {f : Int → Int} {n : Int}, goneF l f n = if n ∈ l then 1 else f n := by
  intro l
  induction l with
  | nil => intro f n; simp [goneF]
  | cons a r ih =>
    intro f n
    unfold goneF
    rw [ih]
    by_cases h : n ∈ r
    · rw [if_pos h, if_pos (List.mem_cons_of_mem _ h)]
    · rw [if_neg h]
      by_cases e : n = a
      · rw [e, upd_same, if_pos List.mem_cons_self]
      · rw [upd_ne _ _ e, if_neg (fun h2 => by rcases List.mem_cons.1 h2 with h2 | h2; exact e h2; exact h h2)]
def woS (xs : List Chg) (ids : List Int) : List Chg := xs.filter fun x => !decide (x.id ∈ ids)
theorem woS_eq (xs : List Chg) (ids : List Int) : (xs.filter fun x => goneF ids (fun _ => 0) x.id == 0) = woS xs ids := by
  unfold woS
  congr 1
  funext x
  rw [goneF_eq]
  by_cases h : x.id ∈ ids
  · rw [if_pos h, decide_eq_true h]; rfl
  · rw [if_neg h, decide_eq_false h]; rfl
set_option maxHeartbeats 2000000 in
set_option maxRecDepth 100000 in
theorem WithoutF_any (A : Option Addr) (c : Nat) (xs : List Chg) (A2 : Option Addr) (c2 : Nat) (ids : List Int) (w : World) (hx : Chs w A xs) (hi : Is w A2 ids) (hs : Small xs) (hn : xs.length ≤ 1000) (hin : ids.length ≤ 1000) :
    Calls Tryz.prog 61 #[.slice A xs.length c, .slice A2 ids.length c2] w fun r w' => ∃ v, r = .returned v ∧ OwnK (kF kChg w.heap.size) w' w.heap.size 90 v (woS xs ids) ∧ Below w.heap.size w w' := by
  have hl : ids.length ≤ 9223372036854775807 := hi.2.1
  have hmm := @run_makeMap Tryz.prog
  have hmk := hmf
  have HM1 := Lib.hid ((Mp.made w).alloc (.cells #[.map (some w.heap.size)] 116))
  have HQ1 := Lib.hid (rowAt (w := w.alloc (.map #[] 0)) (g := w.heap.size + 1) 116 #[.map (some w.heap.size)] (by simp))
  have HB1 := Lib.hid ((bb0 w (.map #[] 0)).alloc (by simp) (.cells #[.map (some w.heap.size)] 116))
  have hwf := is_wf hi
  go_enter Tryz.func61, Tryz.ntmps61
  go_wp2_with fail
  go_loopw [11] (fun i wr => ∃ (k : Nat) (g : Int → Int), k ≤ ids.length ∧ i = .int .i64 k ∧ Hid ((goneF ids fun _ => 0) = goneF (ids.drop k) g) ∧ Mp wr w.heap.size k g ∧ Row wr (w.heap.size + 1) 116 #[.map (some w.heap.size)] ∧ Below w.heap.size w wr) (fun i _ => ids.length - (intOf i).toNat)
  case atStart => exact ⟨0, _, by omega, rfl, Lib.hid rfl, HM1.out, HQ1.out, HB1.out⟩
  case round =>
    obtain ⟨k, g, hk, rfl, hv, hm, hq, hbr⟩ := hrel
    have k0 : wr.cell? ⟨w.heap.size + 1, 0, none⟩ = some (.map (some w.heap.size)) := hq.cell 0 rfl
    by_cases hlt : k < ids.length
    · obtain ⟨g2, o2, rfl, hg2, hc0⟩ := is_at hi k hlt
      have hc := (hbr.cell (p := ⟨g2, o2 + k, none⟩) hg2).trans hc0
      have hv := hv.out
      rw [drop_at hlt] at hv
      have hwx := hwf _ (List.getElem_mem hlt)
      generalize ids[k] = n at *
      have HV : Hid ((goneF ids fun _ => 0) = goneF (ids.drop (k + 1)) (upd g n 1)) := Lib.hid hv
      have HQ := Lib.hid hq
      have HB := Lib.hid hbr
      have hle := hbr.size
      clear hv hq hbr hc0
      go_wp2_with (at_mapUpdate; go_loud (refine wpList_mapPut rfl _ _ _ rfl rfl hm (by omega) n 1 rfl rfl hwx rfl ?_); intro w3 hm3 hg3)
      have HQ3 := Lib.hid (gb_row hg3 HQ.out (by intro e; injection e with e; omega))
      have HB3 := Lib.hid (HB.out.grown hg3 hle (fun q hq => by injection hq with hq; omega))
      clear hg3
      go_roundw
      case rel => exact ⟨k + 1, _, by omega, by go_num, HV, hm3, HQ3.out, HB3.out⟩
      case measure => simp [intOf]; omega
    · obtain rfl : k = ids.length := by omega
      have hv := hv.out
      rw [drop_end] at hv
      have hg : (goneF ids fun _ => 0) = g := hv
      have C := Lib.hid (some_wo (.pointer (some ⟨w.heap.size + 1, 0, none⟩)) (fun x => g x.id == 0) (fun w' => w'.cell? ⟨w.heap.size + 1, 0, none⟩ = some (.map (some w.heap.size)) ∧ Mp w' w.heap.size ids.length g) (fun w1 w2 h h2 => ⟨(h2.cell (World.block_lt_of_cell? _ _ h.1)).trans h.1, h.2.below h2⟩)
        (fun w' x A c A2 c2 h hok => wo1_any x A c A2 c2 (w.heap.size + 1) w.heap.size ids.length g w' h.1 h.2 hok.1) A c xs wr ⟨k0, hm⟩ (hx.below hbr) hs hn)
      rw [← hg, woS_eq] at C
      have HB := Lib.hid hbr
      clear hv hg hm hq hbr k0
      go_wp2_with fail
      refine C.out.mono ?_
      rintro e w2 ⟨v, rfl, ho, hb2⟩
      have HO := Lib.hid ho
      clear ho
      go_wp2
      go_ret
      exact ⟨_, rfl, kF_mono HB.out.size (HO.out.mono HB.out.size), HB.out.trans (hb2.mono HB.out.size)⟩
theorem Without_any (A : Option Addr) (c : Nat) (xs : List Chg) (A2 : Option Addr) (c2 : Nat) (ids : List Int) (w : World) (hx : Chs w A xs) (hi : Is w A2 ids) (hs : Small xs) (hn : xs.length ≤ 1000) (hin : ids.length ≤ 1000) :
    Calls Tryz.prog 61 #[.slice A xs.length c, .slice A2 ids.length c2] w fun r w' => ∃ v, r = .returned v ∧ OwnK kChg w' w.heap.size 90 v (woS xs ids) ∧ Below w.heap.size w w' := by
  refine (WithoutF_any A c xs A2 c2 ids w hx hi hs hn hin).mono ?_
  rintro e w2 ⟨v, rfl, ho, hb⟩
  exact ⟨v, rfl, kF_weak ho, hb⟩
/-- All blocks, put in. -/
def blkP : List Chg → List Int → List Int
  | [], out => out
  | x :: r, out => blkP r (putL out x.blk)
set_option maxHeartbeats 2000000 in
set_option maxRecDepth 100000 in
theorem Blocks_any (A : Option Addr) (c : Nat) (xs : List Chg) (w : World) (hx : Chs w A xs) (hn : xs.length ≤ 1000) :
    Calls Tryz.prog 54 #[.slice A xs.length c] w fun r w' => ∃ v, r = .returned v ∧ Ns w' w.heap.size v (blkP xs []) ∧ Below w.heap.size w w' := by
  have hl : xs.length ≤ 9223372036854775807 := hx.2.1
  go_enter Tryz.func54, Tryz.ntmps54
  go_wp2
  go_loopw [3, 8] (fun v i wr => ∃ (k : Nat) (out : List Int), k ≤ xs.length ∧ i = .int .i64 k ∧ out.length ≤ k ∧ Hid (blkP xs [] = blkP (xs.drop k) out) ∧ Ns wr w.heap.size v out ∧ Below w.heap.size w wr) (fun _ i _ => xs.length - (intOf i).toNat)
  case atStart => exact ⟨0, [], by omega, rfl, by simp, Lib.hid rfl, Own.nil _ _ _ _, Below.refl _ _⟩
  case round =>
    obtain ⟨k, out, hk, rfl, hol, hv, hown, hbr⟩ := hrel
    by_cases hlt : k < xs.length
    · obtain ⟨g, o, rfl, hg⟩ := ch_form hx (by omega)
      obtain ⟨A1, c1, A2, c2, hat0⟩ := ch_at hx k hlt
      have hat := hat0.below hbr
      have e0 := hat.v0
      have e1 := hat.v1
      have e2 := hat.v2
      have e3 : wr.cell? ⟨g, o + k * 5 + 3, none⟩ = _ := hat.v3
      have e4 := hat.v4
      have hok := hat.ok.2.1
      have hv := hv.out
      rw [drop_at hlt] at hv
      clear hat0 hat
      generalize xs[k] = x at *
      obtain ⟨⟨b1, b2, b3⟩⟩ : Nonempty (_ ∧ _ ∧ _) := ⟨boxed wr 90 chZ (chC x A1 c1 A2 c2)⟩
      have R0 : Row (wr.alloc (.cells chZ 90)) wr.heap.size 90 chZ := Row.new _ _ _
      have k1 : World.cell? _ ⟨wr.heap.size, 1, none⟩ = some (.int .i64 x.blk) := b1.cell 1 rfl
      have HB := Lib.hid (hbr.trans (b2.mono hbr.size))
      have CP := Lib.hid (put_any w.heap.size _ out x.blk _ (hown.below b2) (Nat.le_trans hbr.size b2.size) (by omega) hok)
      have hpl2 := putL_len out x.blk
      obtain ⟨out3, ho3⟩ : ∃ o, putL out x.blk = o := ⟨_, rfl⟩
      have HV : Hid (blkP xs [] = blkP (xs.drop (k + 1)) out3) := Lib.hid (by rw [hv, ← ho3]; rfl)
      rw [ho3] at CP hpl2
      clear b1 b2 b3 hown hbr hv ho3
      go_wp2_with (first
        | (with_reducible refine wpList_allocA rfl 90 rfl _ chZero ?_)
        | (with_reducible refine wpList_storeRow rfl 90 _ _ rfl wr.heap.size rfl (chC x A1 c1 A2 c2) rfl chZ 90 5 chSize rfl rfl (chC_one _ _ _ _ _) R0 ?_))
      refine CP.out.mono ?_
      rintro e wd ⟨v2, rfl, hown2, hbl2⟩
      have HO2 := Lib.hid hown2
      have HB2 := Lib.hid (HB.out.trans hbl2)
      clear hown2 hbl2 CP HB
      go_wp2_with fail
      go_roundw
      case rel => exact ⟨k + 1, out3, by omega, by go_num, by omega, HV, HO2.out, HB2.out⟩
      case measure => simp [intOf]; omega
    · obtain rfl : k = xs.length := by omega
      have hv := hv.out
      rw [drop_end] at hv
      have HV : Hid (blkP xs [] = out) := Lib.hid hv
      have HO := Lib.hid hown
      clear hv hown
      go_wp2
      go_ret
      exact ⟨_, rfl, by rw [HV.out]; exact HO.out, hbr⟩
/-- The change of a number, and whether there is one. -/
def findF (id : Int) : List Chg → Option Chg
  | [] => none
  | x :: r => if x.id = id then some x else findF id r
def chNil : Chg := ⟨0, 0, 0, [], []⟩
def findD (id : Int) (xs : List Chg) : Chg := (findF id xs).getD chNil
set_option maxHeartbeats 2000000 in
set_option maxRecDepth 100000 in
theorem Find_any (A : Option Addr) (c : Nat) (xs : List Chg) (id : Int) (w : World) (hx : Chs w A xs) (hs : Small xs) (hn : xs.length ≤ 1000) :
    Calls Tryz.prog 99 #[.slice A xs.length c, .int .i64 id] w fun r w' => ∃ A3 c3 A4 c4, r = .returned (.tuple #[.agg (chC (findD id xs) A3 c3 A4 c4), .bool (findF id xs).isSome]) ∧ ChF w' w.heap.size (findD id xs) A3 c3 A4 c4 ∧ Below w.heap.size w w' := by
  have hl : xs.length ≤ 9223372036854775807 := hx.2.1
  have HB0 := Lib.hid (bb0 w (.cells chZ 90))
  have HR0 := Lib.hid (Row.new w 90 chZ)
  go_enter Tryz.func99, Tryz.ntmps99
  go_wp2_with (with_reducible refine wpList_allocA rfl 90 rfl _ chZero ?_)
  go_loopw [10] (fun i wr => ∃ (k : Nat), k ≤ xs.length ∧ i = .int .i64 k ∧ Hid (findF id xs = findF id (xs.drop k)) ∧ Row wr w.heap.size 90 chZ ∧ Below w.heap.size w wr) (fun i _ => xs.length - (intOf i).toNat)
  case atStart => exact ⟨0, by omega, rfl, Lib.hid rfl, HR0.out, HB0.out⟩
  case round =>
    obtain ⟨k, hk, rfl, hv, hr0, hbr⟩ := hrel
    by_cases hlt : k < xs.length
    · obtain ⟨g, o, rfl, hg⟩ := ch_form hx (by omega)
      obtain ⟨A1, c1, A2, c2, hat0⟩ := ch_at hx k hlt
      have hat := hat0.below hbr
      have e0 := hat.v0
      have e1 := hat.v1
      have e2 := hat.v2
      have e3 : wr.cell? ⟨g, o + k * 5 + 3, none⟩ = _ := hat.v3
      have e4 := hat.v4
      have hS := hat.s
      have hsx := hs _ (List.getElem_mem hlt)
      have hv := hv.out
      rw [drop_at hlt] at hv
      clear hat0 hat
      generalize xs[k] = x at *
      obtain ⟨⟨b1, b2, b3⟩⟩ : Nonempty (_ ∧ _ ∧ _) := ⟨boxed wr 90 chZ (chC x A1 c1 A2 c2)⟩
      have R0 : Row (wr.alloc (.cells chZ 90)) wr.heap.size 90 chZ := Row.new _ _ _
      have k0 : World.cell? _ ⟨wr.heap.size, 0, none⟩ = some (.int .i64 x.id) := b1.cell 0 rfl
      have k1 : World.cell? _ ⟨wr.heap.size, 1, none⟩ = some (.int .i64 x.blk) := b1.cell 1 rfl
      have k2 : World.cell? _ ⟨wr.heap.size, 2, none⟩ = some (.int .i64 x.pa) := b1.cell 2 rfl
      have k3 : World.cell? _ ⟨wr.heap.size, 3, none⟩ = some (.slice A1 x.pd.length c1) := b1.cell 3 rfl
      have k4 : World.cell? _ ⟨wr.heap.size, 4, none⟩ = some (.slice A2 x.needs.length c2) := b1.cell 4 rfl
      have HB := Lib.hid (hbr.trans (b2.mono hbr.size))
      have HR := Lib.hid (hr0.below b2)
      have HS := Lib.hid (hS.below b2)
      have hle := hbr.size
      have hlr := hr0.lt
      clear b1 b2 b3 hbr hr0 hS
      by_cases hid : x.id = id
      · have hq : (x.id == id) = true := by rw [hid]; exact beq_self_eq_true _
        have HV : Hid (findF id xs = some x) := Lib.hid (hv.trans (if_pos hid))
        have CP := Lib.hid (fun w' h => copied_any x A1 c1 A2 c2 w' h hsx)
        clear hid hv
        go_wp2_with (first
          | (with_reducible refine wpList_allocA rfl 90 rfl _ chZero ?_)
          | (with_reducible refine wpList_storeRow rfl 90 _ _ rfl wr.heap.size rfl (chC x A1 c1 A2 c2) rfl chZ 90 5 chSize rfl rfl (chC_one _ _ _ _ _) R0 ?_))
        refine (CP.out _ HS.out).mono ?_
        rintro e wd ⟨A3, c3, A4, c4, rfl, hf3, hb3⟩
        have r3 := HR.out.below hb3
        have HR3 := Lib.hid r3
        have hle9 : w.heap.size + 1 ≤ ((wr.alloc (.cells chZ 90)).setRow wr.heap.size (chC x A1 c1 A2 c2)).heap.size := by have := HR.out.lt; omega
        have HF3 := Lib.hid (hf3.mono' hle9)
        have HB3 := Lib.hid (HB.out.trans (hb3.mono HB.out.size))
        clear hf3 hb3 CP
        go_wp2_with (with_reducible refine wpList_storeRow rfl 90 _ _ rfl w.heap.size rfl (chC x A3 c3 A4 c4) rfl chZ 90 5 chSize rfl rfl (chC_one _ _ _ _ _) r3 ?_)
        exact bodyPost_ret (results_cell_tmp rfl _ _ w.heap.size 90 (chC x A3 c3 A4 c4) (0, 0) _ rfl (HR3.out.set _) Tryz.underlying90 rfl chSize) rfl
          ⟨A3, c3, A4, c4, by unfold findD; rw [HV.out]; rfl, by unfold findD; rw [HV.out]; exact ⟨HF3.out.ok, HF3.out.p1, HF3.out.p2, HF3.out.p3, (fr_row HF3.out.p4 (g := w.heap.size) (by omega) _).mono (Nat.le_succ _), HF3.out.n1, HF3.out.n2, HF3.out.n3, (fr_row HF3.out.n4 (g := w.heap.size) (by omega) _).mono (Nat.le_succ _)⟩, below_setRow HB3.out (Nat.le_refl _) _⟩
      · have hq : (x.id == id) = false := beq_eq_false_iff_ne.2 hid
        have HV : Hid (findF id xs = findF id (xs.drop (k + 1))) := Lib.hid (hv.trans (if_neg hid))
        clear hid hv
        go_wp2_with (first
          | (with_reducible refine wpList_allocA rfl 90 rfl _ chZero ?_)
          | (with_reducible refine wpList_storeRow rfl 90 _ _ rfl wr.heap.size rfl (chC x A1 c1 A2 c2) rfl chZ 90 5 chSize rfl rfl (chC_one _ _ _ _ _) R0 ?_))
        go_roundw
        case rel => exact ⟨k + 1, by omega, by go_num, HV, HR.out, HB.out⟩
        case measure => simp [intOf]; omega
    · obtain rfl : k = xs.length := by omega
      have hv := hv.out
      rw [drop_end] at hv
      have HV : Hid (findF id xs = none) := Lib.hid hv
      have HR := Lib.hid hr0
      have r3 := hr0
      clear hv
      go_wp2_with (with_reducible refine wpList_storeRow rfl 90 _ _ rfl w.heap.size rfl (chC chNil none 0 none 0) rfl chZ 90 5 chSize rfl rfl (chC_one chNil none 0 none 0) r3 ?_)
      exact bodyPost_ret (results_cell_tmp rfl _ _ w.heap.size 90 (chC chNil none 0 none 0) (0, 0) _ rfl (HR.out.set _) Tryz.underlying90 rfl chSize) rfl
        ⟨none, 0, none, 0, by unfold findD; rw [HV.out]; rfl, by unfold findD; rw [HV.out]; exact ⟨⟨rfl, rfl, rfl⟩, by decide, by decide, fun _ => rfl, ⟨Rw.nil _ _ _ _⟩, by decide, by decide, fun _ => rfl, ⟨Rw.nil _ _ _ _⟩⟩, below_setRow hbr (Nat.le_refl _) _⟩
end Go.Proofs.YtbamhiegabeicaaGreat.Rd


