/- The contracts of ready.Of, ready.Without, ready.Find, ready.Blocks. No statement is proved here. -/
import Derived.Test.YteeodeooicoekaaSo
import Derived.Test.YteeodeooicoekaaR9
namespace Go.Proofs.Yteeodeooicoekaa.Rd
open Go.RowKit Go.Proofs.Yteeodeooicoekaa.Mem Go.Proofs.Yteeodeooicoekaa.Open Go.Proofs.Yteeodeooicoekaa.Kind Go.Proofs.Yteeodeooicoekaa.Blk Go.Proofs.Yteeodeooicoekaa.App Go.Proofs.Yteeodeooicoekaa.Pat
set_option linter.unusedVariables false
set_option linter.unusedSimpArgs false
theorem results_cell_tmp {P : Program} {fn : Func} {p t2 : Tmp} {ty : TypeId} (h : fn.results = #[.cell p ty, .tmp t2]) (tmps : Array Value) (w : World) (g : Nat) (t : TypeId) (cs : Array Value) (fr : Nat × Nat) (d : TypeDesc)
    (hp : tmps.getD p undef = .pointer (some ⟨g, 0, none⟩)) (hg : w.heap[g]? = some (.cells cs t fr))
    (hu : P.underlying ty = some d) (hd : (match d with | .struct _ | .array _ _ => true | _ => false) = true) (hi : (P.info? ty).map (·.size) = some cs.size) :
    (results fn tmps).run P w = .ok (.tuple #[.agg cs, tmps.getD t2 undef]) w := by
  have hp' : tmps[p]?.getD undef = .pointer (some ⟨g, 0, none⟩) := by simpa using hp
  simp [results, h, hp', asAddr, run_loadVar_row w g t ty cs fr d hg hu hd hi]
theorem hmf : ∀ (fn : Fn) (first cap : Array Value) (w : World), (Instr.makeFunc fn first cap).run Try.prog w = .ok (.func fn first cap) w := fun _ _ _ _ => rfl
theorem of1_any (x : Chg) (A : Option Addr) (c : Nat) (A2 : Option Addr) (c2 : Nat) (p : Nat) (bl : Int) (w : World) (h : w.cell? ⟨p, 0, none⟩ = some (.int .i64 bl)) :
    Calls Try.prog 78 #[.agg (chC x A c A2 c2), .pointer (some ⟨p, 0, none⟩)] w fun e w' => e = .returned (.bool (x.blk == bl)) ∧ Below w.heap.size w w' := by
  have hp := World.block_lt_of_cell? _ _ h
  have h1 : (w.alloc (.cells (chC x A c A2 c2) 62)).cell? ⟨p, 0, none⟩ = some (.int .i64 bl) := ((bb0 w _).cell hp).trans h
  go_enter Try.func78, Try.ntmps78
  go_wp2
  go_ret
  exact ⟨rfl, bb0 _ _⟩
theorem wo1_any (x : Chg) (A : Option Addr) (c : Nat) (A2 : Option Addr) (c2 : Nat) (p b m : Nat) (g : Int → Int) (w : World) (h : w.cell? ⟨p, 0, none⟩ = some (.map (some b))) (hm : Mp w b m g) (hid : WfI x.id) :
    Calls Try.prog 72 #[.agg (chC x A c A2 c2), .pointer (some ⟨p, 0, none⟩)] w fun e w' => e = .returned (.bool (g x.id == 0)) ∧ Below w.heap.size w w' := by
  have hp := World.block_lt_of_cell? _ _ h
  have h1 : (w.alloc (.cells (chC x A c A2 c2) 62)).cell? ⟨p, 0, none⟩ = some (.map (some b)) := ((bb0 w _).cell hp).trans h
  have hr := (hm.alloc (.cells (chC x A c A2 c2) 62)).get hid Try.underlying82
  go_enter Try.func72, Try.ntmps72
  go_wp2
  go_ret
  exact ⟨rfl, bb0 _ _⟩
def ofS (xs : List Chg) (bl : Int) : List Chg := xs.filter fun x => x.blk == bl
set_option maxHeartbeats 1000000 in
theorem Of_any (A : Option Addr) (c : Nat) (xs : List Chg) (bl : Int) (w : World) (hx : Chs w A xs) (hs : Small xs) (hn : xs.length ≤ 1000) :
    Calls Try.prog 58 #[.slice A xs.length c, .int .i64 bl] w fun r w' => ∃ v, r = .returned v ∧ OwnK kChg w' w.heap.size 62 v (ofS xs bl) ∧ Below w.heap.size w w' := by
  have hc1 : (w.alloc (.cells #[.int .i64 bl] 3)).cell? ⟨w.heap.size, 0, none⟩ = some (.int .i64 bl) := by
    rw [cell_of_row _ _ _ _ _ _ (heap_alloc_new w _)]; rfl
  have hb := bb0 w (.cells #[.int .i64 bl] 3)
  have C := Lib.hid (some_of (.pointer (some ⟨w.heap.size, 0, none⟩)) (fun x => x.blk == bl) (fun w' => w'.cell? ⟨w.heap.size, 0, none⟩ = some (.int .i64 bl)) (fun w1 w2 h h2 => (h2.cell (World.block_lt_of_cell? _ _ h)).trans h)
    (fun w' x A c A2 c2 h hok => of1_any x A c A2 c2 w.heap.size bl w' h) A c xs _ hc1 (hx.below hb) hs hn)
  have HB := Lib.hid hb
  clear hc1 hb
  have hmk := hmf
  go_enter Try.func58, Try.ntmps58
  go_wp2_with fail
  refine C.out.mono ?_
  rintro e w2 ⟨v, rfl, ho, hb2⟩
  have HO := Lib.hid ho
  clear ho
  go_wp2
  go_ret
  exact ⟨_, rfl, (kF_weak HO.out).mono HB.out.size, HB.out.trans (hb2.mono HB.out.size)⟩
def goneF : List Int → (Int → Int) → Int → Int
  | [], f => f
  | n :: r, f => goneF r (upd f n 1)
theorem goneF_eq : ∀ {l : List Int} {f : Int → Int} {n : Int}, goneF l f n = if n ∈ l then 1 else f n := by
  intro l
  induction l with
  | nil => intro f n; simp [goneF]
  | cons a r ih =>
    intro f n
    unfold goneF
    rw [ih]
    by_cases h : n ∈ r
    · rw [if_pos h, if_pos (List.mem_cons_of_mem _ h)]
    · rw [if_neg h]
      by_cases e : n = a
      · rw [e, upd_same, if_pos List.mem_cons_self]
      · rw [upd_ne _ _ e, if_neg (fun h2 => by rcases List.mem_cons.1 h2 with h2 | h2; exact e h2; exact h h2)]
def woS (xs : List Chg) (ids : List Int) : List Chg := xs.filter fun x => !decide (x.id ∈ ids)
theorem woS_eq (xs : List Chg) (ids : List Int) : (xs.filter fun x => goneF ids (fun _ => 0) x.id == 0) = woS xs ids := by
  unfold woS
  congr 1
  funext x
  rw [goneF_eq]
  by_cases h : x.id ∈ ids
  · rw [if_pos h, decide_eq_true h]; rfl
  · rw [if_neg h, decide_eq_false h]; rfl
set_option maxHeartbeats 2000000 in
set_option maxRecDepth 100000 in
theorem WithoutF_any (A : Option Addr) (c : Nat) (xs : List Chg) (A2 : Option Addr) (c2 : Nat) (ids : List Int) (w : World) (hx : Chs w A xs) (hi : Is w A2 ids) (hs : Small xs) (hn : xs.length ≤ 1000) (hin : ids.length ≤ 1000) :
    Calls Try.prog 49 #[.slice A xs.length c, .slice A2 ids.length c2] w fun r w' => ∃ v, r = .returned v ∧ OwnK (kF kChg w.heap.size) w' w.heap.size 62 v (woS xs ids) ∧ Below w.heap.size w w' := by
  have hl : ids.length ≤ 9223372036854775807 := hi.2.1
  have hmm := @run_makeMap Try.prog
  have hmk := hmf
  have HM1 := Lib.hid ((Mp.made w).alloc (.cells #[.map (some w.heap.size)] 82))
  have HQ1 := Lib.hid (rowAt (w := w.alloc (.map #[] 0)) (g := w.heap.size + 1) 82 #[.map (some w.heap.size)] (by simp))
  have HB1 := Lib.hid ((bb0 w (.map #[] 0)).alloc (by simp) (.cells #[.map (some w.heap.size)] 82))
  have hwf := is_wf hi
  go_enter Try.func49, Try.ntmps49
  go_wp2_with fail
  go_loopw [11] (fun i wr => ∃ (k : Nat) (g : Int → Int), k ≤ ids.length ∧ i = .int .i64 k ∧ Hid ((goneF ids fun _ => 0) = goneF (ids.drop k) g) ∧ Mp wr w.heap.size k g ∧ Row wr (w.heap.size + 1) 82 #[.map (some w.heap.size)] ∧ Below w.heap.size w wr) (fun i _ => ids.length - (intOf i).toNat)
  case atStart => exact ⟨0, _, by omega, rfl, Lib.hid rfl, HM1.out, HQ1.out, HB1.out⟩
  case round =>
    obtain ⟨k, g, hk, rfl, hv, hm, hq, hbr⟩ := hrel
    have k0 : wr.cell? ⟨w.heap.size + 1, 0, none⟩ = some (.map (some w.heap.size)) := hq.cell 0 rfl
    by_cases hlt : k < ids.length
    · obtain ⟨g2, o2, rfl, hg2, hc0⟩ := is_at hi k hlt
      have hc := (hbr.cell (p := ⟨g2, o2 + k, none⟩) hg2).trans hc0
      have hv := hv.out
      rw [drop_at hlt] at hv
      have hwx := hwf _ (List.getElem_mem hlt)
      generalize ids[k] = n at *
      have HV : Hid ((goneF ids fun _ => 0) = goneF (ids.drop (k + 1)) (upd g n 1)) := Lib.hid hv
      have HQ := Lib.hid hq
      have HB := Lib.hid hbr
      have hle := hbr.size
      clear hv hq hbr hc0
      go_wp2_with (at_mapUpdate; go_loud (refine wpList_mapPut rfl _ _ _ rfl rfl hm (by omega) n 1 rfl rfl hwx rfl ?_); intro w3 hm3 hg3)
      have HQ3 := Lib.hid (gb_row hg3 HQ.out (by intro e; injection e with e; omega))
      have HB3 := Lib.hid (HB.out.grown hg3 hle (fun q hq => by injection hq with hq; omega))
      clear hg3
      go_roundw
      case rel => exact ⟨k + 1, _, by omega, by go_num, HV, hm3, HQ3.out, HB3.out⟩
      case measure => simp [intOf]; omega
    · obtain rfl : k = ids.length := by omega
      have hv := hv.out
      rw [drop_end] at hv
      have hg : (goneF ids fun _ => 0) = g := hv
      have C := Lib.hid (some_wo (.pointer (some ⟨w.heap.size + 1, 0, none⟩)) (fun x => g x.id == 0) (fun w' => w'.cell? ⟨w.heap.size + 1, 0, none⟩ = some (.map (some w.heap.size)) ∧ Mp w' w.heap.size ids.length g) (fun w1 w2 h h2 => ⟨(h2.cell (World.block_lt_of_cell? _ _ h.1)).trans h.1, h.2.below h2⟩)
        (fun w' x A c A2 c2 h hok => wo1_any x A c A2 c2 (w.heap.size + 1) w.heap.size ids.length g w' h.1 h.2 hok.1) A c xs wr ⟨k0, hm⟩ (hx.below hbr) hs hn)
      rw [← hg, woS_eq] at C
      have HB := Lib.hid hbr
      clear hv hg hm hq hbr k0
      go_wp2_with fail
      refine C.out.mono ?_
      rintro e w2 ⟨v, rfl, ho, hb2⟩
      have HO := Lib.hid ho
      clear ho
      go_wp2
      go_ret
      exact ⟨_, rfl, kF_mono HB.out.size (HO.out.mono HB.out.size), HB.out.trans (hb2.mono HB.out.size)⟩
theorem Without_any (A : Option Addr) (c : Nat) (xs : List Chg) (A2 : Option Addr) (c2 : Nat) (ids : List Int) (w : World) (hx : Chs w A xs) (hi : Is w A2 ids) (hs : Small xs) (hn : xs.length ≤ 1000) (hin : ids.length ≤ 1000) :
    Calls Try.prog 49 #[.slice A xs.length c, .slice A2 ids.length c2] w fun r w' => ∃ v, r = .returned v ∧ OwnK kChg w' w.heap.size 62 v (woS xs ids) ∧ Below w.heap.size w w' := by
  refine (WithoutF_any A c xs A2 c2 ids w hx hi hs hn hin).mono ?_
  rintro e w2 ⟨v, rfl, ho, hb⟩
  exact ⟨v, rfl, kF_weak ho, hb⟩
/-- All blocks, put in. -/
def blkP : List Chg → List Int → List Int
  | [], out => out
  | x :: r, out => blkP r (putL out x.blk)
/-- The change of a number, and whether there is one. -/
def findF (id : Int) : List Chg → Option Chg
  | [] => none
  | x :: r => if x.id = id then some x else findF id r
def chNil : Chg := ⟨0, 0, 0, [], []⟩
def findD (id : Int) (xs : List Chg) : Chg := (findF id xs).getD chNil
theorem chNil_C : chC chNil none 0 none 0 = chZ := rfl
set_option maxHeartbeats 2000000 in
set_option maxRecDepth 100000 in
theorem Find_any (A : Option Addr) (c : Nat) (xs : List Chg) (id : Int) (w : World) (hx : Chs w A xs) (hs : Small xs) (hn : xs.length ≤ 1000) :
    Calls Try.prog 39 #[.slice A xs.length c, .int .i64 id] w fun r w' => ∃ A3 c3 A4 c4, r = .returned (.tuple #[.agg (chC (findD id xs) A3 c3 A4 c4), .bool (findF id xs).isSome]) ∧ ChF w' w.heap.size (findD id xs) A3 c3 A4 c4 ∧ Below w.heap.size w w' := by
  have hl : xs.length ≤ 9223372036854775807 := hx.2.1
  have HB0 := Lib.hid (bb0 w (.cells chZ 62))
  have HR0 := Lib.hid (Row.new w 62 chZ)
  go_enter Try.func39, Try.ntmps39
  go_wp2_with (with_reducible refine wpList_allocA rfl 62 rfl _ chZero ?_)
  go_loopw [10] (fun i wr => ∃ (k : Nat), k ≤ xs.length ∧ i = .int .i64 k ∧ Hid (findF id xs = findF id (xs.drop k)) ∧ Row wr w.heap.size 62 chZ ∧ Below w.heap.size w wr) (fun i _ => xs.length - (intOf i).toNat)
  case atStart => exact ⟨0, by omega, rfl, Lib.hid rfl, HR0.out, HB0.out⟩
  case round =>
    obtain ⟨k, hk, rfl, hv, hr0, hbr⟩ := hrel
    by_cases hlt : k < xs.length
    · obtain ⟨g, o, rfl, hg⟩ := ch_form hx (by omega)
      obtain ⟨A1, c1, A2, c2, hat0⟩ := ch_at hx k hlt
      have hat := hat0.below hbr
      have e0 := hat.v0
      have e1 := hat.v1
      have e2 := hat.v2
      have e3 : wr.cell? ⟨g, o + k * 5 + 3, none⟩ = _ := hat.v3
      have e4 := hat.v4
      have hS := hat.s
      have hsx := hs _ (List.getElem_mem hlt)
      have hv := hv.out
      rw [drop_at hlt] at hv
      clear hat0 hat
      generalize xs[k] = x at *
      obtain ⟨⟨b1, b2, b3⟩⟩ : Nonempty (_ ∧ _ ∧ _) := ⟨boxed wr 62 chZ (chC x A1 c1 A2 c2)⟩
      have R0 : Row (wr.alloc (.cells chZ 62)) wr.heap.size 62 chZ := Row.new _ _ _
      have k0 : World.cell? _ ⟨wr.heap.size, 0, none⟩ = some (.int .i64 x.id) := b1.cell 0 rfl
      have k1 : World.cell? _ ⟨wr.heap.size, 1, none⟩ = some (.int .i64 x.blk) := b1.cell 1 rfl
      have k2 : World.cell? _ ⟨wr.heap.size, 2, none⟩ = some (.int .i64 x.pa) := b1.cell 2 rfl
      have k3 : World.cell? _ ⟨wr.heap.size, 3, none⟩ = some (.slice A1 x.pd.length c1) := b1.cell 3 rfl
      have k4 : World.cell? _ ⟨wr.heap.size, 4, none⟩ = some (.slice A2 x.needs.length c2) := b1.cell 4 rfl
      have HB := Lib.hid (hbr.trans (b2.mono hbr.size))
      have HR := Lib.hid (hr0.below b2)
      have HS := Lib.hid (hS.below b2)
      have hle := hbr.size
      have hlr := hr0.lt
      clear b1 b2 b3 hbr hr0 hS
      by_cases hid : x.id = id
      · have hq : (x.id == id) = true := by rw [hid]; exact beq_self_eq_true _
        have HV : Hid (findF id xs = some x) := Lib.hid (hv.trans (if_pos hid))
        have CP := Lib.hid (fun w' h => copied_any x A1 c1 A2 c2 w' h hsx)
        clear hid hv
        go_wp2_with (first
          | (with_reducible refine wpList_allocA rfl 62 rfl _ chZero ?_)
          | (with_reducible refine wpList_storeRow rfl 62 _ _ rfl wr.heap.size rfl (chC x A1 c1 A2 c2) rfl chZ 62 5 chSize rfl rfl (chC_one _ _ _ _ _) R0 ?_))
        refine (CP.out _ HS.out).mono ?_
        rintro e wd ⟨A3, c3, A4, c4, rfl, hf3, hb3⟩
        have r3 := HR.out.below hb3
        have HR3 := Lib.hid r3
        have hle9 : w.heap.size + 1 ≤ ((wr.alloc (.cells chZ 62)).setRow wr.heap.size (chC x A1 c1 A2 c2)).heap.size := by have := HR.out.lt; omega
        have HF3 := Lib.hid (hf3.mono' hle9)
        have HB3 := Lib.hid (HB.out.trans (hb3.mono HB.out.size))
        clear hf3 hb3 CP
        go_wp2_with (with_reducible refine wpList_storeRow rfl 62 _ _ rfl w.heap.size rfl (chC x A3 c3 A4 c4) rfl chZ 62 5 chSize rfl rfl (chC_one _ _ _ _ _) r3 ?_)
        exact bodyPost_ret (results_cell_tmp rfl _ _ w.heap.size 62 (chC x A3 c3 A4 c4) (0, 0) _ rfl (HR3.out.set _) Try.underlying62 rfl chSize) rfl
          ⟨A3, c3, A4, c4, by unfold findD; rw [HV.out]; rfl, by unfold findD; rw [HV.out]; exact ⟨HF3.out.ok, HF3.out.p1, HF3.out.p2, HF3.out.p3, (fr_row HF3.out.p4 (g := w.heap.size) (by omega) _).mono (Nat.le_succ _), HF3.out.n1, HF3.out.n2, HF3.out.n3, (fr_row HF3.out.n4 (g := w.heap.size) (by omega) _).mono (Nat.le_succ _)⟩, below_setRow HB3.out (Nat.le_refl _) _⟩
      · have hq : (x.id == id) = false := beq_eq_false_iff_ne.2 hid
        have HV : Hid (findF id xs = findF id (xs.drop (k + 1))) := Lib.hid (hv.trans (if_neg hid))
        clear hid hv
        go_wp2_with (first
          | (with_reducible refine wpList_allocA rfl 62 rfl _ chZero ?_)
          | (with_reducible refine wpList_storeRow rfl 62 _ _ rfl wr.heap.size rfl (chC x A1 c1 A2 c2) rfl chZ 62 5 chSize rfl rfl (chC_one _ _ _ _ _) R0 ?_))
        go_roundw
        case rel => exact ⟨k + 1, by omega, by go_num, HV, HR.out, HB.out⟩
        case measure => simp [intOf]; omega
    · obtain rfl : k = xs.length := by omega
      have hv := hv.out
      rw [drop_end] at hv
      have HV : Hid (findF id xs = none) := Lib.hid hv
      have HR := Lib.hid hr0
      have r3 := hr0
      clear hv
      go_wp2_with (with_reducible refine wpList_storeRow rfl 62 _ _ rfl w.heap.size rfl (chC chNil none 0 none 0) rfl chZ 62 5 chSize rfl rfl (chC_one chNil none 0 none 0) r3 ?_)
      exact bodyPost_ret (results_cell_tmp rfl _ _ w.heap.size 62 (chC chNil none 0 none 0) (0, 0) _ rfl (HR.out.set _) Try.underlying62 rfl chSize) rfl
        ⟨none, 0, none, 0, by unfold findD; rw [HV.out]; rfl, by unfold findD; rw [HV.out]; exact ⟨⟨rfl, rfl, rfl⟩, by decide, by decide, fun _ => rfl, ⟨Rw.nil _ _ _ _⟩, by decide, by decide, fun _ => rfl, ⟨Rw.nil _ _ _ _⟩⟩, below_setRow hbr (Nat.le_refl _) _⟩
end Go.Proofs.Yteeodeooicoekaa.Rd
