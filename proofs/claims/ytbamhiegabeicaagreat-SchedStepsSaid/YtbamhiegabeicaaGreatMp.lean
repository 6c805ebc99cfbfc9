/- Laws and contracts of several chapters, laid in one text. No statement is proved here. -/
import Derived.Test.YtbamhiegabeicaaGreatRd2
import Derived.Test.YtbamhiegabeicaaGreatCp
import Derived.Laws.ResultCell
import Derived.Test.YtbamhiegabeicaaGreatCh
import Derived.Maps.OwnSet
import Derived.Maps.OwnOps
import Derived.Maps.Views
/- Laws and contracts of several chapters, laid in one text. No statement is proved here. -/
/- Changes as the program has them. No statement is proved here. -/
namespace Go.Proofs.YtbamhiegabeicaaGreat.Rd
open Go.RowKit Go.Proofs.YtbamhiegabeicaaGreat.Mem Go.Proofs.YtbamhiegabeicaaGreat.Open Go.Proofs.YtbamhiegabeicaaGreat.Kind Go.Proofs.YtbamhiegabeicaaGreat.Blk Go.Proofs.YtbamhiegabeicaaGreat.App Go.Proofs.YtbamhiegabeicaaGreat.Pat
set_option linter.unusedVariables false
set_option linter.unusedSimpArgs false
theorem intInfo3 : (Tryz.prog.info? 3).map (fun i => (i.zero, i.size, i.bytes)) = some (some (.int .i64 0), 1, 8) := by kernel_rfl
theorem chInfo3 : (Tryz.prog.info? 90).map (fun i => (i.zero, i.size, i.bytes)) = some (some (.agg chZ), 5, 72) := by kernel_rfl
/-- Nothing below a block has changed, on and on. -/
structure Gw (B : Nat) (a w : World) : Prop where
  out : Below B a w
  le : B ≤ a.heap.size
theorem Gw.below {B : Nat} {a w w' : World} (h : Gw B a w) (hb : Below w.heap.size w w') : Gw B a w' := ⟨h.out.trans (hb.mono (Nat.le_trans h.le h.out.size)), h.le⟩
/-- None is more than is gone through. -/
def Small (xs : List Chg) : Prop := ∀ x ∈ xs, x.pd.length ≤ 300 ∧ x.needs.length ≤ 60
theorem take_next {α : Type} {xs : List α} {k : Nat} (h : k < xs.length) : xs.take (k + 1) = xs.take k ++ [xs[k]] := by rw [List.take_add_one, List.getElem?_eq_getElem h]; rfl
end Go.Proofs.YtbamhiegabeicaaGreat.Rd

/- A change that shares nothing: the contract of ready.copied. No statement is proved here. -/
namespace Go.Proofs.YtbamhiegabeicaaGreat.Rd
open Go.RowKit Go.Proofs.YtbamhiegabeicaaGreat.Mem Go.Proofs.YtbamhiegabeicaaGreat.Open Go.Proofs.YtbamhiegabeicaaGreat.Kind Go.Proofs.YtbamhiegabeicaaGreat.Blk Go.Proofs.YtbamhiegabeicaaGreat.App Go.Proofs.YtbamhiegabeicaaGreat.Pat
set_option linter.unusedVariables false
set_option linter.unusedSimpArgs false
/-- What a change's slices are read as. -/
structure ChS (w : World) (x : Chg) (A : Option Addr) (c : Nat) (A2 : Option Addr) (c2 : Nat) : Prop where
  ok : ChOk x
  p1 : x.pd.length ≤ c
  p2 : c ≤ M63
  p3 : A = none → c = 0
  p4 : By w A x.pd
  n1 : x.needs.length ≤ c2
  n2 : c2 ≤ M63
  n3 : A2 = none → c2 = 0
  n4 : Is w A2 x.needs
theorem ChS.below {w w' : World} {x : Chg} {A : Option Addr} {c : Nat} {A2 : Option Addr} {c2 : Nat} (h : ChS w x A c A2 c2) (hb : Below w.heap.size w w') : ChS w' x A c A2 c2 :=
  ⟨h.ok, h.p1, h.p2, h.p3, h.p4.below hb, h.n1, h.n2, h.n3, h.n4.below hb⟩
theorem ChS.k {w : World} {x : Chg} {A : Option Addr} {c : Nat} {A2 : Option Addr} {c2 : Nat} (h : ChS w x A c A2 c2) : kChg.K w (All w) x (chC x A c A2 c2).toList := kChg_mk h.ok h.p1 h.p2 h.p3 h.p4 h.n1 h.n2 h.n3 h.n4
theorem ChAt.s {w : World} {g o k : Nat} {x : Chg} {A : Option Addr} {c : Nat} {A2 : Option Addr} {c2 : Nat} (h : ChAt w g o k x A c A2 c2) : ChS w x A c A2 c2 :=
  ⟨h.ok, h.p.1, h.p.2.1, h.p.2.2.1, h.p.2.2.2, h.n.1, h.n.2.1, h.n.2.2.1, h.n.2.2.2⟩
/-- The same, of slices that lie from a block on. -/
structure ChF (w : World) (B : Nat) (x : Chg) (A : Option Addr) (c : Nat) (A2 : Option Addr) (c2 : Nat) : Prop where
  ok : ChOk x
  p1 : x.pd.length ≤ c
  p2 : c ≤ M63
  p3 : A = none → c = 0
  p4 : Fr kByte w B A x.pd
  n1 : x.needs.length ≤ c2
  n2 : c2 ≤ M63
  n3 : A2 = none → c2 = 0
  n4 : Fr (kInt .i64) w B A2 x.needs
theorem ChF.below {w w' : World} {B : Nat} {x : Chg} {A : Option Addr} {c : Nat} {A2 : Option Addr} {c2 : Nat} (h : ChF w B x A c A2 c2) (hb : Below w.heap.size w w') : ChF w' B x A c A2 c2 :=
  ⟨h.ok, h.p1, h.p2, h.p3, h.p4.below hb, h.n1, h.n2, h.n3, h.n4.below hb⟩
theorem ChF.mono' {w : World} {B B' : Nat} {x : Chg} {A : Option Addr} {c : Nat} {A2 : Option Addr} {c2 : Nat} (h : ChF w B x A c A2 c2) (hB : B' ≤ B) : ChF w B' x A c A2 c2 :=
  ⟨h.ok, h.p1, h.p2, h.p3, h.p4.mono hB, h.n1, h.n2, h.n3, h.n4.mono hB⟩
theorem ChF.s {w : World} {B : Nat} {x : Chg} {A : Option Addr} {c : Nat} {A2 : Option Addr} {c2 : Nat} (h : ChF w B x A c A2 c2) : ChS w x A c A2 c2 := ⟨h.ok, h.p1, h.p2, h.p3, h.p4.all, h.n1, h.n2, h.n3, h.n4.all⟩
theorem fr_cell {α : Type} {k : Kd α} {w : World} {B : Nat} {A : Option Addr} {xs : List α} (h : Fr k w B A xs) {g : Nat} (hg : g < B) (o : Nat) (v : Value) : Fr k (w.setCell ⟨g, o, none⟩ v) B A xs :=
  ⟨(h.out.stay fun b hb => Below.heap_setCell w ⟨g, o, none⟩ v b (by show b ≠ g; omega)).mono fun b hb => ⟨hb.1, by have := hb.2; simpa [World.setCell] using this⟩⟩
theorem fr_row {α : Type} {k : Kd α} {w : World} {B : Nat} {A : Option Addr} {xs : List α} (h : Fr k w B A xs) {g : Nat} (hg : g < B) (cs : Array Value) : Fr k (w.setRow g cs) B A xs :=
  ⟨(h.out.stay fun b hb => setRow_other _ _ _ _ (by omega)).mono fun b hb => ⟨hb.1, by have := hb.2; simpa using this⟩⟩
set_option maxHeartbeats 2000000 in
set_option maxRecDepth 100000 in
theorem copied_any (x : Chg) (A1 : Option Addr) (c1 : Nat) (A2 : Option Addr) (c2 : Nat) (w : World) (hx : ChS w x A1 c1 A2 c2) (hs : x.pd.length ≤ 300 ∧ x.needs.length ≤ 60) :
    Calls Tryz.prog 98 #[.agg (chC x A1 c1 A2 c2)] w fun r w' => ∃ A3 c3 A4 c4, r = .returned (.agg (chC x A3 c3 A4 c4)) ∧ ChF w' w.heap.size x A3 c3 A4 c4 ∧ Below w.heap.size w w' := by
  obtain ⟨hs1, hs2⟩ := hs
  obtain ⟨W, hW⟩ : ∃ W, W = (w.alloc (.cells (chC x A1 c1 A2 c2) 90)).alloc (.cells chZ 90) := ⟨_, rfl⟩
  have hb0 : Below w.heap.size w W := by rw [hW]; exact ((Below.refl _ _).alloc (Nat.le_refl _) _).alloc (by simp) _
  have r1 : Row W w.heap.size 90 (chC x A1 c1 A2 c2) := by rw [hW]; exact (Row.new _ _ _).alloc _
  have r2 : Row W (w.heap.size + 1) 90 chZ := by
    rw [hW]
    have := Row.new (w.alloc (.cells (chC x A1 c1 A2 c2) 90)) 90 chZ
    rwa [show (w.alloc (.cells (chC x A1 c1 A2 c2) 90)).heap.size = w.heap.size + 1 from by simp] at this
  have hsW : W.heap.size = w.heap.size + 1 + 1 := by rw [hW]; simp
  have q1 := r1.alloc (.cells #[] 5)
  have hbA := hb0.alloc hb0.size (.cells #[] 5)
  have hsA : (W.alloc (.cells #[] 5)).heap.size = w.heap.size + 1 + 1 + 1 := by simp; omega
  have hyA : By (W.alloc (.cells #[] 5)) A1 x.pd := hx.p4.below hbA
  have k3 : (W.alloc (.cells #[] 5)).cell? ⟨w.heap.size, 3, none⟩ = some (.slice A1 x.pd.length c1) := q1.cell 3 rfl
  have HX := Lib.hid hx
  have R2 := Lib.hid (r2.alloc (.cells #[] 5))
  have Q1 := Lib.hid q1
  have HBA := Lib.hid hbA
  have HSA := Lib.hid hsA
  clear hx r1 r2 hb0 q1 hbA hsA hsW
  subst hW
  go_enter Tryz.func98, Tryz.ntmps98
  go_wp2_with (first
    | (at_builtin
       go_loud (
       refine wpList_copy0 flat_byte rfl _ _ 44 rfl (V8 0) 1 Tryz.underlying44 u8Info rfl (by decide) _ rfl rfl hyA HX.out.p3 (by omega) (by omega) ?_
       intro A3 c3 w3 a1 a2 a3 a4 hb3
       have q3 := Q1.out.below hb3
       have s3 : w3.cell? ⟨w.heap.size, 3, none⟩ = some (.slice A1 x.pd.length c1) := q3.cell 3 rfl
       have g3 := q3.frozen 3
       have q4 : Row (w3.setCell ⟨w.heap.size, 3, none⟩ (.slice A3 x.pd.length c3)) w.heap.size 90 #[.int .i64 x.id, .int .i64 x.blk, .int .i64 x.pa, .slice A3 x.pd.length c3, .slice A2 x.needs.length c2] := q3.put 3 _
       have q5 := q4.alloc (.cells #[] 3)
       have k4 : ((w3.setCell ⟨w.heap.size, 3, none⟩ (.slice A3 x.pd.length c3)).alloc (.cells #[] 3)).cell? ⟨w.heap.size, 4, none⟩ = some (.slice A2 x.needs.length c2) := q5.cell 4 rfl
       have hle3 : w.heap.size + 1 + 1 + 1 ≤ w3.heap.size := Nat.le_trans (Nat.le_of_eq HSA.out.symm) hb3.size
       have HLE := Lib.hid hle3
       have hbB := (((HBA.out.trans (hb3.mono HBA.out.size)).setCell (p := ⟨w.heap.size, 3, none⟩) (Nat.le_refl _) (.slice A3 x.pd.length c3)).alloc (by simp [World.setCell]; omega) (.cells #[] 3))
       have hn5 : Is ((w3.setCell ⟨w.heap.size, 3, none⟩ (.slice A3 x.pd.length c3)).alloc (.cells #[] 3)) A2 x.needs := HX.out.n4.below hbB
       have F3 := Lib.hid ((fr_cell (a4.mono (B' := w.heap.size + 1 + 1) (Nat.le_trans (Nat.le_succ _) (Nat.le_of_eq HSA.out.symm))) (g := w.heap.size) (by omega) 3 (.slice A3 x.pd.length c3)).below (bb0 _ (.cells #[] 3)))
       have RB := Lib.hid (((R2.out.below hb3).farCell (a := ⟨w.heap.size, 3, none⟩) (by show w.heap.size + 1 ≠ w.heap.size; omega) (.slice A3 x.pd.length c3)).alloc (.cells #[] 3))
       have HBB := Lib.hid hbB
       have Q5 := Lib.hid q5
       clear q3 q4 q5 hb3 a4 hbB hyA k3 hle3))
    | (at_builtin
       refine wpList_copy0 (flat_int .i64) rfl _ _ 47 rfl (.int .i64 0) 8 Tryz.underlying47 intInfo3 rfl (by decide) _ rfl rfl hn5 HX.out.n3 (by omega) (by omega) ?_
       intro A4 c4 w6 b1 b2 b3 b4 hb6
       have q6 := Q5.out.below hb6
       have s4 : w6.cell? ⟨w.heap.size, 4, none⟩ = some (.slice A2 x.needs.length c2) := q6.cell 4 rfl
       have g4 := q6.frozen 4
       have q7 : Row (w6.setCell ⟨w.heap.size, 4, none⟩ (.slice A4 x.needs.length c4)) w.heap.size 90 (chC x A3 c3 A4 c4) := q6.put 4 _
       have j0 : World.cell? _ ⟨w.heap.size, 0, none⟩ = some (.int .i64 x.id) := q7.cell 0 rfl
       have j1 : World.cell? _ ⟨w.heap.size, 1, none⟩ = some (.int .i64 x.blk) := q7.cell 1 rfl
       have j2 : World.cell? _ ⟨w.heap.size, 2, none⟩ = some (.int .i64 x.pa) := q7.cell 2 rfl
       have j3 : World.cell? _ ⟨w.heap.size, 3, none⟩ = some (.slice A3 x.pd.length c3) := q7.cell 3 rfl
       have j4 : World.cell? _ ⟨w.heap.size, 4, none⟩ = some (.slice A4 x.needs.length c4) := q7.cell 4 rfl
       have r7 := (RB.out.below hb6).farCell (a := ⟨w.heap.size, 4, none⟩) (by show w.heap.size + 1 ≠ w.heap.size; omega) (.slice A4 x.needs.length c4)
       have R7 := Lib.hid r7
       have F6 := Lib.hid (fr_cell (F3.out.below hb6) (g := w.heap.size) (by omega) 4 (.slice A4 x.needs.length c4))
       have hle6 : w.heap.size + 1 + 1 ≤ ((w3.setCell ⟨w.heap.size, 3, none⟩ (.slice A3 x.pd.length c3)).alloc (.cells #[] 3)).heap.size := by have := HLE.out; simp [World.setCell]; omega
       have G6 := Lib.hid (fr_cell (b4.mono (B' := w.heap.size + 1 + 1) hle6) (g := w.heap.size) (by omega) 4 (.slice A4 x.needs.length c4))
       have HBC := Lib.hid ((HBB.out.trans (hb6.mono HBB.out.size)).setCell (p := ⟨w.heap.size, 4, none⟩) (Nat.le_refl _) (.slice A4 x.needs.length c4))
       clear q6 q7 hb6 b4 hn5 k4 hle6)
    | (with_reducible refine wpList_storeRow rfl 90 _ _ rfl (w.heap.size + 1) rfl (chC x A3 c3 A4 c4) rfl chZ 90 5 chSize rfl rfl (chC_one _ _ _ _ _) r7 ?_))
  exact bodyPost_ret (v := .agg (chC x A3 c3 A4 c4)) (results_cell_row rfl _ _ (w.heap.size + 1) 90 (chC x A3 c3 A4 c4) (0, 0) _ rfl (R7.out.set _) Tryz.underlying90 rfl chSize) rfl
    ⟨A3, c3, A4, c4, rfl, ⟨HX.out.ok, a1, a2, a3, (fr_row F6.out (g := w.heap.size + 1) (by omega) _).mono (by omega), b1, b2, b3, (fr_row G6.out (g := w.heap.size + 1) (by omega) _).mono (by omega)⟩, below_setRow HBC.out (by omega) _⟩
end Go.Proofs.YtbamhiegabeicaaGreat.Rd


/- Maps from numbers to numbers, as functions. Laws over the one program. No statement is proved here. -/
namespace Go.Proofs.YtbamhiegabeicaaGreat.Rd
open Go.RowKit Go.Proofs.YtbamhiegabeicaaGreat.Mem Go.Proofs.YtbamhiegabeicaaGreat.Open Go.Proofs.YtbamhiegabeicaaGreat.Kind Go.Proofs.YtbamhiegabeicaaGreat.Blk Go.Proofs.YtbamhiegabeicaaGreat.App Go.Maps
set_option linter.unusedVariables false
set_option linter.unusedSimpArgs false
abbrev MapD (w : World) (b n : Nat) (D : DataW Unit) : Prop := w.ownsMap Tryz.prog 3 (plainElem Tryz.prog 3) b n D
/-- A map of at most n entries, in block b: what it has at each number, 0 where it has none. -/
def Mp (w : World) (b n : Nat) (f : Int → Int) : Prop := ∃ D : DataW Unit, MapD w b n D ∧ ∀ x, D.atKey (.int .i64 x) (.lit (.int .i64 0)) = .lit (.int .i64 (f x))
def upd (f : Int → Int) (k v : Int) : Int → Int := fun x => if x = k then v else f x
theorem upd_same (f : Int → Int) (k v : Int) : upd f k v k = v := if_pos rfl
theorem upd_ne (f : Int → Int) {k x : Int} (v : Int) (h : x ≠ k) : upd f k v x = f x := if_neg h
theorem keyN {k : Int} (h : WfI k) : keyOf Tryz.prog 3 (.int .i64 k) = some (.int .i64 k) := keyOf_int_mk Tryz.underlying3 h
theorem keyedN : Keyed Tryz.prog 3 := int_keyed Tryz.underlying3
theorem zeroN (w : World) : (zeroValue 3).run Tryz.prog w = .ok (.int .i64 0) w := by kernel_rfl
section
variable {w w' : World} {b n : Nat} {f : Int → Int}
theorem Mp.made (w : World) : Mp (w.alloc (.map #[] 0)) w.heap.size 0 (fun _ => 0) := ⟨.map [], World.ownsMap_made w _ _ _, fun x => rfl⟩
theorem Mp.kept {row : Option Nat} (h : Mp w b n f) (hg : w.grownBy w' row) (hne : some b ≠ row) : Mp w' b n f := by
  obtain ⟨D, h1, h2⟩ := h
  exact ⟨D, h1.kept hg hne, h2⟩
theorem Mp.lt (h : Mp w b n f) : b < w.heap.size := by obtain ⟨D, h1, _⟩ := h; exact h1.lt
theorem Mp.below (h : Mp w b n f) (hb : Below w.heap.size w w') : Mp w' b n f := h.kept (row := none) ⟨hb.os, hb.tape, hb.output, hb.size, fun k hk _ => hb.block k hk⟩ (by simp)
theorem Mp.alloc (h : Mp w b n f) (o : Obj) : Mp (w.alloc o) b n f := h.below ((Below.refl _ _).alloc (Nat.le_refl _) o)
theorem Mp.drew (h : Mp w b n f) : Mp w.drew b n f := h.below (Below.refl _ _).drew
theorem Mp.mono (h : Mp w b n f) {m : Nat} (hm : n ≤ m) : Mp w b m f := by
  obtain ⟨D, h1, h2⟩ := h
  exact ⟨D, h1.mono hm, h2⟩
theorem isKey_int (k : Int) : WideAt.IsKeyLit (.int .i64 k) := by first | trivial | (unfold WideAt.IsKeyLit; trivial) | exact ⟨⟩ | simp [WideAt.IsKeyLit]
theorem Mp.get (h : Mp w b n f) {k : Int} (hk : WfI k) (hM : Tryz.prog.underlying 116 = some (.map 3 3)) : (Instr.lookup 116 (.map (some b)) (.int .i64 k) false).run Tryz.prog w = .ok (.int .i64 (f k)) w := by
  obtain ⟨D, h1, h2⟩ := h
  obtain ⟨c, hrun, hat, _⟩ := h1.lookup_int keyedN hM Tryz.underlying3 (zeroN w) (keyN hk)
  have hc : f k = c := by
    exact (Lit.int.inj (DataW.lit.inj ((h2 k).symm.trans hat))).2
  rw [hc]
  exact hrun
theorem Mp.put (h : Mp w b n f) (hn : n < 1000000) {k v : Int} (hk : WfI k) (hv : WfI v) : ∃ w', (Instr.mapUpdate 116 (.map (some b)) (.int .i64 k) (.int .i64 v)).run Tryz.prog w = .ok () w' ∧ Mp w' b (n + 1) (upd f k v) ∧ w.grownBy w' (some b) := by
  obtain ⟨D, h1, h2⟩ := h
  obtain ⟨w', hrun, q1, q2⟩ := h1.update keyedN Tryz.underlying116 (by simp only [maxLen]; omega) (keyN hk) (plainElem_int Tryz.underlying3 (q := .i64) (a := v) hv)
  refine ⟨w', hrun, ⟨_, q1, fun x => ?_⟩, q2⟩
  by_cases hx : x = k
  · subst hx
    rw [upd_same]
    exact atKey_put_same h1.isMap (isKey_int x) _ _
  · rw [upd_ne _ _ hx, atKey_put_other (fun e => hx (Lit.int.inj e).2)]
    exact h2 x
theorem Mp.del (h : Mp w b n f) {k : Int} (hk : WfI k) (ty : TypeId) : ∃ w', (Builtin.delete_ #[116, 3] ty #[.map (some b), .int .i64 k]).run Tryz.prog w = .ok (.tuple #[]) w' ∧ Mp w' b n (upd f k 0) ∧ w.grownBy w' (some b) := by
  obtain ⟨D, h1, h2⟩ := h
  obtain ⟨w', hrun, q1, q2⟩ := h1.drop keyedN Tryz.underlying116 (keyN hk) ty
  refine ⟨w', hrun, ⟨_, q1, fun x => ?_⟩, q2.grown⟩
  by_cases hx : x = k
  · subst hx
    rw [upd_same]
    exact atKey_del_same _
  · rw [upd_ne _ _ hx, atKey_del_other (fun e => hx (Lit.int.inj e).2)]
    exact h2 x
end
section
variable {ops : Array Oper} {rest : List Oper} {o : Oper} {a : Act} {w : World} {Q : Exit → Act → World → Prop} {K : Act → World → Prop} {b n : Nat} {f : Int → Int}
theorem wp_mapGet (m x : Operand) (ho : o.op = .lookup 116 m x false) (hm : a.eval m = .map (some b)) (h : Mp w b n f) (k : Int) (hx : a.eval x = .int .i64 k) (hk : WfI k) (hK : K (a.put o.dst (.int .i64 (f k))) w) : o.wp Tryz.prog a w K Q := by
  unfold Oper.wp execOp
  simp only [ho, hm, hx, Sem.run_bind, h.get hk Tryz.underlying116, Result.andThen_ok]
  exact hK
theorem wpList_mapGet (hg : o.guard = none) (m x : Operand) (ho : o.op = .lookup 116 m x false) (hm : a.eval m = .map (some b)) (h : Mp w b n f) (k : Int) (hx : a.eval x = .int .i64 k) (hk : WfI k) (hK : wpList Tryz.prog ops Q rest (a.put o.dst (.int .i64 (f k))) w) : wpList Tryz.prog ops Q (o :: rest) a w :=
  wpList_plain hg fun _ hK' => wp_mapGet m x ho hm h k hx hk (hK' _ _ hK)
theorem wpList_mapPut (hg : o.guard = none) (m x v : Operand) (ho : o.op = .mapUpdate 116 m x v) (hm : a.eval m = .map (some b)) (h : Mp w b n f) (hn : n < 1000000) (k y : Int) (hx : a.eval x = .int .i64 k) (hv : a.eval v = .int .i64 y) (hk : WfI k) (hy : WfI y)
    (hK : ∀ w', Mp w' b (n + 1) (upd f k y) → w.grownBy w' (some b) → wpList Tryz.prog ops Q rest (a.put o.dst undef) w') : wpList Tryz.prog ops Q (o :: rest) a w :=
  wpList_plain hg fun _ hK' => by
    obtain ⟨w', hrun, q1, q2⟩ := h.put hn hk hy
    unfold Oper.wp
    simp [execOp, ho, hm, hx, hv, hrun, Result.andThen]
    exact hK' _ _ (hK w' q1 q2)
theorem wpList_mapDel (hg : o.guard = none) (m x : Operand) (ho : o.op = .call { callee := .builtin .delete, args := #[m, x], argTypes := #[116, 3] }) (hd : o.dst = none) (hm : a.eval m = .map (some b)) (h : Mp w b n f) (k : Int) (hx : a.eval x = .int .i64 k) (hk : WfI k)
    (hK : ∀ w', Mp w' b n (upd f k 0) → w.grownBy w' (some b) → wpList Tryz.prog ops Q rest a w') : wpList Tryz.prog ops Q (o :: rest) a w :=
  wpList_plain hg fun _ hK' => by
    obtain ⟨w', hrun, q1, q2⟩ := h.del hk o.type
    unfold Oper.wp execOp
    simp only [ho, resolve, invoke, builtin, Sem.run_bind, Sem.run_pure, Result.andThen_ok, List.map_toArray, List.map_cons, List.map_nil, hm, hx, hrun]
    have := hK' _ _ (hK w' q1 q2)
    simpa [Oper.upon, hd, Act.put] using this
end
end Go.Proofs.YtbamhiegabeicaaGreat.Rd


