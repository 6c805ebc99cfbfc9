/- Laws and contracts of several chapters, laid in one text. No statement is proved here. -/
import Derived.Test.YtbamhiegabeicaaRd2
import Derived.Test.YtbamhiegabeicaaCp
import Derived.Laws.ResultCell
/- Changes as the program has them. No statement is proved here. -/
namespace Go.Proofs.Ytbamhiegabeicaa.Rd
open Go.RowKit Go.Proofs.Ytbamhiegabeicaa.Mem Go.Proofs.Ytbamhiegabeicaa.Open Go.Proofs.Ytbamhiegabeicaa.Kind Go.Proofs.Ytbamhiegabeicaa.Blk Go.Proofs.Ytbamhiegabeicaa.App Go.Proofs.Ytbamhiegabeicaa.Pat
set_option linter.unusedVariables false
set_option linter.unusedSimpArgs false
theorem intInfo3 : (Try.prog.info? 3).map (fun i => (i.zero, i.size, i.bytes)) = some (some (.int .i64 0), 1, 8) := by kernel_rfl
theorem chInfo3 : (Try.prog.info? 71).map (fun i => (i.zero, i.size, i.bytes)) = some (some (.agg chZ), 5, 72) := by kernel_rfl
/-- Nothing below a block has changed, on and on. -/
structure Gw (B : Nat) (a w : World) : Prop where
  out : Below B a w
  le : B ≤ a.heap.size
theorem Gw.below {B : Nat} {a w w' : World} (h : Gw B a w) (hb : Below w.heap.size w w') : Gw B a w' := ⟨h.out.trans (hb.mono (Nat.le_trans h.le h.out.size)), h.le⟩
/-- None is more than is gone through. -/
def Small (xs : List Chg) : Prop := ∀ x ∈ xs, x.pd.length ≤ 300 ∧ x.needs.length ≤ 60
theorem take_next {α : Type} {xs : List α} {k : Nat} (h : k < xs.length) : xs.take (k + 1) = xs.take k ++ [xs[k]] := by rw [List.take_add_one, List.getElem?_eq_getElem h]; rfl
end Go.Proofs.Ytbamhiegabeicaa.Rd

/- A change that shares nothing: the contract of ready.copied. No statement is proved here. -/
namespace Go.Proofs.Ytbamhiegabeicaa.Rd
open Go.RowKit Go.Proofs.Ytbamhiegabeicaa.Mem Go.Proofs.Ytbamhiegabeicaa.Open Go.Proofs.Ytbamhiegabeicaa.Kind Go.Proofs.Ytbamhiegabeicaa.Blk Go.Proofs.Ytbamhiegabeicaa.App Go.Proofs.Ytbamhiegabeicaa.Pat
set_option linter.unusedVariables false
set_option linter.unusedSimpArgs false
/-- What a change's slices are read as. -/
structure ChS (w : World) (x : Chg) (A : Option Addr) (c : Nat) (A2 : Option Addr) (c2 : Nat) : Prop where
  ok : ChOk x
  p1 : x.pd.length ≤ c
  p2 : c ≤ M63
  p3 : A = none → c = 0
  p4 : By w A x.pd
  n1 : x.needs.length ≤ c2
  n2 : c2 ≤ M63
  n3 : A2 = none → c2 = 0
  n4 : Is w A2 x.needs
theorem ChS.below {w w' : World} {x : Chg} {A : Option Addr} {c : Nat} {A2 : Option Addr} {c2 : Nat} (h : ChS w x A c A2 c2) (hb : Below w.heap.size w w') : ChS w' x A c A2 c2 :=
  ⟨h.ok, h.p1, h.p2, h.p3, h.p4.below hb, h.n1, h.n2, h.n3, h.n4.below hb⟩
theorem ChS.k {w : World} {x : Chg} {A : Option Addr} {c : Nat} {A2 : Option Addr} {c2 : Nat} (h : ChS w x A c A2 c2) : kChg.K w (All w) x (chC x A c A2 c2).toList := kChg_mk h.ok h.p1 h.p2 h.p3 h.p4 h.n1 h.n2 h.n3 h.n4
theorem ChAt.s {w : World} {g o k : Nat} {x : Chg} {A : Option Addr} {c : Nat} {A2 : Option Addr} {c2 : Nat} (h : ChAt w g o k x A c A2 c2) : ChS w x A c A2 c2 :=
  ⟨h.ok, h.p.1, h.p.2.1, h.p.2.2.1, h.p.2.2.2, h.n.1, h.n.2.1, h.n.2.2.1, h.n.2.2.2⟩
/-- The same, of slices that lie from a block on. -/
structure ChF (w : World) (B : Nat) (x : Chg) (A : Option Addr) (c : Nat) (A2 : Option Addr) (c2 : Nat) : Prop where
  ok : ChOk x
  p1 : x.pd.length ≤ c
  p2 : c ≤ M63
  p3 : A = none → c = 0
  p4 : Fr kByte w B A x.pd
  n1 : x.needs.length ≤ c2
  n2 : c2 ≤ M63
  n3 : A2 = none → c2 = 0
  n4 : Fr (kInt .i64) w B A2 x.needs
theorem ChF.below {w w' : World} {B : Nat} {x : Chg} {A : Option Addr} {c : Nat} {A2 : Option Addr} {c2 : Nat} (h : ChF w B x A c A2 c2) (hb : Below w.heap.size w w') : ChF w' B x A c A2 c2 :=
  ⟨h.ok, h.p1, h.p2, h.p3, h.p4.below hb, h.n1, h.n2, h.n3, h.n4.below hb⟩
theorem ChF.mono' {w : World} {B B' : Nat} {x : Chg} {A : Option Addr} {c : Nat} {A2 : Option Addr} {c2 : Nat} (h : ChF w B x A c A2 c2) (hB : B' ≤ B) : ChF w B' x A c A2 c2 :=
  ⟨h.ok, h.p1, h.p2, h.p3, h.p4.mono hB, h.n1, h.n2, h.n3, h.n4.mono hB⟩
theorem ChF.s {w : World} {B : Nat} {x : Chg} {A : Option Addr} {c : Nat} {A2 : Option Addr} {c2 : Nat} (h : ChF w B x A c A2 c2) : ChS w x A c A2 c2 := ⟨h.ok, h.p1, h.p2, h.p3, h.p4.all, h.n1, h.n2, h.n3, h.n4.all⟩
theorem fr_cell {α : Type} {k : Kd α} {w : World} {B : Nat} {A : Option Addr} {xs : List α} (h : Fr k w B A xs) {g : Nat} (hg : g < B) (o : Nat) (v : Value) : Fr k (w.setCell ⟨g, o, none⟩ v) B A xs :=
  ⟨(h.out.stay fun b hb => Below.heap_setCell w ⟨g, o, none⟩ v b (by show b ≠ g; omega)).mono fun b hb => ⟨hb.1, by have := hb.2; simpa [World.setCell] using this⟩⟩
theorem fr_row {α : Type} {k : Kd α} {w : World} {B : Nat} {A : Option Addr} {xs : List α} (h : Fr k w B A xs) {g : Nat} (hg : g < B) (cs : Array Value) : Fr k (w.setRow g cs) B A xs :=
  ⟨(h.out.stay fun b hb => setRow_other _ _ _ _ (by omega)).mono fun b hb => ⟨hb.1, by have := hb.2; simpa using this⟩⟩
set_option maxHeartbeats 2000000 in
set_option maxRecDepth 100000 in
theorem copied_any (x : Chg) (A1 : Option Addr) (c1 : Nat) (A2 : Option Addr) (c2 : Nat) (w : World) (hx : ChS w x A1 c1 A2 c2) (hs : x.pd.length ≤ 300 ∧ x.needs.length ≤ 60) :
    Calls Try.prog 69 #[.agg (chC x A1 c1 A2 c2)] w fun r w' => ∃ A3 c3 A4 c4, r = .returned (.agg (chC x A3 c3 A4 c4)) ∧ ChF w' w.heap.size x A3 c3 A4 c4 ∧ Below w.heap.size w w' := by
  obtain ⟨hs1, hs2⟩ := hs
  obtain ⟨W, hW⟩ : ∃ W, W = (w.alloc (.cells (chC x A1 c1 A2 c2) 71)).alloc (.cells chZ 71) := ⟨_, rfl⟩
  have hb0 : Below w.heap.size w W := by rw [hW]; exact ((Below.refl _ _).alloc (Nat.le_refl _) _).alloc (by simp) _
  have r1 : Row W w.heap.size 71 (chC x A1 c1 A2 c2) := by rw [hW]; exact (Row.new _ _ _).alloc _
  have r2 : Row W (w.heap.size + 1) 71 chZ := by
    rw [hW]
    have := Row.new (w.alloc (.cells (chC x A1 c1 A2 c2) 71)) 71 chZ
    rwa [show (w.alloc (.cells (chC x A1 c1 A2 c2) 71)).heap.size = w.heap.size + 1 from by simp] at this
  have hsW : W.heap.size = w.heap.size + 1 + 1 := by rw [hW]; simp
  have q1 := r1.alloc (.cells #[] 5)
  have hbA := hb0.alloc hb0.size (.cells #[] 5)
  have hsA : (W.alloc (.cells #[] 5)).heap.size = w.heap.size + 1 + 1 + 1 := by simp; omega
  have hyA : By (W.alloc (.cells #[] 5)) A1 x.pd := hx.p4.below hbA
  have k3 : (W.alloc (.cells #[] 5)).cell? ⟨w.heap.size, 3, none⟩ = some (.slice A1 x.pd.length c1) := q1.cell 3 rfl
  have HX := Lib.hid hx
  have R2 := Lib.hid (r2.alloc (.cells #[] 5))
  have Q1 := Lib.hid q1
  have HBA := Lib.hid hbA
  have HSA := Lib.hid hsA
  clear hx r1 r2 hb0 q1 hbA hsA hsW
  subst hW
  go_enter Try.func69, Try.ntmps69
  go_wp2_with (first
    | (at_builtin
       go_loud (
       refine wpList_copy0 flat_byte rfl _ _ 51 rfl (V8 0) 1 Try.underlying51 u8Info rfl (by decide) _ rfl rfl hyA HX.out.p3 (by omega) (by omega) ?_
       intro A3 c3 w3 a1 a2 a3 a4 hb3
       have q3 := Q1.out.below hb3
       have s3 : w3.cell? ⟨w.heap.size, 3, none⟩ = some (.slice A1 x.pd.length c1) := q3.cell 3 rfl
       have g3 := q3.frozen 3
       have q4 : Row (w3.setCell ⟨w.heap.size, 3, none⟩ (.slice A3 x.pd.length c3)) w.heap.size 71 #[.int .i64 x.id, .int .i64 x.blk, .int .i64 x.pa, .slice A3 x.pd.length c3, .slice A2 x.needs.length c2] := q3.put 3 _
       have q5 := q4.alloc (.cells #[] 3)
       have k4 : ((w3.setCell ⟨w.heap.size, 3, none⟩ (.slice A3 x.pd.length c3)).alloc (.cells #[] 3)).cell? ⟨w.heap.size, 4, none⟩ = some (.slice A2 x.needs.length c2) := q5.cell 4 rfl
       have hle3 : w.heap.size + 1 + 1 + 1 ≤ w3.heap.size := Nat.le_trans (Nat.le_of_eq HSA.out.symm) hb3.size
       have HLE := Lib.hid hle3
       have hbB := (((HBA.out.trans (hb3.mono HBA.out.size)).setCell (p := ⟨w.heap.size, 3, none⟩) (Nat.le_refl _) (.slice A3 x.pd.length c3)).alloc (by simp [World.setCell]; omega) (.cells #[] 3))
       have hn5 : Is ((w3.setCell ⟨w.heap.size, 3, none⟩ (.slice A3 x.pd.length c3)).alloc (.cells #[] 3)) A2 x.needs := HX.out.n4.below hbB
       have F3 := Lib.hid ((fr_cell (a4.mono (B' := w.heap.size + 1 + 1) (Nat.le_trans (Nat.le_succ _) (Nat.le_of_eq HSA.out.symm))) (g := w.heap.size) (by omega) 3 (.slice A3 x.pd.length c3)).below (bb0 _ (.cells #[] 3)))
       have RB := Lib.hid (((R2.out.below hb3).farCell (a := ⟨w.heap.size, 3, none⟩) (by show w.heap.size + 1 ≠ w.heap.size; omega) (.slice A3 x.pd.length c3)).alloc (.cells #[] 3))
       have HBB := Lib.hid hbB
       have Q5 := Lib.hid q5
       clear q3 q4 q5 hb3 a4 hbB hyA k3 hle3))
    | (at_builtin
       refine wpList_copy0 (flat_int .i64) rfl _ _ 54 rfl (.int .i64 0) 8 Try.underlying54 intInfo3 rfl (by decide) _ rfl rfl hn5 HX.out.n3 (by omega) (by omega) ?_
       intro A4 c4 w6 b1 b2 b3 b4 hb6
       have q6 := Q5.out.below hb6
       have s4 : w6.cell? ⟨w.heap.size, 4, none⟩ = some (.slice A2 x.needs.length c2) := q6.cell 4 rfl
       have g4 := q6.frozen 4
       have q7 : Row (w6.setCell ⟨w.heap.size, 4, none⟩ (.slice A4 x.needs.length c4)) w.heap.size 71 (chC x A3 c3 A4 c4) := q6.put 4 _
       have j0 : World.cell? _ ⟨w.heap.size, 0, none⟩ = some (.int .i64 x.id) := q7.cell 0 rfl
       have j1 : World.cell? _ ⟨w.heap.size, 1, none⟩ = some (.int .i64 x.blk) := q7.cell 1 rfl
       have j2 : World.cell? _ ⟨w.heap.size, 2, none⟩ = some (.int .i64 x.pa) := q7.cell 2 rfl
       have j3 : World.cell? _ ⟨w.heap.size, 3, none⟩ = some (.slice A3 x.pd.length c3) := q7.cell 3 rfl
       have j4 : World.cell? _ ⟨w.heap.size, 4, none⟩ = some (.slice A4 x.needs.length c4) := q7.cell 4 rfl
       have r7 := (RB.out.below hb6).farCell (a := ⟨w.heap.size, 4, none⟩) (by show w.heap.size + 1 ≠ w.heap.size; omega) (.slice A4 x.needs.length c4)
       have R7 := Lib.hid r7
       have F6 := Lib.hid (fr_cell (F3.out.below hb6) (g := w.heap.size) (by omega) 4 (.slice A4 x.needs.length c4))
       have hle6 : w.heap.size + 1 + 1 ≤ ((w3.setCell ⟨w.heap.size, 3, none⟩ (.slice A3 x.pd.length c3)).alloc (.cells #[] 3)).heap.size := by have := HLE.out; simp [World.setCell]; omega
       have G6 := Lib.hid (fr_cell (b4.mono (B' := w.heap.size + 1 + 1) hle6) (g := w.heap.size) (by omega) 4 (.slice A4 x.needs.length c4))
       have HBC := Lib.hid ((HBB.out.trans (hb6.mono HBB.out.size)).setCell (p := ⟨w.heap.size, 4, none⟩) (Nat.le_refl _) (.slice A4 x.needs.length c4))
       clear q6 q7 hb6 b4 hn5 k4 hle6)
    | (with_reducible refine wpList_storeRow rfl 71 _ _ rfl (w.heap.size + 1) rfl (chC x A3 c3 A4 c4) rfl chZ 71 5 chSize rfl rfl (chC_one _ _ _ _ _) r7 ?_))
  exact bodyPost_ret (v := .agg (chC x A3 c3 A4 c4)) (results_cell_row rfl _ _ (w.heap.size + 1) 71 (chC x A3 c3 A4 c4) (0, 0) _ rfl (R7.out.set _) Try.underlying71 rfl chSize) rfl
    ⟨A3, c3, A4, c4, rfl, ⟨HX.out.ok, a1, a2, a3, (fr_row F6.out (g := w.heap.size + 1) (by omega) _).mono (by omega), b1, b2, b3, (fr_row G6.out (g := w.heap.size + 1) (by omega) _).mono (by omega)⟩, below_setRow HBC.out (by omega) _⟩
end Go.Proofs.Ytbamhiegabeicaa.Rd


