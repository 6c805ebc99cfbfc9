/- Laws and contracts of several chapters, laid in one text. No statement is proved here. -/
import Derived.Test.YtbamhiegabeicaaGreatPat5
import Derived.Test.YtbamhiegabeicaaGreatOwnK
import Derived.WalkMore
import Derived.Test.YtbamhiegabeicaaGreatOpenK
import Derived.Test.YtbamhiegabeicaaGreatFld
import Derived.Test.YtbamhiegabeicaaGreatSame
/- patch.Diff. -/
namespace Go.Proofs.YtbamhiegabeicaaGreat.Pat
open Go.RowKit Go.Proofs.YtbamhiegabeicaaGreat.Mem Go.Proofs.YtbamhiegabeicaaGreat.Open Go.Proofs.YtbamhiegabeicaaGreat.Kind Go.Proofs.YtbamhiegabeicaaGreat.Blk Go.Proofs.YtbamhiegabeicaaGreat.App
set_option linter.unusedVariables false
set_option linter.unusedSimpArgs false
/-- A patch as data: its place and its bytes. -/
abbrev Pt := Int × List Nat
def kPat : Kd Pt := kPair (kInt .i64) (kSlice kByte)
theorem kPat_open {w : World} {S : Nat → Prop} {p : Pt} {cs : List Value} (h : kPat.K w S p cs) : ∃ A c, cs = [.int .i64 p.1, .slice A p.2.length c] ∧ (Lit.int .i64 p.1).wf = true ∧ p.2.length ≤ c ∧ c ≤ M63 ∧ (A = none → c = 0) ∧ Rw kByte w S A p.2.length p.2 := by
  obtain ⟨ca, cb, rfl, ⟨rfl, h1⟩, A, c, rfl, h2, h3, h4, h5⟩ := h
  exact ⟨A, c, rfl, h1, h2, h3, h4, h5⟩
theorem kPat_mk {w : World} {S : Nat → Prop} {a : Int} {d : List Nat} {A : Option Addr} {c : Nat} (h1 : (Lit.int .i64 a).wf = true) (h2 : d.length ≤ c) (h3 : c ≤ M63) (h4 : A = none → c = 0) (h5 : Rw kByte w S A d.length d) : kPat.K w S (a, d) [.int .i64 a, .slice A d.length c] :=
  ⟨[.int .i64 a], [.slice A d.length c], rfl, ⟨rfl, h1⟩, A, c, rfl, h2, h3, h4, h5⟩
/-! ### plain: the patches between two blocks, of the first i bytes -/
/-- Do the blocks part in a place? -/
def neqB (a b : List Nat) (i : Nat) : Bool := a.getD i 0 != b.getD i 0
/-- Does a run of places in which they part begin there? -/
def startB (a b : List Nat) (i : Nat) : Bool := i == 0 || !neqB a b (i - 1)
def addLast (l : List Pt) (x : Nat) : List Pt := l.dropLast ++ (match l.getLast? with | some p => [(p.1, p.2 ++ [x])] | none => [])
def diffK (a b : List Nat) : Nat → List Pt
  | 0 => []
  | i + 1 => if neqB a b i then (if startB a b i then diffK a b i ++ [((i : Int), [b.getD i 0])] else addLast (diffK a b i) (b.getD i 0)) else diffK a b i
def diffL (a b : List Nat) : List Pt := diffK a b 256
end Go.Proofs.YtbamhiegabeicaaGreat.Pat

/- Patches as a law's arguments. -/
namespace Go.Proofs.YtbamhiegabeicaaGreat.Pat
open Go.RowKit Go.Proofs.YtbamhiegabeicaaGreat.Mem Go.Proofs.YtbamhiegabeicaaGreat.Open Go.Proofs.YtbamhiegabeicaaGreat.Kind Go.Proofs.YtbamhiegabeicaaGreat.Blk
end Go.Proofs.YtbamhiegabeicaaGreat.Pat

/- Patches: the document's Was and Same. -/
namespace Go.Proofs.YtbamhiegabeicaaGreat.Pat
open Go.RowKit Go.Proofs.YtbamhiegabeicaaGreat.Mem Go.Proofs.YtbamhiegabeicaaGreat.Open Go.Proofs.YtbamhiegabeicaaGreat.Kind Go.Proofs.YtbamhiegabeicaaGreat.Blk Go.Proofs.YtbamhiegabeicaaGreat.App
set_option linter.unusedVariables false
set_option linter.unusedSimpArgs false
set_option maxHeartbeats 1000000 in
set_option maxRecDepth 100000 in
theorem rsame_any (a : Int) (A : Option Addr) (c : Nat) (d : List Nat) (b : Int) (A2 : Option Addr) (c2 : Nat) (f : List Nat) (w : World) (hd : By w A d) (hf : By w A2 f) :
    Calls Tryz.prog 79 #[patV a A d.length c, patV b A2 f.length c2] w fun e w' => e = .returned (.bool (psameB a d b f)) ∧ Below w.heap.size w w' := by
  obtain ⟨hp, hq, hbel⟩ := two_rows w 46 46 #[.int .i64 a, .slice A d.length c] #[.int .i64 b, .slice A2 f.length c2]
  by_cases hab : a = b
  · subst hab
    have HV : Hid (decide (d = f) = psameB a d a f) := by show _ = _; unfold psameB; simp
    have CS := Lib.hid (fun w' h1 h2 => Same.same_any A A2 d.length f.length c c2 d f w' h1 h2)
    go_enter Tryz.func79, Tryz.ntmps79
    go_wp2_with fail
    generalize (w.alloc (.cells #[.int .i64 a, .slice A d.length c] 46)).alloc (.cells #[.int .i64 a, .slice A2 f.length c2] 46) = w1 at *
    refine (CS.out _ (hd.below hbel).sl_byte (hf.below hbel).sl_byte).mono ?_
    rintro e w2 ⟨rfl, q, rfl⟩
    rw [HV.out]
    go_wp2
    go_ret
    exact ⟨rfl, bdrewN hbel q⟩
  · have HF : Hid (psameB a d b f = false) := by
      exact decide_eq_false fun h => hab h.1
    have hc : (a == b) = false := by rw [beq_eq_false_iff_ne]; exact hab
    clear hp hq hd hf hab
    go_enter Tryz.func79, Tryz.ntmps79
    go_wp2
    go_ret
    exact ⟨ret_bool HF.out.symm, hbel⟩
end Go.Proofs.YtbamhiegabeicaaGreat.Pat

/- Changes as data: how they lie in memory. No statement is proved here. -/
namespace Go.Proofs.YtbamhiegabeicaaGreat.Rd
open Go.RowKit Go.Proofs.YtbamhiegabeicaaGreat.Mem Go.Proofs.YtbamhiegabeicaaGreat.Open Go.Proofs.YtbamhiegabeicaaGreat.Kind Go.Proofs.YtbamhiegabeicaaGreat.Blk Go.Proofs.YtbamhiegabeicaaGreat.App Go.Proofs.YtbamhiegabeicaaGreat.Pat
set_option linter.unusedVariables false
set_option linter.unusedSimpArgs false
structure Chg where
  id : Int
  blk : Int
  pa : Int
  pd : List Nat
  needs : List Int
deriving DecidableEq
def kChg : Kd Chg := kIso (kPair (kInt .i64) (kPair (kInt .i64) (kPair kPat (kSlice (kInt .i64))))) fun x => (x.id, x.blk, (x.pa, x.pd), x.needs)
abbrev chC (x : Chg) (A : Option Addr) (c : Nat) (A2 : Option Addr) (c2 : Nat) : Array Value := #[.int .i64 x.id, .int .i64 x.blk, .int .i64 x.pa, .slice A x.pd.length c, .slice A2 x.needs.length c2]
def WfI (n : Int) : Prop := (Lit.int .i64 n).wf = true
theorem wf_iff (n : Int) : WfI n ↔ -9223372036854775808 ≤ n ∧ n ≤ 9223372036854775807 := by
  simp [WfI, Lit.wf, IntKind.min, IntKind.max, IntKind.signed, IntKind.bits]
def ChOk (x : Chg) : Prop := WfI x.id ∧ WfI x.blk ∧ WfI x.pa
/-- Numbers that are read. -/
abbrev Is (w : World) (A : Option Addr) (xs : List Int) : Prop := Rw (kInt .i64) w (All w) A xs.length xs
theorem kChg_open {w : World} {S : Nat → Prop} {x : Chg} {cs : List Value} (h : kChg.K w S x cs) : ∃ A c A2 c2, cs = (chC x A c A2 c2).toList ∧ ChOk x ∧
    (x.pd.length ≤ c ∧ c ≤ M63 ∧ (A = none → c = 0) ∧ Rw kByte w S A x.pd.length x.pd) ∧ (x.needs.length ≤ c2 ∧ c2 ≤ M63 ∧ (A2 = none → c2 = 0) ∧ Rw (kInt .i64) w S A2 x.needs.length x.needs) := by
  obtain ⟨_, _, rfl, ⟨rfl, h1⟩, _, _, rfl, ⟨rfl, h2⟩, _, _, rfl, hp, A2, c2, rfl, q1, q2, q3, q4⟩ := h
  obtain ⟨A, c, rfl, p0, p1, p2, p3, p4⟩ := kPat_open hp
  exact ⟨A, c, A2, c2, rfl, ⟨h1, h2, p0⟩, ⟨p1, p2, p3, p4⟩, q1, q2, q3, q4⟩
theorem kChg_mk {w : World} {S : Nat → Prop} {x : Chg} {A : Option Addr} {c : Nat} {A2 : Option Addr} {c2 : Nat} (ho : ChOk x)
    (h1 : x.pd.length ≤ c) (h2 : c ≤ M63) (h3 : A = none → c = 0) (h4 : Rw kByte w S A x.pd.length x.pd) (q1 : x.needs.length ≤ c2) (q2 : c2 ≤ M63) (q3 : A2 = none → c2 = 0) (q4 : Rw (kInt .i64) w S A2 x.needs.length x.needs) : kChg.K w S x (chC x A c A2 c2).toList :=
  ⟨[.int .i64 x.id], _, rfl, ⟨rfl, ho.1⟩, [.int .i64 x.blk], _, rfl, ⟨rfl, ho.2.1⟩, [.int .i64 x.pa, .slice A x.pd.length c], [.slice A2 x.needs.length c2], rfl, kPat_mk ho.2.2 h1 h2 h3 h4, A2, c2, rfl, q1, q2, q3, q4⟩
/-- Changes that are read. -/
abbrev Chs (w : World) (A : Option Addr) (xs : List Chg) : Prop := Rw kChg w (All w) A xs.length xs
theorem ch_form {w : World} {A : Option Addr} {xs : List Chg} (h : Chs w A xs) (h0 : 0 < xs.length) : ∃ g o, A = some ⟨g, o, none⟩ ∧ g < w.heap.size := by
  obtain ⟨g, o, cs, hA, _, hg, _⟩ := h.at_ h0
  exact ⟨g, o, hA, hg⟩
/-- The cells of a change, and what they lead to. -/
structure ChAt (w : World) (g o k : Nat) (x : Chg) (A : Option Addr) (c : Nat) (A2 : Option Addr) (c2 : Nat) : Prop where
  v0 : w.cell? ⟨g, o + k * 5, none⟩ = some (.int .i64 x.id)
  v1 : w.cell? ⟨g, o + k * 5 + 1, none⟩ = some (.int .i64 x.blk)
  v2 : w.cell? ⟨g, o + k * 5 + 2, none⟩ = some (.int .i64 x.pa)
  v3 : w.cell? ⟨g, o + k * 5 + 2 + 1, none⟩ = some (.slice A x.pd.length c)
  v4 : w.cell? ⟨g, o + k * 5 + 4, none⟩ = some (.slice A2 x.needs.length c2)
  ok : ChOk x
  p : x.pd.length ≤ c ∧ c ≤ M63 ∧ (A = none → c = 0) ∧ By w A x.pd
  n : x.needs.length ≤ c2 ∧ c2 ≤ M63 ∧ (A2 = none → c2 = 0) ∧ Is w A2 x.needs
theorem ch_at {w : World} {g o : Nat} {xs : List Chg} (h : Chs w (some ⟨g, o, none⟩) xs) (k : Nat) (hk : k < xs.length) : ∃ A c A2 c2, ChAt w g o k xs[k] A c A2 c2 := by
  obtain ⟨g', o', cs, hA, _, hg, hK, hc⟩ := h.at_ hk
  injection hA with hA; injection hA with e1 e2; subst e1 e2
  obtain ⟨A, c, A2, c2, rfl, ok, hp, hn⟩ := kChg_open hK
  have c0 := hc 0 _ rfl
  have c1 := hc 1 _ rfl
  have c2' := hc 2 _ rfl
  have c3 := hc 3 _ rfl
  have c4 := hc 4 _ rfl
  exact ⟨A, c, A2, c2, c0, c1, c2', c3, c4, ok, hp, hn⟩
theorem ChAt.below {w w' : World} {g o k : Nat} {x : Chg} {A : Option Addr} {c : Nat} {A2 : Option Addr} {c2 : Nat} (h : ChAt w g o k x A c A2 c2) (hb : Below w.heap.size w w') : ChAt w' g o k x A c A2 c2 := by
  have hg := World.block_lt_of_cell? _ _ h.v0
  exact ⟨(hb.cell hg).trans h.v0, (hb.cell (p := ⟨g, o + k * 5 + 1, none⟩) hg).trans h.v1, (hb.cell (p := ⟨g, o + k * 5 + 2, none⟩) hg).trans h.v2, (hb.cell (p := ⟨g, o + k * 5 + 2 + 1, none⟩) hg).trans h.v3, (hb.cell (p := ⟨g, o + k * 5 + 4, none⟩) hg).trans h.v4, h.ok, ⟨h.p.1, h.p.2.1, h.p.2.2.1, h.p.2.2.2.below hb⟩, ⟨h.n.1, h.n.2.1, h.n.2.2.1, h.n.2.2.2.below hb⟩⟩
theorem is_at {w : World} {A : Option Addr} {xs : List Int} (h : Is w A xs) (k : Nat) (hk : k < xs.length) : ∃ g o, A = some ⟨g, o, none⟩ ∧ g < w.heap.size ∧ w.cell? ⟨g, o + k, none⟩ = some (.int .i64 xs[k]) := by
  obtain ⟨g, o, cs, hA, _, hg, ⟨rfl, _⟩, hc⟩ := h.at_ hk
  have := hc 0 _ rfl
  rw [show o + k * (kInt .i64).sz + 0 = o + k from by show o + k * 1 + 0 = _; omega] at this
  exact ⟨g, o, hA, hg, this⟩
theorem is_wf {w : World} {A : Option Addr} {xs : List Int} (h : Is w A xs) : ∀ x ∈ xs, WfI x := h.wf_int
theorem bb0 (w : World) (o : Obj) : Below w.heap.size w (w.alloc o) := (Below.refl _ _).alloc (Nat.le_refl _) _
end Go.Proofs.YtbamhiegabeicaaGreat.Rd


