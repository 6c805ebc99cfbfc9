/- Steps of a device's script as data. No statement is proved here. -/
import Derived.Test.YtechlhmmgabikaaDk9
import Derived.Test.YtechlhmmgabikaaFld
namespace Go.Proofs.Ytechlhmmgabikaa.Dk
open Go.RowKit Go.Proofs.Ytechlhmmgabikaa.Mem Go.Proofs.Ytechlhmmgabikaa.Open Go.Proofs.Ytechlhmmgabikaa.Kind Go.Proofs.Ytechlhmmgabikaa.Blk
set_option linter.unusedVariables false
set_option linter.unusedSimpArgs false
structure StD where
  d : Int
  no : Int
  b : Nat
def kStep : Kd StD := kIso (kPair (kInt .i64) (kPair (kInt .i64) kByte)) fun x => (x.d, x.no, x.b)
theorem kStep_sz : kStep.sz = 3 := rfl
def StOk (x : StD) : Prop := (Lit.int .i64 x.d).wf = true ∧ (Lit.int .i64 x.no).wf = true ∧ x.b < 256
theorem kStep_open {w : World} {S : Nat → Prop} {x : StD} {cs : List Value} (h : kStep.K w S x cs) : cs = (stC x.d x.no x.b).toList ∧ StOk x := by
  obtain ⟨_, _, rfl, ⟨rfl, h1⟩, _, _, rfl, ⟨rfl, h2⟩, rfl, h3⟩ := h
  exact ⟨rfl, h1, h2, h3⟩
theorem opens_step {H : Type} {enc : TypeId × Value → H} {w : World} : Opens H enc Try.prog w kStep 28 := by
  have h : Opens H enc Try.prog w (kPair (kInt .i64) (kPair (kInt .i64) kByte)) 28 :=
    opens_struct Try.underlying28 (flds_cons rfl (opens_int Try.underlying3) (by kernel_rfl) (flds_cons rfl (opens_int Try.underlying3) (by kernel_rfl) (flds_one rfl (opens_byte Try.underlying5) (by kernel_rfl)))) (by kernel_rfl)
  intro fuel cs y hy
  obtain ⟨⟨x1, x2, x3⟩, hx⟩ := h fuel cs y hy
  exact ⟨⟨x1, x2, x3⟩, hx⟩
theorem opens_steps {H : Type} {enc : TypeId × Value → H} {w : World} : Opens H enc Try.prog w (kSlice kStep) 22 :=
  opens_slice Try.underlying22 opens_step (by kernel_rfl) (by decide)
/-- A script that is read. -/
abbrev Sts (w : World) (A : Option Addr) (xs : List StD) : Prop := Rw kStep w (All w) A xs.length xs
theorem st_form {w : World} {A : Option Addr} {xs : List StD} (h : Sts w A xs) (h0 : 0 < xs.length) : ∃ g o, A = some ⟨g, o, none⟩ ∧ g < w.heap.size := by
  obtain ⟨g, o, cs, hA, _, hg, _⟩ := h.at_ h0
  exact ⟨g, o, hA, hg⟩
theorem st_at {w : World} {g o : Nat} {xs : List StD} (h : Sts w (some ⟨g, o, none⟩) xs) (k : Nat) (hk : k < xs.length) :
    w.cell? ⟨g, o + k * 3, none⟩ = some (.int .i64 xs[k].d) ∧ w.cell? ⟨g, o + k * 3 + 1, none⟩ = some (.int .i64 xs[k].no) ∧ w.cell? ⟨g, o + k * 3 + 2, none⟩ = some (.int .u8 xs[k].b) ∧ StOk xs[k] := by
  obtain ⟨g', o', cs, hA, _, hg, hK, hc⟩ := h.at_ hk
  injection hA with hA; injection hA with h1 h2; subst h1 h2
  obtain ⟨rfl, ho⟩ := kStep_open hK
  exact ⟨hc 0 _ rfl, hc 1 _ rfl, hc 2 _ rfl, ho⟩
/-- But for these two blocks. -/
theorem Asd.kept {d g k : Nat} {w w' : World} {T : TypeId} {cs : Array Value} (h : Asd d g w w') (hr : Row w k T cs) (h1 : k ≠ d) (h2 : k ≠ g) : Row w' k T cs := (h.block k hr.lt h1 h2).trans hr
theorem Asd.at_ {d g : Nat} {w w' : World} {p : Addr} {v : Value} (h : Asd d g w w') (hc : w.cell? p = some v) (h1 : p.block ≠ d) (h2 : p.block ≠ g) : w'.cell? p = some v := by
  have hlt := World.block_lt_of_cell? w p hc
  have e := h.block p.block hlt h1 h2
  simp only [World.cell?, e] at hc ⊢
  exact hc
theorem Dev.below {w w' : World} {d g : Nat} {s : Dv} (h : Dev w d g s) (hb : Below w.heap.size w w') : Dev w' d g s := h.keep hb
theorem Dev.drew {w : World} {d g : Nat} {s : Dv} (h : Dev w d g s) : Dev w.drew d g s := h.keep ((Below.refl _ _).drew)
def z20 : List Nat := List.replicate 20 0
theorem blk20Zero : ∀ w, (zeroValue 26).run Try.prog w = .ok (.agg (blk z20)) w := (zero_of_info (v := .agg (blk z20)) (n := 20) (by kernel_rfl)).1
end Go.Proofs.Ytechlhmmgabikaa.Dk
