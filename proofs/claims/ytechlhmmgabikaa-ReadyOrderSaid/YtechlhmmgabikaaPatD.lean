/- patch.Diff. -/
import Derived.Test.YtechlhmmgabikaaPat5
import Derived.Test.YtechlhmmgabikaaOwnK
import Derived.WalkMore
namespace Go.Proofs.Ytechlhmmgabikaa.Pat
open Go.RowKit Go.Proofs.Ytechlhmmgabikaa.Mem Go.Proofs.Ytechlhmmgabikaa.Open Go.Proofs.Ytechlhmmgabikaa.Kind Go.Proofs.Ytechlhmmgabikaa.Blk Go.Proofs.Ytechlhmmgabikaa.App
set_option linter.unusedVariables false
set_option linter.unusedSimpArgs false
/-- A patch as data: its place and its bytes. -/
abbrev Pt := Int × List Nat
def kPat : Kd Pt := kPair (kInt .i64) (kSlice kByte)
theorem kPat_open {w : World} {S : Nat → Prop} {p : Pt} {cs : List Value} (h : kPat.K w S p cs) : ∃ A c, cs = [.int .i64 p.1, .slice A p.2.length c] ∧ (Lit.int .i64 p.1).wf = true ∧ p.2.length ≤ c ∧ c ≤ M63 ∧ (A = none → c = 0) ∧ Rw kByte w S A p.2.length p.2 := by
  obtain ⟨ca, cb, rfl, ⟨rfl, h1⟩, A, c, rfl, h2, h3, h4, h5⟩ := h
  exact ⟨A, c, rfl, h1, h2, h3, h4, h5⟩
theorem kPat_mk {w : World} {S : Nat → Prop} {a : Int} {d : List Nat} {A : Option Addr} {c : Nat} (h1 : (Lit.int .i64 a).wf = true) (h2 : d.length ≤ c) (h3 : c ≤ M63) (h4 : A = none → c = 0) (h5 : Rw kByte w S A d.length d) : kPat.K w S (a, d) [.int .i64 a, .slice A d.length c] :=
  ⟨[.int .i64 a], [.slice A d.length c], rfl, ⟨rfl, h1⟩, A, c, rfl, h2, h3, h4, h5⟩
theorem wf_nat (n : Nat) (h : n ≤ 9223372036854775807) : (Lit.int .i64 (n : Int)).wf = true := by
  simp [Lit.wf, IntKind.min, IntKind.max, IntKind.signed, IntKind.bits]; omega
/-! ### plain: the patches between two blocks, of the first i bytes -/
/-- Do the blocks part in a place? -/
def neqB (a b : List Nat) (i : Nat) : Bool := a.getD i 0 != b.getD i 0
/-- Does a run of places in which they part begin there? -/
def startB (a b : List Nat) (i : Nat) : Bool := i == 0 || !neqB a b (i - 1)
def addLast (l : List Pt) (x : Nat) : List Pt := l.dropLast ++ (match l.getLast? with | some p => [(p.1, p.2 ++ [x])] | none => [])
def diffK (a b : List Nat) : Nat → List Pt
  | 0 => []
  | i + 1 => if neqB a b i then (if startB a b i then diffK a b i ++ [((i : Int), [b.getD i 0])] else addLast (diffK a b i) (b.getD i 0)) else diffK a b i
def diffL (a b : List Nat) : List Pt := diffK a b 256
theorem diffK_len (a b : List Nat) (i : Nat) : (diffK a b i).length ≤ i := by
  induction i with
  | zero => simp [diffK]
  | succ i ih =>
    unfold diffK
    split
    · split
      · simp; omega
      · unfold addLast
        cases h : (diffK a b i).getLast? with
        | none => simp; omega
        | some p => simp; have := List.getLast?_eq_some_iff.1 h; obtain ⟨l, hl⟩ := this; rw [hl]; simp; rw [hl] at ih; simp at ih; omega
    · omega
theorem diffK_eq (a b : List Nat) (i : Nat) (h : neqB a b i = false) : diffK a b (i + 1) = diffK a b i := by
  show (if neqB a b i then _ else _) = _; rw [h]; rfl
/-- Within a run. -/
theorem diffK_run (a b : List Nat) (s : Nat) (h0 : startB a b s = true) : ∀ m, 0 < m → (∀ j, s ≤ j → j < s + m → neqB a b j = true) → diffK a b (s + m) = diffK a b s ++ [((s : Int), (List.range m).map fun j => b.getD (s + j) 0)] := by
  intro m
  induction m with
  | zero => intro h; omega
  | succ m ih =>
    intro _ hall
    show (if neqB a b (s + m) then (if startB a b (s + m) then diffK a b (s + m) ++ [(((s + m : Nat) : Int), [b.getD (s + m) 0])] else addLast (diffK a b (s + m)) (b.getD (s + m) 0)) else diffK a b (s + m)) = _
    rw [hall (s + m) (by omega) (by omega), if_pos rfl]
    by_cases hm : m = 0
    · subst hm
      rw [show s + 0 = s from rfl, h0, if_pos rfl]
      rfl
    · have hst : startB a b (s + m) = false := by
        unfold startB
        rw [show s + m - 1 = s + (m - 1) from by omega, hall (s + (m - 1)) (by omega) (by omega)]
        simp; omega
      rw [hst, if_neg (by simp), ih (by omega) (fun j h1 h2 => hall j h1 (by omega))]
      unfold addLast
      rw [List.dropLast_concat, List.getLast?_concat]
      simp only [List.range_succ, List.map_append, List.map_cons, List.map_nil]
theorem neqB_at (a b : List Nat) (i : Nat) (ha : i < a.length) (hb : i < b.length) : neqB a b i = (((a[i] : Nat) : Int) != ((b[i] : Nat) : Int)) := by
  unfold neqB
  rw [getD_at _ _ ha, getD_at _ _ hb]
  cases h : (a[i] != b[i])
  · rw [bne_eq_false_iff_eq] at h; rw [h]; simp
  · rw [bne_iff_ne] at h; symm; rw [bne_iff_ne]; intro e; exact h (Int.ofNat.inj e)
theorem patInfo : (Try.prog.info? 70).map (fun i => (i.zero, i.size, i.bytes)) = some (some (.agg #[.int .i64 0, .slice none 0 0]), 2, 32) := by kernel_rfl

end Go.Proofs.Ytechlhmmgabikaa.Pat
