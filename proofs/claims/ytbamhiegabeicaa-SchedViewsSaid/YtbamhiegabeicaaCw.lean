/- The example of chapter 12; caches that are nil. No statement is proved here. -/
import Derived.Test.YtbamhiegabeicaaCi
namespace Go.Proofs.Ytbamhiegabeicaa.Cb
open Go.RowKit Go.Proofs.Ytbamhiegabeicaa.Mem Go.Proofs.Ytbamhiegabeicaa.Open Go.Proofs.Ytbamhiegabeicaa.Kind Go.Proofs.Ytbamhiegabeicaa.Blk Go.Proofs.Ytbamhiegabeicaa.App Go.Proofs.Ytbamhiegabeicaa.Pat Go.Proofs.Ytbamhiegabeicaa.Rd
open Go.Proofs.Ytbamhiegabeicaa.Db (Dv Dev Asd)
set_option linter.unusedVariables false
set_option linter.unusedSimpArgs false
def t0 : St := newS (Db.fresh 16)
def t1 : St := pS t0 3 0 [9] []
def t2 : St := pS t1 4 0 [9] [1]
def t3 : St := flS t2 4
def t4 : St := { t3 with dv := { t3.dv with rd := t3.dv.rd + 1 } }
def t5 : St := flS t4 3
def t6 : St := flS t5 4
def t7 : St := { t6 with dv := { t6.dv with rd := t6.dv.rd + 1 } }
theorem t1_n : pN t0 3 0 [9] [] = 1 := by kernel_rfl
theorem t1_e : pE t0 3 0 [9] [] = 0 := by kernel_rfl
theorem t2_n : pN t1 4 0 [9] [1] = 2 := by kernel_rfl
theorem t2_e : pE t1 4 0 [9] [1] = 0 := by kernel_rfl
theorem i0 : Inv t0 := newS_inv
theorem by9 : Bytes [9] := by unfold Bytes; intro x hx; simp at hx; omega
theorem i1 : Inv t1 := pS_inv i0 by9 (by simp) (by simp) (by have : t0.dv.rd = 0 := (by kernel_rfl); omega) (by have : t0.last = 0 := (by kernel_rfl); omega)
theorem i2 : Inv t2 := pS_inv i1 by9 (by simp) (by simp) (by have : t1.dv.rd = 1 := (by kernel_rfl); omega) (by have : t1.last = 1 := (by kernel_rfl); omega)
theorem i3 : Inv t3 := flS_inv i2 4
/-- A row of bytes, in blocks of a set. -/
theorem rw_at {α : Type} {k : Kd α} (hf : Flat k) {w : World} {S : Nat → Prop} {g o n : Nat} {xs : List α} (h : Rw k w (All w) (some ⟨g, o, none⟩) n xs) (hS : S g) : Rw k w S (some ⟨g, o, none⟩) n xs := by
  obtain ⟨h1, h2, h3⟩ := h
  refine ⟨h1, h2, ?_⟩
  rcases h3 with h0 | ⟨g', o', e, _, hlt, hc⟩
  · exact .inl h0
  · injection e with e
    injection e with e1 e2
    subst e1 e2
    exact .inr ⟨g, o, rfl, hS, hlt, fun i x hx => by obtain ⟨cs, c1, c2⟩ := hc i x hx; exact ⟨cs, hf _ _ _ _ x cs c1, c2⟩⟩
/-! ### caches that are nil -/
/-- Put, on a patch that lies in a row. -/
theorem Put_row (no : Int) (hno : WfI no) (k : Nat) (pd : List Nat) (hb : Bytes pd) (hpl : pd.length ≤ 300) (A2 : Option Addr) (cn : Nat) (ns : List Int) (c d g b : Nat) (N : Nat → Prop) (v : Value) (s : St) (w : World) (h : Ca w c d g b N v s) (hi : Inv s)
    (hr : Row w k 5 (blk pd)) (hk : Far N c d g b k) (hn : Is w A2 ns) (hl : ns.length ≤ 60) :
    Calls Try.prog 17 #[.pointer (some ⟨c, 0, none⟩), .int .i64 no, .agg #[.int .i64 0, .slice (some ⟨k, 0, none⟩) pd.length pd.length], .slice A2 ns.length cn] w fun e w' => ∃ v', e = .returned (.tuple #[.int .i64 (pN s no 0 pd ns), .int .i64 (pE s no 0 pd ns)]) ∧ Ca w' c d g b N v' (pS s no 0 pd ns) ∧ Tn N c d g b w w' :=
  Put_any no hno 0 rfl _ _ pd A2 cn ns c d g b N v s w h hi (rw_at flat_byte (by_row hr hb (by unfold M63; omega)) ⟨h.lt k hk.n, hk.c, hk.d, hk.g, hk.b⟩) (fun e => by cases e) hpl hn hl
end Go.Proofs.Ytbamhiegabeicaa.Cb

