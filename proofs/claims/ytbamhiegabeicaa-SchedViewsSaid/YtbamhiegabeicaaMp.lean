/- Maps from numbers to numbers, as functions. Laws over the one program. No statement is proved here. -/
import Derived.Test.YtbamhiegabeicaaCh
import Derived.Maps.OwnSet
import Derived.Maps.OwnOps
import Derived.Maps.Views
namespace Go.Proofs.Ytbamhiegabeicaa.Rd
open Go.RowKit Go.Proofs.Ytbamhiegabeicaa.Mem Go.Proofs.Ytbamhiegabeicaa.Open Go.Proofs.Ytbamhiegabeicaa.Kind Go.Proofs.Ytbamhiegabeicaa.Blk Go.Proofs.Ytbamhiegabeicaa.App Go.Maps
set_option linter.unusedVariables false
set_option linter.unusedSimpArgs false
abbrev MapD (w : World) (b n : Nat) (D : DataW Unit) : Prop := w.ownsMap Try.prog 3 (plainElem Try.prog 3) b n D
/-- A map of at most n entries, in block b: what it has at each number, 0 where it has none. -/
def Mp (w : World) (b n : Nat) (f : Int → Int) : Prop := ∃ D : DataW Unit, MapD w b n D ∧ ∀ x, D.atKey (.int .i64 x) (.lit (.int .i64 0)) = .lit (.int .i64 (f x))
def upd (f : Int → Int) (k v : Int) : Int → Int := fun x => if x = k then v else f x
theorem upd_same (f : Int → Int) (k v : Int) : upd f k v k = v := if_pos rfl
theorem upd_ne (f : Int → Int) {k x : Int} (v : Int) (h : x ≠ k) : upd f k v x = f x := if_neg h
theorem keyN {k : Int} (h : WfI k) : keyOf Try.prog 3 (.int .i64 k) = some (.int .i64 k) := keyOf_int_mk Try.underlying3 h
theorem keyedN : Keyed Try.prog 3 := int_keyed Try.underlying3
theorem zeroN (w : World) : (zeroValue 3).run Try.prog w = .ok (.int .i64 0) w := by kernel_rfl
section
variable {w w' : World} {b n : Nat} {f : Int → Int}
theorem Mp.made (w : World) : Mp (w.alloc (.map #[] 0)) w.heap.size 0 (fun _ => 0) := ⟨.map [], World.ownsMap_made w _ _ _, fun x => rfl⟩
theorem Mp.kept {row : Option Nat} (h : Mp w b n f) (hg : w.grownBy w' row) (hne : some b ≠ row) : Mp w' b n f := by
  obtain ⟨D, h1, h2⟩ := h
  exact ⟨D, h1.kept hg hne, h2⟩
theorem Mp.lt (h : Mp w b n f) : b < w.heap.size := by obtain ⟨D, h1, _⟩ := h; exact h1.lt
theorem Mp.below (h : Mp w b n f) (hb : Below w.heap.size w w') : Mp w' b n f := h.kept (row := none) ⟨hb.os, hb.tape, hb.output, hb.size, fun k hk _ => hb.block k hk⟩ (by simp)
theorem Mp.alloc (h : Mp w b n f) (o : Obj) : Mp (w.alloc o) b n f := h.below ((Below.refl _ _).alloc (Nat.le_refl _) o)
theorem Mp.drew (h : Mp w b n f) : Mp w.drew b n f := h.below (Below.refl _ _).drew
theorem Mp.mono (h : Mp w b n f) {m : Nat} (hm : n ≤ m) : Mp w b m f := by
  obtain ⟨D, h1, h2⟩ := h
  exact ⟨D, h1.mono hm, h2⟩
theorem isKey_int (k : Int) : WideAt.IsKeyLit (.int .i64 k) := by first | trivial | (unfold WideAt.IsKeyLit; trivial) | exact ⟨⟩ | simp [WideAt.IsKeyLit]
theorem Mp.get (h : Mp w b n f) {k : Int} (hk : WfI k) (hM : Try.prog.underlying 93 = some (.map 3 3)) : (Instr.lookup 93 (.map (some b)) (.int .i64 k) false).run Try.prog w = .ok (.int .i64 (f k)) w := by
  obtain ⟨D, h1, h2⟩ := h
  obtain ⟨c, hrun, hat, _⟩ := h1.lookup_int keyedN hM Try.underlying3 (zeroN w) (keyN hk)
  have hc : f k = c := by
    exact (Lit.int.inj (DataW.lit.inj ((h2 k).symm.trans hat))).2
  rw [hc]
  exact hrun
theorem Mp.put (h : Mp w b n f) (hn : n < 1000000) {k v : Int} (hk : WfI k) (hv : WfI v) : ∃ w', (Instr.mapUpdate 93 (.map (some b)) (.int .i64 k) (.int .i64 v)).run Try.prog w = .ok () w' ∧ Mp w' b (n + 1) (upd f k v) ∧ w.grownBy w' (some b) := by
  obtain ⟨D, h1, h2⟩ := h
  obtain ⟨w', hrun, q1, q2⟩ := h1.update keyedN Try.underlying93 (by simp only [maxLen]; omega) (keyN hk) (plainElem_int Try.underlying3 (q := .i64) (a := v) hv)
  refine ⟨w', hrun, ⟨_, q1, fun x => ?_⟩, q2⟩
  by_cases hx : x = k
  · subst hx
    rw [upd_same]
    exact atKey_put_same h1.isMap (isKey_int x) _ _
  · rw [upd_ne _ _ hx, atKey_put_other (fun e => hx (Lit.int.inj e).2)]
    exact h2 x
theorem Mp.del (h : Mp w b n f) {k : Int} (hk : WfI k) (ty : TypeId) : ∃ w', (Builtin.delete_ #[93, 3] ty #[.map (some b), .int .i64 k]).run Try.prog w = .ok (.tuple #[]) w' ∧ Mp w' b n (upd f k 0) ∧ w.grownBy w' (some b) := by
  obtain ⟨D, h1, h2⟩ := h
  obtain ⟨w', hrun, q1, q2⟩ := h1.drop keyedN Try.underlying93 (keyN hk) ty
  refine ⟨w', hrun, ⟨_, q1, fun x => ?_⟩, q2.grown⟩
  by_cases hx : x = k
  · subst hx
    rw [upd_same]
    exact atKey_del_same _
  · rw [upd_ne _ _ hx, atKey_del_other (fun e => hx (Lit.int.inj e).2)]
    exact h2 x
end
section
variable {ops : Array Oper} {rest : List Oper} {o : Oper} {a : Act} {w : World} {Q : Exit → Act → World → Prop} {K : Act → World → Prop} {b n : Nat} {f : Int → Int}
theorem wp_mapGet (m x : Operand) (ho : o.op = .lookup 93 m x false) (hm : a.eval m = .map (some b)) (h : Mp w b n f) (k : Int) (hx : a.eval x = .int .i64 k) (hk : WfI k) (hK : K (a.put o.dst (.int .i64 (f k))) w) : o.wp Try.prog a w K Q := by
  unfold Oper.wp execOp
  simp only [ho, hm, hx, Sem.run_bind, h.get hk Try.underlying93, Result.andThen_ok]
  exact hK
theorem wpList_mapGet (hg : o.guard = none) (m x : Operand) (ho : o.op = .lookup 93 m x false) (hm : a.eval m = .map (some b)) (h : Mp w b n f) (k : Int) (hx : a.eval x = .int .i64 k) (hk : WfI k) (hK : wpList Try.prog ops Q rest (a.put o.dst (.int .i64 (f k))) w) : wpList Try.prog ops Q (o :: rest) a w :=
  wpList_plain hg fun _ hK' => wp_mapGet m x ho hm h k hx hk (hK' _ _ hK)
theorem wpList_mapPut (hg : o.guard = none) (m x v : Operand) (ho : o.op = .mapUpdate 93 m x v) (hm : a.eval m = .map (some b)) (h : Mp w b n f) (hn : n < 1000000) (k y : Int) (hx : a.eval x = .int .i64 k) (hv : a.eval v = .int .i64 y) (hk : WfI k) (hy : WfI y)
    (hK : ∀ w', Mp w' b (n + 1) (upd f k y) → w.grownBy w' (some b) → wpList Try.prog ops Q rest (a.put o.dst undef) w') : wpList Try.prog ops Q (o :: rest) a w :=
  wpList_plain hg fun _ hK' => by
    obtain ⟨w', hrun, q1, q2⟩ := h.put hn hk hy
    unfold Oper.wp
    simp [execOp, ho, hm, hx, hv, hrun, Result.andThen]
    exact hK' _ _ (hK w' q1 q2)
theorem wpList_mapDel (hg : o.guard = none) (m x : Operand) (ho : o.op = .call { callee := .builtin .delete, args := #[m, x], argTypes := #[93, 3] }) (hd : o.dst = none) (hm : a.eval m = .map (some b)) (h : Mp w b n f) (k : Int) (hx : a.eval x = .int .i64 k) (hk : WfI k)
    (hK : ∀ w', Mp w' b n (upd f k 0) → w.grownBy w' (some b) → wpList Try.prog ops Q rest a w') : wpList Try.prog ops Q (o :: rest) a w :=
  wpList_plain hg fun _ hK' => by
    obtain ⟨w', hrun, q1, q2⟩ := h.del hk o.type
    unfold Oper.wp execOp
    simp only [ho, resolve, invoke, builtin, Sem.run_bind, Sem.run_pure, Result.andThen_ok, List.map_toArray, List.map_cons, List.map_nil, hm, hx, hrun]
    have := hK' _ _ (hK w' q1 q2)
    simpa [Oper.upon, hd, Act.put] using this
end
end Go.Proofs.Ytbamhiegabeicaa.Rd

