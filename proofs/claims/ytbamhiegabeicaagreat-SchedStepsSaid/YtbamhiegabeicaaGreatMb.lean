/- Maps from numbers to blocks, as functions. Laws over the one program. No statement is proved here. -/
import Derived.Test.YtbamhiegabeicaaGreatMp
import Derived.WideKeyEntry
namespace Go.Proofs.YtbamhiegabeicaaGreat.Rd
open Go.RowKit Go.Proofs.YtbamhiegabeicaaGreat.Mem Go.Proofs.YtbamhiegabeicaaGreat.Open Go.Proofs.YtbamhiegabeicaaGreat.Kind Go.Proofs.YtbamhiegabeicaaGreat.Blk Go.Proofs.YtbamhiegabeicaaGreat.App Go.Maps
set_option linter.unusedVariables false
set_option linter.unusedSimpArgs false
/-- What a block reads as. -/
def dB (l : List Nat) : DataW Unit := .agg (l.map fun (x : Nat) => .lit (.int .u8 (x : Int)))
theorem dB_inj {a b : List Nat} (h : dB a = dB b) : a = b := by
  unfold dB at h
  have h2 := DataW.agg.inj h
  clear h
  induction a generalizing b with
  | nil => cases b with
    | nil => rfl
    | cons y b => simp at h2
  | cons x a ih => cases b with
    | nil => simp at h2
    | cons y b =>
      simp only [List.map_cons, List.cons.injEq] at h2
      obtain ⟨h3, h4⟩ := h2
      have h5 := (Lit.int.inj (DataW.lit.inj h3)).2
      rw [ih h4, Int.ofNat.inj h5]
open Classical in
/-- How a block is read. -/
noncomputable def Rb (v : Value) : Option (DataW Unit × List MemPlace) := if h : ∃ l : List Nat, l.length = 256 ∧ v = .agg (blk l) then some (dB (Classical.choose h), []) else none
theorem blk_inj {a b : List Nat} (hl : a.length = b.length) (h : blk a = blk b) : a = b := by
  refine List.ext_getElem hl fun i h1 h2 => ?_
  have e := congrArg (fun c : Array Value => c[i]?) h
  simp only [blk_get a i h1, blk_get b i h2] at e
  injection e with e
  injection e with _ e
  exact Int.ofNat.inj e
theorem Rb_mk {l : List Nat} (hl : l.length = 256) : Rb (.agg (blk l)) = some (dB l, []) := by
  have h : ∃ l2 : List Nat, l2.length = 256 ∧ Value.agg (blk l) = .agg (blk l2) := ⟨l, hl, rfl⟩
  unfold Rb
  rw [dif_pos h]
  have h2 := Classical.choose_spec h
  have h3 : Classical.choose h = l := by
    refine (blk_inj (by rw [hl, h2.1]) ?_).symm
    injection h2.2
  rw [h3]
theorem Rb_inv {v : Value} {l : List Nat} {ps : List MemPlace} (h : Rb v = some (dB l, ps)) : v = .agg (blk l) := by
  unfold Rb at h
  split at h
  · rename_i hx
    injection h with h
    injection h with h _
    have h2 := Classical.choose_spec hx
    rw [h2.2, dB_inj h]
  · cases h
abbrev MapB (w : World) (b n : Nat) (D : DataW Unit) : Prop := w.ownsMap Tryz.prog 3 Rb b n D
/-- A map of at most n blocks, in block b. -/
def Mb (w : World) (b n : Nat) (F : Int → Option (List Nat)) : Prop := ∃ D : DataW Unit, MapB w b n D ∧ ∀ x, match F x with
  | some l => l.length = 256 ∧ has D (.int .i64 x) = true ∧ D.atKey (.int .i64 x) (dB zblk) = dB l
  | none => has D (.int .i64 x) = false
def updB (F : Int → Option (List Nat)) (k : Int) (l : List Nat) : Int → Option (List Nat) := fun x => if x = k then some l else F x
theorem updB_same (F : Int → Option (List Nat)) (k : Int) (l : List Nat) : updB F k l k = some l := if_pos rfl
theorem updB_ne (F : Int → Option (List Nat)) {k x : Int} (l : List Nat) (h : x ≠ k) : updB F k l x = F x := if_neg h
section
variable {w w' : World} {b n : Nat} {F : Int → Option (List Nat)}
theorem Mb.made (w : World) : Mb (w.alloc (.map #[] 0)) w.heap.size 0 (fun _ => none) := ⟨.map [], World.ownsMap_made w _ _ _, fun x => rfl⟩
theorem Mb.kept {row : Option Nat} (h : Mb w b n F) (hg : w.grownBy w' row) (hne : some b ≠ row) : Mb w' b n F := by
  obtain ⟨D, h1, h2⟩ := h
  exact ⟨D, h1.kept hg hne, h2⟩
theorem Mb.lt (h : Mb w b n F) : b < w.heap.size := by obtain ⟨D, h1, _⟩ := h; exact h1.lt
theorem Mb.below (h : Mb w b n F) (hb : Below w.heap.size w w') : Mb w' b n F := h.kept (row := none) ⟨hb.os, hb.tape, hb.output, hb.size, fun k hk _ => hb.block k hk⟩ (by simp)
theorem Mb.alloc (h : Mb w b n F) (o : Obj) : Mb (w.alloc o) b n F := h.below ((Below.refl _ _).alloc (Nat.le_refl _) o)
theorem Mb.drew (h : Mb w b n F) : Mb w.drew b n F := h.below (Below.refl _ _).drew
theorem Mb.stay (h : Mb w b n F) (hk : w'.heap[b]? = w.heap[b]?) : Mb w' b n F := by
  obtain ⟨D, ⟨es, clock, h1, h3⟩, h2⟩ := h
  exact ⟨D, ⟨es, clock, hk.trans h1, h3⟩, h2⟩
theorem Mb.mono (h : Mb w b n F) {m : Nat} (hm : n ≤ m) : Mb w b m F := by
  obtain ⟨D, h1, h2⟩ := h
  exact ⟨D, h1.mono hm, h2⟩
theorem Mb.ext (h : Mb w b n F) {G : Int → Option (List Nat)} (hG : ∀ x, F x = G x) : Mb w b n G := by rw [show G = F from funext fun x => (hG x).symm]; exact h
theorem mapUndB : Tryz.prog.underlying 81 = some (.map 3 78) := by kernel_rfl
theorem Mb.look (h : Mb w b n F) {k : Int} (hk : WfI k) : (Instr.lookup 81 (.map (some b)) (.int .i64 k) true).run Tryz.prog w = .ok (.tuple #[.agg (blk ((F k).getD zblk)), .bool (F k).isSome]) w := by
  obtain ⟨D, h1, h2⟩ := h
  obtain ⟨v, ps, hrun, hv⟩ := h1.look_ok keyedN mapUndB (blkZero w) (Rb_mk zblk_length) (keyN hk)
  have h3 := h2 k
  rw [hrun]
  cases hF : F k with
  | none =>
    rw [hF] at h3
    rw [atKey_of_not_has h3] at hv
    rw [Rb_inv hv, h3]
    rfl
  | some l =>
    rw [hF] at h3
    rw [h3.2.2] at hv
    rw [Rb_inv hv, h3.2.1]
    rfl
theorem Mb.get (h : Mb w b n F) {k : Int} (hk : WfI k) : (Instr.lookup 81 (.map (some b)) (.int .i64 k) false).run Tryz.prog w = .ok (.agg (blk ((F k).getD zblk))) w := by
  obtain ⟨D, h1, h2⟩ := h
  obtain ⟨v, ps, hrun, hv⟩ := h1.lookup keyedN mapUndB (blkZero w) (Rb_mk zblk_length) (keyN hk)
  have h3 := h2 k
  rw [hrun]
  cases hF : F k with
  | none =>
    rw [hF] at h3
    rw [atKey_of_not_has h3] at hv
    rw [Rb_inv hv]
    rfl
  | some l =>
    rw [hF] at h3
    rw [h3.2.2] at hv
    rw [Rb_inv hv]
    rfl
theorem Mb.put (h : Mb w b n F) (hn : n < 1000000) {k : Int} {l : List Nat} (hk : WfI k) (hl : l.length = 256) : ∃ w', (Instr.mapUpdate 81 (.map (some b)) (.int .i64 k) (.agg (blk l))).run Tryz.prog w = .ok () w' ∧ Mb w' b (n + 1) (updB F k l) ∧ w.grownBy w' (some b) := by
  obtain ⟨D, h1, h2⟩ := h
  obtain ⟨w', hrun, q1, q2⟩ := h1.update keyedN mapUndB (by simp only [maxLen]; omega) (keyN hk) (Rb_mk hl)
  refine ⟨w', hrun, ⟨_, q1, fun x => ?_⟩, q2⟩
  by_cases hx : x = k
  · subst hx
    rw [updB_same]
    exact ⟨hl, has_put_same h1.isMap (isKey_int x) _, atKey_put_same h1.isMap (isKey_int x) _ _⟩
  · rw [updB_ne _ _ hx, atKey_put_other (fun e => hx (Lit.int.inj e).2), has_put_other (fun e => hx (Lit.int.inj e).2)]
    exact h2 x
open Go.WideElems Go.ChangeMaps in
theorem setBlock_same {b : Nat} {o : Obj} (h : w.heap[b]? = some o) : setBlock w b o = w := by
  unfold setBlock
  obtain ⟨hlt, he⟩ := Array.getElem?_eq_some_iff.1 h
  have : w.heap.setIfInBounds b o = w.heap := by
    apply Array.ext'
    rw [Array.toList_setIfInBounds]
    exact set_self _ _ _ (by rw [Array.getElem?_toList]; exact h)
  rw [this]
open Go.WideElems Go.ChangeMaps in
/-- An entry that is there: its place is found, and a value is laid in it. -/
theorem Mb.entry (h : Mb w b n F) (hn : n < 1000000) {k : Int} (hk : WfI k) {l0 : List Nat} (hF : F k = some l0) : ∃ (v0 : Value) (st : Int), (Instr.mapEntry 81 (.map (some b)) (.int .i64 k)).run Tryz.prog w = .ok (.tuple #[v0, .int .i64 st]) w ∧
    ∀ (w2 : World) (l : List Nat), w2.heap[b]? = w.heap[b]? → l.length = 256 → ∃ w3, (Instr.entryStore 81 (.map (some b)) (.int .i64 st) (.agg (blk l))).run Tryz.prog w2 = .ok () w3 ∧ Mb w3 b (n + 1) (updB F k l) ∧ w2.grownBy w3 (some b) := by
  have h0 := h
  obtain ⟨D, ⟨es, clock, hb, Fi, hsz, rfl⟩, h2⟩ := h
  have h3 := h2 k
  rw [hF] at h3
  have K := keyedN
  have hkey := keyN hk
  obtain ⟨s1, s2, _⟩ := Fi.stamped
  rcases Maps.fit_look true K mapUndB (blkZero w) hb Fi hkey with ⟨_, _, hat⟩ | ⟨e1, y, he1, hk1, _, _, _, _⟩
  · have := Maps.has_false_of_atKey hat
    rw [this] at h3
    exact absurd h3.2.1 (by simp)
  · rcases K.find w hkey es.toList Fi.keys with ⟨q1, q2⟩ | ⟨j, e0, q1, q2, q3⟩
    · exact absurd hk1 (q2 e1 he1)
    · have hj : es[j]? = some e0 := by simpa using q2
      have hsame : es.modify j (fun e => { e with key := .int .i64 k }) = es := by
        apply Array.ext'
        rw [Array.toList_modify, modify_eq_set _ _ _ _ q2]
        have : ({ e0 with key := .int .i64 k } : MapEntry) = e0 := by rw [← q3]
        rw [this]
        exact set_self _ _ _ q2
      refine ⟨e0.val, e0.born, ?_, fun w2 l hw2 hl => ?_⟩
      · have hx : (Instr.mapEntry 81 (.map (some b)) (.int .i64 k)).run Tryz.prog w = .ok (.tuple #[e0.val, .int .i64 e0.born]) (setBlock w b (.map es clock)) := by
          simp [Instr.mapEntry, run_underlying mapUndB, MapKept.run_getObj_map hb, K.check w false hkey, q1, hj, q3, K.stays w hkey, hsame, MapKept.run_setObj_map _ hb, Result.andThen, setBlock, goInt]
        rw [hx, setBlock_same hb]
      · have hb2 : w2.heap[b]? = some (.map es clock) := hw2.trans hb
        have hM : Mb w2 b n F := h0.stay hw2
        have hidx : es.findIdx? (fun e => ((e.born : Nat) : Int) == ((e0.born : Nat) : Int)) = some j := by
          rw [findIdx_arr]
          exact findIdx_born s2 q2
        have hmod : es.modify j (fun e => { e with val := .agg (blk l) }) = es.modify j (fun e' => { e' with key := .int .i64 k, val := .agg (blk l) }) := by
          apply Array.ext'
          rw [Array.toList_modify, Array.toList_modify, modify_eq_set _ _ _ _ q2, modify_eq_set _ _ _ _ q2, ← q3]
        obtain ⟨w3, r1, r2, r3⟩ := hM.put hn hk hl
        have hu : (Instr.mapUpdate 81 (.map (some b)) (.int .i64 k) (.agg (blk l))).run Tryz.prog w2 = .ok () (setBlock w2 b (.map (es.modify j (fun e' => { e' with key := .int .i64 k, val := .agg (blk l) })) clock)) := by
          rcases K.find w2 hkey es.toList Fi.keys with ⟨u1, u2⟩ | ⟨j', e0', u1, u2, u3⟩
          · exact absurd hk1 (u2 e1 he1)
          · have hjj : j = j' := Classical.byContradiction fun hne => other_key Fi q2 u2 (fun e => hne e.symm) (u3.trans q3.symm)
            subst hjj
            have hee : e0 = e0' := Option.some.inj (q2.symm.trans u2)
            subst hee
            simp [Instr.mapUpdate, run_underlying mapUndB, MapKept.run_getObj_map hb2, K.check w2 false hkey, u1, hj, q3, K.stays w2 hkey, MapKept.run_setObj_map _ hb2, Result.andThen, setBlock]
        rw [hu] at r1
        have r4 : setBlock w2 b (.map (es.modify j (fun e' => { e' with key := .int .i64 k, val := .agg (blk l) })) clock) = w3 := by injection r1
        refine ⟨w3, ?_, r2, r3⟩
        rw [← r4]
        simp [Instr.entryStore, MapKept.run_getObj_map hb2, asInt, asIntOf, hidx, hmod, MapKept.run_setObj_map _ hb2, Result.andThen, setBlock]
end
section
variable {ops : Array Oper} {rest : List Oper} {o : Oper} {a : Act} {w : World} {Q : Exit → Act → World → Prop} {K : Act → World → Prop} {b n : Nat} {F : Int → Option (List Nat)}
theorem wp_mbLook (m x : Operand) (ho : o.op = .lookup 81 m x true) (hm : a.eval m = .map (some b)) (h : Mb w b n F) (k : Int) (hx : a.eval x = .int .i64 k) (hk : WfI k) (hK : K (a.put o.dst (.tuple #[.agg (blk ((F k).getD zblk)), .bool (F k).isSome])) w) : o.wp Tryz.prog a w K Q := by
  unfold Oper.wp execOp
  simp only [ho, hm, hx, Sem.run_bind, h.look hk, Result.andThen_ok]
  exact hK
theorem wpList_mbLook (hg : o.guard = none) (m x : Operand) (ho : o.op = .lookup 81 m x true) (hm : a.eval m = .map (some b)) (h : Mb w b n F) (k : Int) (hx : a.eval x = .int .i64 k) (hk : WfI k) (hK : wpList Tryz.prog ops Q rest (a.put o.dst (.tuple #[.agg (blk ((F k).getD zblk)), .bool (F k).isSome])) w) : wpList Tryz.prog ops Q (o :: rest) a w :=
  wpList_plain hg fun _ hK' => wp_mbLook m x ho hm h k hx hk (hK' _ _ hK)
theorem wp_mbPut (m x v : Operand) (ho : o.op = .mapUpdate 81 m x v) (hm : a.eval m = .map (some b)) (h : Mb w b n F) (hn : n < 1000000) (k : Int) (l : List Nat) (hx : a.eval x = .int .i64 k) (hv : a.eval v = .agg (blk l)) (hk : WfI k) (hl : l.length = 256)
    (hK : ∀ w', Mb w' b (n + 1) (updB F k l) → w.grownBy w' (some b) → K (a.put o.dst undef) w') : o.wp Tryz.prog a w K Q := by
  obtain ⟨w', hrun, q1, q2⟩ := h.put hn hk hl
  unfold Oper.wp
  simp [execOp, ho, hm, hx, hv, hrun, Result.andThen]
  exact hK w' q1 q2
theorem wp_mbEntry (m x : Operand) (ho : o.op = .mapEntry 81 m x) (hm : a.eval m = .map (some b)) (k : Int) (hx : a.eval x = .int .i64 k) (v0 : Value) (st : Int) (hr : (Instr.mapEntry 81 (.map (some b)) (.int .i64 k)).run Tryz.prog w = .ok (.tuple #[v0, .int .i64 st]) w) (hK : K (a.put o.dst (.tuple #[v0, .int .i64 st])) w) : o.wp Tryz.prog a w K Q := by
  unfold Oper.wp execOp
  simp only [ho, hm, hx, Sem.run_bind, hr, Result.andThen_ok]
  exact hK
theorem wp_mbStore (m s v : Operand) (ho : o.op = .entryStore 81 m s v) (hm : a.eval m = .map (some b)) (st : Int) (hs : a.eval s = .int .i64 st) (l : List Nat) (hv : a.eval v = .agg (blk l)) (w3 : World) (hr : (Instr.entryStore 81 (.map (some b)) (.int .i64 st) (.agg (blk l))).run Tryz.prog w = .ok () w3) (hK : K (a.put o.dst undef) w3) : o.wp Tryz.prog a w K Q := by
  unfold Oper.wp
  simp [execOp, ho, hm, hs, hv, hr, Result.andThen]
  exact hK
end
end Go.Proofs.YtbamhiegabeicaaGreat.Rd

