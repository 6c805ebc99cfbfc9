/- Lists of patches whose last one still grows: plain laws. -/
import Derived.Test.YtoibdomcekainaaPatY
namespace Go.Proofs.Ytoibdomcekainaa.Pat
open Go.RowKit Go.Proofs.Ytoibdomcekainaa.Mem Go.Proofs.Ytoibdomcekainaa.Open Go.Proofs.Ytoibdomcekainaa.Kind Go.Proofs.Ytoibdomcekainaa.Blk Go.Proofs.Ytoibdomcekainaa.App
set_option linter.unusedVariables false
set_option linter.unusedSimpArgs false
/-- A row of the call's own of patches, of whose last one the bytes lie in a row of the call's own too, apart from all others. -/
structure DSt (w : World) (B : Nat) (E U : TypeId) (g c : Nat) (I : List Pt) (a : Int) (d : List Nat) (u : Value) (R : List (List Value)) : Prop where
  len : R.length = I.length
  each : ∀ (i : Nat) (x : Pt), I[i]? = some x → ∃ cs, R[i]? = some cs ∧ kPat.K w (fun b => some b ≠ some g ∧ some b ≠ u.ownBlock ∧ b < w.heap.size) x cs
  row : w.ownsRow B E 2 (.slice (some ⟨g, 0, none⟩) (I.length + 1) c) (I.length + 1) (R.flatten ++ [.int .i64 a, u])
  own : Own w B U V8 u d
  apart : ∀ q, u.ownBlock = some q → q ≠ g
  wf : (Lit.int .i64 a).wf = true
  byte : ∀ x ∈ d, x < 256
section
variable {w w' : World} {B : Nat} {E U : TypeId} {g c : Nat} {I : List Pt} {a : Int} {d : List Nat} {u : Value} {R : List (List Value)}
theorem DSt.flat (h : DSt w B E U g c I a d u R) : R.flatten.length = I.length * 2 := by
  have := h.row.1
  rw [List.length_append] at this
  have e : ([Value.int .i64 a, u] : List Value).length = 2 := rfl
  omega
theorem DSt.lt (h : DSt w B E U g c I a d u R) : B ≤ g ∧ g < w.heap.size := World.ownsRow.lt h.row g rfl
theorem DSt.below (h : DSt w B E U g c I a d u R) (hb : Below w.heap.size w w') : DSt w' B E U g c I a d u R where
  len := h.len
  each := fun i x hx => by
    obtain ⟨cs, h1, h2⟩ := h.each i x hx
    exact ⟨cs, h1, kPat.mono (fun b hb' => ⟨hb'.1, hb'.2.1, Nat.lt_of_lt_of_le hb'.2.2 hb.size⟩) (kPat.stay (fun b hb' => hb.block b hb'.2.2) h2)⟩
  row := World.ownsRow.kept (row := none) h.row ⟨hb.os, hb.tape, hb.output, hb.size, fun i hi _ => hb.block i hi⟩ (by simp [Value.ownBlock])
  own := h.own.below hb
  apart := h.apart
  wf := h.wf
  byte := h.byte
theorem DSt.drewN (h : DSt w B E U g c I a d u R) (n : Nat) : DSt (w.drewN n) B E U g c I a d u R := h.below (bdrewN (Below.refl _ _) n)
theorem DSt.cellU (h : DSt w B E U g c I a d u R) : w.cell? ⟨g, I.length * 2 + 1, none⟩ = some u := by
  rw [World.ownsRow.cellAt h.row _ (by omega), List.getElem?_append_right (by rw [h.flat]; omega), h.flat]
  rw [show I.length * 2 + 1 - I.length * 2 = 1 from by omega]
  rfl
theorem DSt.frozen (h : DSt w B E U g c I a d u R) (j : Nat) : w.frozen? ⟨g, j, none⟩ = false := World.ownsRow.frozenAt h.row j
/-- One byte more, behind the last one's. -/
theorem DSt.step (h : DSt w B E U g c I a d u R) {x : Nat} (hx : x < 256) {u' : Value} (hg : w.grownBy w' u.ownBlock) (ho : Own w' B U V8 u' (d ++ [x])) (hu : u'.ownBlock = u.ownBlock ∨ u'.ownBlock = some w.heap.size) :
    DSt (w'.setCell ⟨g, I.length * 2 + 1, none⟩ u') B E U g c I a (d ++ [x]) u' R := by
  have hgl := h.lt
  have hap : ∀ q, u'.ownBlock = some q → q ≠ g := fun q hq => by
    rcases hu with e | e
    · exact h.apart q (e ▸ hq)
    · rw [e] at hq; injection hq with hq; omega
  have hrow : w'.ownsRow B E 2 (.slice (some ⟨g, 0, none⟩) (I.length + 1) c) (I.length + 1) (R.flatten ++ [.int .i64 a, u]) :=
    World.ownsRow.kept h.row hg (.inr fun e => h.apart g e.symm rfl)
  refine ⟨h.len, fun i y hy => ?_, ?_, ?_, hap, h.wf, ?_⟩
  · obtain ⟨cs, h1, h2⟩ := h.each i y hy
    refine ⟨cs, h1, kPat.mono (S := fun b => some b ≠ some g ∧ some b ≠ u.ownBlock ∧ b < w.heap.size) (fun b hb => ⟨hb.1, ?_, ?_⟩) (kPat.stay (fun b hb => ?_) h2)⟩
    · rcases hu with e | e <;> rw [e]
      · exact hb.2.1
      · intro e2; injection e2 with e2; omega
    · have := hg.size; simp; omega
    · rw [heap_setCell_other _ _ _ _ (fun e => hb.1 (by rw [e])), hg.block b hb.2.2 hb.2.1]
  · have := (World.ownsRow.stored hrow (I.length * 2 + 1) u').1
    rw [List.set_append_right _ _ (by rw [h.flat]; omega), h.flat, show I.length * 2 + 1 - I.length * 2 = 1 from by omega] at this
    exact this
  · exact own_grown ho (grown_setCell _ _ _) (fun q hq e => hap q hq (by injection e))
  · intro y hy
    rcases List.mem_append.1 hy with hy | hy
    · exact h.byte y hy
    · simp at hy; omega
theorem DSt.ownK (h : DSt w B E U g c I a d u R) : OwnK kPat w B E (.slice (some ⟨g, 0, none⟩) (I.length + 1) c) (I ++ [(a, d)]) := by
  obtain ⟨A, c', rfl, k1, k2, k3, k4⟩ := own_byF h.own h.byte
  have hl := h.own.lt
  refine ⟨R ++ [[.int .i64 a, .slice A d.length c']], by simp [h.len], fun i x hx => ?_, ?_⟩
  · by_cases hi : i < I.length
    · rw [List.getElem?_append_left hi] at hx
      obtain ⟨cs, h1, h2⟩ := h.each i x hx
      exact ⟨cs, by rw [List.getElem?_append_left (by rw [h.len]; exact hi)]; exact h1, kPat.mono (fun b hb => ⟨hb.1, hb.2.2⟩) h2⟩
    · have hil := (List.getElem?_eq_some_iff.1 hx).1
      rw [List.length_append, List.length_singleton] at hil
      have : i = I.length := by omega
      subst this
      rw [List.getElem?_append_right (Nat.le_refl _), Nat.sub_self, List.getElem?_cons_zero] at hx
      injection hx with hx
      subst hx
      refine ⟨_, by rw [← h.len, List.getElem?_append_right (Nat.le_refl _), Nat.sub_self, List.getElem?_cons_zero], kPat_mk h.wf k1 k2 k3 ?_⟩
      rcases k4.2.2 with h0 | ⟨gb, ob, hA, hS, hlt, hc⟩
      · exact ⟨k4.1, k4.2.1, .inl h0⟩
      · subst hA
        exact ⟨k4.1, k4.2.1, .inr ⟨gb, ob, rfl, ⟨fun e => h.apart gb rfl (by injection e), hlt⟩, hlt, fun i x hx => by
          obtain ⟨cs, q1, q2⟩ := hc i x hx
          exact ⟨cs, q1, q2⟩⟩⟩
  · rw [List.length_append, List.length_singleton, List.flatten_append, List.flatten_cons, List.flatten_nil, List.append_nil]
    exact h.row
end
/-- As it is between two rounds. -/
def Sta (w : World) (B : Nat) (E U : TypeId) (v : Value) (D : List Pt) : Prop :=
  (v = .slice none 0 0 ∧ D = []) ∨ ∃ g c I a d u R, v = .slice (some ⟨g, 0, none⟩) (I.length + 1) c ∧ D = I ++ [(a, d)] ∧ DSt w B E U g c I a d u R
section
variable {w w' : World} {B : Nat} {E U : TypeId} {v : Value} {D : List Pt}
theorem Sta.ownK (h : Sta w B E U v D) : OwnK kPat w B E v D := by
  rcases h with ⟨rfl, rfl⟩ | ⟨g, c, I, a, d, u, R, rfl, rfl, h⟩
  · exact OwnK.nil _ _ _ _
  · exact h.ownK
theorem Sta.below (h : Sta w B E U v D) (hb : Below w.heap.size w w') : Sta w' B E U v D := by
  rcases h with ⟨rfl, rfl⟩ | ⟨g, c, I, a, d, u, R, rfl, rfl, h⟩
  · exact .inl ⟨rfl, rfl⟩
  · exact .inr ⟨g, c, I, a, d, u, R, rfl, rfl, h.below hb⟩
theorem Sta.drewN (h : Sta w B E U v D) (n : Nat) : Sta (w.drewN n) B E U v D := h.below (bdrewN (Below.refl _ _) n)
end
section
variable {P : Program} {w : World} {B : Nat} {E U : TypeId} {v : Value} {D : List Pt}
/-- One patch more, without bytes. -/
theorem run_appD (t ty : TypeId) (z : Value) (bytes : Nat) (ht : P.underlying t = some (.slice E)) (hi : (P.info? E).map (fun i => (i.zero, i.size, i.bytes)) = some (some z, 2, bytes)) (hzs : z.cells.size = 2)
    (hown : OwnK kPat w B E v D) (g c : Nat) (T : TypeId) (a : Int) (hr : Row w g T #[.int .i64 a, .slice none 0 0]) (hw : (Lit.int .i64 a).wf = true)
    (hbytes : (D.length + 1) * bytes ≤ 140737488355328) (h63 : D.length + 1 ≤ 9223372036854775807) (hB : B ≤ w.heap.size) :
    ∃ v' w', (Builtin.append_ #[t, t] ty #[v, .slice (some ⟨g, 0, none⟩) 1 c]).run P w = .ok v' w' ∧ (∃ g' c' R, v' = .slice (some ⟨g', 0, none⟩) (D.length + 1) c' ∧ DSt w' B E U g' c' D a [] (.slice none 0 0) R) ∧ w.grownBy w' v.ownBlock := by
  obtain ⟨i0, hi, hz, hz1, hz2⟩ := info_parts hi
  obtain ⟨rows, h1, h2, h3⟩ := hown
  obtain ⟨v', w', hr, q2, q3, q4, q5⟩ := run_append_own_at (P := P) w B t ty E i0 z 2 bytes ht hi hz hz1 hz2 hzs (by decide) v D.length rows.flatten h3 ⟨g, 0, none⟩ 1 c [.int .i64 a, .slice none 0 0] rfl
    (fun j u hu => by rw [addr_add, Nat.zero_add]; exact hr.cell j (by simpa using hu)) (by intro u hu; simp at hu; rcases hu with rfl | rfl <;> rfl) (by simp only [maxLen]; omega) hbytes hB
  refine ⟨v', w', hr, ?_, q3⟩
  obtain ⟨g', c', rfl⟩ : ∃ g' c', v' = .slice (some ⟨g', 0, none⟩) (D.length + 1) c' := by
    rcases q2.2 with ⟨_, h0⟩ | ⟨g', c', _, e, _⟩
    · omega
    · exact ⟨g', c', e⟩
  refine ⟨g', c', rows, rfl, h1, fun i y hy => ?_, q2, Own.nil _ _ _ _, fun q hq => by simp [Value.ownBlock] at hq, hw, fun x hx => by simp at hx⟩
  obtain ⟨ds, d1, d2⟩ := h2 i y hy
  refine ⟨ds, d1, kPat.mono (fun b hb => ⟨?_, by simp [Value.ownBlock], Nat.lt_of_lt_of_le hb.2 q3.size⟩) (kPat.stay (fun b hb => q3.block b hb.2 hb.1) d2)⟩
  rcases q5 with e | e
  · rw [← e] at hb; exact hb.1
  · simp [Value.ownBlock] at e; intro e2; injection e2 with e2; omega
theorem wpList_appD {ops : Array Oper} {rest : List Oper} {o : Oper} {a' : Act} {Q : Exit → Act → World → Prop} (hgd : o.guard = none) (s x : Operand) (t : TypeId) (ho : o.op = .call { callee := .builtin .append, args := #[s, x], argTypes := #[t, t] })
    (z : Value) (bytes : Nat) (ht : P.underlying t = some (.slice E)) (hi : (P.info? E).map (fun i => (i.zero, i.size, i.bytes)) = some (some z, 2, bytes)) (hzs : z.cells.size = 2)
    (hs : a'.eval s = v) (g c : Nat) (hxv : a'.eval x = .slice (some ⟨g, 0, none⟩) 1 c) (hown : OwnK kPat w B E v D) (T : TypeId) (a : Int) (hr : Row w g T #[.int .i64 a, .slice none 0 0]) (hw : (Lit.int .i64 a).wf = true)
    (hbytes : (D.length + 1) * bytes ≤ 140737488355328) (h63 : D.length + 1 ≤ 9223372036854775807) (hB : B ≤ w.heap.size)
    (h : ∀ g' c' R w', DSt w' B E U g' c' D a [] (.slice none 0 0) R → w.grownBy w' v.ownBlock → wpList P ops Q rest (a'.put o.dst (.slice (some ⟨g', 0, none⟩) (D.length + 1) c')) w') : wpList P ops Q (o :: rest) a' w :=
  wpList_plain hgd fun _ hK => by
    obtain ⟨v', w', hrun, ⟨g', c', R, rfl, h2⟩, h3⟩ := run_appD (P := P) (U := U) t o.type z bytes ht hi hzs hown g c T a hr hw hbytes h63 hB
    unfold Oper.wp execOp
    simp only [ho, resolve, invoke, builtin, Sem.run_bind, Sem.run_pure, Result.andThen_ok, List.map_toArray, List.map_cons, List.map_nil, hs, hxv, hrun]
    exact hK _ _ (h g' c' R w' h2 h3)
end
/-! ### plain: the last one is there -/
theorem addLast_concat (I : List Pt) (a : Int) (d : List Nat) (x : Nat) : addLast (I ++ [(a, d)]) x = I ++ [(a, d ++ [x])] := by
  unfold addLast
  rw [List.dropLast_concat, List.getLast?_concat]
theorem diffK_ne (a b : List Nat) (k : Nat) (h : neqB a b k = true) : diffK a b (k + 1) ≠ [] := by
  induction k with
  | zero =>
    show (if neqB a b 0 then _ else _) ≠ _
    rw [h, if_pos rfl]
    simp [startB]
  | succ k ih =>
    show (if neqB a b (k + 1) then _ else _) ≠ _
    rw [h, if_pos rfl]
    cases hs : startB a b (k + 1) with
    | true => simp
    | false =>
      have h2 : neqB a b k = true := by
        unfold startB at hs
        simp at hs
        exact hs
      have := ih h2
      obtain ⟨I, p, hI⟩ : ∃ I p, diffK a b (k + 1) = I ++ [p] := ⟨_, _, (List.dropLast_concat_getLast this).symm⟩
      rw [hI]
      obtain ⟨q, d⟩ := p
      rw [addLast_concat]
      simp
end Go.Proofs.Ytoibdomcekainaa.Pat
