/- The document's cache, as it lies in memory; its New, Done, Known. No statement is proved here. -/
import Derived.Test.YtbamhiegabeicaaGreatCv
import Derived.Test.YtbamhiegabeicaaGreatLf
import Derived.Test.YtbamhiegabeicaaGreatRg
import Derived.Test.YtbamhiegabeicaaGreatRh
namespace Go.Proofs.YtbamhiegabeicaaGreat.Cb
open Go.RowKit Go.Proofs.YtbamhiegabeicaaGreat.Mem Go.Proofs.YtbamhiegabeicaaGreat.Open Go.Proofs.YtbamhiegabeicaaGreat.Kind Go.Proofs.YtbamhiegabeicaaGreat.Blk Go.Proofs.YtbamhiegabeicaaGreat.App Go.Proofs.YtbamhiegabeicaaGreat.Pat Go.Proofs.YtbamhiegabeicaaGreat.Rd
open Go.Proofs.YtbamhiegabeicaaGreat.Db (Dv Dev Asd Bks)
set_option linter.unusedVariables false
set_option linter.unusedSimpArgs false
/-! ### append onto an own row, of any row that is read -/
section
variable {α : Type} {k : Kd α} {P : Program} {w : World} {B : Nat} {E : TypeId} {v : Value} {xs ys : List α}
theorem run_appR (t ty : TypeId) (z : Value) (bytes : Nat) (ht : P.underlying t = some (.slice E)) (hi : (P.info? E).map (fun i => (i.zero, i.size, i.bytes)) = some (some z, k.sz, bytes)) (hzs : z.cells.size = k.sz) (hsz : 0 < k.sz)
    (hown : OwnK k w B E v xs) (A : Option Addr) (c : Nat) (hys : Rw k w (fun b => some b ≠ v.ownBlock ∧ b < w.heap.size) A ys.length ys) (hA : A = none → c = 0)
    (hbytes : (xs.length + ys.length) * bytes ≤ 140737488355328) (h63 : xs.length + ys.length ≤ 9223372036854775807) (hB : B ≤ w.heap.size) :
    ∃ v' w', (Builtin.append_ #[t, t] ty #[v, .slice A ys.length c]).run P w = .ok v' w' ∧ OwnK k w' B E v' (xs ++ ys) ∧ w.grownBy w' v.ownBlock ∧ (v'.ownBlock = v.ownBlock ∨ v'.ownBlock = some w.heap.size) := by
  by_cases h0 : ∃ g o, A = some ⟨g, o, none⟩
  · obtain ⟨g, o, rfl⟩ := h0
    exact run_appKs t ty z bytes ht hi hzs hsz hown g o c hys hbytes h63 hB
  · have hy : ys = [] := by
      rcases hys.2.2 with h | ⟨g, o, e, _⟩
      · exact List.eq_nil_of_length_eq_zero h
      · exact absurd ⟨g, o, e⟩ h0
    subst hy
    obtain ⟨i0, hi, hz, hz1, hz2⟩ := info_parts hi
    obtain ⟨rows, h1, h2, h3⟩ := hown
    cases A with
    | none =>
      have hc := hA rfl
      subst hc
      exact ⟨v, w, run_append_owned_none w B t ty E i0 k.sz ht hi v xs.length rows.flatten h3, by rw [List.append_nil]; exact ⟨rows, h1, h2, h3⟩, gb_refl _ _, .inl rfl⟩
    | some ad =>
      obtain ⟨v', w', hr, q2, q3, _, q5⟩ := run_append_own_at (P := P) w B t ty E i0 z k.sz bytes ht hi hz hz1 hz2 hzs hsz v xs.length rows.flatten h3 ad 0 c [] (by simp) (fun j u hu => by simp at hu) (fun u hu => by simp at hu) (by simp only [maxLen]; simp at h63; omega) (by simpa using hbytes) hB
      have conv : ∀ (y : α) (ds : List Value), k.K w (fun b => some b ≠ v.ownBlock ∧ b < w.heap.size) y ds → k.K w' (fun b => some b ≠ v'.ownBlock ∧ b < w'.heap.size) y ds := fun y ds hd =>
        k.mono (fun b hb => ⟨(by rcases q5 with e | e <;> rw [e] <;> first | exact hb.1 | (simp; omega)), Nat.lt_of_lt_of_le hb.2 q3.size⟩) (k.stay (fun b hb => q3.block b hb.2 hb.1) hd)
      refine ⟨v', w', hr, ⟨rows, by simpa using h1, fun i y hy => ?_, ?_⟩, q3, q5⟩
      · rw [List.append_nil] at hy
        obtain ⟨ds, d1, d2⟩ := h2 i y hy
        exact ⟨ds, d1, conv y ds d2⟩
      · simpa using q2
theorem wp_appR {o : Oper} {a : Act} {K : Act → World → Prop} {Q : Exit → Act → World → Prop} (s x : Operand) (t : TypeId) (ho : o.op = .call { callee := .builtin .append, args := #[s, x], argTypes := #[t, t] })
    (z : Value) (bytes : Nat) (ht : P.underlying t = some (.slice E)) (hi : (P.info? E).map (fun i => (i.zero, i.size, i.bytes)) = some (some z, k.sz, bytes)) (hzs : z.cells.size = k.sz) (hsz : 0 < k.sz)
    (hs : a.eval s = v) (A : Option Addr) (c : Nat) (hxv : a.eval x = .slice A ys.length c) (hown : OwnK k w B E v xs) (hys : Rw k w (fun b => some b ≠ v.ownBlock ∧ b < w.heap.size) A ys.length ys) (hA : A = none → c = 0)
    (hbytes : (xs.length + ys.length) * bytes ≤ 140737488355328) (h63 : xs.length + ys.length ≤ 9223372036854775807) (hB : B ≤ w.heap.size)
    (h : ∀ v' w', OwnK k w' B E v' (xs ++ ys) → w.grownBy w' v.ownBlock → (v'.ownBlock = v.ownBlock ∨ v'.ownBlock = some w.heap.size) → K (a.put o.dst v') w') : o.wp P a w K Q := by
  obtain ⟨v', w', hrun, h2, h3, h4⟩ := run_appR (P := P) t o.type z bytes ht hi hzs hsz hown A c hys hA hbytes h63 hB
  unfold Oper.wp execOp
  simp only [ho, resolve, invoke, builtin, Sem.run_bind, Sem.run_pure, Result.andThen_ok, List.map_toArray, List.map_cons, List.map_nil, hs, hxv, hrun]
  exact h v' w' h2 h3 h4
theorem wpList_appR {ops : Array Oper} {rest : List Oper} {o : Oper} {a : Act} {Q : Exit → Act → World → Prop} (hgd : o.guard = none) (s x : Operand) (t : TypeId) (ho : o.op = .call { callee := .builtin .append, args := #[s, x], argTypes := #[t, t] })
    (z : Value) (bytes : Nat) (ht : P.underlying t = some (.slice E)) (hi : (P.info? E).map (fun i => (i.zero, i.size, i.bytes)) = some (some z, k.sz, bytes)) (hzs : z.cells.size = k.sz) (hsz : 0 < k.sz)
    (hs : a.eval s = v) (A : Option Addr) (c : Nat) (hxv : a.eval x = .slice A ys.length c) (hown : OwnK k w B E v xs) (hys : Rw k w (fun b => some b ≠ v.ownBlock ∧ b < w.heap.size) A ys.length ys) (hA : A = none → c = 0)
    (hbytes : (xs.length + ys.length) * bytes ≤ 140737488355328) (h63 : xs.length + ys.length ≤ 9223372036854775807) (hB : B ≤ w.heap.size)
    (h : ∀ v' w', OwnK k w' B E v' (xs ++ ys) → w.grownBy w' v.ownBlock → (v'.ownBlock = v.ownBlock ∨ v'.ownBlock = some w.heap.size) → wpList P ops Q rest (a.put o.dst v') w') : wpList P ops Q (o :: rest) a w :=
  wpList_plain hgd fun _ hK => wp_appR s x t ho z bytes ht hi hzs hsz hs A c hxv hown hys hA hbytes h63 hB fun v' w' h2 h3 h4 => hK _ _ (h v' w' h2 h3 h4)
/-- An empty literal: an own row without elements. -/
theorem wp_emptyK (k : Kd α) {o : Oper} {a : Act} {K : Act → World → Prop} {Q : Exit → Act → World → Prop} (t : TypeId) (ho : o.op = .buildSlice t 0 #[]) (ht : P.underlying t = some (.slice E)) (hi : ((P.info? E).map (·.size)).isSome = true) (hB : B ≤ w.heap.size)
    (h : ∀ g w', OwnK k w' B E (.slice (some ⟨g, 0, none⟩) 0 0) [] → Below w.heap.size w w' → g = w.heap.size → K (a.put o.dst (.slice (some ⟨g, 0, none⟩) 0 0)) w') : o.wp P a w K Q := by
  cases hie : P.info? E with
  | none => simp [hie] at hi
  | some ie =>
    have hr : (Instr.buildSlice t 0 #[]).run P w = .ok (.slice (some ⟨w.heap.size, 0, none⟩) 0 0) (w.alloc (.cells #[] E)) := by
      simp [Instr.buildSlice, run_underlying ht, sizeOf, typeInfo, hie, Instr.fill, newRow]
      rw [show (Array.range 0) = #[] from by apply Array.ext'; simp, show ∀ f : Nat → Value, Array.map f #[] = #[] from fun f => by apply Array.ext'; simp]
    unfold Oper.wp execOp
    simp only [ho, Sem.run_bind, List.map_toArray, List.map_nil, hr, Result.andThen_ok]
    exact h _ _ (ownK_empty k hB) ((Below.refl _ _).alloc (Nat.le_refl _) _) rfl
end
/-! ### the cache -/
/-- Where the parts of the document's cache lie. -/
structure Rp where
  AB : Option Addr
  cB : Nat
  AL : Option Addr
  cL : Nat
  AK : Option Addr
  cK : Nat
def rfu (d : Dv) : Int := if d.lit = true then d.fuse else -1
def kl (K : Int → Bool) : List Bool := (List.range 16).map fun (i : Nat) => K (i : Int)
theorem kl_len (K : Int → Bool) : (kl K).length = 16 := by unfold kl; rw [List.length_map, List.length_range]
theorem kl_get (K : Int → Bool) {i : Nat} (h : i < 16) : (kl K)[i]? = some (K (i : Int)) := by
  unfold kl
  rw [List.getElem?_map, List.getElem?_range h]
  rfl
abbrev rcC (AB : Option Addr) (cB : Nat) (AL : Option Addr) (nL cL : Nat) (AK : Option Addr) (cK : Nat) (last fuse : Int) (off : Bool) (wr : Int) : Array Value := #[.slice AB 16 cB, .slice AL nL cL, .int .i64 last, .int .i64 fuse, .bool off, .int .i64 wr, .slice AK 16 cK]
abbrev rcP (p : Rp) (s : St) : Array Value := rcC p.AB p.cB p.AL s.xs.length p.cL p.AK p.cK s.last (rfu s.dv) s.dv.off s.dv.wr
/-- Where parts may lie: in no block of N. -/
abbrev Out2 (N : Nat → Prop) (w : World) : Nat → Prop := fun b => b < w.heap.size ∧ ¬ N b
structure Rc (N : Nat → Prop) (w : World) (p : Rp) (s : St) : Prop where
  base : Rw (kSlice kByte) w (Out2 N w) p.AB 16 s.dv.bs
  list : Rw kChg w (Out2 N w) p.AL s.xs.length s.xs
  lc : p.AL = none → p.cL = 0
  knows : Rw kBool w (Out2 N w) p.AK 16 (kl s.K)
theorem Rw.out2 {α : Type} {k : Kd α} {N N' : Nat → Prop} {w w' : World} {A : Option Addr} {n : Nat} {xs : List α} (h : Rw k w (Out2 N w) A n xs) (hs : ∀ b, b < w.heap.size → ¬ N b → w'.heap[b]? = w.heap[b]?) (hz : w.heap.size ≤ w'.heap.size) (hN : ∀ b, b < w.heap.size → ¬ N b → ¬ N' b) : Rw k w' (Out2 N' w') A n xs :=
  (Rw.stay (w := w) (fun b hb => hs b hb.1 hb.2) h).mono fun b hb => ⟨Nat.lt_of_lt_of_le hb.1 hz, hN b hb.1 hb.2⟩
theorem Rc.go {N N' : Nat → Prop} {w w' : World} {p : Rp} {s : St} (h : Rc N w p s) (hs : ∀ b, b < w.heap.size → ¬ N b → w'.heap[b]? = w.heap[b]?) (hz : w.heap.size ≤ w'.heap.size) (hN : ∀ b, b < w.heap.size → ¬ N b → ¬ N' b) : Rc N' w' p s :=
  ⟨Rw.out2 h.base hs hz hN, Rw.out2 h.list hs hz hN, h.lc, Rw.out2 h.knows hs hz hN⟩
theorem Rc.below {N : Nat → Prop} {w w' : World} {p : Rp} {s : St} (h : Rc N w p s) (hb : Below w.heap.size w w') : Rc N w' p s := h.go (fun b h1 _ => hb.block b h1) hb.size (fun _ _ h => h)
theorem Rc.chs {N : Nat → Prop} {w : World} {p : Rp} {s : St} (h : Rc N w p s) : Chs w p.AL s.xs := h.list.mono fun b hb => hb.1
theorem rcSize : (Tryz.prog.info? 32).map (·.size) = some 7 := by kernel_rfl
theorem kl_cell {w : World} {S : Nat → Prop} {AK : Option Addr} {K : Int → Bool} (h : Rw kBool w S AK 16 (kl K)) {i : Nat} (hi : i < 16) : ∃ g o, AK = some ⟨g, o, none⟩ ∧ g < w.heap.size ∧ w.cell? ⟨g, o + i, none⟩ = some (.bool (K (i : Int))) := by
  obtain ⟨g, o, cs, hA, _, hg, hK, hc⟩ := h.at_ (i := i) (by rw [kl_len]; exact hi)
  have e : (kl K)[i]'(by rw [kl_len]; exact hi) = K (i : Int) := by
    have := kl_get K hi
    rw [List.getElem?_eq_getElem (by rw [kl_len]; exact hi)] at this
    injection this
  rw [e] at hK
  have hK : cs = [.bool (K (i : Int))] := hK
  subst hK
  have := hc 0 _ rfl
  rw [show o + i * kBool.sz + 0 = o + i from by show o + i * 1 + 0 = _; omega] at this
  exact ⟨g, o, hA, hg, this⟩
theorem row2 (w : World) (o : Obj) (T : TypeId) (cs : Array Value) : Row ((w.alloc o).alloc (.cells cs T)) (w.heap.size + 1) T cs := by
  have := Row.new (w.alloc o) T cs
  rwa [show (w.alloc o).heap.size = w.heap.size + 1 from by simp] at this
theorem bb2 (w : World) (o o2 : Obj) : Below w.heap.size w ((w.alloc o).alloc o2) := ((Below.refl _ _).alloc (Nat.le_refl _) _).alloc (by simp) _
abbrev rcZ : Array Value := #[.slice none 0 0, .slice none 0 0, .int .i64 0, .int .i64 0, .bool false, .int .i64 0, .slice none 0 0]
theorem rcC_one (AB : Option Addr) (cB : Nat) (AL : Option Addr) (nL cL : Nat) (AK : Option Addr) (cK : Nat) (last fu : Int) (off : Bool) (wr : Int) : (rcC AB cB AL nL cL AK cK last fu off wr).all Value.oneCell' = true := by simp [Value.oneCell']
theorem boolInfo3 : (Tryz.prog.info? 4).map (fun i => (i.zero, i.size, i.bytes)) = some (some (.bool false), 1, 1) := by kernel_rfl
theorem ownK_at {α : Type} {k : Kd α} {w : World} {B : Nat} {E : TypeId} {v : Value} {xs : List α} (h : OwnK k w B E v xs) (h0 : 0 < xs.length) : ∃ g c cur, v = .slice (some ⟨g, 0, none⟩) xs.length c ∧ B ≤ g ∧ Row w g E cur := by
  obtain ⟨rows, h1, h2, h3⟩ := h
  rcases h3.2 with ⟨rfl, e⟩ | ⟨g, cap, cur, rfl, hg, hh, n1, n2, n3⟩
  · omega
  · exact ⟨g, cap, cur, rfl, hg, hh⟩
theorem ownK_rwA {α : Type} {k : Kd α} {w : World} {B : Nat} {E : TypeId} {A : Option Addr} {n c : Nat} {xs : List α} (h : OwnK k w B E (.slice A n c) xs) : Rw k w (All w) A xs.length xs := by
  obtain ⟨A', c', e, -, -, -, hr⟩ := h.rw_
  injection e with e1 e2 e3
  subst e1
  exact hr
theorem flat_bool : Flat kBool := fun _ _ _ _ _ _ h => h
theorem rw_cell1 {α : Type} {k : Kd α} (hs : k.sz = 1) {w : World} {S : Nat → Prop} {g o n : Nat} {xs : List α} (h : Rw k w S (some ⟨g, o, none⟩) n xs) {i : Nat} (hi : i < xs.length) : ∃ u, w.cell? ⟨g, o + i, none⟩ = some u ∧ k.K w S xs[i] [u] := by
  obtain ⟨g', o', cs, hA, _, hg, hK, hc⟩ := h.at_ hi
  injection hA with hA
  injection hA with e1 e2
  subst e1 e2
  have hl := k.len hK
  rw [hs] at hl
  match cs, hl, hK, hc with
  | [u], _, hK, hc =>
    have := hc 0 u rfl
    rw [hs, Nat.mul_one, Nat.add_zero] at this
    exact ⟨u, this, hK⟩
theorem cell_set {w : World} {a p : Addr} {u v : Value} (hn : p ≠ a) (h : w.cell? p = some v) : (w.setCell a u).cell? p = some v := by
  exact (World.cell?_setCell_other _ _ _ _ (fun e => hn e.symm)).trans h
/-- An element laid anew into a row whose elements lead nowhere. -/
theorem rw_put {α : Type} {k : Kd α} (hs : k.sz = 1) (hf : Flat k) {w : World} {g o n : Nat} {xs : List α} (h : Rw k w (All w) (some ⟨g, o, none⟩) n xs) {i : Nat} (hi : i < xs.length) {old : Value} {y : α} {u : Value} (hK : k.K w (All w) y [u]) (hc : w.cell? ⟨g, o + i, none⟩ = some old) : Rw k (w.setCell ⟨g, o + i, none⟩ u) (All (w.setCell ⟨g, o + i, none⟩ u)) (some ⟨g, o, none⟩) n (xs.set i y) := by
  have hsz : (w.setCell ⟨g, o + i, none⟩ u).heap.size = w.heap.size := by simp [World.setCell]
  have hg : g < w.heap.size := World.block_lt_of_cell? _ _ hc
  refine ⟨by rw [List.length_set]; exact h.1, h.2.1, .inr ⟨g, o, rfl, by show g < _; omega, by omega, fun j x hx => ?_⟩⟩
  rw [List.getElem?_set] at hx
  by_cases hij : i = j
  · subst hij
    rw [if_pos rfl, if_pos hi] at hx
    injection hx with hx
    subst hx
    refine ⟨[u], hf _ _ _ _ _ _ hK, fun q v hv => ?_⟩
    cases q with
    | succ q => simp at hv
    | zero =>
      simp at hv
      subst hv
      rw [hs, Nat.mul_one, Nat.add_zero]
      exact World.cell?_setCell_same _ _ _ hc
  · rw [if_neg hij] at hx
    obtain ⟨hj, rfl⟩ := List.getElem?_eq_some_iff.1 hx
    obtain ⟨v0, h1, h2⟩ := rw_cell1 hs h hj
    refine ⟨[v0], hf _ _ _ _ _ _ h2, fun q v hv => ?_⟩
    cases q with
    | succ q => simp at hv
    | zero =>
      simp at hv
      subst hv
      rw [hs, Nat.mul_one, Nat.add_zero]
      exact cell_set (by intro e; injection e with e1 e2; omega) h1
section
variable {ops : Array Oper} {rest : List Oper} {o : Oper} {a : Act} {w : World} {Q : Exit → Act → World → Prop}
theorem wpList_ldC (hgd : o.guard = none) (x : Operand) (ho : o.op = .load 32 x) (g : Nat) (hx : a.eval x = .pointer (some ⟨g, 0, none⟩)) (cs : Array Value) (hs : cs.size = 7) (hg : Row w g 32 cs)
    (h : wpList Tryz.prog ops Q rest (a.put o.dst (.agg cs)) w) : wpList Tryz.prog ops Q (o :: rest) a w :=
  wpList_load_row hgd 32 x ho g hx 32 cs (0, 0) _ hg Tryz.underlying32 rfl (by rw [hs]; exact rcSize) h
end
section
variable (AB : Option Addr) (cB : Nat) (AL : Option Addr) (nL cL : Nat) (g o cK : Nat) (last fu : Int) (off : Bool) (wr : Int) (w : World)
set_option maxHeartbeats 1000000 in
set_option maxRecDepth 100000 in
theorem known_in (i : Nat) (hi : i < 16) (hg : g < w.heap.size) (hc : w.cell? ⟨g, o + i, none⟩ = some (.bool true)) :
    Calls Tryz.prog 69 #[.agg (rcC AB cB AL nL cL (some ⟨g, o, none⟩) cK last fu off wr), .int .i64 (i : Int)] w fun e w' => e = .returned (.tuple #[.agg (rcC AB cB AL nL cL (some ⟨g, o, none⟩) cK last fu off wr), .int .i64 0]) ∧ Below w.heap.size w w' := by
  have hiz : (i : Int) < 16 := by omega
  go_enter Tryz.func69, Tryz.ntmps69
  go_wp2
  exact bodyPost_ret (Rd.results_cell_tmp (p := 4) (t2 := 5) rfl _ _ (w.heap.size + 1) 32 (rcC AB cB AL nL cL (some ⟨g, o, none⟩) cK last fu off wr) (0, 0) _ rfl (row2 _ _ _ _) Tryz.underlying32 rfl rcSize) rfl ⟨rfl, bb2 _ _ _⟩
set_option maxHeartbeats 1000000 in
set_option maxRecDepth 100000 in
theorem known_off (i : Nat) (hi : i < 16) (hg : g < w.heap.size) (hc : w.cell? ⟨g, o + i, none⟩ = some (.bool false)) :
    Calls Tryz.prog 69 #[.agg (rcC AB cB AL nL cL (some ⟨g, o, none⟩) cK last fu true wr), .int .i64 (i : Int)] w fun e w' => e = .returned (.tuple #[.agg (rcC AB cB AL nL cL (some ⟨g, o, none⟩) cK last fu true wr), .int .i64 12]) ∧ Below w.heap.size w w' := by
  have hiz : (i : Int) < 16 := by omega
  go_enter Tryz.func69, Tryz.ntmps69
  go_wp2
  exact bodyPost_ret (Rd.results_cell_tmp (p := 4) (t2 := 5) rfl _ _ (w.heap.size + 1) 32 (rcC AB cB AL nL cL (some ⟨g, o, none⟩) cK last fu true wr) (0, 0) _ rfl (row2 _ _ _ _) Tryz.underlying32 rfl rcSize) rfl ⟨rfl, bb2 _ _ _⟩
set_option maxHeartbeats 1000000 in
set_option maxRecDepth 100000 in
theorem known_out (AK : Option Addr) (no : Int) (h : no < 0 ∨ 16 ≤ no) :
    Calls Tryz.prog 69 #[.agg (rcC AB cB AL nL cL AK cK last fu off wr), .int .i64 no] w fun e w' => e = .returned (.tuple #[.agg (rcC AB cB AL nL cL AK cK last fu off wr), .int .i64 (if off = true then 12 else 2)]) ∧ Below w.heap.size w w' := by
  rcases h with h | h
  · cases off with
    | true =>
      rw [if_pos rfl]
      go_enter Tryz.func69, Tryz.ntmps69
      go_wp2
      exact bodyPost_ret (Rd.results_cell_tmp (p := 4) (t2 := 5) rfl _ _ (w.heap.size + 1) 32 (rcC AB cB AL nL cL AK cK last fu true wr) (0, 0) _ rfl (row2 _ _ _ _) Tryz.underlying32 rfl rcSize) rfl ⟨rfl, bb2 _ _ _⟩
    | false =>
      rw [if_neg (by simp)]
      go_enter Tryz.func69, Tryz.ntmps69
      go_wp2
      exact bodyPost_ret (Rd.results_cell_tmp (p := 4) (t2 := 5) rfl _ _ (w.heap.size + 1) 32 (rcC AB cB AL nL cL AK cK last fu false wr) (0, 0) _ rfl (row2 _ _ _ _) Tryz.underlying32 rfl rcSize) rfl ⟨rfl, bb2 _ _ _⟩
  · have h0 : (0 : Int) ≤ no := by omega
    cases off with
    | true =>
      rw [if_pos rfl]
      go_enter Tryz.func69, Tryz.ntmps69
      go_wp2
      exact bodyPost_ret (Rd.results_cell_tmp (p := 4) (t2 := 5) rfl _ _ (w.heap.size + 1) 32 (rcC AB cB AL nL cL AK cK last fu true wr) (0, 0) _ rfl (row2 _ _ _ _) Tryz.underlying32 rfl rcSize) rfl ⟨rfl, bb2 _ _ _⟩
    | false =>
      rw [if_neg (by simp)]
      go_enter Tryz.func69, Tryz.ntmps69
      go_wp2
      exact bodyPost_ret (Rd.results_cell_tmp (p := 4) (t2 := 5) rfl _ _ (w.heap.size + 1) 32 (rcC AB cB AL nL cL AK cK last fu false wr) (0, 0) _ rfl (row2 _ _ _ _) Tryz.underlying32 rfl rcSize) rfl ⟨rfl, bb2 _ _ _⟩
set_option maxHeartbeats 2000000 in
set_option maxRecDepth 100000 in
theorem known_new (i : Nat) (hi : i < 16) (ks : List Bool) (hkl : ks.length = 16) (hks : Rw kBool w (All w) (some ⟨g, o, none⟩) 16 ks) (hg : g < w.heap.size) (hc : w.cell? ⟨g, o + i, none⟩ = some (.bool false)) :
    Calls Tryz.prog 69 #[.agg (rcC AB cB AL nL cL (some ⟨g, o, none⟩) cK last fu false wr), .int .i64 (i : Int)] w fun e w' => ∃ AK' cK', e = .returned (.tuple #[.agg (rcC AB cB AL nL cL AK' cK' last fu false wr), .int .i64 0]) ∧ Rw kBool w' (fun b => w.heap.size ≤ b ∧ b < w'.heap.size) AK' 16 (ks.set i true) ∧ Below w.heap.size w w' := by
  have hiz : (i : Int) < 16 := by omega
  have hiz2 : ¬ (16 : Int) ≤ i := by omega
  have b2 := bb2 w (.cells (rcC AB cB AL nL cL (some ⟨g, o, none⟩) cK last fu false wr) 32) (.cells rcZ 32)
  have R2 : Row ((w.alloc (.cells (rcC AB cB AL nL cL (some ⟨g, o, none⟩) cK last fu false wr) 32)).alloc (.cells rcZ 32)) w.heap.size 32 (rcC AB cB AL nL cL (some ⟨g, o, none⟩) cK last fu false wr) := (Row.new _ _ _).alloc _
  have R4 := row2 w (.cells (rcC AB cB AL nL cL (some ⟨g, o, none⟩) cK last fu false wr) 32) 32 rcZ
  have hO3 := ownK_empty (E := 4) (w := (w.alloc (.cells (rcC AB cB AL nL cL (some ⟨g, o, none⟩) cK last fu false wr) 32)).alloc (.cells rcZ 32)) kBool (Nat.le_refl _)
  rw [show ((w.alloc (.cells (rcC AB cB AL nL cL (some ⟨g, o, none⟩) cK last fu false wr) 32)).alloc (.cells rcZ 32)).heap.size = w.heap.size + 1 + 1 from by simp] at hO3
  have b3 := b2.alloc b2.size (.cells #[] 4)
  have R2 := R2.alloc (.cells #[] 4)
  have R4 := R4.alloc (.cells #[] 4)
  have hks3 : Rw kBool (((w.alloc (.cells (rcC AB cB AL nL cL (some ⟨g, o, none⟩) cK last fu false wr) 32)).alloc (.cells rcZ 32)).alloc (.cells #[] 4)) (fun b => some b ≠ (Value.slice (some ⟨w.heap.size + 1 + 1, 0, none⟩) 0 0).ownBlock ∧ b < (((w.alloc (.cells (rcC AB cB AL nL cL (some ⟨g, o, none⟩) cK last fu false wr) 32)).alloc (.cells rcZ 32)).alloc (.cells #[] 4)).heap.size) (some ⟨g, o, none⟩) ks.length ks := by
    rw [hkl]
    refine (Rw.stay (w := w) (fun b hb => b3.block b hb) hks).mono fun b hb => ?_
    have hb : b < w.heap.size := hb
    exact ⟨by simp [Value.ownBlock]; omega, by simp; omega⟩
  have HR2 := Lib.hid R2
  have HR4 := Lib.hid R4
  have HB3 := Lib.hid b3
  clear R2 R4 b3 b2 hks
  go_enter Tryz.func69, Tryz.ntmps69
  go_wp2_with (first
    | (at_builtin; go_loud (refine wpList_appR (k := kBool) (v := Value.slice (some ⟨w.heap.size + 1 + 1, 0, none⟩) 0 0) rfl _ _ 30 rfl (.bool false) 1 Tryz.underlying30 boolInfo3 rfl (by decide) rfl (some ⟨g, o, none⟩) cK (by rw [hkl]; rfl) hO3 hks3 (fun h => by cases h) (by rw [hkl]; decide) (by rw [hkl]; decide) (by simp) ?_); go_loud (intro v7 w7 hown7 hg7 hat7); go_loud (rw [List.nil_append] at hown7); go_loud (obtain ⟨g7, c7, cur7, rfl, hB7, hh7⟩ := ownK_at hown7 (by rw [hkl]; omega)); go_loud (rw [hkl] at hown7 ⊢); go_loud (have hrw7 := ownK_rwA hown7); go_loud (rw [hkl] at hrw7); go_loud (obtain ⟨u7, hc7, -⟩ := rw_cell1 rfl hrw7 (i := i) (by rw [hkl]; exact hi)); go_loud (rw [Nat.zero_add] at hc7); go_loud (have hf7 := hh7.frozen i); go_loud (have hne7 : ¬ g7 = w.heap.size := by omega); go_loud (have hne8 : ¬ g7 = w.heap.size + 1 := by omega); go_loud (have r2 : Row w7 w.heap.size _ _ := gb_row hg7 HR2.out (by simp [Value.ownBlock] <;> omega)); go_loud (have r4 : Row w7 (w.heap.size + 1) _ _ := gb_row hg7 HR4.out (by simp [Value.ownBlock] <;> omega)); go_loud (have k6 := r2.cell 6 rfl); go_loud (have f6 := r2.frozen 6); go_loud (have q2 : Row ((w7.setCell ⟨g7, i, none⟩ (.bool true)).setCell ⟨w.heap.size, 6, none⟩ (.slice (some ⟨g7, 0, none⟩) 16 c7)) w.heap.size 32 (rcC AB cB AL nL cL (some ⟨g7, 0, none⟩) c7 last fu false wr) := (r2.farCell (a := ⟨g7, i, none⟩) (fun e => hne7 e.symm) (.bool true)).put 6 (.slice (some ⟨g7, 0, none⟩) 16 c7)); go_loud (have q4 := (r4.farCell (a := ⟨g7, i, none⟩) (fun e => hne8 e.symm) (.bool true)).farCell (a := ⟨w.heap.size, 6, none⟩) (by simp) (.slice (some ⟨g7, 0, none⟩) 16 c7)); go_loud (have hrw9 := rw_put rfl flat_bool hrw7 (i := i) (by rw [hkl]; exact hi) (y := true) (u := .bool true) rfl (by rw [Nat.zero_add]; exact hc7)); go_loud (have HW9 := Lib.hid hrw9); go_loud (have HG7 := Lib.hid hg7); go_loud (have HQ4 := Lib.hid q4); go_loud (clear hat7 hrw7 hrw9 hh7 hown7 r2 r4 hg7 q4 hO3 hks3))
    | (with_reducible refine wpList_ldC rfl _ rfl _ rfl _ rfl q2 ?_)
    | (with_reducible refine wpList_storeRow rfl 32 _ _ rfl (w.heap.size + 1) rfl (rcC AB cB AL nL cL (some ⟨g7, 0, none⟩) c7 last fu false wr) rfl rcZ 32 7 rcSize rfl rfl (rcC_one _ _ _ _ _ _ _ _ _ _ _) HQ4.out ?_))
  refine bodyPost_ret (v := .tuple #[.agg (rcC AB cB AL nL cL (some ⟨g7, 0, none⟩) c7 last fu false wr), .int .i64 0]) (Rd.results_cell_tmp (p := 4) (t2 := 5) rfl _ _ (w.heap.size + 1) 32 (rcC AB cB AL nL cL (some ⟨g7, 0, none⟩) c7 last fu false wr) (0, 0) _ rfl (HQ4.out.set _) Tryz.underlying32 rfl rcSize) rfl ?_
  have hW := HW9.out
  rw [Nat.zero_add] at hW
  have hB7' := HB3.out.grown HG7.out (by simp; omega) (fun q hq => by simp [Value.ownBlock] at hq; omega)
  have hB8 := (Below.setCell hB7' (p := ⟨g7, i, none⟩) (show w.heap.size ≤ g7 by omega) (.bool true)).setCell (p := ⟨w.heap.size, 6, none⟩) (Nat.le_refl w.heap.size) (.slice (some ⟨g7, 0, none⟩) 16 c7)
  have hB9 := below_setRow hB8 (show w.heap.size ≤ w.heap.size + 1 by omega) (rcC AB cB AL nL cL (some ⟨g7, 0, none⟩) c7 last fu false wr)
  have hsz : ∀ (a b : Addr) (u v : Value) (r : Nat) (cs : Array Value), (((w7.setCell a u).setCell b v).setRow r cs).heap.size = w7.heap.size := fun a b u v r cs => by simp [World.setCell]
  have hlt7 : g7 < w7.heap.size := World.block_lt_of_cell? _ _ hc7
  refine ⟨some ⟨g7, 0, none⟩, ⟨c7, rfl⟩, (Rw.stay (w := w7.setCell ⟨g7, i, none⟩ (.bool true)) (S := fun b => b = g7) (fun b hb => ?_) (rw_at flat_bool hW rfl)).mono (fun b hb => ?_), hB9⟩
  · subst hb
    exact (setRow_other _ _ _ _ hne8).trans (Below.heap_setCell _ _ _ _ hne7)
  · have hb : b = g7 := hb
    show w.heap.size ≤ b ∧ b < _
    rw [hsz]
    omega
end
theorem kl_set (K : Int → Bool) {i : Nat} (hi : i < 16) : kl (fun x => K x || x == (i : Int)) = (kl K).set i true := by
  apply List.ext_getElem?
  intro j
  by_cases hj : j < 16
  · rw [kl_get _ hj, List.getElem?_set]
    by_cases hij : i = j
    · subst hij
      rw [if_pos rfl, if_pos (by rw [kl_len]; exact hi)]
      simp
    · rw [if_neg hij, kl_get _ hj]
      have : ((j : Int) == (i : Int)) = false := by rw [beq_eq_false_iff_ne]; omega
      rw [this, Bool.or_false]
  · rw [List.getElem?_eq_none (by rw [kl_len]; omega), List.getElem?_eq_none (by rw [List.length_set, kl_len]; omega)]
theorem Rc.known {N : Nat → Prop} {w w' : World} {AB : Option Addr} {cB : Nat} {AL : Option Addr} {cL : Nat} {AK : Option Addr} {cK : Nat} {s t : St} (h : Rc N w ⟨AB, cB, AL, cL, AK, cK⟩ s) (hN : ∀ b, N b → b < w.heap.size) (hb : Below w.heap.size w w') {AK' : Option Addr} (cK' : Nat) {l : List Bool} (hks : Rw kBool w' (fun b => w.heap.size ≤ b ∧ b < w'.heap.size) AK' 16 l) (h1 : t.dv.bs = s.dv.bs) (h2 : t.xs = s.xs) (h3 : kl t.K = l) : Rc N w' ⟨AB, cB, AL, cL, AK', cK'⟩ t := by
  subst h3
  exact ⟨by rw [h1]; exact (h.below hb).base, by rw [h2]; exact (h.below hb).list, h.lc, hks.mono fun b hb => ⟨hb.2, fun e => by have := hN b e; have := hb.1; omega⟩⟩
set_option maxHeartbeats 1000000 in
theorem RKnown_any (N : Nat → Prop) (no : Int) (p : Rp) (s : St) (w : World) (h : Rc N w p s) (hN : ∀ b, N b → b < w.heap.size) (hi : Inv s) :
    Calls Tryz.prog 69 #[.agg (rcP p s), .int .i64 no] w fun e w' => ∃ p', e = .returned (.tuple #[.agg (rcP p' (kS s no)), .int .i64 (kE s no)]) ∧ Rc N w' p' (kS s no) ∧ Below w.heap.size w w' := by
  obtain ⟨AB, cB, AL, cL, AK, cK⟩ := p
  have hlen := hi.len
  by_cases q0 : 0 ≤ no ∧ no < 16
  · obtain ⟨i, rfl⟩ : ∃ i : Nat, no = (i : Int) := ⟨no.toNat, by omega⟩
    have hi16 : i < 16 := by omega
    obtain ⟨g, o, hA, hg, hc⟩ := kl_cell h.knows hi16
    have hA : AK = some ⟨g, o, none⟩ := hA
    subst hA
    cases hk : s.K (i : Int) with
    | true =>
      rw [hk] at hc
      have e1 : kE s i = 0 := if_pos hk
      have e2 : kS s i = s := if_pos (.inl hk)
      refine (known_in AB cB AL s.xs.length cL g o cK s.last (rfu s.dv) s.dv.off s.dv.wr w i hi16 hg hc).mono ?_
      rintro e w' ⟨rfl, hb⟩
      rw [e1, e2]
      exact ⟨⟨AB, cB, AL, cL, some ⟨g, o, none⟩, cK⟩, rfl, h.below hb, hb⟩
    | false =>
      rw [hk] at hc
      have hkn : ¬ s.K (i : Int) = true := by rw [hk]; simp
      cases ho : s.dv.off with
      | true =>
        have hm : Db.mayE s.dv i = 12 := by unfold Db.mayE; rw [ho, if_pos rfl]
        have e1 : kE s i = 12 := (if_neg hkn).trans hm
        have e2 : kS s i = s := if_pos (.inr (by rw [hm]; decide))
        have C := known_off AB cB AL s.xs.length cL g o cK s.last (rfu s.dv) s.dv.wr w i hi16 hg hc
        rw [← ho] at C
        refine C.mono ?_
        rintro e w' ⟨rfl, hb⟩
        rw [e1, e2]
        exact ⟨⟨AB, cB, AL, cL, some ⟨g, o, none⟩, cK⟩, rfl, h.below hb, hb⟩
      | false =>
        have hm : Db.mayE s.dv i = 0 := by unfold Db.mayE; rw [ho, if_neg (by simp), if_neg (by omega)]
        have e1 : kE s i = 0 := (if_neg hkn).trans hm
        have e2 : kS s i = { s with dv := { s.dv with rd := s.dv.rd + 1 }, K := fun x => s.K x || x == (i : Int) } := if_neg (by rintro (e | e); exact hkn e; exact e hm)
        have C := known_new AB cB AL s.xs.length cL g o cK s.last (rfu s.dv) s.dv.wr w i hi16 (kl s.K) (kl_len _) (h.knows.mono fun b hb => hb.1) hg hc
        rw [← ho] at C
        refine C.mono ?_
        rintro e w' ⟨AK', cK', rfl, hks, hb⟩
        rw [e1, e2]
        have hR : Rc N w' ⟨AB, cB, AL, cL, AK', cK'⟩ { s with dv := { s.dv with rd := s.dv.rd + 1 }, K := fun x => s.K x || x == (i : Int) }   := h.known hN hb cK' hks rfl rfl (kl_set s.K hi16)
        exact ⟨⟨AB, cB, AL, cL, AK', cK'⟩, rfl, hR, hb⟩
  · have hkn : ¬ s.K no = true := fun e => q0 (hi.kn no e)
    have hm : Db.mayE s.dv no = if s.dv.off = true then 12 else 2 := by
      unfold Db.mayE
      rw [if_pos (show no < 0 ∨ (s.dv.bs.length : Int) ≤ no by omega)]
    have e1 : kE s no = if s.dv.off = true then 12 else 2 := (if_neg hkn).trans hm
    have e2 : kS s no = s := if_pos (.inr (by rw [hm]; split <;> decide))
    refine (known_out AB cB AL s.xs.length cL cK s.last (rfu s.dv) s.dv.off s.dv.wr w AK no (by omega)).mono ?_
    rintro e w' ⟨rfl, hb⟩
    rw [e1, e2]
    exact ⟨⟨AB, cB, AL, cL, AK, cK⟩, rfl, h.below hb, hb⟩
/-! ### Done -/
theorem place_pos (n : Int) : ∀ (xs : List Chg) (k : Nat), (goneB n xs = true ∧ placeF n xs k = -1) ∨ (goneB n xs = false ∧ (k : Int) ≤ placeF n xs k)
  | [], k => .inl ⟨rfl, rfl⟩
  | x :: r, k => by
    by_cases h : x.id = n
    · exact .inr ⟨by show (x.id != n && _) = false; rw [h, bne_self_eq_false]; rfl, by rw [placeF, if_pos h]; exact Int.le_refl _⟩
    · have e1 : goneB n (x :: r) = goneB n r := by show (x.id != n && _) = _; rw [bne_iff_ne.2 h]; rfl
      have e2 : placeF n (x :: r) k = placeF n r (k + 1) := by rw [placeF, if_neg h]
      rw [e1, e2]
      rcases place_pos n r (k + 1) with ⟨h1, h2⟩ | ⟨h1, h2⟩
      · exact .inl ⟨h1, h2⟩
      · exact .inr ⟨h1, by omega⟩
theorem place_gone (n : Int) (xs : List Chg) : decide (placeF n xs 0 < 0) = goneB n xs := by
  rcases place_pos n xs 0 with ⟨h1, h2⟩ | ⟨h1, h2⟩
  · rw [h1, h2]; rfl
  · rw [h1, decide_eq_false (by omega)]
set_option maxHeartbeats 1000000 in
set_option maxRecDepth 100000 in
theorem RDone_any (N : Nat → Prop) (n : Int) (p : Rp) (s : St) (w : World) (h : Rc N w p s) :
    Calls Tryz.prog 68 #[.agg (rcP p s), .int .i64 n] w fun e w' => e = .returned (.bool (doneB s n)) ∧ Below w.heap.size w w' := by
  obtain ⟨AB, cB, AL, cL, AK, cK⟩ := p
  have HD : Hid (doneB s n = (decide (1 ≤ n) && decide (n ≤ s.last) && goneB n s.xs)) := Lib.hid rfl
  have CP := Lib.hid (fun w' (hb : Below w.heap.size w w') => place_any AL cL s.xs n w' (h.chs.below hb))
  have HG := Lib.hid (place_gone n s.xs)
  have hb1 : Below w.heap.size w (w.alloc (.cells (rcC AB cB AL s.xs.length cL AK cK s.last (rfu s.dv) s.dv.off s.dv.wr) 32)) := bb0 _ _
  have CP1 := Lib.hid (CP.out _ hb1)
  show Calls Tryz.prog 68 #[.agg (rcC AB cB AL s.xs.length cL AK cK s.last (rfu s.dv) s.dv.off s.dv.wr), .int .i64 n] w _
  clear h CP
  generalize doneB s n = D at *
  generalize placeF n s.xs 0 = P at *
  generalize goneB n s.xs = G at *
  generalize s.xs.length = nL at *
  generalize s.last = last at *
  generalize rfu s.dv = fu at *
  generalize s.dv.off = off at *
  generalize s.dv.wr = wr at *
  by_cases q1 : 1 ≤ n
  · by_cases q2 : n ≤ last
    · have HD2 : Hid (decide (P < 0) = D) := Lib.hid (by rw [HG.out, HD.out, decide_eq_true q1, decide_eq_true q2]; rfl)
      clear HD HG
      go_enter Tryz.func68, Tryz.ntmps68
      go_wp2_with fail
      refine CP1.out.mono ?_
      rintro e w2 ⟨rfl, hb2⟩
      go_wp2
      go_ret
      exact ⟨ret_bool HD2.out, hb1.trans (hb2.mono hb1.size)⟩
    · have HD2 : Hid (D = false) := Lib.hid (by rw [HD.out, decide_eq_false q2, Bool.and_false]; rfl)
      clear HD HG CP1
      go_enter Tryz.func68, Tryz.ntmps68
      go_wp2
      go_ret
      exact ⟨ret_bool HD2.out.symm, hb1⟩
  · have HD2 : Hid (D = false) := Lib.hid (by rw [HD.out, decide_eq_false q1]; rfl)
    clear HD HG CP1
    go_enter Tryz.func68, Tryz.ntmps68
    go_wp2
    go_ret
    exact ⟨ret_bool HD2.out.symm, hb1⟩
end Go.Proofs.YtbamhiegabeicaaGreat.Cb

