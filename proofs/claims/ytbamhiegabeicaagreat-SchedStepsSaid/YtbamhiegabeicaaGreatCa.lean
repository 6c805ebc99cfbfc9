/- A cache in memory; the contracts of New, Last, Left, Dirty, Done. No statement is proved here. -/
import Derived.Test.YtbamhiegabeicaaGreatLg
import Derived.Test.YtbamhiegabeicaaGreatDb
import Derived.Test.YtbamhiegabeicaaGreatMb
namespace Go.Proofs.YtbamhiegabeicaaGreat.Cb
open Go.RowKit Go.Proofs.YtbamhiegabeicaaGreat.Mem Go.Proofs.YtbamhiegabeicaaGreat.Open Go.Proofs.YtbamhiegabeicaaGreat.Kind Go.Proofs.YtbamhiegabeicaaGreat.Blk Go.Proofs.YtbamhiegabeicaaGreat.App Go.Proofs.YtbamhiegabeicaaGreat.Pat Go.Proofs.YtbamhiegabeicaaGreat.Rd
open Go.Proofs.YtbamhiegabeicaaGreat.Db (Dv Dev Asd)
set_option linter.unusedVariables false
set_option linter.unusedSimpArgs false
/-- What a cache has: the device, the blocks that are known, the list, the last number. -/
structure St where
  dv : Dv
  K : Int → Bool
  xs : List Chg
  last : Int
def St.F (s : St) : Int → Option (List Nat) := fun x => if s.K x = true then some (s.dv.bs.getD x.toNat zblk) else none
abbrev caC (d b : Nat) (v : Value) (last : Int) : Array Value := #[.pointer (some ⟨d, 0, none⟩), .map (some b), v, .int .i64 last]
/-- A kind of data none of whose parts lies in some blocks. -/
def kN {α : Type} (k : Kd α) (N : Nat → Prop) : Kd α where
  sz := k.sz
  K := fun w S x cs => k.K w (fun b => S b ∧ ¬ N b) x cs
  len := fun h => k.len h
  one := fun h => k.one h
  stay := fun hs h => k.stay (fun b hb => hs b hb.1) h
  mono := fun hs h => k.mono (fun b hb => ⟨hs b hb.1, hb.2⟩) h
  bound := fun h => k.mono (fun b hb => ⟨⟨hb.1.1, hb.2⟩, hb.1.2⟩) (k.bound h)
theorem kN_weak {α : Type} {k : Kd α} {N : Nat → Prop} {w : World} {B0 : Nat} {E : TypeId} {v : Value} {xs : List α} (h : OwnK (kN k N) w B0 E v xs) : OwnK k w B0 E v xs := by
  obtain ⟨rows, h1, h2, h3⟩ := h
  exact ⟨rows, h1, fun i x hx => by obtain ⟨cs, c1, c2⟩ := h2 i x hx; exact ⟨cs, c1, k.mono (fun b hb => hb.1) c2⟩, h3⟩
theorem kN_of {α : Type} {k : Kd α} {N N' : Nat → Prop} {w : World} {B0 : Nat} {E : TypeId} {v : Value} {xs : List α} (h : OwnK (kN k N) w B0 E v xs) (hN : ∀ b, b < w.heap.size → ¬ N b → ¬ N' b) : OwnK (kN k N') w B0 E v xs := by
  obtain ⟨rows, h1, h2, h3⟩ := h
  exact ⟨rows, h1, fun i x hx => by obtain ⟨cs, c1, c2⟩ := h2 i x hx; exact ⟨cs, c1, k.mono (fun b hb => ⟨hb.1, hN b hb.1.2 hb.2⟩) c2⟩, h3⟩
theorem kN_kF {α : Type} {k : Kd α} {N : Nat → Prop} {B : Nat} {w : World} {B0 : Nat} {E : TypeId} {v : Value} {xs : List α} (h : OwnK (kF k B) w B0 E v xs) (hN : ∀ b, N b → b < B) : OwnK (kN k N) w B0 E v xs := by
  obtain ⟨rows, h1, h2, h3⟩ := h
  exact ⟨rows, h1, fun i x hx => by obtain ⟨cs, c1, c2⟩ := h2 i x hx; exact ⟨cs, c1, k.mono (fun b hb => ⟨hb.1, fun e => by have := hN b e; have := hb.2; omega⟩) c2⟩, h3⟩
theorem own_stay {α : Type} {k : Kd α} {N : Nat → Prop} {B0 : Nat} {w w' : World} {E : TypeId} {v : Value} {xs : List α} (h : OwnK (kN k N) w B0 E v xs) (hv : ∀ j, v.ownBlock = some j → ¬ N j) (hs : ∀ j, ¬ N j → j < w.heap.size → w'.heap[j]? = w.heap[j]?) (hz : w.heap.size ≤ w'.heap.size) : OwnK (kN k N) w' B0 E v xs := by
  have hlt := h.lt
  obtain ⟨rows, h1, h2, h3, h4⟩ := h
  refine ⟨rows, h1, fun i x hx => ?_, h3, ?_⟩
  · obtain ⟨cs, c1, c2⟩ := h2 i x hx
    exact ⟨cs, c1, k.mono (fun b hb => ⟨⟨hb.1.1, Nat.lt_of_lt_of_le hb.1.2 hz⟩, hb.2⟩) (k.stay (fun b hb => hs b hb.2 hb.1.2) c2)⟩
  · rcases h4 with h0 | ⟨g, cap, cur, hv2, hb, r⟩
    · exact .inl h0
    · have : v.ownBlock = some g := by rw [hv2]; rfl
      exact .inr ⟨g, cap, cur, hv2, hb, (hs g (hv g this) (hlt g this).2).trans r.1, r.2⟩
theorem dev_other {w w' : World} {d g : Nat} {s : Dv} (h : Dev w d g s) (h1 : w'.heap[d]? = w.heap[d]?) (h2 : w'.heap[g]? = w.heap[g]?) (hz : w.heap.size ≤ w'.heap.size) : Dev w' d g s :=
  ⟨h1.trans h.1, h.2.1.keep h2 hz, h.2.2⟩
/-- A cache in its blocks: c its own, d and g the device's, b the map's, v the list; N: the blocks that are not its list's. -/
structure Ca (w : World) (c d g b : Nat) (N : Nat → Prop) (v : Value) (s : St) : Prop where
  row : Row w c 83 (caC d b v s.last)
  dev : Dev w d g s.dv
  map : Mb w b (s.dv.wr + s.dv.rd).toNat s.F
  own : OwnK (kN kChg N) w 0 90 v s.xs
  vN : ∀ j, v.ownBlock = some j → ¬ N j
  cd : c ≠ d
  cg : c ≠ g
  cb : c ≠ b
  db : d ≠ b
  gb : g ≠ b
  Nc : N c
  Nd : N d
  Ng : N g
  Nb : N b
  lt : ∀ j, N j → j < w.heap.size
/-- What always holds of it. -/
structure Inv (s : St) : Prop where
  len : s.dv.bs.length = 16
  each : ∀ x ∈ s.dv.bs, x.length = 256
  byte : ∀ x ∈ s.dv.bs, Bytes x
  ok : Db.Ok s.dv
  cw : s.dv.wr + s.xs.length ≤ s.last
  cr : s.dv.rd ≤ 100000
  kn : ∀ x, s.K x = true → 0 ≤ x ∧ x < 16
  xk : ∀ x ∈ s.xs, s.K x.blk = true
  may : mayF 0 s.xs = true
  small : Small s.xs
  data : ∀ x ∈ s.xs, Bytes x.pd
  ids : ∀ x ∈ s.xs, x.id ≤ s.last
  last0 : 0 ≤ s.last
  last1 : s.last ≤ 1000
  xl : s.xs.length ≤ 1000
/-- A block that is not the cache's. -/
structure Far (N : Nat → Prop) (c d g b : Nat) (k : Nat) : Prop where
  n : N k
  c : k ≠ c
  d : k ≠ d
  g : k ≠ g
  b : k ≠ b
/-- Nothing but the cache's blocks has changed. -/
structure Tn (N : Nat → Prop) (c d g b : Nat) (w w' : World) : Prop where
  os : w'.os = w.os
  tape : w'.tape = w.tape
  output : w'.output = w.output
  size : w.heap.size ≤ w'.heap.size
  block : ∀ k, Far N c d g b k → w'.heap[k]? = w.heap[k]?
section
variable {w w' w'' : World} {c d g b : Nat} {N N' : Nat → Prop} {v v' v'' : Value} {s : St}
theorem Tn.refl (N : Nat → Prop) (c d g b : Nat) (w : World) : Tn N c d g b w w := ⟨rfl, rfl, rfl, Nat.le_refl _, fun _ _ => rfl⟩
theorem Tn.trans (h : Tn N c d g b w w') (h' : Tn N c d g b w' w'') : Tn N c d g b w w'' :=
  ⟨h'.os.trans h.os, h'.tape.trans h.tape, h'.output.trans h.output, Nat.le_trans h.size h'.size, fun k hk => (h'.block k hk).trans (h.block k hk)⟩
theorem Tn.weak (h : Tn N' c d g b w w') (hN : ∀ j, N j → N' j) : Tn N c d g b w w' := ⟨h.os, h.tape, h.output, h.size, fun k hk => h.block k ⟨hN k hk.n, hk.c, hk.d, hk.g, hk.b⟩⟩
theorem Tn.row {k : Nat} {T : TypeId} {cs : Array Value} (h : Tn N c d g b w w') (hf : Far N c d g b k) (hr : Row w k T cs) : Row w' k T cs := (h.block k hf).trans hr
theorem Ca.tn (h : Ca w c d g b N v s) (hb : Below w.heap.size w w') : Tn N c d g b w w' := ⟨hb.os, hb.tape, hb.output, hb.size, fun k hk => hb.block k (h.lt k hk.n)⟩
theorem Ca.tnd (h : Ca w c d g b N v s) (ha : Asd d g w w') : Tn N c d g b w w' := ⟨ha.os, ha.tape, ha.output, ha.size, fun k hk => ha.block k (h.lt k hk.n) hk.d hk.g⟩
/-- Nothing of what there was, but these four, has changed. -/
structure Tq (c d g b : Nat) (w w' : World) : Prop where
  os : w'.os = w.os
  tape : w'.tape = w.tape
  output : w'.output = w.output
  size : w.heap.size ≤ w'.heap.size
  block : ∀ k, k < w.heap.size → k ≠ c → k ≠ d → k ≠ g → k ≠ b → w'.heap[k]? = w.heap[k]?
theorem Tq.refl (c d g b : Nat) (w : World) : Tq c d g b w w := ⟨rfl, rfl, rfl, Nat.le_refl _, fun _ _ _ _ _ _ => rfl⟩
theorem Tq.trans (h : Tq c d g b w w') (h' : Tq c d g b w' w'') : Tq c d g b w w'' :=
  ⟨h'.os.trans h.os, h'.tape.trans h.tape, h'.output.trans h.output, Nat.le_trans h.size h'.size, fun k h1 h2 h3 h4 h5 => (h'.block k (Nat.lt_of_lt_of_le h1 h.size) h2 h3 h4 h5).trans (h.block k h1 h2 h3 h4 h5)⟩
theorem Tq.of (hb : Below w.heap.size w w') : Tq c d g b w w' := ⟨hb.os, hb.tape, hb.output, hb.size, fun k h1 _ _ _ _ => hb.block k h1⟩
theorem Tq.asd (ha : Asd d g w w') : Tq c d g b w w' := ⟨ha.os, ha.tape, ha.output, ha.size, fun k h1 _ h3 h4 _ => ha.block k h1 h3 h4⟩
theorem Tq.gb (hg : w.grownBy w' (some b)) : Tq c d g b w w' := ⟨hg.os, hg.tape, hg.output, hg.size, fun k h1 _ _ _ h5 => hg.block k h1 (fun e => h5 (by injection e))⟩
theorem Ca.tq (h : Ca w c d g b N v s) (ht : Tq c d g b w w') : Tn N c d g b w w' := ⟨ht.os, ht.tape, ht.output, ht.size, fun k hk => ht.block k (h.lt k hk.n) hk.c hk.d hk.g hk.b⟩
/-- As long as its own blocks stay. -/
theorem Ca.keep (h : Ca w c d g b N v s) (hs : ∀ j, j < w.heap.size → ¬ Far N c d g b j → w'.heap[j]? = w.heap[j]?) (hz : w.heap.size ≤ w'.heap.size) : Ca w' c d g b N v s :=
  have n1 : ¬ Far N c d g b c := fun e => e.c rfl
  have n2 : ¬ Far N c d g b d := fun e => e.d rfl
  have n3 : ¬ Far N c d g b g := fun e => e.g rfl
  have n4 : ¬ Far N c d g b b := fun e => e.b rfl
  ⟨(hs c h.row.lt n1).trans h.row, dev_other h.dev (hs d h.dev.1.lt n2) (hs g h.dev.2.1.2.2 n3) hz, h.map.stay (hs b h.map.lt n4), own_stay h.own h.vN (fun j h1 h2 => hs j h2 (fun e => h1 e.n)) hz, h.vN, h.cd, h.cg, h.cb, h.db, h.gb, h.Nc, h.Nd, h.Ng, h.Nb, fun j hj => Nat.lt_of_lt_of_le (h.lt j hj) hz⟩
theorem Ca.below (h : Ca w c d g b N v s) (hb : Below w.heap.size w w') : Ca w' c d g b N v s := h.keep (fun j h1 _ => hb.block j h1) hb.size
theorem Ca.setRow (h : Ca w c d g b N v s) {k : Nat} (hk : Far N c d g b k) (cs : Array Value) : Ca (w.setRow k cs) c d g b N v s :=
  h.keep (fun j _ hj => setRow_other _ _ _ _ (fun e => hj (e ▸ hk))) (by simp)
theorem Ca.setCell (h : Ca w c d g b N v s) {a : Addr} (hk : Far N c d g b a.block) (u : Value) : Ca (w.setCell a u) c d g b N v s :=
  h.keep (fun j _ hj => Below.heap_setCell _ _ _ _ (fun e => hj (e ▸ hk))) (by simp [World.setCell])
theorem Ca.weak (h : Ca w c d g b N' v s) (hN : ∀ j, N j → N' j) (hc : N c) (hd : N d) (hg : N g) (hb : N b) : Ca w c d g b N v s :=
  ⟨h.row, h.dev, h.map, kN_of h.own (fun j _ hj e => hj (hN j e)), fun j hj e => h.vN j hj (hN j e), h.cd, h.cg, h.cb, h.db, h.gb, hc, hd, hg, hb, fun j hj => h.lt j (hN j hj)⟩
/-- With all new blocks among those that are not its list's. -/
theorem Ca.grow (h : Ca w c d g b N v s) (hb : Below w.heap.size w w') : Ca w' c d g b (fun j => N j ∨ (w.heap.size ≤ j ∧ j < w'.heap.size)) v s :=
  have ho : OwnK (kN kChg (fun j => N j ∨ (w.heap.size ≤ j ∧ j < w'.heap.size))) w 0 90 v s.xs := kN_of h.own (fun j h1 h2 e => by rcases e with e | e; exact h2 e; omega)
  have h2 := h.below hb
  ⟨h2.row, h2.dev, h2.map, ho.below hb, fun j hj e => by rcases e with e | e; exact h.vN j hj e; have := (h.own.lt j hj).2; omega, h.cd, h.cg, h.cb, h.db, h.gb, .inl h.Nc, .inl h.Nd, .inl h.Ng, .inl h.Nb, fun j e => by rcases e with e | e; exact h2.lt j e; exact e.2⟩
/-- The cache lies from a block on; what lies ahead is not its list's. -/
structure Bd (B c d g b : Nat) (N : Nat → Prop) : Prop where
  c : B ≤ c
  d : B ≤ d
  g : B ≤ g
  b : B ≤ b
  n : ∀ k, k < B → N k
theorem Tn.bel {B : Nat} {a : World} (hb : Below B a w) (ht : Tn N c d g b w w') (hq : Bd B c d g b N) : Below B a w' :=
  ⟨ht.os.trans hb.os, ht.tape.trans hb.tape, ht.output.trans hb.output, Nat.le_trans hb.size ht.size, fun k hk => (ht.block k ⟨hq.n k hk, by have := hq.c; omega, by have := hq.d; omega, by have := hq.g; omega, by have := hq.b; omega⟩).trans (hb.block k hk)⟩
theorem Bd.or {B : Nat} {M : Nat → Prop} (h : Bd B c d g b N) : Bd B c d g b (fun j => N j ∨ M j) := ⟨h.c, h.d, h.g, h.b, fun k hk => .inl (h.n k hk)⟩
theorem Ca.cells (h : Ca w c d g b N v s) : w.cell? ⟨c, 0, none⟩ = some (.pointer (some ⟨d, 0, none⟩)) ∧ w.cell? ⟨c, 1, none⟩ = some (.map (some b)) ∧ w.cell? ⟨c, 2, none⟩ = some v ∧ w.cell? ⟨c, 3, none⟩ = some (.int .i64 s.last) :=
  ⟨h.row.cell 0 rfl, h.row.cell 1 rfl, h.row.cell 2 rfl, h.row.cell 3 rfl⟩
/-- Its list, as it is read. -/
theorem Ca.list (h : Ca w c d g b N v s) : ∃ A n, v = .slice A s.xs.length n ∧ s.xs.length ≤ n ∧ n ≤ M63 ∧ (A = none → n = 0) ∧ Chs w A s.xs := OwnK.rw_ (kN_weak h.own)
end
def newS (dv : Dv) : St := ⟨dv, fun _ => false, [], 0⟩
set_option maxHeartbeats 1000000 in
set_option maxRecDepth 100000 in
theorem New_any (d g : Nat) (dv : Dv) (w : World) (hd : Dev w d g dv) :
    Calls Tryz.prog 11 #[.pointer (some ⟨d, 0, none⟩)] w fun e w' => ∃ c b, e = .returned (.pointer (some ⟨c, 0, none⟩)) ∧ Ca w' c d g b (fun j => j < w'.heap.size) (.slice none 0 0) (newS dv) ∧ w.heap.size ≤ c ∧ w.heap.size ≤ b ∧ Below w.heap.size w w' := by
  have hmm := @run_makeMap Tryz.prog
  have HF : Hid (Ca ((w.alloc (.map #[] 0)).alloc (.cells (caC d w.heap.size (.slice none 0 0) 0) 83)) (w.heap.size + 1) d g w.heap.size (fun j => j < ((w.alloc (.map #[] 0)).alloc (.cells (caC d w.heap.size (.slice none 0 0) 0) 83)).heap.size) (.slice none 0 0) (newS dv)) := by
    have hdl := hd.1.lt
    have hgl := hd.2.1.2.2
    have hb : Below w.heap.size w ((w.alloc (.map #[] 0)).alloc (.cells (caC d w.heap.size (.slice none 0 0) 0) 83)) := ((Below.refl _ _).alloc (Nat.le_refl _) _).alloc (by simp) _
    refine Lib.hid ⟨?_, hd.keep hb, ?_, OwnK.nil _ _ _ _, fun j e => (by cases e), by omega, by omega, by omega, by omega, by omega, by simp, by simp; omega, by simp; omega, by simp; omega, fun j e => e⟩
    · have := Row.new (w.alloc (.map #[] 0)) 83 (caC d w.heap.size (.slice none 0 0) 0)
      rwa [show (w.alloc (.map #[] 0)).heap.size = w.heap.size + 1 from by simp] at this
    · exact (((Mb.made w).alloc _).mono (Nat.zero_le _)).ext fun x => by simp [St.F, newS]
  go_enter Tryz.func11, Tryz.ntmps11
  go_wp2
  go_ret
  refine ⟨w.heap.size + 1, w.heap.size, by first | rfl | simp, HF.out, by omega, by omega, ((Below.refl _ _).alloc (Nat.le_refl _) _).alloc (by simp) _⟩
theorem Last_any (c d g b : Nat) (N : Nat → Prop) (v : Value) (s : St) (w : World) (h : Ca w c d g b N v s) :
    Calls Tryz.prog 26 #[.pointer (some ⟨c, 0, none⟩)] w fun e w' => e = .returned (.int .i64 s.last) ∧ w' = w := by
  obtain ⟨c0, c1, c2, c3⟩ := h.cells
  clear h
  go_enter Tryz.func26, Tryz.ntmps26
  go_wp2
  go_ret
  exact ⟨rfl, rfl⟩
theorem Left_any (c d g b : Nat) (N : Nat → Prop) (v : Value) (s : St) (w : World) (h : Ca w c d g b N v s) (hi : Inv s) :
    Calls Tryz.prog 31 #[.pointer (some ⟨c, 0, none⟩)] w fun e w' => ∃ v2, e = .returned v2 ∧ OwnK kChg w' w.heap.size 90 v2 s.xs ∧ Below w.heap.size w w' := by
  obtain ⟨c0, c1, c2, c3⟩ := h.cells
  obtain ⟨A, n, rfl, h1, h2, h3, hx⟩ := h.list
  have C := Lib.hid (Without_any A n s.xs none 0 [] w hx is_nil hi.small hi.xl (by simp))
  rw [woS_nil] at C
  clear h hx
  go_enter Tryz.func31, Tryz.ntmps31
  go_wp2_with fail
  refine C.out.mono ?_
  rintro e w2 ⟨v2, rfl, ho, hb⟩
  have HO := Lib.hid ho
  clear ho
  go_wp2
  go_ret
  exact ⟨_, rfl, HO.out, hb⟩
theorem Dirty_any (c d g b : Nat) (N : Nat → Prop) (v : Value) (s : St) (w : World) (h : Ca w c d g b N v s) (hi : Inv s) :
    Calls Tryz.prog 22 #[.pointer (some ⟨c, 0, none⟩)] w fun e w' => ∃ v2, e = .returned v2 ∧ Ns w' w.heap.size v2 (blkP s.xs []) ∧ Below w.heap.size w w' := by
  obtain ⟨c0, c1, c2, c3⟩ := h.cells
  obtain ⟨A, n, rfl, h1, h2, h3, hx⟩ := h.list
  have C := Lib.hid (Blocks_any A n s.xs w hx hi.xl)
  clear h hx
  go_enter Tryz.func22, Tryz.ntmps22
  go_wp2_with fail
  refine C.out.mono ?_
  rintro e w2 ⟨v2, rfl, ho, hb⟩
  have HO := Lib.hid ho
  clear ho
  go_wp2
  go_ret
  exact ⟨_, rfl, HO.out, hb⟩
/-- A number that is done. -/
def goneB (id : Int) (xs : List Chg) : Bool := xs.all fun x => x.id != id
def doneB (s : St) (id : Int) : Bool := decide (1 ≤ id) && decide (id ≤ s.last) && goneB id s.xs
set_option maxHeartbeats 1000000 in
set_option maxRecDepth 100000 in
theorem Done_any (id : Int) (c d g b : Nat) (N : Nat → Prop) (v : Value) (s : St) (w : World) (h : Ca w c d g b N v s) :
    Calls Tryz.prog 62 #[.pointer (some ⟨c, 0, none⟩), .int .i64 id] w fun e w' => e = .returned (.bool (doneB s id)) ∧ Below w.heap.size w w' := by
  obtain ⟨c0, c1, c2, c3⟩ := h.cells
  obtain ⟨A, n, rfl, h1, h2, h3, hx⟩ := h.list
  have HD : Hid (doneB s id = (decide (1 ≤ id) && decide (id ≤ s.last) && goneB id s.xs)) := Lib.hid rfl
  clear h
  obtain ⟨dv, K, xs, last⟩ := s
  dsimp only at c3 hx HD c2
  generalize doneB _ id = r at *
  have hl : xs.length ≤ 9223372036854775807 := hx.2.1
  by_cases q1 : id < 1
  · obtain rfl : r = false := by rw [HD.out, decide_eq_false (by omega)]; rfl
    go_enter Tryz.func62, Tryz.ntmps62
    go_wp2
    go_ret
    exact ⟨rfl, Below.refl _ _⟩
  by_cases q2 : last < id
  · obtain rfl : r = false := by rw [HD.out, decide_eq_false (by omega : ¬ id ≤ last), Bool.and_false]; rfl
    go_enter Tryz.func62, Tryz.ntmps62
    go_wp2
    go_ret
    exact ⟨rfl, Below.refl _ _⟩
  have HG : Hid (r = goneB id xs) := Lib.hid (by rw [HD.out, decide_eq_true (by omega), decide_eq_true (by omega)]; rfl)
  clear HD
  go_enter Tryz.func62, Tryz.ntmps62
  go_wp2
  go_loopw [26] (fun i wr => ∃ (k : Nat), k ≤ xs.length ∧ i = .int .i64 k ∧ Hid (r = goneB id (xs.drop k)) ∧ Below w.heap.size w wr) (fun i _ => xs.length - (intOf i).toNat)
  case atStart => exact ⟨0, by omega, rfl, HG, Below.refl _ _⟩
  case round =>
    obtain ⟨k, hk, rfl, hv, hbr⟩ := hrel
    by_cases hlt : k < xs.length
    · obtain ⟨g0, o, rfl, hg⟩ := ch_form hx (by omega)
      obtain ⟨A1, c1', A2, c2', hat0⟩ := ch_at hx k hlt
      have hat := hat0.below hbr
      have e0 := hat.v0
      have e1 := hat.v1
      have e2 := hat.v2
      have e3 : wr.cell? ⟨g0, o + k * 5 + 3, none⟩ = _ := hat.v3
      have e4 := hat.v4
      have hv := hv.out
      rw [drop_at hlt] at hv
      clear hat0 hat
      generalize xs[k] = x at *
      obtain ⟨⟨b1, b2, b3⟩⟩ : Nonempty (_ ∧ _ ∧ _) := ⟨boxed wr 90 chZ (chC x A1 c1' A2 c2')⟩
      have R0 : Row (wr.alloc (.cells chZ 90)) wr.heap.size 90 chZ := Row.new _ _ _
      have k1 : World.cell? _ ⟨wr.heap.size, 0, none⟩ = some (.int .i64 x.id) := b1.cell 0 rfl
      have HB := Lib.hid (hbr.trans (b2.mono hbr.size))
      clear b1 b2 b3 hbr
      by_cases hq : x.id = id
      · have HV : Hid (r = false) := Lib.hid (by rw [hv]; show (x.id != id && _) = false; rw [hq, bne_self_eq_false]; rfl)
        clear hv
        subst hq
        go_wp2_with (first
          | (with_reducible refine wpList_allocA rfl 90 rfl _ chZero ?_)
          | (with_reducible refine wpList_storeRow rfl 90 _ _ rfl wr.heap.size rfl (chC x A1 c1' A2 c2') rfl chZ 90 5 chSize rfl rfl (chC_one _ _ _ _ _) R0 ?_))
        go_ret
        exact ⟨by rw [HV.out]; rfl, HB.out⟩
      · have HV : Hid (r = goneB id (xs.drop (k + 1))) := Lib.hid (by rw [hv]; show (x.id != id && _) = _; rw [bne_iff_ne.2 hq]; rfl)
        have hq1 : (x.id == id) = false := by rw [beq_eq_false_iff_ne]; exact hq
        clear hv
        go_wp2_with (first
          | (with_reducible refine wpList_allocA rfl 90 rfl _ chZero ?_)
          | (with_reducible refine wpList_storeRow rfl 90 _ _ rfl wr.heap.size rfl (chC x A1 c1' A2 c2') rfl chZ 90 5 chSize rfl rfl (chC_one _ _ _ _ _) R0 ?_))
        go_roundw
        case rel => exact ⟨k + 1, by omega, by go_num, HV, HB.out⟩
        case measure => simp [intOf]; omega
    · obtain rfl : k = xs.length := by omega
      have hv := hv.out
      rw [drop_end] at hv
      have HV : Hid (r = true) := Lib.hid hv
      clear hv
      go_wp2
      go_ret
      exact ⟨by rw [HV.out]; rfl, hbr⟩
end Go.Proofs.YtbamhiegabeicaaGreat.Cb

