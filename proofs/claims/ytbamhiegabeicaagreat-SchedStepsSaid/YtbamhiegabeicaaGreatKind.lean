/- Kinds of data in memory: how a value's cells read as data, and that this hangs on some blocks alone. Plain laws, over any program. No statement is proved here. -/
import Derived.Test.YtbamhiegabeicaaGreatReg
namespace Go.Proofs.YtbamhiegabeicaaGreat.Kind
open Go.RowKit Go.Proofs.YtbamhiegabeicaaGreat.Mem Go.Proofs.YtbamhiegabeicaaGreat.Open
set_option linter.unusedVariables false
set_option linter.unusedSimpArgs false

theorem addr_add (b o n : Nat) : (⟨b, o, none⟩ : Addr).add n = ⟨b, o + n, none⟩ := by
  unfold Addr.add
  split <;> simp_all
/-- The greatest whole number of 63 bits. -/
abbrev M63 : Nat := 9223372036854775807
/-- A kind of data: the cells cs read, in a world, as x; this hangs on the blocks of S alone. -/
structure Kd (α : Type) where
  sz : Nat
  K : World → (Nat → Prop) → α → List Value → Prop
  len : ∀ {w S x cs}, K w S x cs → cs.length = sz
  one : ∀ {w S x cs}, K w S x cs → ∀ u ∈ cs, u.oneCell' = true
  stay : ∀ {w w' : World} {S : Nat → Prop} {x cs}, (∀ b, S b → w'.heap[b]? = w.heap[b]?) → K w S x cs → K w' S x cs
  mono : ∀ {w} {S S' : Nat → Prop} {x cs}, (∀ b, S b → S' b) → K w S x cs → K w S' x cs
  bound : ∀ {w : World} {S : Nat → Prop} {x cs}, K w S x cs → K w (fun b => S b ∧ b < w.heap.size) x cs

/-- A row of elements, one behind the other. -/
def Rw {α : Type} (k : Kd α) (w : World) (S : Nat → Prop) (A : Option Addr) (n : Nat) (xs : List α) : Prop :=
  xs.length = n ∧ n ≤ M63 ∧ (n = 0 ∨ ∃ g o, A = some ⟨g, o, none⟩ ∧ S g ∧ g < w.heap.size ∧ ∀ i x, xs[i]? = some x → ∃ cs, k.K w S x cs ∧ ∀ j v, cs[j]? = some v → w.cell? ⟨g, o + i * k.sz + j, none⟩ = some v)
/-- All blocks that there are. -/
abbrev All (w : World) : Nat → Prop := fun b => b < w.heap.size
section
variable {α : Type} {k : Kd α} {w w' : World} {S S' : Nat → Prop} {A : Option Addr} {n : Nat} {xs : List α}
theorem Kd.below (k : Kd α) {x : α} {cs : List Value} (h : k.K w (All w) x cs) (hb : Below w.heap.size w w') : k.K w' (All w') x cs :=
  k.mono (fun b hb' => Nat.lt_of_lt_of_le hb' hb.size) (k.stay (fun b hb' => hb.block b hb') h)
theorem cell_of_heap {g : Nat} (h : w'.heap[g]? = w.heap[g]?) (o : Nat) : w'.cell? ⟨g, o, none⟩ = w.cell? ⟨g, o, none⟩ := by simp [World.cell?, h]
theorem Rw.stay (hs : ∀ b, S b → w'.heap[b]? = w.heap[b]?) (h : Rw k w S A n xs) : Rw k w' S A n xs := by
  refine ⟨h.1, h.2.1, ?_⟩
  rcases h.2.2 with h0 | ⟨g, o, hA, hg, hlt, hc⟩
  · exact .inl h0
  · refine .inr ⟨g, o, hA, hg, ?_, fun i x hx => ?_⟩
    · have := hs g hg
      rw [Array.getElem?_eq_getElem hlt] at this
      exact (Array.getElem?_eq_some_iff.1 this).1
    · obtain ⟨cs, h1, h2⟩ := hc i x hx
      exact ⟨cs, k.stay hs h1, fun j v hv => (cell_of_heap (hs g hg) _).trans (h2 j v hv)⟩
theorem Rw.mono (hs : ∀ b, S b → S' b) (h : Rw k w S A n xs) : Rw k w S' A n xs := by
  refine ⟨h.1, h.2.1, ?_⟩
  rcases h.2.2 with h0 | ⟨g, o, hA, hg, hlt, hc⟩
  · exact .inl h0
  · exact .inr ⟨g, o, hA, hs g hg, hlt, fun i x hx => by obtain ⟨cs, h1, h2⟩ := hc i x hx; exact ⟨cs, k.mono hs h1, h2⟩⟩
theorem Rw.bound (h : Rw k w S A n xs) : Rw k w (fun b => S b ∧ b < w.heap.size) A n xs := by
  refine ⟨h.1, h.2.1, ?_⟩
  rcases h.2.2 with h0 | ⟨g, o, hA, hg, hlt, hc⟩
  · exact .inl h0
  · exact .inr ⟨g, o, hA, ⟨hg, hlt⟩, hlt, fun i x hx => by obtain ⟨cs, h1, h2⟩ := hc i x hx; exact ⟨cs, k.bound h1, h2⟩⟩
theorem Rw.below (h : Rw k w (All w) A n xs) (hb : Below w.heap.size w w') : Rw k w' (All w') A n xs :=
  (h.stay fun b hb' => hb.block b hb').mono fun b hb' => Nat.lt_of_lt_of_le hb' hb.size
theorem Rw.gb (h : Rw k w (All w) A n xs) (hg : w.grownBy w' none) : Rw k w' (All w') A n xs := h.below (gb_Below hg)
theorem Rw.drew (h : Rw k w S A n xs) : Rw k w.drew S A n xs := Rw.stay (w := w) (fun _ _ => rfl) h
theorem Rw.drewN (h : Rw k w S A n xs) (m : Nat) : Rw k (w.drewN m) S A n xs := Rw.stay (w := w) (fun _ _ => rfl) h
theorem Rw.at_ (h : Rw k w S A n xs) {i : Nat} (hi : i < xs.length) : ∃ g o cs, A = some ⟨g, o, none⟩ ∧ S g ∧ g < w.heap.size ∧ k.K w S xs[i] cs ∧ ∀ j v, cs[j]? = some v → w.cell? ⟨g, o + i * k.sz + j, none⟩ = some v := by
  rcases h.2.2 with h0 | ⟨g, o, hA, hg, hlt, hc⟩
  · have := h.1; omega
  · obtain ⟨cs, h1, h2⟩ := hc i _ (List.getElem?_eq_getElem hi)
    exact ⟨g, o, cs, hA, hg, hlt, h1, h2⟩
theorem Rw.nil (k : Kd α) (w : World) (S : Nat → Prop) (A : Option Addr) : Rw k w S A 0 ([] : List α) := ⟨rfl, by omega, .inl rfl⟩
/-- The first ones. -/
theorem Rw.take (h : Rw k w S A n xs) (m : Nat) (hm : m ≤ n) : Rw k w S A m (xs.take m) := by
  refine ⟨by rw [List.length_take, h.1]; omega, Nat.le_trans hm h.2.1, ?_⟩
  rcases h.2.2 with h0 | ⟨g, o, hA, hg, hlt, hc⟩
  · exact .inl (by omega)
  · exact .inr ⟨g, o, hA, hg, hlt, fun i x hx => hc i x (by
      rw [List.getElem?_take] at hx
      split at hx
      · exact hx
      · cases hx)⟩
/-- All but the first ones. -/
theorem Rw.drop {g o : Nat} (h : Rw k w S (some ⟨g, o, none⟩) n xs) (m : Nat) (hm : m ≤ n) : Rw k w S (some ⟨g, o + m * k.sz, none⟩) (n - m) (xs.drop m) := by
  refine ⟨by rw [List.length_drop, h.1], by have := h.2.1; omega, ?_⟩
  rcases h.2.2 with h0 | ⟨g', o', hA, hg, hlt, hc⟩
  · exact .inl (by omega)
  · injection hA with hA; injection hA with h1 h2; subst h1 h2
    refine .inr ⟨g, _, rfl, hg, hlt, fun i x hx => ?_⟩
    obtain ⟨cs, h1, h2⟩ := hc (m + i) x (by rw [List.getElem?_drop] at hx; exact hx)
    exact ⟨cs, h1, fun j v hv => by rw [show o + m * k.sz + i * k.sz + j = o + (m + i) * k.sz + j from by rw [Nat.add_mul]; omega]; exact h2 j v hv⟩
end

/-! ### the kinds -/
def kInt (ik : IntKind) : Kd Int where
  sz := 1
  K := fun _ _ x cs => cs = [.int ik x] ∧ (Lit.int ik x).wf = true
  len := fun h => by rw [h.1]; rfl
  one := fun h u hu => by rw [h.1] at hu; simp at hu; subst hu; rfl
  stay := fun _ h => h
  mono := fun _ h => h
  bound := fun h => h
def kByte : Kd Nat where
  sz := 1
  K := fun _ _ x cs => cs = [V8 x] ∧ x < 256
  len := fun h => by rw [h.1]; rfl
  one := fun h u hu => by rw [h.1] at hu; simp at hu; subst hu; rfl
  stay := fun _ h => h
  mono := fun _ h => h
  bound := fun h => h
def kBool : Kd Bool where
  sz := 1
  K := fun _ _ x cs => cs = [.bool x]
  len := fun h => by rw [h]; rfl
  one := fun h u hu => by rw [h] at hu; simp at hu; subst hu; rfl
  stay := fun _ h => h
  mono := fun _ h => h
  bound := fun h => h
def kStr : Kd ByteArray where
  sz := 1
  K := fun _ _ x cs => cs = [.string x] ∧ x.size ≤ M63
  len := fun h => by rw [h.1]; rfl
  one := fun h u hu => by rw [h.1] at hu; simp at hu; subst hu; rfl
  stay := fun _ h => h
  mono := fun _ h => h
  bound := fun h => h
def kSlice {α : Type} (k : Kd α) : Kd (List α) where
  sz := 1
  K := fun w S xs cs => ∃ A c, cs = [.slice A xs.length c] ∧ xs.length ≤ c ∧ c ≤ M63 ∧ (A = none → c = 0) ∧ Rw k w S A xs.length xs
  len := fun ⟨_, _, h, _⟩ => by rw [h]; rfl
  one := fun ⟨_, _, h, _⟩ u hu => by rw [h] at hu; simp at hu; subst hu; rfl
  stay := fun hs ⟨A, c, h1, h2, h3, h0, h4⟩ => ⟨A, c, h1, h2, h3, h0, h4.stay hs⟩
  mono := fun hs ⟨A, c, h1, h2, h3, h0, h4⟩ => ⟨A, c, h1, h2, h3, h0, h4.mono hs⟩
  bound := fun ⟨A, c, h1, h2, h3, h0, h4⟩ => ⟨A, c, h1, h2, h3, h0, h4.bound⟩
def kPair {α β : Type} (a : Kd α) (b : Kd β) : Kd (α × β) where
  sz := a.sz + b.sz
  K := fun w S x cs => ∃ ca cb, cs = ca ++ cb ∧ a.K w S x.1 ca ∧ b.K w S x.2 cb
  len := fun ⟨ca, cb, h, h1, h2⟩ => by rw [h, List.length_append, a.len h1, b.len h2]
  one := fun ⟨ca, cb, h, h1, h2⟩ u hu => by
    rw [h] at hu
    rcases List.mem_append.1 hu with hu | hu
    · exact a.one h1 u hu
    · exact b.one h2 u hu
  stay := fun hs ⟨ca, cb, h, h1, h2⟩ => ⟨ca, cb, h, a.stay hs h1, b.stay hs h2⟩
  mono := fun hs ⟨ca, cb, h, h1, h2⟩ => ⟨ca, cb, h, a.mono hs h1, b.mono hs h2⟩
  bound := fun ⟨ca, cb, h, h1, h2⟩ => ⟨ca, cb, h, a.bound h1, b.bound h2⟩
def kIso {α β : Type} (a : Kd α) (f : β → α) : Kd β where
  sz := a.sz
  K := fun w S x cs => a.K w S (f x) cs
  len := a.len
  one := a.one
  stay := a.stay
  mono := a.mono
  bound := a.bound

/-! ### out of what the law's arguments read as -/
section
open Go.ChangeShapes Go.WideShapes Go.ChangeAt
variable {H : Type} {enc : TypeId × Value → H} {P : Program} {w : World}
/-- Whatever a type's cells read as, it is of the kind. -/
def Opens (H : Type) (enc : TypeId × Value → H) (P : Program) (w : World) {α : Type} (k : Kd α) (t : TypeId) : Prop :=
  ∀ (fuel : Nat) (cs : List Value) (y : DataW H × List MemPlace), DataW.trod enc P w 0 (fun _ => true) true fuel t cs = some y → ∃ x, k.K w (All w) x cs
theorem opens_int {t : TypeId} {ik : IntKind} (ht : P.underlying t = some (.int ik)) : Opens H enc P w (kInt ik) t := fun fuel cs y h => by
  obtain ⟨z, h1, _, h3⟩ := DataW.trod_int ht h
  exact ⟨z, h1, h3⟩
theorem opens_str {t : TypeId} (ht : P.underlying t = some .string) : Opens H enc P w kStr t := fun fuel cs y h => by
  obtain ⟨z, h1, _, h3⟩ := DataW.trod_string ht h
  exact ⟨z, h1, by simpa only [maxLen] using h3⟩
theorem cells?_spot {b : Nat} {a : Addr} {n : Nat} {cs : List Value} (h : w.cells? b a n = some cs) (hn : 0 < n) : a.spot = none := by
  obtain ⟨_, hl, hat⟩ := World.cells?_some h
  obtain ⟨v, hv⟩ : ∃ v, cs[0]? = some v := ⟨_, List.getElem?_eq_getElem (by omega)⟩
  have h1 := hat 0 hn
  rw [hv, Addr.add_zero'] at h1
  unfold World.cell? at h1
  split at h1
  · split at h1
    · cases h1
    · rename_i hs
      cases hq : a.spot with
      | none => rfl
      | some q => rw [hq] at hs; simp at hs
  · cases h1
theorem opens_slice {α : Type} {k : Kd α} {t e : TypeId} (ht : P.underlying t = some (.slice e)) (he : Opens H enc P w k e) (hc : P.cellsOf e = k.sz) (hpos : 0 < k.sz) : Opens H enc P w (kSlice k) t := fun fuel cs y h => by
  rcases DataW.trod_slice ht h with ⟨rfl, _⟩ | ⟨a, len, cap, elems, rest, m, _, rfl, _, _, hl, hm, _, hel, _, _⟩
  · exact ⟨[], none, 0, rfl, by simp, by simp, fun _ => rfl, Rw.nil _ _ _ _⟩
  · simp only [maxLen] at hm
    have hsp' : 0 < len → a.spot = none := fun h0 => by
      have h1 := hel 0 h0
      obtain ⟨ys, hys⟩ : ∃ ys, elems[0]? = some ys := ⟨_, List.getElem?_eq_getElem (by omega)⟩
      rw [hys, Nat.zero_mul, Addr.add_zero'] at h1
      obtain ⟨cs, h2, h3⟩ := Option.bind_eq_some_iff.1 h1
      exact cells?_spot h2 (by omega)
    have each : ∀ i, i < len → ∃ x cs, k.K w (All w) x cs ∧ a.spot = none ∧ a.block < w.heap.size ∧ ∀ j v, cs[j]? = some v → w.cell? ⟨a.block, a.off + i * k.sz + j, none⟩ = some v := by
      intro i hi
      have h1 := hel i hi
      obtain ⟨ys, hys⟩ : ∃ ys, elems[i]? = some ys := ⟨_, List.getElem?_eq_getElem (by omega)⟩
      rw [hys] at h1
      obtain ⟨cs, h2, h3⟩ := Option.bind_eq_some_iff.1 h1
      obtain ⟨x, hx⟩ := he _ _ _ h3
      have hsp' : a.spot = none := hsp' (by omega)
      obtain ⟨_, hcl, hat⟩ := World.cells?_some h2
      have hcell : ∀ j v, cs[j]? = some v → w.cell? ⟨a.block, a.off + i * k.sz + j, none⟩ = some v := by
        intro j v hv
        have hj : j < P.cellsOf e := by rw [← hcl]; exact (List.getElem?_eq_some_iff.1 hv).1
        have := hat j hj
        rw [hv] at this
        have ea : (a.add (i * P.cellsOf e)).add j = ⟨a.block, a.off + i * k.sz + j, none⟩ := by
          rw [hc]
          obtain ⟨b, o, s⟩ := a
          simp only at hsp'
          subst hsp'
          rw [addr_add, addr_add]
        rwa [ea] at this
      refine ⟨x, cs, hx, hsp', ?_, hcell⟩
      obtain ⟨v, hv⟩ : ∃ v, cs[0]? = some v := ⟨_, List.getElem?_eq_getElem (by rw [hcl, hc]; exact hpos)⟩
      exact World.block_lt_of_cell? w ⟨a.block, a.off + i * k.sz + 0, none⟩ (hcell 0 v hv)
    have build : ∀ m, m ≤ len → ∃ xs : List α, xs.length = m ∧ ∀ i x, xs[i]? = some x → ∃ cs, k.K w (All w) x cs ∧ ∀ j v, cs[j]? = some v → w.cell? ⟨a.block, a.off + i * k.sz + j, none⟩ = some v := by
      intro m
      induction m with
      | zero => intro _; exact ⟨[], rfl, fun i x hx => by simp at hx⟩
      | succ m ih =>
        intro hm
        obtain ⟨xs, hxl, hxs⟩ := ih (by omega)
        obtain ⟨x, cs, h1, _, _, h2⟩ := each m (by omega)
        refine ⟨xs ++ [x], by simp [hxl], fun i y hy => ?_⟩
        by_cases hi : i < m
        · rw [List.getElem?_append_left (by omega)] at hy
          exact hxs i y hy
        · rw [List.getElem?_append_right (by omega)] at hy
          have : i = m := by
            have := (List.getElem?_eq_some_iff.1 hy).1
            simp at this; omega
          subst this
          rw [hxl, Nat.sub_self] at hy
          simp at hy
          subst hy
          exact ⟨cs, h1, h2⟩
    obtain ⟨xs, hxl, hxs⟩ := build len (Nat.le_refl _)
    refine ⟨xs, some a, cap, by rw [hxl], by omega, hm, fun h => (by cases h), hxl ▸ rfl, by show xs.length ≤ 9223372036854775807; omega, ?_⟩
    by_cases h0 : len = 0
    · exact .inl (by omega)
    · obtain ⟨_, _, _, hsp, hlt, _⟩ := each 0 (by omega)
      refine .inr ⟨a.block, a.off, ?_, hlt, hlt, hxs⟩
      obtain ⟨b, o, s⟩ := a
      simp only at hsp
      subst hsp
      rfl
end
/-! ### as the elder texts have it -/
theorem Rw.sl_int {ik : IntKind} {w : World} {A : Option Addr} {n : Nat} {xs : List Int} (h : Rw (kInt ik) w (All w) A n xs) : Sl w (Value.int ik) A n xs := by
  refine ⟨h.1, h.2.1, fun i x hx => ?_⟩
  rcases h.2.2 with h0 | ⟨g, o, hA, hg, hlt, hc⟩
  · have := (List.getElem?_eq_some_iff.1 hx).1; have := h.1; omega
  · obtain ⟨cs, ⟨rfl, _⟩, h2⟩ := hc i x hx
    refine ⟨_, hA, hlt, ?_⟩
    have := h2 0 _ rfl
    rw [show o + i * (kInt ik).sz + 0 = o + i from by show o + i * 1 + 0 = _; omega] at this
    rw [addr_add]
    exact this
theorem Rw.wf_int {ik : IntKind} {w : World} {S : Nat → Prop} {A : Option Addr} {n : Nat} {xs : List Int} (h : Rw (kInt ik) w S A n xs) : ∀ x ∈ xs, (Lit.int ik x).wf = true := fun x hx => by
  obtain ⟨i, hi, rfl⟩ := List.mem_iff_getElem.1 hx
  obtain ⟨_, _, _, _, _, _, h1, _⟩ := h.at_ hi
  exact h1.2
theorem Rw.sl_byte {w : World} {A : Option Addr} {n : Nat} {xs : List Nat} (h : Rw kByte w (All w) A n xs) : Sl w V8 A n xs := by
  refine ⟨h.1, h.2.1, fun i x hx => ?_⟩
  rcases h.2.2 with h0 | ⟨g, o, hA, hg, hlt, hc⟩
  · have := (List.getElem?_eq_some_iff.1 hx).1; have := h.1; omega
  · obtain ⟨cs, ⟨rfl, _⟩, h2⟩ := hc i x hx
    refine ⟨_, hA, hlt, ?_⟩
    have := h2 0 _ rfl
    rw [show o + i * kByte.sz + 0 = o + i from by show o + i * 1 + 0 = _; omega] at this
    rw [addr_add]
    exact this
theorem Rw.lt_byte {w : World} {S : Nat → Prop} {A : Option Addr} {n : Nat} {xs : List Nat} (h : Rw kByte w S A n xs) : ∀ x ∈ xs, x < 256 := fun x hx => by
  obtain ⟨i, hi, rfl⟩ := List.mem_iff_getElem.1 hx
  obtain ⟨_, _, _, _, _, _, h1, _⟩ := h.at_ hi
  exact h1.2
end Go.Proofs.YtbamhiegabeicaaGreat.Kind

