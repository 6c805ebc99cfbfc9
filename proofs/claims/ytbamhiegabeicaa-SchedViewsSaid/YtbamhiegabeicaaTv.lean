/- SchedViews. -/
import Derived.Test.YtbamhiegabeicaaTa
import Derived.Test.YtbamhiegabeicaaTc
namespace Go.Proofs.Ytbamhiegabeicaa.Mem
open Go.RowKit
theorem range_below {W w : World} {g o : Nat} {cs : List Value} (h : Below W.heap.size W w) (hg : g < W.heap.size) (hr : W.rangeAt g o cs) : w.rangeAt g o cs := fun j v hv => by
  rw [h.cell (p := ⟨g, o + j, none⟩) hg]
  exact hr j v hv
end Go.Proofs.Ytbamhiegabeicaa.Mem
namespace Go.Proofs.Ytbamhiegabeicaa.Db
open Go.RowKit Go.Proofs.Ytbamhiegabeicaa.Mem Go.Proofs.Ytbamhiegabeicaa.Open Go.Proofs.Ytbamhiegabeicaa.Kind Go.Proofs.Ytbamhiegabeicaa.Blk
theorem writes_any (d g : Nat) (s : Dv) (w : World) (hd : Dev w d g s) :
    Calls Try.prog 13 #[.pointer (some ⟨d, 0, none⟩)] w fun e w' => e = .returned (.int .i64 s.wr) ∧ w' = w := by
  obtain ⟨c0, c1, c2, c3, c4, c5⟩ := dev_cells hd
  clear hd
  go_enter Try.func13, Try.ntmps13
  go_wp2
  go_ret
  exact ⟨rfl, rfl⟩
end Go.Proofs.Ytbamhiegabeicaa.Db
namespace Go.Proofs.Ytbamhiegabeicaa.Mem
open Go.RowKit
section
theorem u8_nats (xs : List Int) (h : ∀ x ∈ xs, (Lit.int .u8 x).wf = true) : ∃ l : List Nat, xs = l.map (fun n : Nat => (n : Int)) ∧ ∀ x ∈ l, x < 256 := by
  have hb : ∀ x ∈ xs, 0 ≤ x ∧ x ≤ 255 := by
    intro x hx
    have := h x hx
    simp [Lit.wf, IntKind.min, IntKind.max, IntKind.signed, IntKind.bits] at this
    omega
  refine ⟨xs.map Int.toNat, ?_, ?_⟩
  · rw [List.map_map]
    conv => lhs; rw [← List.map_id xs]
    apply List.map_congr_left
    intro x hx
    have := hb x hx
    simp
    omega
  · intro x hx
    obtain ⟨y, hy, rfl⟩ := List.mem_map.1 hx
    have := hb y hy
    omega
end
end Go.Proofs.Ytbamhiegabeicaa.Mem
namespace Go.Proofs.Ytbamhiegabeicaa.Kind
open Go.RowKit Go.Proofs.Ytbamhiegabeicaa.Mem Go.Proofs.Ytbamhiegabeicaa.Open
open Go.ChangeShapes Go.WideShapes Go.ChangeAt
section
variable {H : Type} {enc : TypeId × Value → H} {P : Program} {w : World}
theorem opens_int {t : TypeId} {ik : IntKind} (ht : P.underlying t = some (.int ik)) : Opens H enc P w (kInt ik) t := fun fuel cs y h => by
  obtain ⟨z, h1, _, h3⟩ := DataW.trod_int ht h
  exact ⟨z, h1, h3⟩
end
end Go.Proofs.Ytbamhiegabeicaa.Kind
namespace Go.Proofs.Ytbamhiegabeicaa.Kind
open Go.RowKit Go.Proofs.Ytbamhiegabeicaa.Mem Go.Proofs.Ytbamhiegabeicaa.Open
open Go.ChangeShapes Go.WideShapes Go.ChangeAt
section
variable {H : Type} {enc : TypeId × Value → H} {P : Program} {w : World}
theorem opens_byte {t : TypeId} (ht : P.underlying t = some (.int .u8)) : Opens H enc P w kByte t := fun fuel cs y h => by
  obtain ⟨z, h1, _, h3⟩ := DataW.trod_int ht h
  obtain ⟨l, hl, hb⟩ := u8_nats [z] (by simpa using h3)
  match l, hl, hb with
  | [m], hl, hb =>
    simp at hl
    subst hl
    exact ⟨m, h1, by simpa using hb⟩
  | [], hl, _ => simp at hl
  | _ :: _ :: _, hl, _ => simp at hl
end
end Go.Proofs.Ytbamhiegabeicaa.Kind
namespace Go.Proofs.Ytbamhiegabeicaa.Kind
open Go.RowKit Go.Proofs.Ytbamhiegabeicaa.Mem Go.Proofs.Ytbamhiegabeicaa.Open
open Go.ChangeShapes Go.WideShapes Go.ChangeAt
section
variable {H : Type} {enc : TypeId × Value → H} {P : Program} {w : World}
theorem cells?_spot {b : Nat} {a : Addr} {n : Nat} {cs : List Value} (h : w.cells? b a n = some cs) (hn : 0 < n) : a.spot = none := by
  obtain ⟨_, hl, hat⟩ := World.cells?_some h
  obtain ⟨v, hv⟩ : ∃ v, cs[0]? = some v := ⟨_, List.getElem?_eq_getElem (by omega)⟩
  have h1 := hat 0 hn
  rw [hv, Addr.add_zero'] at h1
  unfold World.cell? at h1
  split at h1
  · split at h1
    · cases h1
    · rename_i hs
      cases hq : a.spot with
      | none => rfl
      | some q => rw [hq] at hs; simp at hs
  · cases h1
end
end Go.Proofs.Ytbamhiegabeicaa.Kind
namespace Go.Proofs.Ytbamhiegabeicaa.Kind
open Go.RowKit Go.Proofs.Ytbamhiegabeicaa.Mem Go.Proofs.Ytbamhiegabeicaa.Open
open Go.ChangeShapes Go.WideShapes Go.ChangeAt
section
variable {H : Type} {enc : TypeId × Value → H} {P : Program} {w : World}
theorem opens_slice {α : Type} {k : Kd α} {t e : TypeId} (ht : P.underlying t = some (.slice e)) (he : Opens H enc P w k e) (hc : P.cellsOf e = k.sz) (hpos : 0 < k.sz) : Opens H enc P w (kSlice k) t := fun fuel cs y h => by
  rcases DataW.trod_slice ht h with ⟨rfl, _⟩ | ⟨a, len, cap, elems, rest, m, _, rfl, _, _, hl, hm, _, hel, _, _⟩
  · exact ⟨[], none, 0, rfl, by simp, by simp, fun _ => rfl, Rw.nil _ _ _ _⟩
  · simp only [maxLen] at hm
    have hsp' : 0 < len → a.spot = none := fun h0 => by
      have h1 := hel 0 h0
      obtain ⟨ys, hys⟩ : ∃ ys, elems[0]? = some ys := ⟨_, List.getElem?_eq_getElem (by omega)⟩
      rw [hys, Nat.zero_mul, Addr.add_zero'] at h1
      obtain ⟨cs, h2, h3⟩ := Option.bind_eq_some_iff.1 h1
      exact cells?_spot h2 (by omega)
    have each : ∀ i, i < len → ∃ x cs, k.K w (All w) x cs ∧ a.spot = none ∧ a.block < w.heap.size ∧ ∀ j v, cs[j]? = some v → w.cell? ⟨a.block, a.off + i * k.sz + j, none⟩ = some v := by
      intro i hi
      have h1 := hel i hi
      obtain ⟨ys, hys⟩ : ∃ ys, elems[i]? = some ys := ⟨_, List.getElem?_eq_getElem (by omega)⟩
      rw [hys] at h1
      obtain ⟨cs, h2, h3⟩ := Option.bind_eq_some_iff.1 h1
      obtain ⟨x, hx⟩ := he _ _ _ h3
      have hsp' : a.spot = none := hsp' (by omega)
      obtain ⟨_, hcl, hat⟩ := World.cells?_some h2
      have hcell : ∀ j v, cs[j]? = some v → w.cell? ⟨a.block, a.off + i * k.sz + j, none⟩ = some v := by
        intro j v hv
        have hj : j < P.cellsOf e := by rw [← hcl]; exact (List.getElem?_eq_some_iff.1 hv).1
        have := hat j hj
        rw [hv] at this
        have ea : (a.add (i * P.cellsOf e)).add j = ⟨a.block, a.off + i * k.sz + j, none⟩ := by
          rw [hc]
          obtain ⟨b, o, s⟩ := a
          simp only at hsp'
          subst hsp'
          rw [addr_add, addr_add]
        rwa [ea] at this
      refine ⟨x, cs, hx, hsp', ?_, hcell⟩
      obtain ⟨v, hv⟩ : ∃ v, cs[0]? = some v := ⟨_, List.getElem?_eq_getElem (by rw [hcl, hc]; exact hpos)⟩
      exact World.block_lt_of_cell? w ⟨a.block, a.off + i * k.sz + 0, none⟩ (hcell 0 v hv)
    have build : ∀ m, m ≤ len → ∃ xs : List α, xs.length = m ∧ ∀ i x, xs[i]? = some x → ∃ cs, k.K w (All w) x cs ∧ ∀ j v, cs[j]? = some v → w.cell? ⟨a.block, a.off + i * k.sz + j, none⟩ = some v := by
      intro m
      induction m with
      | zero => intro _; exact ⟨[], rfl, fun i x hx => by simp at hx⟩
      | succ m ih =>
        intro hm
        obtain ⟨xs, hxl, hxs⟩ := ih (by omega)
        obtain ⟨x, cs, h1, _, _, h2⟩ := each m (by omega)
        refine ⟨xs ++ [x], by simp [hxl], fun i y hy => ?_⟩
        by_cases hi : i < m
        · rw [List.getElem?_append_left (by omega)] at hy
          exact hxs i y hy
        · rw [List.getElem?_append_right (by omega)] at hy
          have : i = m := by
            have := (List.getElem?_eq_some_iff.1 hy).1
            simp at this; omega
          subst this
          rw [hxl, Nat.sub_self] at hy
          simp at hy
          subst hy
          exact ⟨cs, h1, h2⟩
    obtain ⟨xs, hxl, hxs⟩ := build len (Nat.le_refl _)
    refine ⟨xs, some a, cap, by rw [hxl], by omega, hm, fun h => (by cases h), hxl ▸ rfl, by show xs.length ≤ 9223372036854775807; omega, ?_⟩
    by_cases h0 : len = 0
    · exact .inl (by omega)
    · obtain ⟨_, _, _, hsp, hlt, _⟩ := each 0 (by omega)
      refine .inr ⟨a.block, a.off, ?_, hlt, hlt, hxs⟩
      obtain ⟨b, o, s⟩ := a
      simp only at hsp
      subst hsp
      rfl
end
end Go.Proofs.Ytbamhiegabeicaa.Kind
namespace Go.Proofs.Ytbamhiegabeicaa.Kind
open Go.RowKit Go.Proofs.Ytbamhiegabeicaa.Mem Go.Proofs.Ytbamhiegabeicaa.Open
open Go.ChangeShapes Go.WideShapes Go.ChangeAt
section
variable {H : Type} {enc : TypeId × Value → H} {P : Program} {w : World} {α β : Type} {k : Kd α}
theorem open_slice {t : TypeId} {A : Option Addr} {n c : Nat} {d : DataW H} {p : List MemPlace} (h : DataW.Trod enc P w 0 (fun _ => true) true t (.slice A n c) d p) (ho : Opens H enc P w (kSlice k) t) :
    ∃ xs : List α, n = xs.length ∧ xs.length ≤ c ∧ c ≤ M63 ∧ (A = none → c = 0) ∧ Rw k w (All w) A xs.length xs := by
  obtain ⟨fuel, hf⟩ := h
  obtain ⟨xs, A', c', e, h1, h2, h3, h4⟩ := ho _ _ _ hf
  simp only [Value.cells, List.toList_toArray, List.cons.injEq, Value.slice.injEq, and_true] at e
  obtain ⟨rfl, rfl, rfl⟩ := e
  exact ⟨xs, rfl, h1, h2, h3, h4⟩
end
end Go.Proofs.Ytbamhiegabeicaa.Kind
namespace Go.Proofs.Ytbamhiegabeicaa.Kind
open Go.RowKit Go.Proofs.Ytbamhiegabeicaa.Mem Go.Proofs.Ytbamhiegabeicaa.Open
open Go.ChangeShapes Go.WideShapes Go.ChangeAt
section
variable {H : Type} {enc : TypeId × Value → H} {P : Program} {w : World} {α β : Type} {k : Kd α}
/-- A struct of two fields, one behind the other. -/
theorem opens_pair {a : Kd α} {b : Kd β} {t : TypeId} {f0 f1 : Field} (ht : P.underlying t = some (.struct #[f0, f1])) (ha : Opens H enc P w a f0.type) (hb : Opens H enc P w b f1.type)
    (o0 : f0.offset = 0) (o1 : f1.offset = P.cellsOf f0.type) (hc : P.cellsOf t = P.cellsOf f0.type + P.cellsOf f1.type) : Opens H enc P w (kPair a b) t := fun fuel cs y h => by
  obtain ⟨y0, y1, n, _, hl, h0, h1⟩ := trod_struct2 ht h
  obtain ⟨x0, hx0⟩ := ha _ _ _ h0
  obtain ⟨x1, hx1⟩ := hb _ _ _ h1
  refine ⟨(x0, x1), _, _, ?_, hx0, hx1⟩
  rw [o0, o1, List.drop_zero]
  have : (cs.drop (P.cellsOf f0.type)).take (P.cellsOf f1.type) = cs.drop (P.cellsOf f0.type) := List.take_of_length_le (by rw [List.length_drop]; omega)
  rw [this, List.take_append_drop]
end
end Go.Proofs.Ytbamhiegabeicaa.Kind
namespace Go.Proofs.Ytbamhiegabeicaa.Kind
open Go.RowKit Go.Proofs.Ytbamhiegabeicaa.Mem Go.Proofs.Ytbamhiegabeicaa.Open
open Go.ChangeShapes Go.WideShapes Go.ChangeAt
section
variable {H : Type} {enc : TypeId × Value → H} {P : Program} {w : World} {α β : Type} {k : Kd α}
theorem flds_one {f : Field} {off : Nat} (ho : f.offset = off) (h : Opens H enc P w k f.type) (hc : P.cellsOf f.type = k.sz) : Flds H enc P w k [f] off := fun n cs hf => by
  obtain ⟨y, hy⟩ := hf f List.mem_cons_self
  obtain ⟨x, hx⟩ := h _ _ _ hy
  rw [ho, hc] at hx
  exact ⟨x, hx⟩
end
end Go.Proofs.Ytbamhiegabeicaa.Kind
namespace Go.Proofs.Ytbamhiegabeicaa.Kind
open Go.RowKit Go.Proofs.Ytbamhiegabeicaa.Mem Go.Proofs.Ytbamhiegabeicaa.Open
open Go.ChangeShapes Go.WideShapes Go.ChangeAt
section
variable {H : Type} {enc : TypeId × Value → H} {P : Program} {w : World} {α β : Type} {k : Kd α}
theorem flds_cons {a : Kd α} {b : Kd β} {f : Field} {fs : List Field} {off : Nat} (ho : f.offset = off) (h : Opens H enc P w a f.type) (hc : P.cellsOf f.type = a.sz) (hs : Flds H enc P w b fs (off + a.sz)) : Flds H enc P w (kPair a b) (f :: fs) off := fun n cs hf => by
  obtain ⟨y, hy⟩ := hf f List.mem_cons_self
  obtain ⟨x, hx⟩ := h _ _ _ hy
  obtain ⟨z, hz⟩ := hs n cs (fun g hg => hf g (List.mem_cons_of_mem _ hg))
  rw [ho, hc] at hx
  refine ⟨(x, z), _, _, ?_, hx, hz⟩
  show (cs.drop off).take (a.sz + b.sz) = _
  rw [List.take_add, List.drop_drop]
end
end Go.Proofs.Ytbamhiegabeicaa.Kind
namespace Go.Proofs.Ytbamhiegabeicaa.Kind
open Go.RowKit Go.Proofs.Ytbamhiegabeicaa.Mem Go.Proofs.Ytbamhiegabeicaa.Open
open Go.ChangeShapes Go.WideShapes Go.ChangeAt
section
variable {H : Type} {enc : TypeId × Value → H} {P : Program} {w : World} {α β : Type} {k : Kd α}
theorem opens_struct {t : TypeId} {fs : Array Field} (ht : P.underlying t = some (.struct fs)) (h : Flds H enc P w k fs.toList 0) (hc : P.cellsOf t = k.sz) : Opens H enc P w k t := fun fuel cs y hy => by
  obtain ⟨xs, n, _, _, hl, hlen, hf⟩ := DataW.trod_struct ht hy
  obtain ⟨x, hx⟩ := h n cs (fun f hm => by
    obtain ⟨i, hi, rfl⟩ := List.mem_iff_getElem.1 hm
    have hi2 : i < fs.size := by simpa using hi
    have := hf i fs.toList[i] (by simp [hi2])
    rw [this]
    exact ⟨_, List.getElem?_eq_getElem (by omega)⟩)
  rw [List.drop_zero, ← hc, ← hl, List.take_length] at hx
  exact ⟨x, hx⟩
end
end Go.Proofs.Ytbamhiegabeicaa.Kind
namespace Go.Proofs.Ytbamhiegabeicaa.Pat
open Go.RowKit Go.Proofs.Ytbamhiegabeicaa.Mem Go.Proofs.Ytbamhiegabeicaa.Open Go.Proofs.Ytbamhiegabeicaa.Kind Go.Proofs.Ytbamhiegabeicaa.Blk
section
theorem opens_rpat {H : Type} {enc : TypeId × Value → H} {w : World} : Opens H enc Try.prog w kPat 53 :=
  opens_pair Try.underlying53 (opens_int Try.underlying3) (opens_slice Try.underlying51 (opens_byte Try.underlying5) (by kernel_rfl) (by decide)) rfl (by kernel_rfl) (by kernel_rfl)
end
end Go.Proofs.Ytbamhiegabeicaa.Pat
namespace Go.Proofs.Ytbamhiegabeicaa.Cb
open Go.RowKit Go.Proofs.Ytbamhiegabeicaa.Mem Go.Proofs.Ytbamhiegabeicaa.Open Go.Proofs.Ytbamhiegabeicaa.Kind Go.Proofs.Ytbamhiegabeicaa.Blk Go.Proofs.Ytbamhiegabeicaa.App Go.Proofs.Ytbamhiegabeicaa.Pat Go.Proofs.Ytbamhiegabeicaa.Rd
section
/-- A step's cells are a change's: what is done, where, the patch, the needs. -/
theorem opens_stp {H : Type} {enc : TypeId × Value → H} {w : World} : Opens H enc Try.prog w kChg 56 := by
  have h : Opens H enc Try.prog w (kPair (kInt .i64) (kPair (kInt .i64) (kPair kPat (kSlice (kInt .i64))))) 56 :=
    opens_struct Try.underlying56 (flds_cons rfl (opens_int Try.underlying3) (by kernel_rfl) (flds_cons rfl (opens_int Try.underlying3) (by kernel_rfl) (flds_cons rfl opens_rpat (by kernel_rfl) (flds_one rfl (opens_slice Try.underlying54 (opens_int Try.underlying3) (by kernel_rfl) (by decide)) (by kernel_rfl))))) (by kernel_rfl)
  intro fuel cs y hy
  obtain ⟨⟨x1, x2, ⟨x3, x4⟩, x5⟩, hx⟩ := h fuel cs y hy
  exact ⟨⟨x1, x2, x3, x4, x5⟩, hx⟩
end
end Go.Proofs.Ytbamhiegabeicaa.Cb
namespace Go.Proofs.Ytbamhiegabeicaa.Cb
open Go.RowKit Go.Proofs.Ytbamhiegabeicaa.Mem Go.Proofs.Ytbamhiegabeicaa.Open Go.Proofs.Ytbamhiegabeicaa.Kind Go.Proofs.Ytbamhiegabeicaa.Blk Go.Proofs.Ytbamhiegabeicaa.App Go.Proofs.Ytbamhiegabeicaa.Pat Go.Proofs.Ytbamhiegabeicaa.Rd
section
theorem opens_stps {H : Type} {enc : TypeId × Value → H} {w : World} : Opens H enc Try.prog w (kSlice kChg) 22 :=
  opens_slice Try.underlying22 opens_stp (by kernel_rfl) (by decide)
end
end Go.Proofs.Ytbamhiegabeicaa.Cb
namespace Go.Proofs.Ytbamhiegabeicaa.Cb
open Go.RowKit Go.Proofs.Ytbamhiegabeicaa.Mem Go.Proofs.Ytbamhiegabeicaa.Open Go.Proofs.Ytbamhiegabeicaa.Kind Go.Proofs.Ytbamhiegabeicaa.Blk Go.Proofs.Ytbamhiegabeicaa.App Go.Proofs.Ytbamhiegabeicaa.Pat Go.Proofs.Ytbamhiegabeicaa.Rd
open Go.Proofs.Ytbamhiegabeicaa.Db (Dv Dev Asd Bks)
set_option linter.unusedVariables false
set_option linter.unusedSimpArgs false
/-- What is wanted of the first blocks is what is seen of them. -/
def WtN (q : Nat) (W : List (List Nat)) (s : St) : Prop := W.length = 16 ∧ ∀ i : Nat, i < q → W[i]? = some (seen s i)
theorem WtN.new (s : St) : WtN 0 (List.replicate 16 zblk) s := ⟨List.length_replicate, fun i hi => by omega⟩
theorem WtN.same {q : Nat} {W : List (List Nat)} {s t : St} (h : WtN q W s) (hs : ∀ i : Nat, seen t i = seen s i) : WtN q W t := ⟨h.1, fun i hi => by rw [hs i]; exact h.2 i hi⟩
theorem WtN.next {q : Nat} {W : List (List Nat)} {s t : St} (h : WtN q W s) (hq : q < 16) {L : List Nat} (hL : seen s q = L) (hs : ∀ i : Nat, seen t i = seen s i) : WtN (q + 1) (W.set q L) t :=
  ⟨by rw [List.length_set]; exact h.1, fun i hi => by
    have hl := h.1
    rw [List.getElem?_set, hs i]
    by_cases e : q = i
    · subst e
      rw [if_pos rfl, if_pos (by omega), hL]
    · rw [if_neg e]
      exact h.2 i (by omega)⟩
theorem flS_wr (s : St) (no : Int) : (flS s no).dv.wr ≤ s.dv.wr + 1 := by
  have h : ∀ x, (Db.wrS s.dv no x).wr ≤ s.dv.wr + 1 := fun x => by
    unfold Db.wrS
    split
    · omega
    · split
      · show s.dv.wr ≤ _; omega
      · split
        · exact Int.le_refl _
        · exact Int.le_refl _
  unfold flS
  split
  · split
    · exact h _
    · exact h _
  · omega
theorem Lit.st {s : St} (h : Lit s) (hi : Inv s) (x : Nat) : stE s x = 0 ∧ Lit (stS s x) ∧ Inv (stS s x) ∧ (stS s x).dv.wr ≤ s.dv.wr + 1 ∧ (stS s x).dv.rd = s.dv.rd ∧ ∀ i : Nat, seen (stS s x) i = seen s i := by
  unfold stE stS
  by_cases q : atS s x < 0
  · rw [if_pos q, if_pos q]
    exact ⟨rfl, h, hi, by omega, rfl, fun i => rfl⟩
  · rw [if_neg q, if_neg q]
    exact ⟨h.flE hi _, h.flS _, flS_inv hi _, flS_wr s _, (flS_rd s _).1, fun i => seen_flS hi _ (by omega)⟩
theorem u64_at {w : World} {A : Option Addr} {ws : List Int} (h : Rw (kInt .u64) w (All w) A ws.length ws) (k : Nat) (hk : k < ws.length) : ∃ (g o x : Nat), A = some ⟨g, o, none⟩ ∧ g < w.heap.size ∧ x < 18446744073709551616 ∧ ws[k] = (x : Int) ∧ w.cell? ⟨g, o + k, none⟩ = some (.int .u64 (x : Int)) := by
  obtain ⟨g, o, cs, hA, _, hg, ⟨hcs, hwf⟩, hc⟩ := h.at_ hk
  have hb : 0 ≤ ws[k] ∧ ws[k] < 18446744073709551616 := by
    have := hwf
    simp [Lit.wf, IntKind.min, IntKind.max, IntKind.signed, IntKind.bits] at this
    omega
  have h0 := hc 0 _ (by rw [hcs]; rfl)
  rw [show o + k * (kInt .u64).sz + 0 = o + k from by show o + k * 1 + 0 = _; omega] at h0
  refine ⟨g, o, ws[k].toNat, hA, hg, by omega, by omega, ?_⟩
  rw [Int.toNat_of_nonneg hb.1]
  exact h0
set_option maxHeartbeats 4000000 in
set_option maxRecDepth 100000 in
theorem views_walk13 (A : Option Addr) (n : Nat) (xs : List Chg) (A1 : Option Addr) (c1 : Nat) (ws : List Int) (w : World) (hx : Chs w A xs) (hA : A = none → n = 0) (hw : Rw (kInt .u64) w (All w) A1 ws.length ws) :
    Calls Try.prog 4 #[.slice A xs.length n, .slice A1 ws.length c1] w fun e w' => e = .returned (.bool true) ∧ Below w.heap.size w w' := by
  have hz : (blk zblk).size = 256 := zblk_size
  have CM := Lib.hid (muchT_any A n xs 16 w hx (by omega))
  have hl9 : xs.length ≤ 9223372036854775807 := hx.2.1
  cases hm : muchT xs 16 with
  | true =>
    rw [hm] at CM
    go_enter Try.func4, Try.ntmps4
    go_wp2_with fail
    refine CM.out.mono ?_
    rintro e w1 ⟨rfl, hb1⟩
    go_wp2_with fail
    refine (works13 _).mono ?_
    rintro e w2 ⟨rfl, hb2⟩
    go_wp2
    go_ret
    exact ⟨rfl, hb1.trans (hb2.mono hb1.size)⟩
  | false =>
    obtain ⟨hl16, hsm⟩ := muchT_no hm
    have CB := Lib.hid (fun w' h' => Begin_any A n xs w' h' (by omega) hsm)
    rw [hm] at CM
    have hwl : ws.length ≤ 9223372036854775807 := hw.2.1
    go_enter Try.func4, Try.ntmps4
    go_wp2_with fail
    refine CM.out.mono ?_
    rintro e w1 ⟨rfl, hb1⟩
    have HB1 := Lib.hid hb1
    have C1 := Lib.hid (CB.out w1 (hx.below hb1))
    clear hb1 CM CB
    by_cases hw16 : 16 < ws.length
    · go_wp2_with fail
      refine (works13 _).mono ?_
      rintro e w2 ⟨rfl, hb2⟩
      go_wp2
      go_ret
      exact ⟨rfl, HB1.out.trans (hb2.mono HB1.out.size)⟩
    go_wp2_with fail
    refine C1.out.mono ?_
    rintro e w2 ⟨c, d, g, b, N, X, v, S, ⟨AB, cB, AL, cL, AK, cK⟩, rfl, hc2, hi2, hrd, hls, hbd, -, -, hb2⟩
    have hs1 := HB1.out.size
    have hs2 := hb2.size
    have hb3 : Below w2.heap.size w2 (w2.alloc (.cells (rcP ⟨AB, cB, AL, cL, AK, cK⟩ S) 31)) := bb0 _ _
    have HC3 := Lib.hid (hc2.below hb3)
    have HB3 := Lib.hid ((HB1.out.trans (hb2.mono hs1)).trans (hb3.mono (by omega)))
    have HBD0 : Hid (Bd w.heap.size c d g b N) := Lib.hid ⟨by have := hbd.c; omega, by have := hbd.d; omega, by have := hbd.g; omega, by have := hbd.b; omega, fun k hk => hbd.n k (by omega)⟩
    have CU := Lib.hid (Db.up_any d g S.dv _ HC3.out.dev)
    have HI2 := Lib.hid hi2
    clear hc2 hi2 hbd hb2 hb3 C1
    go_wp2_with fail
    refine CU.out.mono ?_
    rintro e w5 ⟨rfl, hd5, ha5⟩
    have HC5 := Lib.hid (HC3.out.dev' ha5 hd5 (Nat.le_refl _) (fun _ => rfl))
    have HB5 := Lib.hid (Tn.bel HB3.out (HC3.out.tnd ha5) HBD0.out)
    have HI5 := Lib.hid (dv_inv HI2.out (dv := { S.dv with fuse := 0, lit := false, off := false }) rfl rfl rfl (up_ok HI2.out.ok))
    have HL5 : Hid (Lit { S with dv := { S.dv with fuse := 0, lit := false, off := false } } ∧ ({ S with dv := { S.dv with fuse := 0, lit := false, off := false } } : St).dv.rd ≤ 16) := Lib.hid ⟨⟨rfl, rfl⟩, by show S.dv.rd ≤ 16; omega⟩
    clear hd5 ha5 CU HC3 HB3 HI2 hrd hls
    obtain ⟨s, hs⟩ : ∃ s, { S with dv := { S.dv with fuse := 0, lit := false, off := false } } = s := ⟨_, rfl⟩
    rw [hs] at HC5 HI5 HL5
    clear hs
    have b4 : Below w5.heap.size w5 (w5.alloc (.cells (blk (List.replicate 4096 0)) 43)) := bb0 _ _
    have hc6 := HC5.out.grow b4
    obtain ⟨N1, hN⟩ : ∃ N1 : Nat → Prop, N1 = fun j => N j ∨ (w5.heap.size ≤ j ∧ j < (w5.alloc (.cells (blk (List.replicate 4096 0)) 43)).heap.size) := ⟨_, rfl⟩
    rw [← hN] at hc6
    have FK : Far N1 c d g b w5.heap.size := ⟨by rw [hN]; exact .inr ⟨Nat.le_refl _, by simp⟩, by have := HC5.out.row.lt; omega, by have := HC5.out.dev.1.lt; omega, by have := HC5.out.dev.2.1.2.2; omega, by have := HC5.out.map.lt; omega⟩
    have HBD : Hid (Bd w.heap.size c d g b N1) := Lib.hid (by rw [hN]; exact HBD0.out.or)
    have HBK := Lib.hid (bks_arr w5 43)
    have HB6 := Lib.hid (HB5.out.trans (b4.mono HB5.out.size))
    have HC6 := Lib.hid hc6
    obtain ⟨kw, hkw⟩ : ∃ kw, w5.heap.size = kw := ⟨_, rfl⟩
    rw [hkw] at HBK FK
    have hkwB : w.heap.size ≤ kw := by have := HB5.out.size; omega
    have HW := Lib.hid hw
    clear b4 hc6 hN HC5 HB5 HBD0 hw
    go_wp2_with (with_reducible refine wpList_allocA rfl 43 rfl _ arrZero ?_)
    go_loopw [9] (fun i wr => ∃ (q : Nat) (v : Value) (S : St) (W : List (List Nat)), q ≤ 16 ∧ i = .int .i64 q ∧ Ca wr c d g b N1 v S ∧ Hid (Inv S) ∧ Hid (Lit S ∧ S.dv.rd ≤ 16 + q) ∧ Bks wr kw W ∧ Hid (WtN q W S) ∧ Below w.heap.size w wr) (fun i _ => 16 - (intOf i).toNat)
    case atStart => exact ⟨0, v, s, _, by omega, rfl, HC6.out, HI5, HL5, HBK.out, Lib.hid (WtN.new s), HB6.out⟩
    case round =>
      obtain ⟨q, v, S, W, hq, rfl, hc, HIS, HRD, hbk, HWT, hbr⟩ := hrel
      by_cases hlt : q < 16
      · have hE := kE_in HIS.out hlt HRD.out.1.2
        have CG := Get_any (q : Int) ((wf_iff _).2 ⟨by omega, by omega⟩) c d g b N1 v S wr hc HIS.out
        rw [hE, gV_seen hE] at CG
        have HI2 := Lib.hid (kS_inv HIS.out (q : Int) (by have := HRD.out.2; omega))
        have HRD2 : Hid (Lit (kS S q) ∧ (kS S q).dv.rd ≤ 16 + ((q + 1 : Nat) : Int)) := Lib.hid ⟨HRD.out.1.kS _, by have h1 := HRD.out.2; have h2 := (kS_rd S q).1; omega⟩
        have hfl : (seen S q).length = 256 := seen_len HIS.out _
        have HW2 : Hid (WtN (q + 1) (W.set q (seen S q)) (kS S q)) := Lib.hid (HWT.out.next hlt rfl (fun i => seen_kS S q i))
        have hWl := HWT.out.1
        generalize kS S q = S2 at *
        generalize seen S q = L at *
        have HCG := Lib.hid CG
        have HBK := Lib.hid hbk
        have HBR := Lib.hid hbr
        clear CG hc hbk hbr hE
        go_wp2_with fail
        refine HCG.out.mono ?_
        rintro e w6 ⟨rfl, hc6, ht6⟩
        obtain ⟨⟨q1, q2, q3⟩⟩ : Nonempty (_ ∧ _ ∧ _) := ⟨boxed w6 42 (blk zblk) (blk L)⟩
        have b1 := heap_alloc_new w6 (.cells (blk zblk) 42)
        have hB6 := Tn.bel HBR.out ht6 HBD.out
        have hbk6 := Bks.tn HBK.out ht6 FK
        have HC7 := Lib.hid (hc6.below q2)
        have HBK7 := Lib.hid (Bks.below hbk6 q2)
        have HB7 := Lib.hid (hB6.trans (q2.mono hB6.size))
        have k7 := q1
        have hsX : (blk L).size = 256 := by rw [blk_size, hfl]
        have hth : ((w6.alloc (.cells (blk zblk) 42)).setRow w6.heap.size (blk L)).there kw (q * 256) (blk L).size := fun j hj => by rw [hsX] at hj; have h := HBK7.out.2.1 (q * 256 + j) (by rw [hWl]; omega); rwa [Nat.zero_add] at h
        have hi : (Try.prog.info? 42).map (·.size) = some (blk L).size := by rw [hsX]; exact blkSize
        clear q1 q2 q3 hc6 ht6 hB6 hbk6 HCG HBR HBK
        go_wp2_with (first
          | (with_reducible refine wpList_allocA rfl 42 rfl _ blkZero ?_)
          | (with_reducible refine wpList_store rfl 42 _ _ rfl _ rfl (blk L) rfl (blk zblk) 42 256 blkSize hsX zblk_size (blk_one _) b1 ?_)
          | (with_reducible refine wpList_load rfl 42 _ rfl _ rfl 42 (blk L) 256 5 blkUnd blkSize hsX k7.out ?_)
          | (with_reducible refine wpList_store_mid rfl 42 _ _ rfl kw (q * 256) (blk L) rfl rfl hth hi (blk_one _) ?_))
        go_roundw
        case rel => exact ⟨q + 1, v, S2, W.set q L, by omega, by go_num, HC7.out.setCells FK _ _, HI2, HRD2, HBK7.out.store hfl (by omega), HW2, below_setCells HB7.out hkwB _ _⟩
        case measure => simp [intOf]; omega
      · obtain rfl : q = 16 := by omega
        clear HC6 HI5 HL5 HBK HB6
        go_wp2_with fail
        go_loopw [12] (fun i wr => ∃ (k : Nat) (v : Value) (S : St), k ≤ ws.length ∧ i = .int .i64 k ∧ Ca wr c d g b N1 v S ∧ Hid (Inv S) ∧ Hid (Lit S ∧ S.dv.rd ≤ 32) ∧ Bks wr kw W ∧ Hid (WtN 16 W S) ∧ Below w.heap.size w wr) (fun i _ => ws.length - (intOf i).toNat)
        case atStart => exact ⟨0, v, S, by omega, rfl, hc, HIS, Lib.hid ⟨HRD.out.1, by have := HRD.out.2; omega⟩, hbk, HWT, hbr⟩
        case round =>
          clear hc HIS HRD hbk HWT hbr
          obtain ⟨k, v, S, hk, rfl, hc, HIS, HRD, hbk, HWT, hbr⟩ := hrel
          by_cases hlt : k < ws.length
          · obtain ⟨gx, ox, x, rfl, hgx, hx64, -, hcx⟩ := u64_at (HW.out.below hbr) k hlt
            obtain ⟨hE, hL2, hI2, hwr, hrd, hsn⟩ := HRD.out.1.st HIS.out x
            have CW1 := Lib.hid (Db.writes_any d g S.dv wr hc.dev)
            have CST := Step_any x hx64 c d g b N1 v S wr hc HIS.out
            rw [hE] at CST
            have HST := Lib.hid CST
            have HI2 := Lib.hid hI2
            have HRD2 : Hid (Lit (stS S x) ∧ (stS S x).dv.rd ≤ 32) := Lib.hid ⟨hL2, by rw [hrd]; exact HRD.out.2⟩
            have HW2 : Hid (WtN 16 W (stS S x)) := Lib.hid (HWT.out.same hsn)
            have HBK := Lib.hid hbk
            have HBR := Lib.hid hbr
            obtain ⟨p1, hp1⟩ : ∃ p : Nat, S.dv.wr = (p : Int) := ⟨S.dv.wr.toNat, by have := HIS.out.ok.2.1; omega⟩
            obtain ⟨p2, hp2⟩ : ∃ p : Nat, (stS S x).dv.wr = (p : Int) := ⟨(stS S x).dv.wr.toNat, by have := hI2.ok.2.1; omega⟩
            have hp3 : p1 ≤ 1000000 := by have := HIS.out.ok.2.2.1; omega
            have hp4 : p2 ≤ p1 + 1 := by omega
            have hp5 : ¬ p1 + 1 < p2 := by omega
            rw [hp1] at CW1
            generalize stS S x = S2 at *
            generalize stN S x = M2 at *
            clear hc hbk hbr CST hE hL2 hI2 hwr hrd hsn hp1
            go_wp2_with fail
            refine CW1.out.mono ?_
            rintro e w6 ⟨rfl, rfl⟩
            go_wp2_with fail
            refine HST.out.mono ?_
            rintro e w7 ⟨v7, rfl, hc7, ht7⟩
            have CW2 := Lib.hid (Db.writes_any d g S2.dv w7 hc7.dev)
            rw [hp2] at CW2
            have HC7 := Lib.hid hc7
            have HB7 := Lib.hid (Tn.bel HBR.out ht7 HBD.out)
            have HBK7 := Lib.hid (Bks.tn HBK.out ht7 FK)
            clear hc7 ht7 HST CW1 HBK HBR hcx
            go_wp2_with fail
            refine CW2.out.mono ?_
            rintro e w8 ⟨rfl, rfl⟩
            go_wp2
            refine ⟨?_, ?measure⟩
            (repeat apply Exists.intro)
            refine ⟨?rel, rfl⟩
            case rel => exact ⟨k + 1, v7, S2, by omega, by go_num, HC7.out, HI2, HRD2, HBK7.out, HW2, HB7.out⟩
            case measure => simp [intOf]; omega
          · obtain rfl : k = ws.length := by omega
            go_wp2_with fail
            go_loopw [16] (fun i wr => ∃ (q : Nat) (v : Value) (S' : St), q ≤ 16 ∧ i = .int .i64 q ∧ Ca wr c d g b N1 v S' ∧ Hid (Inv S') ∧ Hid (Lit S' ∧ S'.dv.rd ≤ 32 + q) ∧ Bks wr kw W ∧ Hid (WtN 16 W S') ∧ Below w.heap.size w wr) (fun i _ => 16 - (intOf i).toNat)
            case atStart => exact ⟨0, v, S, by omega, rfl, hc, HIS, Lib.hid ⟨HRD.out.1, by have := HRD.out.2; omega⟩, hbk, HWT, hbr⟩
            case round =>
              clear hc HIS HRD hbk HWT hbr
              obtain ⟨q, v, S', hq, rfl, hc, HIS, HRD, hbk, HWT, hbr⟩ := hrel
              by_cases hlt : q < 16
              · have hE := kE_in HIS.out hlt HRD.out.1.2
                have CG := Get_any (q : Int) ((wf_iff _).2 ⟨by omega, by omega⟩) c d g b N1 v S' wr hc HIS.out
                rw [hE, gV_seen hE] at CG
                have HI2 := Lib.hid (kS_inv HIS.out (q : Int) (by have := HRD.out.2; omega))
                have HRD2 : Hid (Lit (kS S' q) ∧ (kS S' q).dv.rd ≤ 32 + ((q + 1 : Nat) : Int)) := Lib.hid ⟨HRD.out.1.kS _, by have h1 := HRD.out.2; have h2 := (kS_rd S' q).1; omega⟩
                have HW2 : Hid (WtN 16 W (kS S' q)) := Lib.hid (HWT.out.same (fun i => seen_kS S' q i))
                have hLg := HWT.out.2 q hlt
                have hfl : (seen S' q).length = 256 := seen_len HIS.out _
                generalize kS S' q = S2 at *
                generalize seen S' q = L at *
                have HCG := Lib.hid CG
                have HBK := Lib.hid hbk
                have HBR := Lib.hid hbr
                clear CG hc hbk hbr hE
                go_wp2_with fail
                refine HCG.out.mono ?_
                rintro e w6 ⟨rfl, hc6, ht6⟩
                obtain ⟨⟨q1, q2, q3⟩⟩ : Nonempty (_ ∧ _ ∧ _) := ⟨boxed w6 42 (blk zblk) (blk L)⟩
                have b1 := heap_alloc_new w6 (.cells (blk zblk) 42)
                have hB6 := Tn.bel HBR.out ht6 HBD.out
                have hbk6 := Bks.tn HBK.out ht6 FK
                have HC7 := Lib.hid (hc6.below q2)
                have HBK7 := Lib.hid (Bks.below hbk6 q2)
                have HB7 := Lib.hid (hB6.trans (q2.mono hB6.size))
                have k7 := q1
                have hsX : (blk L).size = 256 := by rw [blk_size, hfl]
                clear q1 q2 q3 hc6 ht6 hB6 hbk6 HCG HBR HBK
                go_wp2_with (first
                  | (with_reducible refine wpList_allocA rfl 42 rfl _ blkZero ?_)
                  | (with_reducible refine wpList_store rfl 42 _ _ rfl _ rfl (blk L) rfl (blk zblk) 42 256 blkSize hsX zblk_size (blk_one _) b1 ?_))
                clear b1
                generalize (w6.alloc (.cells (blk zblk) 42)).setRow w6.heap.size (blk L) = w7 at *
                have r1 : w7.drew.rangeAt kw (q * 256) (blk L).toList := (HBK7.out.1 q L hLg).2
                have hg7 := HBK7.out.2.2
                have k7d := k7.drew
                have hi : (Try.prog.info? 42).map (·.size) = some (blk L).toList.length := blkSizeL L hfl
                have heq : ∀ w, (Op.equalIn 10000 42 (.agg (blk L)) (.agg (blk L))).run Try.prog w = .ok true w := fun w => by rw [run_eq_blk _ _ hfl hfl, decide_eq_true rfl]
                have hgd := blkGuard
                clear k7 hfl hLg hsX
                refine wp_region_held_drew (S := Go.RowKit.Below ((w7.drew).heap.size) (w7.drew)) (by kernel_rfl) ?hb8 (fun hHeld => ?rest8)
                case hb8 =>
                  exact Go.RowKit.Below.refl _ _
                case' rest8 => skip
                refine Mem.tkY 0 ?v9 (hy := Or.inl ⟨by rfl, ?y9⟩) (hS := by assumption) (h := ?r9)
                case y9 => (intro w hSw; clear hSw; go_simp; try with_reducible rfl)
                case' r9 => skip
                refine Mem.tkY 1 ?v10 (hy := Or.inl ⟨by rfl, ?y10⟩) (hS := by assumption) (h := ?r10)
                case y10 => (intro w hSw; clear hSw; go_simp; try with_reducible rfl)
                case' r10 => skip
                refine Mem.tkY 2 ?v11 (hy := Or.inl ⟨by rfl, ?y11⟩) (hS := by assumption) (h := ?r11)
                case y11 => (intro w hSw; clear hSw; go_simp; try with_reducible rfl)
                case' r11 => skip
                first
                  | refine' wpAnyH_take (i := 3) (v := _) rfl (by kernel_rfl) (by kernel_rfl) (by kernel_rfl) (fun _ _ _ h => h) (yieldsIf_load_mid (by rfl) _ _ rfl _ _ rfl _ _ (fun w hSw => (Mem.bl_row hSw k7d (by first | exact Mem.Row.lt k7d | omega | (simp <;> omega))).range) blkUnd rfl hi) (by assumption) ?rest12
                  | refine wpAnyH_take (i := 3) (v := undef) rfl (by kernel_rfl) (by kernel_rfl) (by kernel_rfl) (fun _ _ _ h => h) (Or.inr ⟨by rfl, rfl⟩) (by assumption) ?rest12
                case' rest12 => skip
                try simp only [List.getElem_toArray, List.getElem_cons_succ, List.getElem_cons_zero, Act.put, List.setIfInBounds_toArray, List.set_cons_zero, List.set_cons_succ]
                try simp only [List.getElem_toArray, List.getElem_cons_succ, List.getElem_cons_zero, Act.put, List.setIfInBounds_toArray, List.set_cons_zero, List.set_cons_succ]
                first | refine Mem.tkY 4 undef (hy := Or.inr ⟨by rfl, rfl⟩) (hS := by assumption) (h := ?r13) | (refine Mem.tkY 4 ?v13 (hy := Or.inl ⟨by rfl, ?y13⟩) (hS := by assumption) (h := ?r13); case y13 => (intro w hSw; clear hSw; go_simp; try with_reducible rfl))
                case' r13 => skip
                try simp only [List.getElem_toArray, List.getElem_cons_succ, List.getElem_cons_zero, Act.put, List.setIfInBounds_toArray, List.set_cons_zero, List.set_cons_succ]
                first | refine Mem.tkY 5 undef (hy := Or.inr ⟨by rfl, rfl⟩) (hS := by assumption) (h := ?r14) | (refine Mem.tkY 5 ?v14 (hy := Or.inl ⟨by rfl, ?y14⟩) (hS := by assumption) (h := ?r14); case y14 => (intro w hSw; clear hSw; go_simp; try with_reducible rfl))
                case' r14 => skip
                first
                  | refine' wpAnyH_take (i := 6) (v := _) rfl (by kernel_rfl) (by kernel_rfl) (by kernel_rfl) (fun _ _ _ h => h) (yieldsIf_load_mid (by rfl) _ _ rfl _ _ rfl _ _ (fun w hSw => Mem.range_below hSw (by first | omega | (simp <;> omega)) r1) blkUnd rfl hi) (by assumption) ?rest15
                  | refine wpAnyH_take (i := 6) (v := undef) rfl (by kernel_rfl) (by kernel_rfl) (by kernel_rfl) (fun _ _ _ h => h) (Or.inr ⟨by rfl, rfl⟩) (by assumption) ?rest15
                case' rest15 => skip
                try simp only [List.getElem_toArray, List.getElem_cons_succ, List.getElem_cons_zero, Act.put, List.setIfInBounds_toArray, List.set_cons_zero, List.set_cons_succ]
                try simp only [List.getElem_toArray, List.getElem_cons_succ, List.getElem_cons_zero, Act.put, List.setIfInBounds_toArray, List.set_cons_zero, List.set_cons_succ]
                first | refine Mem.tkY 7 undef (hy := Or.inr ⟨by rfl, rfl⟩) (hS := by assumption) (h := ?r16) | (refine Mem.tkY 7 ?v16 (hy := Or.inl ⟨by rfl, ?y16⟩) (hS := by assumption) (h := ?r16); case y16 => (intro w hSw; clear hSw; go_simp; try with_reducible rfl))
                case' r16 => skip
                refine Mem.tkY 8 ?v17 (hy := Or.inl ⟨by rfl, ?y17⟩) (hS := by assumption) (h := ?r17)
                case y17 => (intro w hSw; clear hSw; go_simp; try with_reducible rfl)
                case' r17 => skip
                try simp only [List.getElem_toArray, List.getElem_cons_succ, List.getElem_cons_zero, Act.put, List.setIfInBounds_toArray, List.set_cons_zero, List.set_cons_succ]
                refine wpAnyH_done (by kernel_rfl) ?_ _
                go_wp2_with fail
                refine ⟨?_, ?measure⟩
                (repeat apply Exists.intro)
                refine ⟨?rel, rfl⟩
                case rel => exact ⟨q + 1, v, S2, by omega, by go_num, HC7.out.below ((Below.refl _ _).drew.trans hHeld), HI2, HRD2, Bks.below HBK7.out ((Below.refl _ _).drew.trans hHeld), HW2, HB7.out.trans (((Below.refl _ _).drew.trans hHeld).mono HB7.out.size)⟩
                case measure => simp [intOf]; omega
              · obtain rfl : q = 16 := by omega
                have HBR := Lib.hid hbr
                clear hc hbk hbr
                go_wp2_with (refine (works13 _).mono ?_; rintro e w9 ⟨rfl, hb9⟩)
                go_ret
                exact ⟨rfl, HBR.out.trans (hb9.mono HBR.out.size)⟩
end Go.Proofs.Ytbamhiegabeicaa.Cb
