/- The example of chapter 9. No statement is proved here. -/
import Derived.Test.YtdhgkabbepbgpaaRq
import Derived.Test.YtdhgkabbepbgpaaSame
namespace Go.Proofs.Ytdhgkabbepbgpaa.Rd
open Go.RowKit Go.Proofs.Ytdhgkabbepbgpaa.Mem Go.Proofs.Ytdhgkabbepbgpaa.Open Go.Proofs.Ytdhgkabbepbgpaa.Kind Go.Proofs.Ytdhgkabbepbgpaa.Blk Go.Proofs.Ytdhgkabbepbgpaa.App Go.Proofs.Ytdhgkabbepbgpaa.Pat Go.Proofs.Ytdhgkabbepbgpaa.Same
set_option linter.unusedVariables false
set_option linter.unusedSimpArgs false
def exL : List Chg := [⟨1, 5, 1, [1], []⟩, ⟨2, 6, 1, [1], [1]⟩, ⟨3, 6, 2, [1], []⟩]
theorem ex1 : readyS exL 6 = [3] := by decide
theorem ex2 : readyS (exL.drop 1) 6 = [2, 3] := by decide
theorem ex3 : mayF 0 (exL.drop 2) = true := by decide
theorem rowAt {w : World} {g : Nat} (T : TypeId) (cs : Array Value) (h : w.heap.size = g) : Row (w.alloc (.cells cs T)) g T cs := h ▸ Row.new w T cs
theorem by_row {w : World} {g : Nat} {T : TypeId} {d : List Nat} (h : Row w g T (blk d)) (hb : ∀ x ∈ d, x < 256) (hl : d.length ≤ M63) : By w (some ⟨g, 0, none⟩) d :=
  ⟨rfl, hl, .inr ⟨g, 0, rfl, h.lt, h.lt, fun i x hx => ⟨[V8 x], ⟨rfl, hb x (List.mem_of_getElem? hx)⟩, fun j v hv => by
    cases j with
    | succ j => simp at hv
    | zero =>
      simp at hv
      subst hv
      obtain ⟨hi, rfl⟩ := List.getElem?_eq_some_iff.1 hx
      rw [show 0 + i * kByte.sz + 0 = i from by show 0 + i * 1 + 0 = i; omega]
      exact h.cell i (blk_get d i hi)⟩⟩⟩
theorem is_row {w : World} {g : Nat} {T : TypeId} {d : List Int} (h : Row w g T (nums d)) (hb : ∀ x ∈ d, WfI x) (hl : d.length ≤ M63) : Is w (some ⟨g, 0, none⟩) d :=
  ⟨rfl, hl, .inr ⟨g, 0, rfl, h.lt, h.lt, fun i x hx => ⟨[V64 x], ⟨rfl, hb x (List.mem_of_getElem? hx)⟩, fun j v hv => by
    cases j with
    | succ j => simp at hv
    | zero =>
      simp at hv
      subst hv
      obtain ⟨hi, rfl⟩ := List.getElem?_eq_some_iff.1 hx
      rw [show 0 + i * (kInt .i64).sz + 0 = i from by show 0 + i * 1 + 0 = i; omega]
      exact h.cell i (nums_get d i hi)⟩⟩⟩
/-- Changes written out in one block. -/
theorem chs_row {w : World} {g : Nat} {T : TypeId} {cs : Array Value} {xs : List Chg} (h : Row w g T cs) (hl : xs.length ≤ M63)
    (hx : ∀ i x, xs[i]? = some x → ∃ A c A2 c2, kChg.K w (All w) x (chC x A c A2 c2).toList ∧ ∀ j v, (chC x A c A2 c2).toList[j]? = some v → cs[i * 5 + j]? = some v) : Chs w (some ⟨g, 0, none⟩) xs :=
  ⟨rfl, hl, .inr ⟨g, 0, rfl, h.lt, h.lt, fun i x hi => by
    obtain ⟨A, c, A2, c2, h1, h2⟩ := hx i x hi
    refine ⟨_, h1, fun j v hv => ?_⟩
    rw [show 0 + i * kChg.sz + j = i * 5 + j from by show 0 + i * 5 + j = _; omega]
    exact h.cell _ (h2 j v hv)⟩⟩
theorem is_nil {w : World} {A : Option Addr} : Is w A [] := Rw.nil _ _ _ _
theorem sl_of_is {w : World} {A : Option Addr} {xs : List Int} (h : Is w A xs) : Sl w V64 A xs.length xs := h.sl_int
theorem chs_drop {w : World} {g o : Nat} {xs : List Chg} (h : Chs w (some ⟨g, o, none⟩) xs) (m : Nat) (hm : m ≤ xs.length) : Chs w (some ⟨g, o + m * 5, none⟩) (xs.drop m) := by
  have e : (xs.drop m).length = xs.length - m := by rw [List.length_drop]
  show Rw kChg w (All w) _ (xs.drop m).length (xs.drop m)
  rw [e]
  exact h.drop m hm
theorem fn_bytes1 (w : World) (T : TypeId) : w.alloc (.cells #[.int .u8 1] T) = w.alloc (.cells (blk [1]) T) := rfl
def exW (w : World) : World := ((((w.alloc (.cells #[.int .u8 1] 5)).alloc (.cells #[.int .i64 1, .slice (some ⟨w.heap.size, 0, none⟩) 1 1] 42)).alloc (.cells #[.int .i64 1] 3)).alloc (.cells #[.int .u8 1] 5)).alloc (.cells #[.int .i64 1, .int .i64 5, .int .i64 1, .slice (some ⟨w.heap.size, 0, none⟩) 1 1, .slice none 0 0, .int .i64 2, .int .i64 6, .int .i64 1, .slice (some ⟨w.heap.size, 0, none⟩) 1 1, .slice (some ⟨w.heap.size + 1 + 1, 0, none⟩) 1 1, .int .i64 3, .int .i64 6, .int .i64 2, .slice (some ⟨w.heap.size + 1 + 1 + 1, 0, none⟩) 1 1, .slice none 0 0] 80)
theorem exW_facts (w : World) : Chs (exW w) (some ⟨w.heap.size + 1 + 1 + 1 + 1, 0, none⟩) exL ∧ Below w.heap.size w (exW w) := by
  have r0 : Row (exW w) w.heap.size 5 (blk [1]) := ((((rowAt 5 (blk [1]) rfl).alloc _).alloc _).alloc _).alloc _
  have r2 : Row (exW w) (w.heap.size + 1 + 1) 3 (nums [1]) := ((rowAt 3 (nums [1]) (by simp)).alloc _).alloc _
  have r3 : Row (exW w) (w.heap.size + 1 + 1 + 1) 5 (blk [1]) := (rowAt 5 (blk [1]) (by simp)).alloc _
  have r4 : Row (exW w) (w.heap.size + 1 + 1 + 1 + 1) 80 _ := rowAt 80 _ (by simp)
  have b0 : By (exW w) (some ⟨w.heap.size, 0, none⟩) [1] := by_row r0 (by simp) (by decide)
  have b3 : By (exW w) (some ⟨w.heap.size + 1 + 1 + 1, 0, none⟩) [1] := by_row r3 (by simp) (by decide)
  have i2 : Is (exW w) (some ⟨w.heap.size + 1 + 1, 0, none⟩) [1] := is_row r2 (fun x hx => by simp at hx; subst hx; rfl) (by decide)
  refine ⟨chs_row r4 (by decide) fun i x hx => ?_, ?_⟩
  · match i, hx with
    | 0, hx =>
      simp [exL] at hx
      subst hx
      exact ⟨some ⟨w.heap.size, 0, none⟩, 1, none, 0, kChg_mk ⟨rfl, rfl, rfl⟩ (by decide) (by decide) (fun h => by first | rfl | cases h) b0 (by decide) (by decide) (fun h => by first | rfl | cases h) is_nil, fun j v hv => by
        match j, hv with
        | 0, hv | 1, hv | 2, hv | 3, hv | 4, hv => simpa using hv
        | n + 5, hv => simp at hv⟩
    | 1, hx =>
      simp [exL] at hx
      subst hx
      exact ⟨some ⟨w.heap.size, 0, none⟩, 1, some ⟨w.heap.size + 1 + 1, 0, none⟩, 1, kChg_mk ⟨rfl, rfl, rfl⟩ (by decide) (by decide) (fun h => by first | rfl | cases h) b0 (by decide) (by decide) (fun h => by first | rfl | cases h) i2, fun j v hv => by
        match j, hv with
        | 0, hv | 1, hv | 2, hv | 3, hv | 4, hv => simpa using hv
        | n + 5, hv => simp at hv⟩
    | 2, hx =>
      simp [exL] at hx
      subst hx
      exact ⟨some ⟨w.heap.size + 1 + 1 + 1, 0, none⟩, 1, none, 0, kChg_mk ⟨rfl, rfl, rfl⟩ (by decide) (by decide) (fun h => by first | rfl | cases h) b3 (by decide) (by decide) (fun h => by first | rfl | cases h) is_nil, fun j v hv => by
        match j, hv with
        | 0, hv | 1, hv | 2, hv | 3, hv | 4, hv => simpa using hv
        | n + 5, hv => simp at hv⟩
    | n + 3, hx => simp [exL] at hx
  · exact (((((Below.refl _ _).alloc (Nat.le_refl _) _).alloc (by simp) _).alloc (by simp; omega) _).alloc (by simp; omega) _).alloc (by simp; omega) _
end Go.Proofs.Ytdhgkabbepbgpaa.Rd
