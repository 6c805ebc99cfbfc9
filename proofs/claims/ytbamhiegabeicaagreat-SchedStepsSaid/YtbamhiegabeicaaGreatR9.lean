/- The example of chapter 9. No statement is proved here. -/
import Derived.Test.YtbamhiegabeicaaGreatRq
import Derived.Test.YtbamhiegabeicaaGreatSame
namespace Go.Proofs.YtbamhiegabeicaaGreat.Rd
open Go.RowKit Go.Proofs.YtbamhiegabeicaaGreat.Mem Go.Proofs.YtbamhiegabeicaaGreat.Open Go.Proofs.YtbamhiegabeicaaGreat.Kind Go.Proofs.YtbamhiegabeicaaGreat.Blk Go.Proofs.YtbamhiegabeicaaGreat.App Go.Proofs.YtbamhiegabeicaaGreat.Pat Go.Proofs.YtbamhiegabeicaaGreat.Same
set_option linter.unusedVariables false
set_option linter.unusedSimpArgs false
def exL : List Chg := [⟨1, 5, 1, [1], []⟩, ⟨2, 6, 1, [1], [1]⟩, ⟨3, 6, 2, [1], []⟩]
theorem rowAt {w : World} {g : Nat} (T : TypeId) (cs : Array Value) (h : w.heap.size = g) : Row (w.alloc (.cells cs T)) g T cs := h ▸ Row.new w T cs
theorem by_row {w : World} {g : Nat} {T : TypeId} {d : List Nat} (h : Row w g T (blk d)) (hb : ∀ x ∈ d, x < 256) (hl : d.length ≤ M63) : By w (some ⟨g, 0, none⟩) d :=
  ⟨rfl, hl, .inr ⟨g, 0, rfl, h.lt, h.lt, fun i x hx => ⟨[V8 x], ⟨rfl, hb x (List.mem_of_getElem? hx)⟩, fun j v hv => by
    cases j with
    | succ j => simp at hv
    | zero =>
      simp at hv
      subst hv
      obtain ⟨hi, rfl⟩ := List.getElem?_eq_some_iff.1 hx
      rw [show 0 + i * kByte.sz + 0 = i from by show 0 + i * 1 + 0 = i; omega]
      exact h.cell i (blk_get d i hi)⟩⟩⟩
theorem is_row {w : World} {g : Nat} {T : TypeId} {d : List Int} (h : Row w g T (nums d)) (hb : ∀ x ∈ d, WfI x) (hl : d.length ≤ M63) : Is w (some ⟨g, 0, none⟩) d :=
  ⟨rfl, hl, .inr ⟨g, 0, rfl, h.lt, h.lt, fun i x hx => ⟨[V64 x], ⟨rfl, hb x (List.mem_of_getElem? hx)⟩, fun j v hv => by
    cases j with
    | succ j => simp at hv
    | zero =>
      simp at hv
      subst hv
      obtain ⟨hi, rfl⟩ := List.getElem?_eq_some_iff.1 hx
      rw [show 0 + i * (kInt .i64).sz + 0 = i from by show 0 + i * 1 + 0 = i; omega]
      exact h.cell i (nums_get d i hi)⟩⟩⟩
theorem is_nil {w : World} {A : Option Addr} : Is w A [] := Rw.nil _ _ _ _
def exW (w : World) : World := ((((w.alloc (.cells #[.int .u8 1] 5)).alloc (.cells #[.int .i64 1, .slice (some ⟨w.heap.size, 0, none⟩) 1 1] 52)).alloc (.cells #[.int .i64 1] 3)).alloc (.cells #[.int .u8 1] 5)).alloc (.cells #[.int .i64 1, .int .i64 5, .int .i64 1, .slice (some ⟨w.heap.size, 0, none⟩) 1 1, .slice none 0 0, .int .i64 2, .int .i64 6, .int .i64 1, .slice (some ⟨w.heap.size, 0, none⟩) 1 1, .slice (some ⟨w.heap.size + 1 + 1, 0, none⟩) 1 1, .int .i64 3, .int .i64 6, .int .i64 2, .slice (some ⟨w.heap.size + 1 + 1 + 1, 0, none⟩) 1 1, .slice none 0 0] 90)
end Go.Proofs.YtbamhiegabeicaaGreat.Rd

