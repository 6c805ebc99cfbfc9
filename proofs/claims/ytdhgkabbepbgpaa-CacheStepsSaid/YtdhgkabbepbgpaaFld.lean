/- A law's arguments that are structs of any number of fields. Plain laws. No statement is proved here. -/
import Derived.Test.YtdhgkabbepbgpaaOpenK
namespace Go.Proofs.Ytdhgkabbepbgpaa.Kind
open Go.RowKit Go.Proofs.Ytdhgkabbepbgpaa.Mem Go.Proofs.Ytdhgkabbepbgpaa.Open
open Go.ChangeShapes Go.WideShapes Go.ChangeAt
set_option linter.unusedVariables false
variable {H : Type} {enc : TypeId × Value → H} {P : Program} {w : World} {α β : Type} {k : Kd α}
/-- Fields, one behind the other from a place on, read as of a kind. -/
def Flds (H : Type) (enc : TypeId × Value → H) (P : Program) (w : World) {α : Type} (k : Kd α) (fs : List Field) (off : Nat) : Prop :=
  ∀ (n : Nat) (cs : List Value), (∀ f ∈ fs, ∃ y, DataW.trod enc P w 0 (fun _ => true) true n f.type ((cs.drop f.offset).take (P.cellsOf f.type)) = some y) → ∃ x, k.K w (All w) x ((cs.drop off).take k.sz)
theorem flds_one {f : Field} {off : Nat} (ho : f.offset = off) (h : Opens H enc P w k f.type) (hc : P.cellsOf f.type = k.sz) : Flds H enc P w k [f] off := fun n cs hf => by
  obtain ⟨y, hy⟩ := hf f List.mem_cons_self
  obtain ⟨x, hx⟩ := h _ _ _ hy
  rw [ho, hc] at hx
  exact ⟨x, hx⟩
theorem flds_cons {a : Kd α} {b : Kd β} {f : Field} {fs : List Field} {off : Nat} (ho : f.offset = off) (h : Opens H enc P w a f.type) (hc : P.cellsOf f.type = a.sz) (hs : Flds H enc P w b fs (off + a.sz)) : Flds H enc P w (kPair a b) (f :: fs) off := fun n cs hf => by
  obtain ⟨y, hy⟩ := hf f List.mem_cons_self
  obtain ⟨x, hx⟩ := h _ _ _ hy
  obtain ⟨z, hz⟩ := hs n cs (fun g hg => hf g (List.mem_cons_of_mem _ hg))
  rw [ho, hc] at hx
  refine ⟨(x, z), _, _, ?_, hx, hz⟩
  show (cs.drop off).take (a.sz + b.sz) = _
  rw [List.take_add, List.drop_drop]
theorem opens_struct {t : TypeId} {fs : Array Field} (ht : P.underlying t = some (.struct fs)) (h : Flds H enc P w k fs.toList 0) (hc : P.cellsOf t = k.sz) : Opens H enc P w k t := fun fuel cs y hy => by
  obtain ⟨xs, n, _, _, hl, hlen, hf⟩ := DataW.trod_struct ht hy
  obtain ⟨x, hx⟩ := h n cs (fun f hm => by
    obtain ⟨i, hi, rfl⟩ := List.mem_iff_getElem.1 hm
    have hi2 : i < fs.size := by simpa using hi
    have := hf i fs.toList[i] (by simp [hi2])
    rw [this]
    exact ⟨_, List.getElem?_eq_getElem (by omega)⟩)
  rw [List.drop_zero, ← hc, ← hl, List.take_length] at hx
  exact ⟨x, hx⟩
end Go.Proofs.Ytdhgkabbepbgpaa.Kind
