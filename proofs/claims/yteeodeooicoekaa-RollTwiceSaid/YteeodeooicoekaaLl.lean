/- The bytes of what is seen. Plain laws. No statement is proved here. -/
import Derived.Test.YteeodeooicoekaaLo
namespace Go.Proofs.Yteeodeooicoekaa.Rd
open Go.RowKit Go.Proofs.Yteeodeooicoekaa.Mem Go.Proofs.Yteeodeooicoekaa.Kind Go.Proofs.Yteeodeooicoekaa.Pat
set_option linter.unusedVariables false
set_option linter.unusedSimpArgs false
def Bytes (l : List Nat) : Prop := ∀ x ∈ l, x < 256
theorem lay1_bytes {B : List Nat} (hl : B.length = 256) (hB : Bytes B) {x : Chg} (hx : Bytes x.pd) : Bytes (lay1 B x) := by
  intro y hy
  obtain ⟨j, hj, rfl⟩ := List.mem_iff_getElem.1 hy
  have h := layL_get B x.pa x.pd hl j
  rw [show layL B x.pa x.pd = lay1 B x from rfl, List.getElem?_eq_getElem hj] at h
  split at h
  · injection h with h
    rw [h, List.getD_eq_getElem?_getD]
    cases hd : x.pd[j - x.pa.toNat]? with
    | none => simp
    | some z => exact hx z (List.mem_of_getElem? hd)
  · exact hB _ (List.mem_of_getElem? h.symm)
theorem laidF_bytes (b : Int) (is : Int → Bool) : ∀ (xs : List Chg) (B : List Nat), B.length = 256 → Bytes B → (∀ x ∈ xs, Bytes x.pd) → Bytes (laidF b is B xs)
  | [], B, _, h, _ => h
  | x :: r, B, hl, hB, hx => by
    rw [laidF]
    split
    · exact laidF_bytes b is r _ ((lay1_len B x).trans hl) (lay1_bytes hl hB (hx x List.mem_cons_self)) fun y hy => hx y (List.mem_cons_of_mem _ hy)
    · exact laidF_bytes b is r _ hl hB fun y hy => hx y (List.mem_cons_of_mem _ hy)
theorem imgF_bytes {xs : List Chg} {b : Int} {B : List Nat} (hl : B.length = 256) (hB : Bytes B) (hx : ∀ x ∈ xs, Bytes x.pd) : Bytes (imgF B xs b) := laidF_bytes _ _ _ _ hl hB hx
theorem viewF_bytes {xs : List Chg} {b : Int} {B : List Nat} (hl : B.length = 256) (hB : Bytes B) (hx : ∀ x ∈ xs, Bytes x.pd) : Bytes (viewF B xs b) := by
  unfold viewF
  split
  · exact laidF_bytes _ _ _ _ hl hB hx
  · exact hB
end Go.Proofs.Yteeodeooicoekaa.Rd
