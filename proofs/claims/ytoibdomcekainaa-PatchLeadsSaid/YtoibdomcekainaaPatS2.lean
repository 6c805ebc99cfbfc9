/- The statement PatchSwaps, its walk. -/
import Derived.Test.YtoibdomcekainaaPatS
namespace Go.Proofs.Ytoibdomcekainaa.Pat
open Go.RowKit Go.Proofs.Ytoibdomcekainaa.Mem Go.Proofs.Ytoibdomcekainaa.Open Go.Proofs.Ytoibdomcekainaa.Kind Go.Proofs.Ytoibdomcekainaa.Blk Go.Proofs.Ytoibdomcekainaa.App
theorem swaps_walk (l : List Nat) (a : Int) (A : Option Addr) (c : Nat) (d : List Nat) (b : Int) (A2 : Option Addr) (c2 : Nat) (f : List Nat) (w : World) (hl : l.length = 256) (hb : ∀ x ∈ l, x < 256) (hd : By w A d) (hc : A = none → c = 0) (hf : By w A2 f) (hc2 : A2 = none → c2 = 0) :
    Calls Try.prog 8 #[.agg (blk l), patV a A d.length c, patV b A2 f.length c2] w fun e w' => e = .returned (.bool true) ∧ Below w.heap.size w w' :=
  swaps_core l _ _ _ _ _ a b _ A c d A2 c2 f w hl hb hd hc hf hc2 rfl rfl rfl rfl rfl rfl (by rw [layL_length]; exact hl) (by rw [layL_length]; exact hl) (by rw [layL_length, layL_length]; exact hl) (by rw [layL_length, layL_length]; exact hl) (layL_byte _ _ _ (layL_byte _ _ _ hb hd.lt_byte) hf.lt_byte)
end Go.Proofs.Ytoibdomcekainaa.Pat
