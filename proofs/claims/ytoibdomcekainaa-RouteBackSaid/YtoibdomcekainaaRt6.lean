/- The page's examples of paths. -/
import Derived.Test.YtoibdomcekainaaRt5
namespace Go.Proofs.Ytoibdomcekainaa.Rt
open Go.RowKit Go.Proofs.Ytoibdomcekainaa.Mem Go.Proofs.Ytoibdomcekainaa.Open Go.Proofs.Ytoibdomcekainaa.Same
set_option linter.unusedVariables false
set_option linter.unusedSimpArgs false
theorem ex1 : splitE ⟨#[47, 97, 47, 98, 99]⟩ = 0 ∧ splitL ⟨#[47, 97, 47, 98, 99]⟩ = [⟨#[97]⟩, ⟨#[98, 99]⟩] := by decide +kernel
theorem ex2 : splitE ⟨#[47, 97, 47]⟩ = 15 := by decide +kernel
theorem ex3 : splitE ⟨#[47, 46, 46]⟩ = 3 := by decide +kernel
set_option maxHeartbeats 1000000 in
set_option maxRecDepth 100000 in
theorem works_any (w : World) :
    Calls Try.prog 22 #[] w fun e w' => e = .returned (.bool true) ∧ Below w.heap.size w w' := by
  have C1 := Lib.hid (fun w' => split_any ⟨#[47, 97, 47, 98, 99]⟩ w' (by decide))
  have C2 := Lib.hid (fun w' => split_any ⟨#[47, 97, 47]⟩ w' (by decide))
  have C3 := Lib.hid (fun w' => split_any ⟨#[47, 46, 46]⟩ w' (by decide))
  rw [ex1.1, ex1.2] at C1
  rw [ex2] at C2
  rw [ex3] at C3
  go_enter Try.func22, Try.ntmps22
  go_wp2_with fail
  refine (C1.out _).mono ?_
  rintro e w1 ⟨v, rfl, hown, hb1⟩
  obtain ⟨A, c, rfl⟩ := hown.slice
  obtain ⟨_, hsl⟩ := hown.sl
  go_wp2_with fail
  refine (C2.out _).mono ?_
  rintro e w2 ⟨v2, rfl, _, hb2⟩
  go_wp2_with fail
  refine (C3.out _).mono ?_
  rintro e w3 ⟨v3, rfl, _, hb3⟩
  have hb12 := hb1.trans (hb2.mono hb1.size)
  have hb13 := hb12.trans (hb3.mono hb12.size)
  have hsl3 := (hsl.below hb2).below hb3
  have hsla := hsl3.below ((Below.refl _ _).alloc (Nat.le_refl _) (.cells #[.string ⟨#[97]⟩, .string ⟨#[98, 99]⟩] 9))
  have hslb : Sl (w3.alloc (.cells #[.string ⟨#[97]⟩, .string ⟨#[98, 99]⟩] 9)) Value.string (some ⟨w3.heap.size, 0, none⟩) 2 [⟨#[97]⟩, ⟨#[98, 99]⟩] := sl_block (heap_alloc_new w3 _) rfl (by decide)
  have hb14 := hb13.alloc hb13.size (.cells #[.string ⟨#[97]⟩, .string ⟨#[98, 99]⟩] 9)
  go_wp2_with fail
  refine (texts_any A (some ⟨w3.heap.size, 0, none⟩) 2 2 c 2 _ _ _ hsla hslb).mono ?_
  rintro e w4 ⟨rfl, q, rfl⟩
  go_wp2
  go_ret
  exact ⟨rfl, bdrewN hb14 _⟩
end Go.Proofs.Ytoibdomcekainaa.Rt
