/- The walks of the statements MixGoes and MixAlike: what each of the two laws answers is true, whatever its arguments. -/
import Derived.Test.YtgcmgohknocfnaaMix
import Derived.Below
namespace Go.Proofs.Ytgcmgohknocfnaa.Mix
open Go.RowKit
set_option linter.unusedVariables false
set_option linter.unusedSimpArgs false

theorem goes_walk (a b : ByteArray) (w : World) (ha : a.size ≤ 140737488351232) (hb : b.size ≤ 140737488351232) :
    Calls Try.prog 4 #[.string a, .string b] w fun e w' => e = .returned (.bool true) ∧ Below w.heap.size w w' := by
  have h1 : Hid (hash 2166136261 (a ++ b).data.toList = hash (hash 2166136261 a.data.toList) b.data.toList) := by
    show _ = _
    rw [← hash_append]
    simp [ByteArray.data_append]
  have h2 : Hid (∀ h, hash h (⟨#[]⟩ : ByteArray).data.toList = h) := fun h => hash_nil h
  have hx := hash_lt a.data.toList 2166136261 (by decide)
  have hab : (a ++ b).size ≤ 9223372036854775807 := by rw [ByteArray.size_append]; omega
  by_cases hl : 400 < (a.size : Int) ∨ 400 < (b.size : Int)
  · rcases hl with hl | hl
    · go_enter Try.func4, Try.ntmps4
      go_wp2_with (go_at_call 15; refine (works_any _).mono ?_; rintro e w' ⟨rfl, rfl⟩)
      go_ret
      exact ⟨rfl, Below.refl _ _⟩
    · by_cases hl' : 400 < (a.size : Int)
      all_goals
        go_enter Try.func4, Try.ntmps4
        go_wp2_with (go_at_call 15; refine (works_any _).mono ?_; rintro e w' ⟨rfl, rfl⟩)
        go_ret
        exact ⟨rfl, Below.refl _ _⟩
  · have hl1 : ¬ 400 < (a.size : Int) := fun h => hl (.inl h)
    have hl2 : ¬ 400 < (b.size : Int) := fun h => hl (.inr h)
    clear hl
    go_enter Try.func4, Try.ntmps4
    go_wp2_with (first
      | (go_at_call 15; refine (works_any _).mono ?_; rintro e w' ⟨rfl, rfl⟩)
      | (go_at_call 16; first | (with_reducible refine (of_any (a ++ b) _ hab).mono ?_); rw [h1.out]; rintro e w' ⟨rfl, rfl⟩ | (with_reducible refine (of_any a _ (by omega)).mono ?_); rintro e w' ⟨rfl, rfl⟩)
      | (go_at_call 18; first | (with_reducible refine (more_any _ b _ hx (by omega)).mono ?_); rintro e w' ⟨rfl, rfl⟩ | (with_reducible refine (more_any _ ⟨#[]⟩ _ hx (by decide)).mono ?_); rw [h2.out]; rintro e w' ⟨rfl, rfl⟩))
    go_ret
    exact ⟨rfl, Below.refl _ _⟩
end Go.Proofs.Ytgcmgohknocfnaa.Mix
