/- The walks of the statements MixGoes and MixAlike: what each of the two laws answers is true, whatever its arguments. -/
import Derived.Test.YtgcmgohknocfnaaMix
import Derived.Test.YtgcmgohknocfnaaOpen
namespace Go.Proofs.Ytgcmgohknocfnaa.Mix
open Go.RowKit
set_option linter.unusedVariables false
set_option linter.unusedSimpArgs false

theorem goes_walk (a b : ByteArray) (w : World) (ha : a.size ≤ 140737488351232) (hb : b.size ≤ 140737488351232) :
    Calls Try.prog 4 #[.string a, .string b] w fun e w' => e = .returned (.bool true) ∧ Below w.heap.size w w' := by
  have h1 : Hid (hash 2166136261 (a ++ b).data.toList = hash (hash 2166136261 a.data.toList) b.data.toList) := by
    show _ = _
    rw [← hash_append]
    simp [ByteArray.data_append]
  have h2 : Hid (∀ h, hash h (⟨#[]⟩ : ByteArray).data.toList = h) := fun h => hash_nil h
  have hx := hash_lt a.data.toList 2166136261 (by decide)
  have hab : (a ++ b).size ≤ 9223372036854775807 := by rw [ByteArray.size_append]; omega
  by_cases hl : 400 < (a.size : Int) ∨ 400 < (b.size : Int)
  · rcases hl with hl | hl
    · go_enter Try.func4, Try.ntmps4
      go_wp2_with (go_at_call 15; refine (works_any _).mono ?_; rintro e w' ⟨rfl, rfl⟩)
      go_ret
      exact ⟨rfl, Below.refl _ _⟩
    · by_cases hl' : 400 < (a.size : Int)
      all_goals
        go_enter Try.func4, Try.ntmps4
        go_wp2_with (go_at_call 15; refine (works_any _).mono ?_; rintro e w' ⟨rfl, rfl⟩)
        go_ret
        exact ⟨rfl, Below.refl _ _⟩
  · have hl1 : ¬ 400 < (a.size : Int) := fun h => hl (.inl h)
    have hl2 : ¬ 400 < (b.size : Int) := fun h => hl (.inr h)
    clear hl
    go_enter Try.func4, Try.ntmps4
    go_wp2_with (first
      | (go_at_call 15; refine (works_any _).mono ?_; rintro e w' ⟨rfl, rfl⟩)
      | (go_at_call 16; first | (with_reducible refine (of_any (a ++ b) _ hab).mono ?_); rw [h1.out]; rintro e w' ⟨rfl, rfl⟩ | (with_reducible refine (of_any a _ (by omega)).mono ?_); rintro e w' ⟨rfl, rfl⟩)
      | (go_at_call 18; first | (with_reducible refine (more_any _ b _ hx (by omega)).mono ?_); rintro e w' ⟨rfl, rfl⟩ | (with_reducible refine (more_any _ ⟨#[]⟩ _ hx (by decide)).mono ?_); rw [h2.out]; rintro e w' ⟨rfl, rfl⟩))
    go_ret
    exact ⟨rfl, Below.refl _ _⟩

set_option maxHeartbeats 400000 in
theorem alike_walk_nat (a b : Nat) (w : World) (ha : a < 4294967296) (hb : b < 4294967296) :
    Calls Try.prog 5 #[.int .u32 a, .int .u32 b] w fun e w' => e = .returned (.bool true) ∧ Below w.heap.size w w' := by
  have hle := alike_le a b
  have hall := alike_all a b ha hb
  have hnext := alike_next a b
  have hiff := alike_iff a b
  have hcomm : Hid (alike b a = alike a b) := alike_comm b a
  obtain ⟨n, hn⟩ : ∃ n, alike a b = n := ⟨_, rfl⟩
  have HN : Hid (alike a b = n) := hn
  rw [hn] at hle hall hnext hiff
  clear hn
  have hself : ((n : Int) != (n : Int)) = false := by simp
  have hlow : Hid (∀ k : Nat, k ≤ n → low a (k : Int) = low b (k : Int)) := fun k hk => (hiff k (by omega)).1 hk
  clear hiff
  have hb1 : decide ((n : Int) < 0) = false := by simp
  have hb2 : decide (32 < (n : Int)) = false := by simp; omega
  have hwhole : ((((n : Int) == 32)) == ((a : Int) == (b : Int))) = true := by
    by_cases e : a = b
    · rw [hall.2 e, e]; simp
    · have h1 : ((a : Int) == (b : Int)) = false := by rw [beq_eq_false_iff_ne]; intro h; exact e (Int.ofNat.inj h)
      have h2 : ((n : Int) == 32) = false := by rw [beq_eq_false_iff_ne]; intro h; exact e (hall.1 (by omega))
      rw [h1, h2]; rfl
  have hbit : n < 32 → (bitB a (n : Int) = true ∧ bitB b (n : Int) = false) ∨ (bitB a (n : Int) = false ∧ bitB b (n : Int) = true) := by
    intro h
    have := hnext h
    generalize bitB a (n : Int) = x at this ⊢
    generalize bitB b (n : Int) = y at this ⊢
    cases x <;> cases y <;> simp at this ⊢
  clear hnext hall
  go_enter Try.func5, Try.ntmps5
  go_wp2_with (go_at_call 24; first | (with_reducible refine (alike_any a b _ ha hb).mono ?_); rw [HN.out]; rintro e w' ⟨rfl, rfl⟩ | (with_reducible refine (alike_any b a _ hb ha).mono ?_); rw [hcomm.out, HN.out]; rintro e w' ⟨rfl, rfl⟩)
  go_loop [6] (fun i => ∃ k : Nat, k ≤ n + 1 ∧ i = .int .i64 k) (fun i => 33 - (intOf i).toNat)
  case atStart => exact ⟨0, by omega, rfl⟩
  case round =>
    obtain ⟨k, hk, rfl⟩ := hrel
    by_cases hkn : k ≤ n
    · have hd : (((low a (k : Int) : Nat) : Int) != ((low b (k : Int) : Nat) : Int)) = false := by rw [hlow.out k hkn]; simp
      go_wp2_with (go_at_call 20; (with_reducible first | refine (low_any a _ _ ha).mono ?_ | refine (low_any b _ _ hb).mono ?_); rintro e w' ⟨rfl, rfl⟩)
      go_round
      case rel => exact ⟨k + 1, by omega, by go_num⟩
      case measure => simp [intOf]; omega
    · by_cases h32 : n = 32
      · have h32b : ((n : Int) == 32) = true := by rw [h32]; rfl
        clear hbit
        go_wp2_with (go_at_call 15; refine (works_any _).mono ?_; rintro e w' ⟨rfl, rfl⟩)
        go_ret
        exact ⟨rfl, Below.refl _ _⟩
      · have h32b : ((n : Int) == 32) = false := by rw [beq_eq_false_iff_ne]; omega
        rcases hbit (by omega) with ⟨ba, bb⟩ | ⟨ba, bb⟩
        all_goals
          clear hbit
          go_wp2_with (first
            | (go_at_call 15; refine (works_any _).mono ?_; rintro e w' ⟨rfl, rfl⟩)
            | (go_at_call 22; (with_reducible first | refine (bit_any a _ _ ha).mono ?_ | refine (bit_any b _ _ hb).mono ?_); rintro e w' ⟨rfl, rfl⟩))
          go_ret
          exact ⟨rfl, Below.refl _ _⟩

theorem u32_nat {a : Int} (h : (Lit.int .u32 a).wf = true) : ∃ n : Nat, a = (n : Int) ∧ n < 4294967296 := by
  simp [Lit.wf, IntKind.min, IntKind.max, IntKind.signed, IntKind.bits] at h
  exact ⟨a.toNat, by omega, by omega⟩
theorem alike_walk (a b : Int) (w : World) (ha : (Lit.int .u32 a).wf = true) (hb : (Lit.int .u32 b).wf = true) :
    Calls Try.prog 5 #[.int .u32 a, .int .u32 b] w fun e w' => e = .returned (.bool true) ∧ Below w.heap.size w w' := by
  obtain ⟨x, rfl, hx⟩ := u32_nat ha
  obtain ⟨y, rfl, hy⟩ := u32_nat hb
  exact alike_walk_nat x y w hx hy

set_option maxHeartbeats 1000000 in
theorem tells_walk_nat (s : ByteArray) (a b : Nat) (n : Int) (w : World) (hs : s.size ≤ 140737488351232) (ha : a < 4294967296) (hb : b < 4294967296) :
    Calls Try.prog 3 #[.string s, .agg #[.int .u32 a, .int .u32 b], .int .i64 n] w fun e w' => e = .returned (.bool true) ∧ Below w.heap.size w w' := by
  have hx := hash_lt s.data.toList 2166136261 (by decide)
  have hy := hash_lt s.data.toList a ha
  by_cases hl : 400 < (s.size : Int)
  · go_enter Try.func3, Try.ntmps3
    go_wp2_with (go_at_call 15; refine (works_any _).mono ?_; rintro e w' ⟨rfl, rfl⟩)
    go_ret
    exact ⟨rfl, (Below.refl _ _).alloc (Nat.le_refl _) _⟩
  · go_enter Try.func3, Try.ntmps3
    go_wp2
    go_quiet (fail)
    go_wp2_with (first
      | (go_at_call 16; refine (of_any s _ (by omega)).mono ?_; rintro e w' ⟨rfl, rfl⟩)
      | (go_at_call 17; refine (rof_any s _ (by omega)).mono ?_; rintro e w' ⟨rfl, rfl⟩)
      | (go_at_call 18; refine (more_any a s _ ha (by omega)).mono ?_; rintro e w' ⟨rfl, rfl⟩)
      | (go_at_call 19; refine (rmore_any a s _ ha (by omega)).mono ?_; rintro e w' ⟨rfl, rfl⟩)
      | (go_at_call 20; refine (low_any a n _ ha).mono ?_; rintro e w' ⟨rfl, rfl⟩)
      | (go_at_call 21; refine (rlow_any a n _ ha).mono ?_; rintro e w' ⟨rfl, rfl⟩)
      | (go_at_call 22; refine (bit_any a n _ ha).mono ?_; rintro e w' ⟨rfl, rfl⟩)
      | (go_at_call 23; refine (rbit_any a n _ ha).mono ?_; rintro e w' ⟨rfl, rfl⟩)
      | (go_at_call 24; refine (alike_any a b _ ha hb).mono ?_; rintro e w' ⟨rfl, rfl⟩)
      | (go_at_call 25; refine (ralike_any a b _ ha hb).mono ?_; rintro e w' ⟨rfl, rfl⟩)
      | (go_at_call 15; refine (works_any _).mono ?_; rintro e w' ⟨rfl, rfl⟩))
    go_ret
    exact ⟨rfl, Open.bdrewN ((Below.refl _ _).alloc (Nat.le_refl _) _) _⟩
theorem tells_walk (s : ByteArray) (l : List Int) (n : Int) (w : World) (hs : s.size ≤ 140737488351232) (hl : l.length = 2) (hw : ∀ x ∈ l, (Lit.int .u32 x).wf = true) (hn : (Lit.int .i64 n).wf = true) :
    Calls Try.prog 3 #[.string s, .agg (l.map (Value.int .u32)).toArray, .int .i64 n] w fun e w' => e = .returned (.bool true) ∧ Below w.heap.size w w' := by
  match l, hl with
  | [a, b], _ =>
    obtain ⟨x, rfl, hx⟩ := u32_nat (hw a (by simp))
    obtain ⟨y, rfl, hy⟩ := u32_nat (hw b (by simp))
    exact tells_walk_nat s x y n w hs hx hy
end Go.Proofs.Ytgcmgohknocfnaa.Mix
