/- The document's Long, and the walk of the statement MixSplits. -/
import Derived.Test.YtgcmgohknocfnaaMixS
namespace Go.Proofs.Ytgcmgohknocfnaa.Mix
open Go.RowKit Go.Proofs.Ytgcmgohknocfnaa.Mem Go.Proofs.Ytgcmgohknocfnaa.Open Go.Proofs.Ytgcmgohknocfnaa.Same
set_option linter.unusedVariables false
set_option linter.unusedSimpArgs false

set_option maxHeartbeats 1000000 in
theorem long_any (A : Option Addr) (n c : Nat) (xs : List ByteArray) (w : World) (hx : Sl w Value.string A n xs) (hs : ∀ s ∈ xs, s.size ≤ 9223372036854775807) :
    Calls Try.prog 32 #[.slice A n c, .int .i64 40, .int .i64 60] w fun e w' => ∃ b : Bool, e = .returned (.bool b) ∧ (b = false → n ≤ 40 ∧ ∀ s ∈ xs, s.size ≤ 60) ∧ w = w' := by
  have hn := hx.1
  have hm := hx.2.1
  by_cases h40 : 40 < n
  · go_enter Try.func32, Try.ntmps32
    go_wp2
    go_ret
    exact ⟨true, rfl, by simp, rfl⟩
  · go_enter Try.func32, Try.ntmps32
    go_wp2
    go_loopw [7] (fun i wr => ∃ k : Nat, k ≤ n ∧ i = .int .i64 k ∧ (∀ j, (hj : j < xs.length) → j < k → xs[j].size ≤ 60) ∧ w = wr) (fun i _ => n - (intOf i).toNat)
    case atStart => exact ⟨0, by omega, rfl, fun j _ h => by omega, rfl⟩
    case round =>
      obtain ⟨k, hk, rfl, hall, rfl⟩ := hrel
      have HA := Lib.hid hall
      clear hall
      by_cases hlt : k < n
      · have hkx : k < xs.length := by omega
        obtain ⟨ad, rfl, hadb, hcell⟩ := hx.at_ hkx
        obtain ⟨s, hse⟩ : ∃ s, xs[k] = s := ⟨_, rfl⟩
        have hsz : s.size ≤ 9223372036854775807 := by have := hs _ (List.getElem_mem hkx); rw [hse] at this; omega
        rw [hse] at hcell
        by_cases h60 : 60 < s.size
        · go_wp2
          go_ret
          exact ⟨true, rfl, by simp, rfl⟩
        · have H6 : Hid (xs[k].size ≤ 60) := by rw [hse]; exact Nat.le_of_not_lt h60
          clear hse
          go_wp2
          go_roundw
          case rel => exact ⟨k + 1, by omega, by go_num, fun j hj hjk => by
            by_cases e : j = k
            · subst e; exact H6.out
            · exact HA.out j hj (by omega), trivial⟩
          case measure => simp [intOf]; omega
      · go_wp2
        go_ret
        exact ⟨false, rfl, fun _ => ⟨by omega, fun s hs => by
          obtain ⟨j, hj, rfl⟩ := List.getElem_of_mem hs
          exact HA.out j hj (by omega)⟩, rfl⟩

set_option maxHeartbeats 1000000 in
set_option maxRecDepth 100000 in
theorem splits_walk (A : Option Addr) (n c : Nat) (xs : List ByteArray) (bit : Int) (w : World) (hx : Sl w Value.string A n xs) (hs : ∀ s ∈ xs, s.size ≤ 9223372036854775807) (hb : (Lit.int .i64 bit).wf = true) :
    Calls Try.prog 8 #[.slice A n c, .int .i64 bit] w fun e w' => e = .returned (.bool true) ∧ Below w.heap.size w w' := by
  go_enter Try.func8, Try.ntmps8
  go_wp2_with fail
  refine (long_any A n c xs w hx hs).mono ?_
  rintro e w' ⟨b, rfl, hb, rfl⟩
  cases b with
  | true =>
    clear hb
    go_wp2_with (go_at_call 15; refine (works_any _).mono ?_; rintro e w' ⟨rfl, rfl⟩)
    go_ret
    exact ⟨rfl, Below.refl _ _⟩
  | false =>
    obtain ⟨h40, h60⟩ := hb rfl
    clear hb
    have hn2 : n ≤ 100000 := by omega
    obtain ⟨X, hX⟩ : ∃ X, someL xs bit false = X := ⟨_, rfl⟩
    obtain ⟨Y, hY⟩ : ∃ Y, someL xs bit true = Y := ⟨_, rfl⟩
    have CS := Lib.hid (fun w' h => split_any A n c xs bit w' h hs hn2)
    have CF := Lib.hid (fun w' h => some_any A n c xs bit false w' h hs hn2)
    have CT := Lib.hid (fun w' h => some_any A n c xs bit true w' h hs hn2)
    rw [hX] at CF
    rw [hY] at CT
    simp only [hX, hY] at CS
    clear hX hY
    go_wp2_with fail
    refine (CS.out _ hx).mono ?_
    rintro e w1 ⟨v1, v2, rfl, hown1, hown2, hbel1⟩
    obtain ⟨A1, c1, rfl⟩ := hown1.slice
    obtain ⟨A2, c2, rfl⟩ := hown2.slice
    go_wp2_with fail
    refine (CF.out _ (hx.below hbel1)).mono ?_
    rintro e w2 ⟨v3, rfl, hown3, hbel2⟩
    obtain ⟨A3, c3, rfl⟩ := hown3.slice
    have hbel3 := hbel1.trans (hbel2.mono hbel1.size)
    go_wp2_with fail
    refine (texts_any _ _ _ _ _ _ X X _ (hown1.below hbel2).sl.2 hown3.sl.2).mono ?_
    rw [decide_eq_true (rfl : X = X)]
    rintro e w3 ⟨rfl, q3, hw3⟩
    have hbel4 := bdrewN hbel3 q3
    have hown4 := (hown2.below hbel2).drewN q3
    rw [← hw3] at hbel4 hown4
    clear hw3
    go_wp2_with fail
    refine (CT.out _ (hx.below hbel4)).mono ?_
    rintro e w4 ⟨v5, rfl, hown5, hbel5⟩
    obtain ⟨A5, c5, rfl⟩ := hown5.slice
    have hbel6 := hbel4.trans (hbel5.mono hbel4.size)
    go_wp2_with fail
    refine (texts_any _ _ _ _ _ _ Y Y _ (hown4.below hbel5).sl.2 hown5.sl.2).mono ?_
    rw [decide_eq_true (rfl : Y = Y)]
    rintro e w5 ⟨rfl, q5, hw5⟩
    have hbel7 := bdrewN hbel6 q5
    rw [← hw5] at hbel7
    clear hw5
    go_wp2_with (go_at_call 15; refine (works_any _).mono ?_; rintro e w' ⟨rfl, rfl⟩)
    go_ret
    exact ⟨rfl, hbel7⟩
end Go.Proofs.Ytgcmgohknocfnaa.Mix
