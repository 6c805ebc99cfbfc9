/- Lists of patches: the document's Bytes. -/
import Derived.Test.YtoibdomcekainaaPatV
namespace Go.Proofs.Ytoibdomcekainaa.Pat
open Go.RowKit Go.Proofs.Ytoibdomcekainaa.Mem Go.Proofs.Ytoibdomcekainaa.Open Go.Proofs.Ytoibdomcekainaa.Kind Go.Proofs.Ytoibdomcekainaa.Blk Go.Proofs.Ytoibdomcekainaa.App
set_option linter.unusedVariables false
set_option linter.unusedSimpArgs false
theorem covB_take (xs : List Pt) (k i : Nat) (hk : k < xs.length) : covB (xs.take (k + 1)) i = (covB (xs.take k) i || inB xs[k].1 xs[k].2.length i) := by
  unfold covB
  rw [List.take_add_one, List.getElem?_eq_getElem hk, Option.toList_some, List.any_append, List.any_cons, List.any_nil, Bool.or_false]
theorem bytes_succ (xs : List Pt) (i : Nat) : (List.range (i + 1)).countP (covB xs) = (List.range i).countP (covB xs) + if covB xs i then 1 else 0 := by
  rw [List.range_succ, List.countP_append, List.countP_cons, List.countP_nil]
  omega
theorem bytes_le (xs : List Pt) (i : Nat) : (List.range i).countP (covB xs) ≤ i := by
  have := List.countP_le_length (p := covB xs) (l := List.range i)
  rwa [List.length_range] at this
set_option maxHeartbeats 1000000 in
set_option maxRecDepth 100000 in
theorem rbytes_any (A : Option Addr) (c : Nat) (xs : List Pt) (w : World) (hx : Ps w A xs) (hn : xs.length ≤ 1000) :
    Calls Try.prog 45 #[.slice A xs.length c] w fun e w' => e = .returned (.int .i64 (bytesN xs : Int)) ∧ Below w.heap.size w w' := by
  go_enter Try.func45, Try.ntmps45
  go_wp2
  go_loopw [3, 4] (fun n i wr => ∃ k : Nat, k ≤ 256 ∧ i = .int .i64 k ∧ n = .int .i64 (((List.range k).countP (covB xs) : Nat) : Int) ∧ Below w.heap.size w wr) (fun _ i _ => 256 - (intOf i).toNat)
  case atStart => exact ⟨0, by omega, rfl, rfl, by first | exact Below.refl _ _ | exact bdrewN (Below.refl _ _) _⟩
  case round =>
    obtain ⟨i, hi, rfl, rfl, hbel⟩ := hrel
    by_cases hlt : i < 256
    · have hd256 : decide ((i : Int) < 256) = true := decide_eq_true (by omega)
      go_wp2
      go_loopw [5, 6] (fun b j wi => ∃ k : Nat, k ≤ xs.length ∧ j = .int .i64 k ∧ b = .bool (covB (xs.take k) i) ∧ Below w.heap.size w wi) (fun _ j _ => xs.length - (intOf j).toNat)
      case atStart => exact ⟨0, by omega, rfl, rfl, by first | exact hbel | exact bdrewN hbel _⟩
      case round =>
        clear hbel
        obtain ⟨k, hk, rfl, rfl, hbel⟩ := hrel
        by_cases hlk : k < xs.length
        · obtain ⟨g', o, rfl⟩ := pat_form hx (by omega)
          obtain ⟨A', c', q0, q1, q2, q3, q4, q5, q6, q7⟩ := pat_at hx k hlk
          have d0 := (hbel.cell (p := ⟨g', o + k * 2, none⟩) q0).trans q1
          have d1 := (hbel.cell (p := ⟨g', o + k * 2 + 1, none⟩) q0).trans q2
          have hsz := hbel.size
          have HC := Lib.hid (covB_take xs k i hlk)
          generalize xs[k] = p at *
          obtain ⟨a, d⟩ := p
          have CI := Lib.hid (fun w' => in_any a A' d.length c' i w' q7.2.1 (by omega))
          cases hb : covB (xs.take k) i with
          | true =>
            have HC2 : Hid (covB (xs.take (k + 1)) i = true) := by show _ = _; rw [HC.out, hb]; rfl
            clear hb
            go_wp2
            go_roundw
            case rel => exact ⟨k + 1, by omega, by go_num, by rw [HC2.out], by first | exact hbel | exact bdrewN hbel _⟩
            case measure => simp [intOf]; omega
          | false =>
            have HC2 : Hid (covB (xs.take (k + 1)) i = inB a d.length i) := by show _ = _; rw [HC.out, hb]; rfl
            clear hb
            go_wp2_with fail
            refine (CI.out _).mono ?_
            rintro e w2 ⟨rfl, hbl⟩
            have hbel2 := hbel.trans (hbl.mono hsz)
            go_wp2
            go_roundw
            case rel => exact ⟨k + 1, by omega, by go_num, by rw [HC2.out], by first | exact hbel2 | exact bdrewN hbel2 _⟩
            case measure => simp [intOf]; omega
        · have hke : k = xs.length := by omega
          subst hke
          rw [List.take_length]
          have hle := bytes_le xs i
          have HS := Lib.hid (bytes_succ xs i)
          cases hb : covB xs i with
          | true =>
            rw [hb] at HS
            simp only [if_true] at HS
            clear hb
            go_wp2
            go_roundw
            case rel => exact ⟨i + 1, by omega, by go_num, by rw [HS.out]; go_num, by first | exact hbel | exact bdrewN hbel _⟩
            case measure => simp [intOf]; omega
          | false =>
            rw [hb] at HS
            simp only [Bool.false_eq_true, if_false, Nat.add_zero] at HS
            clear hb
            go_wp2
            go_roundw
            case rel => exact ⟨i + 1, by omega, by go_num, by rw [HS.out], by first | exact hbel | exact bdrewN hbel _⟩
            case measure => simp [intOf]; omega
    · have hie : i = 256 := by omega
      subst hie
      have HB : Hid (bytesN xs = (List.range 256).countP (covB xs)) := rfl
      generalize (List.range 256).countP (covB xs) = N at *
      go_wp2
      go_ret
      exact ⟨by rw [HB.out]; rfl, by first | exact hbel | exact bdrewN hbel _⟩
end Go.Proofs.Ytoibdomcekainaa.Pat
