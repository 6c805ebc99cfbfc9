/- Contracts of the document's comparisons of lists (escheatref01.Same, escheatref02.Texts, escheatref04.Ints). No statement is proved here. -/
import Derived.Test.YtbamhiegabeicaaGreatProg
import Derived.Test.YtbamhiegabeicaaGreatMem
import Derived.WalkKit
import Derived.WalkSpells
import Derived.WalkLawsBesides
import Derived.LoopTactic
import Derived.Deep.QuietTactic
import Derived.BigQuiet
namespace Go.Proofs.YtbamhiegabeicaaGreat.Same
open Go.RowKit Go.Proofs.YtbamhiegabeicaaGreat.Open Go.Proofs.YtbamhiegabeicaaGreat.Mem
set_option linter.unusedVariables false
set_option linter.unusedSimpArgs false
theorem ret_bool {a b : Bool} (h : a = b) : Ending.returned (.bool a) = .returned (.bool b) := by rw [h]
theorem same_step {α : Type} [DecidableEq α] {xs ys : List α} {k : Nat} (h : ∀ j, j < k → xs[j]? = ys[j]?) (hk : xs[k]? = ys[k]?) : ∀ j, j < k + 1 → xs[j]? = ys[j]? := by
  intro j hj
  by_cases e : j = k
  · rw [e]; exact hk
  · exact h j (by omega)
theorem same_all {α : Type} [DecidableEq α] {xs ys : List α} (hl : xs.length = ys.length) (h : ∀ j, j < xs.length → xs[j]? = ys[j]?) : xs = ys := by
  apply List.ext_getElem?
  intro j
  by_cases hj : j < xs.length
  · exact h j hj
  · rw [List.getElem?_eq_none (by omega), List.getElem?_eq_none (by omega)]

set_option maxHeartbeats 400000 in
theorem same_any (A B : Option Addr) (n m c d : Nat) (xs ys : List Nat) (w : World) (hx : Sl w V8 A n xs) (hy : Sl w V8 B m ys) :
    Calls Tryz.prog 33 #[.slice A n c, .slice B m d] w fun e w' => e = .returned (.bool (decide (xs = ys))) ∧ ∃ q, w' = w.drewN q := by
  have hn := hx.2.1
  by_cases hnm : n = m
  · subst hnm
    go_enter Tryz.func33, Tryz.ntmps33
    go_wp2
    go_loopw [5] (fun i wr => ∃ k q : Nat, k ≤ n ∧ i = .int .i64 k ∧ (∀ j, j < k → xs[j]? = ys[j]?) ∧ wr = w.drewN q) (fun i _ => n - (intOf i).toNat)
    case atStart => exact ⟨0, 0, by omega, rfl, fun j hj => by omega, rfl⟩
    case round =>
      obtain ⟨k, q, hk, rfl, he, rfl⟩ := hrel
      have HE : Hid (∀ j, j < k → xs[j]? = ys[j]?) := he
      clear he
      by_cases hlt : k < n
      · obtain ⟨a, hA, ha, hca⟩ := hx.at_ (i := k) (by have := hx.1; omega)
        obtain ⟨b, hB, hb, hcb⟩ := hy.at_ (i := k) (by have := hy.1; omega)
        have ex : xs[k]? = some (xs[k]'(by have := hx.1; omega)) := List.getElem?_eq_getElem _
        have ey : ys[k]? = some (ys[k]'(by have := hy.1; omega)) := List.getElem?_eq_getElem _
        generalize xs[k]'(by have := hx.1; omega) = x at hca ex
        generalize ys[k]'(by have := hy.1; omega) = y at hcb ey
        unfold V8 at hca hcb
        subst hA hB
        by_cases hxy : x = y
        · have hc : ((x : Int) != (y : Int)) = false := by rw [hxy]; simp
          have HE' : Hid (∀ j, j < k + 1 → xs[j]? = ys[j]?) := same_step HE.out (by rw [ex, ey, hxy])
          clear ex ey hxy hx hy HE
          go_wp2
          go_quiet (fail)
          go_wp2
          go_roundw
          case rel => exact ⟨k + 1, _, by omega, by go_num, HE'.out, rfl⟩
          case measure => simp [intOf]; omega
        · have hc : ((x : Int) != (y : Int)) = true := by rw [bne_iff_ne]; intro h; exact hxy (Int.ofNat.inj h)
          have HF : Hid (decide (xs = ys) = false) := by
            show _ = _
            rw [decide_eq_false_iff_not]
            intro h
            rw [h] at ex
            rw [ex] at ey
            exact hxy (Option.some.inj ey)
          clear ex ey hxy hx hy HE
          go_wp2
          go_quiet (fail)
          go_wp2
          go_ret
          exact ⟨ret_bool HF.out.symm, _, World.drewN_drewN _ _ _⟩
      · obtain rfl : k = n := by omega
        have HF : Hid (decide (xs = ys) = true) := by
          show _ = _
          rw [decide_eq_true_eq]
          exact same_all (by rw [hx.1, hy.1]) (fun j hj => HE.out j (by have := hx.1; omega))
        clear hx hy HE
        go_wp2
        go_ret
        exact ⟨ret_bool HF.out.symm, _, rfl⟩
  · have hc : ((n : Int) != (m : Int)) = true := by rw [bne_iff_ne]; intro h; exact hnm (Int.ofNat.inj h)
    have HF : Hid (decide (xs = ys) = false) := by
      show _ = _
      rw [decide_eq_false_iff_not]
      intro h
      have := hx.1
      have := hy.1
      rw [h] at *
      omega
    clear hx hy hnm
    go_enter Tryz.func33, Tryz.ntmps33
    go_wp2
    go_ret
    exact ⟨ret_bool HF.out.symm, 0, rfl⟩

set_option maxHeartbeats 400000 in
theorem ints_any (A B : Option Addr) (n m c d : Nat) (xs ys : List Int) (w : World) (hx : Sl w (Value.int .i64) A n xs) (hy : Sl w (Value.int .i64) B m ys) :
    Calls Tryz.prog 80 #[.slice A n c, .slice B m d] w fun e w' => e = .returned (.bool (decide (xs = ys))) ∧ ∃ q, w' = w.drewN q := by
  have hn := hx.2.1
  by_cases hnm : n = m
  · subst hnm
    go_enter Tryz.func80, Tryz.ntmps80
    go_wp2
    go_loopw [5] (fun i wr => ∃ k q : Nat, k ≤ n ∧ i = .int .i64 k ∧ (∀ j, j < k → xs[j]? = ys[j]?) ∧ wr = w.drewN q) (fun i _ => n - (intOf i).toNat)
    case atStart => exact ⟨0, 0, by omega, rfl, fun j hj => by omega, rfl⟩
    case round =>
      obtain ⟨k, q, hk, rfl, he, rfl⟩ := hrel
      have HE : Hid (∀ j, j < k → xs[j]? = ys[j]?) := he
      clear he
      by_cases hlt : k < n
      · obtain ⟨a, hA, ha, hca⟩ := hx.at_ (i := k) (by have := hx.1; omega)
        obtain ⟨b, hB, hb, hcb⟩ := hy.at_ (i := k) (by have := hy.1; omega)
        have ex : xs[k]? = some (xs[k]'(by have := hx.1; omega)) := List.getElem?_eq_getElem _
        have ey : ys[k]? = some (ys[k]'(by have := hy.1; omega)) := List.getElem?_eq_getElem _
        generalize xs[k]'(by have := hx.1; omega) = x at hca ex
        generalize ys[k]'(by have := hy.1; omega) = y at hcb ey
        subst hA hB
        by_cases hxy : x = y
        · have hc : (x != y) = false := by rw [hxy]; simp
          have HE' : Hid (∀ j, j < k + 1 → xs[j]? = ys[j]?) := same_step HE.out (by rw [ex, ey, hxy])
          clear ex ey hxy hx hy HE
          go_wp2
          go_quiet (fail)
          go_wp2
          go_roundw
          case rel => exact ⟨k + 1, _, by omega, by go_num, HE'.out, rfl⟩
          case measure => simp [intOf]; omega
        · have hc : (x != y) = true := by rw [bne_iff_ne]; intro h; exact hxy h
          have HF : Hid (decide (xs = ys) = false) := by
            show _ = _
            rw [decide_eq_false_iff_not]
            intro h
            rw [h] at ex
            rw [ex] at ey
            exact hxy (Option.some.inj ey)
          clear ex ey hxy hx hy HE
          go_wp2
          go_quiet (fail)
          go_wp2
          go_ret
          exact ⟨ret_bool HF.out.symm, _, World.drewN_drewN _ _ _⟩
      · obtain rfl : k = n := by omega
        have HF : Hid (decide (xs = ys) = true) := by
          show _ = _
          rw [decide_eq_true_eq]
          exact same_all (by rw [hx.1, hy.1]) (fun j hj => HE.out j (by have := hx.1; omega))
        clear hx hy HE
        go_wp2
        go_ret
        exact ⟨ret_bool HF.out.symm, _, rfl⟩
  · have hc : ((n : Int) != (m : Int)) = true := by rw [bne_iff_ne]; intro h; exact hnm (Int.ofNat.inj h)
    have HF : Hid (decide (xs = ys) = false) := by
      show _ = _
      rw [decide_eq_false_iff_not]
      intro h
      have := hx.1
      have := hy.1
      rw [h] at *
      omega
    clear hx hy hnm
    go_enter Tryz.func80, Tryz.ntmps80
    go_wp2
    go_ret
    exact ⟨ret_bool HF.out.symm, 0, rfl⟩

end Go.Proofs.YtbamhiegabeicaaGreat.Same

