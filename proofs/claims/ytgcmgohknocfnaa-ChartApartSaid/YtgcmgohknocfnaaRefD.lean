/- Contracts of the document's answers on bits (escheatref04). No statement is proved here. -/
import Derived.Test.YtgcmgohknocfnaaProg
import Derived.Test.YtgcmgohknocfnaaBits
import Derived.Test.YtgcmgohknocfnaaSame
import Derived.WalkKit
import Derived.WalkSpells
import Derived.WalkLawsBesides
import Derived.LoopTactic
import Derived.Deep.QuietTactic
import Derived.BigQuiet
import Derived.KernelRfl
import Derived.Lib.Hide
namespace Go.Proofs.Ytgcmgohknocfnaa.RefD
open Go.RowKit Go.Proofs.Ytgcmgohknocfnaa.Mem Go.Proofs.Ytgcmgohknocfnaa.Open Go.Proofs.Ytgcmgohknocfnaa.Bits Go.Proofs.Ytgcmgohknocfnaa.Same
set_option linter.unusedVariables false
set_option linter.unusedSimpArgs false

theorem boolInfo : (Try.prog.info? 4).map (fun i => (i.zero, i.size, i.bytes)) = some (some (.bool false), 1, 1) := by kernel_rfl
theorem u8Info : (Try.prog.info? 5).map (fun i => (i.zero, i.size, i.bytes)) = some (some (V8 0), 1, 1) := by kernel_rfl

theorem bits_take (l : List Nat) (i : Nat) (hi : i < l.length) : bitsL (l.take (i + 1)) = bitsL (l.take i) ++ (List.range 8).map fun k => l[i].testBit k := by
  rw [List.take_succ_eq_append_getElem hi, bitsL_append, bitsL_one]
theorem range_step (x k : Nat) : ((List.range (k + 1)).map fun k => x.testBit k) = ((List.range k).map fun k => x.testBit k) ++ [x.testBit k] := by
  rw [List.range_succ, List.map_append]; rfl
theorem half_bit (x k : Nat) : (((x / 2 ^ k : Nat) : Int) % 2 == 1) = x.testBit k := by
  rw [Nat.testBit_eq_decide_div_mod_eq, Bool.eq_iff_iff, beq_iff_eq, decide_eq_true_eq]
  omega

set_option maxHeartbeats 1000000 in
set_option maxRecDepth 100000 in
theorem bits_any (A : Option Addr) (n c : Nat) (xs : List Nat) (w : World) (hx : Sl w V8 A n xs) (hb : ∀ x ∈ xs, x < 256) (hn : n ≤ 1000000) :
    Calls Try.prog 59 #[.slice A n c] w fun e w' => ∃ v, e = .returned v ∧ Own w' w.heap.size 4 Value.bool v (bitsL xs) ∧ Below w.heap.size w w' := by
  go_enter Try.func59, Try.ntmps59
  go_wp2
  go_loopw [3, 4] (fun v i wr => ∃ (u : Value) (k : Nat), u = v ∧ k ≤ n ∧ i = .int .i64 k ∧ Own wr w.heap.size 4 Value.bool u (bitsL (xs.take k)) ∧ Below w.heap.size w wr) (fun _ i _ => n - (intOf i).toNat)
  case atStart => exact ⟨_, 0, rfl, by omega, rfl, Own.nil _ _ _ _, Below.refl _ _⟩
  case round =>
    obtain ⟨u, k, rfl, hk, rfl, hown, hbel⟩ := hrel
    by_cases hlt : k < n
    · obtain ⟨ad, hA, ha, hca⟩ := (hx.below hbel).at_ (i := k) (by have := hx.1; omega)
      have HT : Hid (bitsL (xs.take (k + 1)) = bitsL (xs.take k) ++ (List.range 8).map fun j => (xs[k]'(by have := hx.1; omega)).testBit j) := bits_take xs k _
      have hxb := hb (xs[k]'(by have := hx.1; omega)) (List.getElem_mem _)
      have hlen : (bitsL (xs.take k)).length ≤ 8000000 := by rw [bitsL_length]; simp; omega
      generalize xs[k]'(by have := hx.1; omega) = x at hca HT hxb
      unfold V8 at hca
      subst hA
      go_wp2
      obtain ⟨wo, rfl⟩ : ∃ wo : World, wo = wr := ⟨_, rfl⟩
      go_loopw [3, 5, 6] (fun v y i wr => ∃ (u : Value) (j : Nat), u = v ∧ j ≤ 8 ∧ i = .int .i64 j ∧ y = .int .i64 (x / 2 ^ j : Nat) ∧ Own wr w.heap.size 4 Value.bool u (bitsL (xs.take k) ++ (List.range j).map fun j => x.testBit j) ∧ Below w.heap.size w wr) (fun _ _ i _ => 8 - (intOf i).toNat)
      case atStart => exact ⟨_, 0, rfl, by omega, rfl, by simp, by simpa using hown, hbel⟩
      case round =>
        obtain ⟨u, j, rfl, hj, rfl, rfl, hown, hbel⟩ := hrel
        have hB := hbel.size
        by_cases hlt8 : j < 8
        · have HR : Hid (((List.range (j + 1)).map fun j => x.testBit j) = ((List.range j).map fun j => x.testBit j) ++ [x.testBit j]) := range_step x j
          have HD : Hid (x / 2 ^ (j + 1) = x / 2 ^ j / 2) := by show _ = _; rw [Nat.pow_succ, Nat.div_div_eq_div_mul]
          have hy : x / 2 ^ j < 256 := Nat.lt_of_le_of_lt (Nat.div_le_self _ _) hxb
          have hbit := half_bit x j
          have hlen2 : (bitsL (xs.take k) ++ (List.range j).map fun j => x.testBit j).length ≤ 8000008 := by simp; omega
          obtain ⟨tb, htb⟩ : ∃ tb, x.testBit j = tb := ⟨_, rfl⟩
          obtain ⟨L, hL⟩ : ∃ L, (bitsL (xs.take k) ++ (List.range j).map fun j => x.testBit j) = L := ⟨_, rfl⟩
          have HL : Hid ((bitsL (xs.take k) ++ (List.range (j + 1)).map fun j => x.testBit j) = L ++ [tb]) := by
            show _ = _
            rw [HR.out, ← List.append_assoc, hL, htb]
          rw [htb] at hbit
          rw [hL] at hown hlen2
          clear htb hL HR
          generalize x / 2 ^ j = y at hy hbit HD ⊢
          have hc1 : (wr.alloc (.cells #[.bool tb] 4)).cell? ⟨wr.heap.size, 0, none⟩ = some (.bool tb) := by
            rw [cell_of_row _ _ _ _ _ _ (heap_alloc_new wr _)]; rfl
          go_wp2_with (at_builtin; refine wpList_app1 rfl _ _ 48 rfl w.heap.size 4 (.bool false) 1 Value.bool Try.underlying48 boolInfo rfl u L tb rfl _ wr.heap.size rfl (hown.alloc _) hc1 rfl (by omega) (by omega) (by simp; omega) ?_; intro v1 w1 hown1 hbel1 hg1)
          go_roundw
          case rel => exact ⟨_, j + 1, rfl, by omega, by go_num, by rw [HD.out]; go_num, by rw [HL.out]; exact hown1, (hbel.alloc hB _).trans hbel1⟩
          case measure => simp [intOf]; omega
        · obtain rfl : j = 8 := by omega
          rw [← HT.out] at hown
          go_wp2
          go_roundw
          case rel => exact ⟨_, k + 1, rfl, by omega, by go_num, hown, hbel⟩
          case measure => simp [intOf]; omega
    · obtain rfl : k = n := by omega
      have HF : Hid (xs.take k = xs) := List.take_of_length_le (by have := hx.1; omega)
      rw [HF.out] at hown
      go_wp2
      go_ret
      exact ⟨u, rfl, hown, hbel⟩

set_option maxHeartbeats 1000000 in
set_option maxRecDepth 100000 in
theorem block_any (A : Option Addr) (n c : Nat) (l : List Bool) (w : World) (hx : Sl w Value.bool A n l) (h8 : l.length % 8 = 0) (hn : n ≤ 1000000) :
    Calls Try.prog 56 #[.slice A n c] w fun e w' => ∃ v, e = .returned v ∧ Own w' w.heap.size 5 V8 v (blockL l) ∧ Below w.heap.size w w' := by
  have hln := hx.1
  have hdiv : n / 8 ≤ 1000000 := by omega
  go_enter Try.func56, Try.ntmps56
  go_wp2_with (at_make; refine wpList_make rfl 44 _ _ rfl w.heap.size 5 V8 0 1 Try.underlying44 u8Info rfl (n / 8) (by first | rfl | simp) (by first | rfl | simp) (by omega) (by omega) (Nat.le_refl _) ?_; intro w1 hown1 hbel1 hlt1)
  go_loopw [4] (fun i wr => ∃ k : Nat, k ≤ n ∧ i = .int .i64 k ∧ Own wr w.heap.size 5 V8 (.slice (some ⟨w.heap.size, 0, none⟩) (n / 8) (n / 8)) (blockK l k) ∧ Below w.heap.size w wr) (fun i _ => n - (intOf i).toNat)
  case atStart => exact ⟨0, by omega, rfl, by rw [blockK_zero, hln]; exact hown1, hbel1⟩
  case round =>
    obtain ⟨k, hk, rfl, hown, hbel⟩ := hrel
    clear hown1 hbel1 hlt1
    by_cases hlt : k < n
    · obtain ⟨ad, hA, ha, hca⟩ := (hx.below hbel).at_ (i := k) (by omega)
      subst hA
      cases hb : l[k]'(by omega) with
      | false =>
        rw [hb] at hca
        have HS : Hid (blockK l (k + 1) = blockK l k) := blockK_same l k (by omega) h8 (by rw [List.getD_eq_getElem?_getD, List.getElem?_eq_getElem (by omega), hb]; rfl)
        clear hb
        go_wp2
        go_roundw
        case rel => exact ⟨k + 1, by omega, by go_num, by rw [HS.out]; exact hown, hbel⟩
        case measure => simp [intOf]; omega
      | true =>
        rw [hb] at hca
        have HS : Hid (blockK l (k + 1) = (blockK l k).set (k / 8) (byteK l (k / 8) (k % 8) + 2 ^ (k % 8))) := by
          show _ = _
          rw [blockK_step l k (by omega) h8, List.getD_eq_getElem?_getD, List.getElem?_eq_getElem (by omega), hb]
          rfl
        have hq : k / 8 < (blockK l k).length := by rw [blockK_length]; omega
        have hat := List.getElem?_eq_some_iff.1 (blockK_at l k (by omega) h8)
        obtain ⟨hq', hat⟩ := hat
        have hcell := hown.cell (k / 8) hq
        have hfz := hown.frozen (k / 8)
        rw [hat] at hcell
        have hy := byteK_lt l (k / 8) (k % 8)
        have h8m : k % 8 < 8 := Nat.mod_lt _ (by decide)
        have p2 : 2 ^ (k % 8) ≤ 128 := Nat.pow_le_pow_right (n := 2) (by decide) (show k % 8 ≤ 7 by omega)
        clear hb hat hq'
        generalize byteK l (k / 8) (k % 8) = y at HS hcell hy
        unfold V8 at hcell
        have hq2 : k / 8 < n / 8 := by omega
        go_wp2
        go_loop [5, 6] (fun p i => ∃ j : Nat, j ≤ k % 8 ∧ i = .int .i64 j ∧ p = .int .i64 ((2 ^ j : Nat) : Int)) (fun _ i => k % 8 - (intOf i).toNat)
        case atStart => exact ⟨0, by omega, rfl, rfl⟩
        case round =>
          obtain ⟨j, hj, rfl, rfl⟩ := hrel
          by_cases hltj : j < k % 8
          · have pj : 2 ^ j ≤ 128 := Nat.pow_le_pow_right (n := 2) (by decide) (show j ≤ 7 by omega)
            have HP : Hid ((2 : Nat) ^ (j + 1) = 2 ^ j * 2) := Nat.pow_succ ..
            generalize 2 ^ j = P at pj HP ⊢
            go_wp2
            go_round
            case rel => exact ⟨j + 1, by omega, by go_num, by rw [HP.out]; go_num⟩
            case measure => simp [intOf]; omega
          · obtain rfl : j = k % 8 := by omega
            have hst := hown.stored (k / 8) (y + 2 ^ (k % 8))
            rw [← HS.out] at hst
            unfold V8 at hst
            generalize 2 ^ (k % 8) = P at hy p2 hst ⊢
            have hbel2 := hbel.setCell (p := ⟨w.heap.size, k / 8, none⟩) (Nat.le_refl _) (.int .u8 ((y + P : Nat) : Int))
            go_wp2
            go_roundw
            case rel => exact ⟨k + 1, by omega, by go_num, hst, hbel2⟩
            case measure => simp [intOf]; omega
    · obtain rfl : k = n := by omega
      have HF : Hid (blockK l k = blockL l) := by show _ = _; unfold blockL; rw [hln]
      rw [HF.out] at hown
      go_wp2
      go_ret
      exact ⟨_, rfl, hown, hbel⟩

/-- Bits, some of them set. -/
def bitsMk (xs : List Int) : List Bool := xs.foldl (fun l i => if 0 ≤ i ∧ i < 2048 then l.set i.toNat true else l) (List.replicate 2048 false)
theorem bitsMk_take (xs : List Int) (k : Nat) (hk : k < xs.length) : bitsMk (xs.take (k + 1)) = if 0 ≤ xs[k] ∧ xs[k] < 2048 then (bitsMk (xs.take k)).set xs[k].toNat true else bitsMk (xs.take k) := by
  unfold bitsMk
  rw [List.take_succ_eq_append_getElem hk, List.foldl_append, List.foldl_cons, List.foldl_nil]
theorem bitsMk_length (xs : List Int) : (bitsMk xs).length = 2048 := by
  have h : ∀ (xs : List Int) (l : List Bool), l.length = 2048 → (xs.foldl (fun l i => if 0 ≤ i ∧ i < 2048 then l.set i.toNat true else l) l).length = 2048 := by
    intro xs
    induction xs with
    | nil => intro l hl; rw [List.foldl_nil]; exact hl
    | cons i xs ih => intro l hl; rw [List.foldl_cons]; exact ih _ (by split <;> simp [hl])
  exact h xs _ (by rw [List.length_replicate])

set_option maxHeartbeats 1000000 in
set_option maxRecDepth 100000 in
theorem rmake_any (A : Option Addr) (n c : Nat) (xs : List Int) (w : World) (hx : Sl w (Value.int .i64) A n xs) :
    Calls Try.prog 29 #[.slice A n c] w fun e w' => ∃ v, e = .returned v ∧ Own w' w.heap.size 5 V8 v (blockL (bitsMk xs)) ∧ Below w.heap.size w w' := by
  have hln := hx.1
  have hn := hx.2.1
  go_enter Try.func29, Try.ntmps29
  go_wp2_with (at_make; refine wpList_make rfl 48 _ _ rfl w.heap.size 4 Value.bool false 1 Try.underlying48 boolInfo rfl 2048 (by first | rfl | simp) (by first | rfl | simp) (by omega) (by omega) (Nat.le_refl _) ?_; intro w1 hown1 hbel1 hlt1)
  go_loopw [4] (fun i wr => ∃ k : Nat, k ≤ n ∧ i = .int .i64 k ∧ Own wr w.heap.size 4 Value.bool (.slice (some ⟨w.heap.size, 0, none⟩) 2048 2048) (bitsMk (xs.take k)) ∧ Below w.heap.size w wr) (fun i _ => n - (intOf i).toNat)
  case atStart => exact ⟨0, by omega, rfl, hown1, hbel1⟩
  case round =>
    obtain ⟨k, hk, rfl, hown, hbel⟩ := hrel
    clear hown1 hbel1 hlt1
    by_cases hlt : k < n
    · obtain ⟨ad, hA, ha, hca⟩ := (hx.below hbel).at_ (i := k) (by omega)
      have HS : Hid (bitsMk (xs.take (k + 1)) = if 0 ≤ xs[k]'(by omega) ∧ xs[k]'(by omega) < 2048 then (bitsMk (xs.take k)).set (xs[k]'(by omega)).toNat true else bitsMk (xs.take k)) := bitsMk_take xs k (by omega)
      generalize xs[k]'(by omega) = x at hca HS
      subst hA
      by_cases h1 : 0 ≤ x
      · by_cases h2 : x < 2048
        · obtain ⟨j, rfl⟩ := Int.eq_ofNat_of_zero_le h1
          have hj : j < 2048 := by omega
          have HS' : Hid (bitsMk (xs.take (k + 1)) = (bitsMk (xs.take k)).set j true) := by show _ = _; rw [HS.out, if_pos ⟨h1, h2⟩, Int.toNat_natCast]
          have hcell := hown.cell j (by rw [bitsMk_length]; exact hj)
          have hfz := hown.frozen j
          have hst := hown.stored j true
          rw [← HS'.out] at hst
          have hbel2 := hbel.setCell (p := ⟨w.heap.size, j, none⟩) (Nat.le_refl _) (.bool true)
          clear HS HS'
          go_wp2
          go_roundw
          case rel => exact ⟨k + 1, by omega, by go_num, hst, hbel2⟩
          case measure => simp [intOf]; omega
        · have HS' : Hid (bitsMk (xs.take (k + 1)) = bitsMk (xs.take k)) := by show _ = _; rw [HS.out, if_neg (by omega)]
          clear HS
          go_wp2
          go_roundw
          case rel => exact ⟨k + 1, by omega, by go_num, by rw [HS'.out]; exact hown, hbel⟩
          case measure => simp [intOf]; omega
      · have HS' : Hid (bitsMk (xs.take (k + 1)) = bitsMk (xs.take k)) := by show _ = _; rw [HS.out, if_neg (by omega)]
        clear HS
        go_wp2
        go_roundw
        case rel => exact ⟨k + 1, by omega, by go_num, by rw [HS'.out]; exact hown, hbel⟩
        case measure => simp [intOf]; omega
    · obtain rfl : k = n := by omega
      have HF : Hid (xs.take k = xs) := List.take_of_length_le (by omega)
      rw [HF.out] at hown
      go_wp2_with (go_at_call 56; refine (block_any _ _ _ _ _ hown.sl.2 (by rw [bitsMk_length]) (by omega)).mono ?_; rintro e w2 ⟨v, rfl, hown2, hbel2⟩)
      go_ret
      exact ⟨v, rfl, hown2.mono hbel.size, hbel.trans (hbel2.mono hbel.size)⟩

set_option maxHeartbeats 1000000 in
set_option maxRecDepth 100000 in
theorem rwith_any (A : Option Addr) (n c : Nat) (xs : List Nat) (i : Int) (on : Bool) (w : World) (hx : Sl w V8 A n xs) (hb : ∀ x ∈ xs, x < 256) (hn : xs.length = 256) :
    Calls Try.prog 43 #[.slice A n c, .int .i64 i, .bool on] w fun e w' => ∃ v, e = .returned v ∧ Own w' w.heap.size 5 V8 v (blockL (if 0 ≤ i ∧ i < 2048 then (bitsL xs).set i.toNat on else bitsL xs)) ∧ Below w.heap.size w w' := by
  have hln := hx.1
  have hlen := bitsL_length xs
  rw [hn] at hlen
  have hC : Hid (∀ w' : World, Sl w' V8 A n xs → Calls Try.prog 59 #[.slice A n c] w' fun e w2 => ∃ v, e = .returned v ∧ Own w2 w'.heap.size 4 Value.bool v (bitsL xs) ∧ Below w'.heap.size w' w2) :=
    fun w' h' => bits_any A n c xs w' h' hb (by omega)
  obtain ⟨L, hL⟩ : ∃ L, bitsL xs = L := ⟨_, rfl⟩
  rw [hL] at hlen hC ⊢
  clear hL
  by_cases h1 : 0 ≤ i ∧ i < 2048
  · rw [if_pos h1]
    obtain ⟨h1, h2⟩ := h1
    obtain ⟨j, rfl⟩ := Int.eq_ofNat_of_zero_le h1
    have hj : j < L.length := by omega
    rw [Int.toNat_natCast]
    go_enter Try.func43, Try.ntmps43
    go_wp2_with fail
    refine (hC.out _ hx).mono ?_
    rintro e w1 ⟨v, rfl, hown1, hbel1⟩
    obtain ⟨g, c', rfl⟩ := hown1.slice_pos (by omega)
    have hcell := hown1.cell j hj
    have hfz := hown1.frozen j
    have hst := hown1.stored j on
    have hbs := hown1.base
    have hbel2 := hbel1.setCell (p := ⟨g, j, none⟩) hbs.1 (.bool on)
    have hL8 : (L.set j on).length % 8 = 0 := by rw [List.length_set, hlen]
    have hLn : L.length ≤ 1000000 := by omega
    have hlen' := Lib.hid hlen
    have hL8' := Lib.hid hL8
    clear hlen hL8 hln hn
    go_wp2_with fail
    refine (block_any _ _ _ _ _ hst.sl.2 hL8'.out hLn).mono ?_
    rintro e w2 ⟨v, rfl, hown2, hbel3⟩
    have hsz := hbel2.size
    go_wp2
    go_ret
    exact ⟨v, rfl, hown2.mono hsz, hbel2.trans (hbel3.mono hsz)⟩
  · rw [if_neg h1]
    have hL8 : Hid (L.length % 8 = 0) := by show _ = _; rw [hlen]
    have hLn : L.length ≤ 1000000 := by omega
    have hlen' := Lib.hid hlen
    have hl1 : L.length ≤ 2048 := by omega
    have hl2 : 2048 ≤ L.length := by omega
    clear hlen hln hn
    by_cases h0 : 0 ≤ i
    · have h2 : ¬ i < (L.length : Int) := by omega
      clear h1
      go_enter Try.func43, Try.ntmps43
      go_wp2_with fail
      refine (hC.out _ hx).mono ?_
      rintro e w1 ⟨v, rfl, hown1, hbel1⟩
      obtain ⟨A', c', rfl⟩ := hown1.slice
      have hsz := hbel1.size
      go_wp2_with fail
      refine (block_any _ _ _ _ _ hown1.sl.2 hL8.out hLn).mono ?_
      rintro e w2 ⟨v, rfl, hown2, hbel3⟩
      go_wp2
      go_ret
      exact ⟨v, rfl, hown2.mono hsz, hbel1.trans (hbel3.mono hsz)⟩
    · clear h1
      go_enter Try.func43, Try.ntmps43
      go_wp2_with fail
      refine (hC.out _ hx).mono ?_
      rintro e w1 ⟨v, rfl, hown1, hbel1⟩
      obtain ⟨A', c', rfl⟩ := hown1.slice
      have hsz := hbel1.size
      go_wp2_with fail
      refine (block_any _ _ _ _ _ hown1.sl.2 hL8.out hLn).mono ?_
      rintro e w2 ⟨v, rfl, hown2, hbel3⟩
      go_wp2
      go_ret
      exact ⟨v, rfl, hown2.mono hsz, hbel1.trans (hbel3.mono hsz)⟩

theorem half_last (x m : Nat) : ((((x / 2 ^ m : Nat) : Int) % 2) == 1) = x.testBit m := half_bit x m
set_option maxHeartbeats 1000000 in
set_option maxRecDepth 100000 in
theorem rhas_any (A : Option Addr) (n c : Nat) (xs : List Nat) (i : Int) (w : World) (hx : Sl w V8 A n xs) (hb : ∀ x ∈ xs, x < 256) (hn : n ≤ 1000000) :
    Calls Try.prog 45 #[.slice A n c, .int .i64 i] w fun e w' => e = .returned (.bool (if 0 ≤ i ∧ i < 8 * n then bitAt xs i.toNat else false)) ∧ w = w' := by
  have hln := hx.1
  by_cases h0 : 0 ≤ i
  · by_cases h1 : i < 8 * n
    · rw [if_pos ⟨h0, h1⟩]
      obtain ⟨k, rfl⟩ := Int.eq_ofNat_of_zero_le h0
      rw [Int.toNat_natCast]
      obtain ⟨ad, hA, ha, hca⟩ := hx.at_ (i := k / 8) (by omega)
      subst hA
      have hxb := hb (xs[k / 8]'(by omega)) (List.getElem_mem _)
      have HB : Hid (bitAt xs k = (xs[k / 8]'(by omega)).testBit (k % 8)) := by
        show _ = _
        unfold bitAt
        rw [List.getD_eq_getElem?_getD, List.getElem?_eq_getElem (by omega)]; rfl
      have hq : k / 8 < n := by omega
      have hm : k % 8 < 8 := Nat.mod_lt _ (by decide)
      generalize xs[k / 8]'(by omega) = x at hca hxb HB
      unfold V8 at hca
      clear hx hb
      go_enter Try.func45, Try.ntmps45
      go_wp2
      go_loop [5, 6] (fun y i => ∃ j : Nat, j ≤ k % 8 ∧ i = .int .i64 j ∧ y = .int .i64 ((x / 2 ^ j : Nat) : Int)) (fun _ i => k % 8 - (intOf i).toNat)
      case atStart => exact ⟨0, by omega, rfl, by simp⟩
      case round =>
        obtain ⟨j, hj, rfl, rfl⟩ := hrel
        have hy : x / 2 ^ j < 256 := Nat.lt_of_le_of_lt (Nat.div_le_self _ _) hxb
        by_cases hlt : j < k % 8
        · have HD : Hid (x / 2 ^ (j + 1) = x / 2 ^ j / 2) := by show _ = _; rw [Nat.pow_succ, Nat.div_div_eq_div_mul]
          generalize x / 2 ^ j = y at hy HD ⊢
          go_wp2
          go_round
          case rel => exact ⟨j + 1, by omega, by go_num, by rw [HD.out]; go_num⟩
          case measure => simp [intOf]; omega
        · obtain rfl : j = k % 8 := by omega
          have hbit := half_last x (k % 8)
          obtain ⟨tb, htb⟩ : ∃ tb, x.testBit (k % 8) = tb := ⟨_, rfl⟩
          rw [htb] at hbit HB
          clear htb
          generalize x / 2 ^ (k % 8) = y at hy hbit ⊢
          go_wp2
          go_ret
          exact ⟨ret_bool HB.out.symm, rfl⟩
    · rw [if_neg (by omega)]
      go_enter Try.func45, Try.ntmps45
      go_wp2
      go_ret
      exact ⟨rfl, rfl⟩
  · rw [if_neg (by omega)]
    go_enter Try.func45, Try.ntmps45
    go_wp2
    go_ret
    exact ⟨rfl, rfl⟩
end Go.Proofs.Ytgcmgohknocfnaa.RefD
