/- Plain laws on bytes and their bits: no program. No statement is proved here. -/
import Derived.Test.YtgcmgohknocfnaaMem
namespace Go.Proofs.Ytgcmgohknocfnaa.Bits
set_option linter.unusedVariables false
set_option linter.unusedSimpArgs false

/-- A bit of some bytes. -/
def bitAt (l : List Nat) (i : Nat) : Bool := (l.getD (i / 8) 0).testBit (i % 8)
/-- Some bytes' bits. -/
def bitsL (l : List Nat) : List Bool := l.flatMap fun x => (List.range 8).map fun k => x.testBit k
theorem bitsL_length (l : List Nat) : (bitsL l).length = 8 * l.length := by
  induction l with
  | nil => rfl
  | cons x l ih =>
    unfold bitsL at ih ⊢
    rw [List.flatMap_cons, List.length_append, ih, List.length_map, List.length_range, List.length_cons]
    omega
theorem bitsL_append (l m : List Nat) : bitsL (l ++ m) = bitsL l ++ bitsL m := by unfold bitsL; rw [List.flatMap_append]
theorem bitsL_one (x : Nat) : bitsL [x] = (List.range 8).map fun k => x.testBit k := by unfold bitsL; simp
theorem bitsL_get (l : List Nat) : ∀ i, i < 8 * l.length → (bitsL l)[i]? = some (bitAt l i) := by
  induction l with
  | nil => intro i hi; simp at hi
  | cons x l ih =>
    intro i hi
    rw [show x :: l = [x] ++ l from rfl, bitsL_append, bitsL_one]
    by_cases h : i < 8
    · rw [List.getElem?_append_left (by simp; omega)]
      unfold bitAt
      rw [List.getElem?_map, List.getElem?_range h, Nat.div_eq_of_lt h, Nat.mod_eq_of_lt h]
      rfl
    · rw [List.getElem?_append_right (by simp; omega)]
      simp only [List.length_map, List.length_range]
      rw [ih (i - 8) (by simp at hi; omega)]
      unfold bitAt
      rw [show i / 8 = (i - 8) / 8 + 1 from by omega, show i % 8 = (i - 8) % 8 from by omega]
      rfl
/-- Bytes of the same bits are the same. -/
theorem bits_ext (l m : List Nat) (hl : l.length = m.length) (h1 : ∀ x ∈ l, x < 256) (h2 : ∀ x ∈ m, x < 256) (h : ∀ i, i < 8 * l.length → bitAt l i = bitAt m i) : l = m := by
  apply List.ext_getElem hl
  intro q hq hq'
  apply Nat.eq_of_testBit_eq
  intro k
  by_cases hk : k < 8
  · have := h (8 * q + k) (by omega)
    unfold bitAt at this
    rw [show (8 * q + k) / 8 = q from by omega, show (8 * q + k) % 8 = k from by omega] at this
    simpa [List.getD_eq_getElem?_getD, List.getElem?_eq_getElem hq, List.getElem?_eq_getElem hq'] using this
  · have e1 := h1 _ (List.getElem_mem hq)
    have e2 := h2 _ (List.getElem_mem hq')
    have p : 256 ≤ 2 ^ k := Nat.pow_le_pow_right (n := 2) (by decide) (show 8 ≤ k by omega)
    rw [Nat.testBit_lt_two_pow (by omega), Nat.testBit_lt_two_pow (by omega)]

/-! ### bits as bytes -/
/-- The first so many bits of a byte, as a number. -/
def byteK (l : List Bool) (q : Nat) : Nat → Nat
  | 0 => 0
  | m + 1 => byteK l q m + if l.getD (8 * q + m) false then 2 ^ m else 0
theorem byteK_lt (l : List Bool) (q m : Nat) : byteK l q m < 2 ^ m := by
  induction m with
  | zero => simp [byteK]
  | succ m ih => unfold byteK; rw [Nat.pow_succ]; split <;> omega
theorem byteK_bit (l : List Bool) (q m : Nat) : ∀ k, k < m → (byteK l q m).testBit k = l.getD (8 * q + k) false := by
  induction m with
  | zero => intro k hk; omega
  | succ m ih =>
    intro k hk
    unfold byteK
    have hlt := byteK_lt l q m
    by_cases e : k = m
    · subst e
      cases hb : l.getD (8 * q + k) false with
      | true => rw [if_pos rfl, Nat.add_comm, Nat.testBit_two_pow_add_eq, Nat.testBit_lt_two_pow hlt]; rfl
      | false => rw [if_neg (by decide), Nat.add_zero, Nat.testBit_lt_two_pow hlt]
    · have hk' : k < m := by omega
      split
      · rw [Nat.add_comm, Nat.testBit_two_pow_add_gt hk', ih k hk']
      · rw [Nat.add_zero, ih k hk']
/-- Bits as bytes, when so many bits are gone through. -/
def blockK (l : List Bool) (i : Nat) : List Nat := (List.range (l.length / 8)).map fun q => byteK l q (min 8 (i - 8 * q))
def blockL (l : List Bool) : List Nat := blockK l l.length
theorem blockK_length (l : List Bool) (i : Nat) : (blockK l i).length = l.length / 8 := by simp [blockK]
theorem blockK_get (l : List Bool) (i q : Nat) (hq : q < l.length / 8) : (blockK l i)[q]? = some (byteK l q (min 8 (i - 8 * q))) := by
  unfold blockK
  rw [List.getElem?_map, List.getElem?_range hq]
  rfl
theorem blockK_zero (l : List Bool) : blockK l 0 = List.replicate (l.length / 8) 0 := by
  apply List.ext_getElem?
  intro q
  by_cases hq : q < l.length / 8
  · rw [blockK_get l 0 q hq, List.getElem?_replicate, if_pos hq, Nat.zero_sub]
    rfl
  · rw [List.getElem?_eq_none (by rw [blockK_length]; omega), List.getElem?_eq_none (by simp; omega)]
theorem blockK_step (l : List Bool) (i : Nat) (hi : i < l.length) (h8 : l.length % 8 = 0) :
    blockK l (i + 1) = (blockK l i).set (i / 8) (byteK l (i / 8) (i % 8) + if l.getD i false then 2 ^ (i % 8) else 0) := by
  have hq8 : i / 8 < l.length / 8 := by omega
  apply List.ext_getElem?
  intro q
  by_cases hq : q < l.length / 8
  · rw [blockK_get l _ q hq]
    by_cases e : i / 8 = q
    · subst e
      rw [List.getElem?_set_self (by rw [blockK_length]; exact hq)]
      rw [show min 8 (i + 1 - 8 * (i / 8)) = i % 8 + 1 from by omega]
      conv => lhs; unfold byteK
      rw [show 8 * (i / 8) + i % 8 = i from by omega]
    · rw [List.getElem?_set_ne e, blockK_get l i q hq]
      congr 2
      omega
  · rw [List.getElem?_eq_none (by rw [blockK_length]; omega), List.getElem?_eq_none (by rw [List.length_set, blockK_length]; omega)]
theorem blockK_at (l : List Bool) (i : Nat) (hi : i < l.length) (h8 : l.length % 8 = 0) : (blockK l i)[i / 8]? = some (byteK l (i / 8) (i % 8)) := by
  rw [blockK_get l i _ (by omega), show min 8 (i - 8 * (i / 8)) = i % 8 from by omega]
theorem blockK_same (l : List Bool) (i : Nat) (hi : i < l.length) (h8 : l.length % 8 = 0) (hf : l.getD i false = false) : blockK l (i + 1) = blockK l i := by
  rw [blockK_step l i hi h8, hf, if_neg (by decide), Nat.add_zero]
  apply List.ext_getElem?
  intro q
  by_cases e : i / 8 = q
  · subst e
    rw [List.getElem?_set_self (by rw [blockK_length]; omega), blockK_at l i hi h8]
  · rw [List.getElem?_set_ne e]
theorem blockL_length (l : List Bool) : (blockL l).length = l.length / 8 := blockK_length _ _
theorem blockL_byte (l : List Bool) : ∀ x ∈ blockL l, x < 256 := by
  intro x hx
  unfold blockL blockK at hx
  rw [List.mem_map] at hx
  obtain ⟨q, _, rfl⟩ := hx
  exact Nat.lt_of_lt_of_le (byteK_lt _ _ _) (Nat.pow_le_pow_right (n := 2) (by decide) (Nat.min_le_left _ _))
theorem blockL_bit (l : List Bool) (h8 : l.length % 8 = 0) (i : Nat) (hi : i < l.length) : bitAt (blockL l) i = l.getD i false := by
  unfold bitAt
  rw [List.getD_eq_getElem?_getD]
  unfold blockL
  rw [blockK_get l _ _ (by omega), show min 8 (l.length - 8 * (i / 8)) = 8 from by omega]
  simp only [Option.getD_some]
  rw [byteK_bit l _ 8 _ (Nat.mod_lt _ (by decide)), show 8 * (i / 8) + i % 8 = i from by omega]
theorem blockL_bits (l : List Nat) (h : ∀ x ∈ l, x < 256) : blockL (bitsL l) = l := by
  have hl := bitsL_length l
  refine bits_ext _ _ (by rw [blockL_length, hl]; omega) (blockL_byte _) h fun i hi => ?_
  rw [blockL_length, hl] at hi
  rw [blockL_bit _ (by rw [hl]; omega) i (by omega), List.getD_eq_getElem?_getD, bitsL_get l i (by omega)]
  rfl
end Go.Proofs.Ytgcmgohknocfnaa.Bits
