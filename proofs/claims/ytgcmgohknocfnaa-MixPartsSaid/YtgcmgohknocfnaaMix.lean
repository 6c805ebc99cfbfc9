/- Contracts of the hash's functions (package mix), and of the document's own (escheatref02). No statement is proved here. -/
import Derived.Test.YtgcmgohknocfnaaProg
import Derived.WalkKit
import Derived.WalkSpells
import Derived.WalkLawsBesides
import Derived.Laws.BitsAllLaws
import Derived.Lib.Hide
import Derived.LoopTactic
import Derived.Deep.QuietTactic
import Derived.BigQuiet
namespace Go.Proofs.Ytgcmgohknocfnaa.Mix
open Go.RowKit
set_option linter.unusedVariables false
set_option linter.unusedSimpArgs false

/-! ### plain -/
/-- One byte more. -/
def step (h : Nat) (c : UInt8) : Nat := (h ^^^ c.toNat) * 16777619 % 4294967296
/-- The hash of some bytes, begun with another one. -/
def hash (h : Nat) (l : List UInt8) : Nat := l.foldl step h
theorem step_lt (h : Nat) (c : UInt8) : step h c < 4294967296 := Nat.mod_lt _ (by decide)
theorem hash_lt (l : List UInt8) : ∀ h, h < 4294967296 → hash h l < 4294967296 := by
  unfold hash
  induction l with
  | nil => intro h hh; rw [List.foldl_nil]; exact hh
  | cons c l ih => intro h _; rw [List.foldl_cons]; exact ih _ (step_lt h c)
theorem hash_append (h : Nat) (l m : List UInt8) : hash h (l ++ m) = hash (hash h l) m := by unfold hash; rw [List.foldl_append]
theorem hash_one (h : Nat) (c : UInt8) : hash h [c] = step h c := by unfold hash; rw [List.foldl_cons, List.foldl_nil]
theorem hash_snoc (h : Nat) (l : List UInt8) (c : UInt8) : hash h (l ++ [c]) = step (hash h l) c := by rw [hash_append, hash_one]
theorem hash_nil (h : Nat) : hash h [] = h := by unfold hash; rw [List.foldl_nil]
theorem step_int (h : Nat) (c : UInt8) (hh : h < 4294967296) : bits .xor .u32 (h : Int) (c.toNat : Int) * 16777619 % 4294967296 = ((step h c : Nat) : Int) := by
  have := c.toNat_lt
  rw [u32_xor_nat h c.toNat hh (by omega)]
  unfold step
  rw [Int.natCast_emod, Int.natCast_mul]
  rfl
theorem hash_take (h : Nat) (s : ByteArray) (k : Nat) (hk : k < s.size) : hash h (s.data.toList.take (k + 1)) = step (hash h (s.data.toList.take k)) s[k] := by
  have e : (s.data.toList)[k]'(by simpa using hk) = s[k] := rfl
  rw [List.take_succ_eq_append_getElem (by simpa using hk), hash_snoc, e]
theorem ret_int {k : IntKind} {a b : Int} (h : a = b) : Ending.returned (.int k a) = .returned (.int k b) := by rw [h]
theorem ret_bool {a b : Bool} (h : a = b) : Ending.returned (.bool a) = .returned (.bool b) := by rw [h]

/-! ### mix.More -/
set_option maxHeartbeats 400000 in
theorem more_any (h : Nat) (s : ByteArray) (w : World) (hh : h < 4294967296) (hs : s.size ≤ 9223372036854775807) :
    Calls Try.prog 18 #[.int .u32 h, .string s] w fun e w' => e = .returned (.int .u32 (hash h s.data.toList : Nat)) ∧ w = w' := by
  go_enter Try.func18, Try.ntmps18
  go_wp2
  go_loop [0, 8] (fun x i => ∃ k : Nat, k ≤ s.size ∧ i = .int .i64 k ∧ x = .int .u32 (hash h (s.data.toList.take k) : Nat)) (fun _ i => s.size - (intOf i).toNat)
  case atStart => exact ⟨0, Nat.zero_le _, rfl, rfl⟩
  case round =>
    obtain ⟨k, hk, rfl, rfl⟩ := hrel
    by_cases hlt : k < s.size
    · have hx := hash_lt (s.data.toList.take k) h hh
      have hb := (s[k]).toNat_lt
      have H : Hid (hash h (s.data.toList.take (k + 1)) = step (hash h (s.data.toList.take k)) s[k]) := hash_take h s k hlt
      go_wp2
      go_round
      case rel => 
        exact ⟨k + 1, by omega, by go_num, by rw [H.out, step_int _ _ hx]⟩
      case measure => simp [intOf]; omega
    · go_wp2
      go_ret
      exact ⟨ret_int (by rw [List.take_of_length_le (by simp; omega)]), rfl⟩

theorem of_any (s : ByteArray) (w : World) (hs : s.size ≤ 9223372036854775807) :
    Calls Try.prog 16 #[.string s] w fun e w' => e = .returned (.int .u32 (hash 2166136261 s.data.toList : Nat)) ∧ w = w' := by
  go_enter Try.func16, Try.ntmps16
  go_wp2_with (go_at_call 18; refine (more_any 2166136261 _ _ (by decide) hs).mono ?_; rintro e w' ⟨rfl, rfl⟩)
  go_ret
  exact ⟨rfl, rfl⟩

/-! ### the low bits -/
/-- The lowest bits of a number, at most 32. -/
def low (h : Nat) (b : Int) : Nat := h % 2 ^ min b.toNat 32
theorem low_le (h : Nat) (b : Int) : low h b ≤ h := Nat.mod_le _ _
theorem low_lt (h : Nat) (b : Int) (hh : h < 4294967296) : low h b < 4294967296 := Nat.lt_of_le_of_lt (low_le h b) hh
theorem low_none (h : Nat) (b : Int) (hb : b < 1) : low h b = 0 := by
  unfold low
  rw [show min b.toNat 32 = 0 from by omega, Nat.pow_zero, Nat.mod_one]
theorem low_all (h : Nat) (b : Int) (hb : 32 ≤ b) (hh : h < 4294967296) : low h b = h := by
  unfold low
  rw [show min b.toNat 32 = 32 from by omega]
  exact Nat.mod_eq_of_lt hh
theorem pow_le32 (k : Nat) (hk : k < 32) : 1 ≤ 2 ^ k ∧ 2 ^ k ≤ 2147483648 := ⟨Nat.one_le_two_pow, Nat.pow_le_pow_right (n := 2) (by decide) (show k ≤ 31 by omega)⟩
theorem low_mid (h k : Nat) (hk : k < 32) (hh : h < 4294967296) : bits .and .u32 (h : Int) ((2 : Int) ^ k - 1) = ((low h (k : Int) : Nat) : Int) := by
  obtain ⟨h1, h2⟩ := pow_le32 k hk
  have e : ((2 : Int) ^ k - 1) = ((2 ^ k - 1 : Nat) : Int) := by
    rw [Int.ofNat_sub h1]
    simp
  rw [e, u32_and_nat h _ hh (by omega), Nat.and_two_pow_sub_one_eq_mod]
  unfold low
  rw [Int.toNat_natCast, Nat.min_eq_left (by omega)]

set_option maxHeartbeats 400000 in
theorem low_any (h : Nat) (b : Int) (w : World) (hh : h < 4294967296) :
    Calls Try.prog 20 #[.int .u32 h, .int .i64 b] w fun e w' => e = .returned (.int .i64 (low h b : Nat)) ∧ w = w' := by
  by_cases h1 : b < 1
  · go_enter Try.func20, Try.ntmps20
    go_wp2
    go_ret
    exact ⟨ret_int (by rw [low_none h b h1]; rfl), rfl⟩
  · by_cases h2 : 32 ≤ b
    · go_enter Try.func20, Try.ntmps20
      go_wp2
      go_ret
      exact ⟨ret_int (by rw [low_all h b h2 hh]), rfl⟩
    · obtain ⟨k, rfl⟩ := Int.eq_ofNat_of_zero_le (show 0 ≤ b by omega)
      have hk : k < 32 := by omega
      obtain ⟨p1, p2⟩ := pow_le32 k hk
      have p3 : (1 : Int) ≤ 2 ^ k := by have : ((2 ^ k : Nat) : Int) = (2 : Int) ^ k := by simp
                                        omega
      have p4 : (2 : Int) ^ k ≤ 2147483648 := by have : ((2 ^ k : Nat) : Int) = (2 : Int) ^ k := by simp
                                                 omega
      have H : Hid (bits .and .u32 (h : Int) ((2 : Int) ^ k - 1) = ((low h (k : Int) : Nat) : Int)) := low_mid h k hk hh
      go_enter Try.func20, Try.ntmps20
      go_wp2
      go_ret
      have hl := low_lt h (k : Int) hh
      exact ⟨ret_int (by rw [H.out]; unfold wrap64; omega), rfl⟩

/-- The document's: the power is made by doubling. -/
theorem rlow_pow (b : Int) (k : Nat) (h1 : (k : Int) < b) (h2 : k < 32) : (2 : Nat) ^ (k + 1) = 2 ^ k * 2 := Nat.pow_succ ..
theorem rlow_stop (b : Int) (k : Nat) (h0 : k = 0 ∨ (k : Int) ≤ b) (hk : k ≤ 32) (h : b ≤ (k : Int) ∨ k = 32) : min b.toNat 32 = k := by omega
set_option maxHeartbeats 400000 in
theorem rlow_any (h : Nat) (b : Int) (w : World) (hh : h < 4294967296) :
    Calls Try.prog 21 #[.int .u64 h, .int .i64 b] w fun e w' => e = .returned (.int .i64 (low h b : Nat)) ∧ w = w' := by
  go_enter Try.func21, Try.ntmps21
  go_wp2
  go_loop [5, 6] (fun n i => ∃ k : Nat, k ≤ 32 ∧ (k = 0 ∨ (k : Int) ≤ b) ∧ i = .int .i64 k ∧ n = .int .u64 ((2 ^ k : Nat) : Int)) (fun _ i => 32 - (intOf i).toNat)
  case atStart => exact ⟨0, by omega, .inl rfl, rfl, rfl⟩
  case round =>
    obtain ⟨k, hk, h0, rfl, rfl⟩ := hrel
    have p2 : 1 ≤ 2 ^ k ∧ 2 ^ k ≤ 4294967296 := ⟨Nat.one_le_two_pow, Nat.pow_le_pow_right (n := 2) (by decide) (show k ≤ 32 by omega)⟩
    obtain ⟨p2, p3⟩ := p2
    have hl := low_lt h b hh
    by_cases hlt : (k : Int) < b ∧ k < 32
    · obtain ⟨ha, hb⟩ := hlt
      have hp : Hid ((2 : Nat) ^ (k + 1) = 2 ^ k * 2) := rlow_pow b k ha hb
      obtain ⟨P, hP⟩ : ∃ P : Nat, P = 2 ^ k := ⟨_, rfl⟩
      rw [← hP] at p2 p3 hp ⊢
      clear hP
      go_wp2
      go_round
      case rel => exact ⟨k + 1, by omega, by omega, by go_num, by rw [hp.out]; go_num⟩
      case measure => simp [intOf]; omega
    · have hs : Hid (min b.toNat 32 = k) := rlow_stop b k h0 hk (by omega)
      have hm : Hid (low h b = h % 2 ^ k) := by show low h b = _; unfold low; rw [hs.out]
      obtain ⟨P, hP⟩ : ∃ P : Nat, P = 2 ^ k := ⟨_, rfl⟩
      rw [← hP] at p2 p3 hm ⊢
      clear hP h0
      by_cases ha : (k : Int) < b
      · have hb : ¬ k < 32 := by omega
        go_wp2
        go_ret
        exact ⟨ret_int (by rw [hm.out] at hl ⊢; unfold wrap64; omega), rfl⟩
      · go_wp2
        go_ret
        exact ⟨ret_int (by rw [hm.out] at hl ⊢; unfold wrap64; omega), rfl⟩

/-! ### one bit -/
def bitB (h : Nat) (i : Int) : Bool := if 0 ≤ i then if i < 32 then h / 2 ^ i.toNat % 2 == 1 else false else false
set_option maxHeartbeats 400000 in
theorem bit_any (h : Nat) (i : Int) (w : World) (hh : h < 4294967296) :
    Calls Try.prog 22 #[.int .u32 h, .int .i64 i] w fun e w' => e = .returned (.bool (bitB h i)) ∧ w = w' := by
  by_cases h1 : 0 ≤ i
  · by_cases h2 : i < 32
    · obtain ⟨k, rfl⟩ := Int.eq_ofNat_of_zero_le h1
      have hk : k < 32 := by omega
      have hq : h / 2 ^ k ≤ h := Nat.div_le_self _ _
      have H : Hid ((bits .and .u32 ((h : Int) / 2 ^ k) 1 == 1) = bitB h k) := by
        show (_ == _) = _
        have e : (h : Int) / 2 ^ k = ((h / 2 ^ k : Nat) : Int) := by simp
        rw [e, show (1 : Int) = ((1 : Nat) : Int) from rfl, u32_and_nat _ 1 (by omega) (by decide), nat_mask1]
        unfold bitB
        rw [if_pos h1, if_pos h2, Int.toNat_natCast]
        rw [Bool.eq_iff_iff, beq_iff_eq, beq_iff_eq]
        omega
      go_enter Try.func22, Try.ntmps22
      go_wp2
      go_ret
      exact ⟨ret_bool H.out, rfl⟩
    · go_enter Try.func22, Try.ntmps22
      go_wp2
      go_ret
      exact ⟨ret_bool (by unfold bitB; rw [if_pos (by omega), if_neg (by omega)]), rfl⟩
  · go_enter Try.func22, Try.ntmps22
    go_wp2
    go_ret
    exact ⟨ret_bool (by unfold bitB; rw [if_neg (by omega)]), rfl⟩

theorem low_succ (h k : Nat) (hk : k < 32) : low h ((k : Int) + 1) = low h k + 2 ^ k * (h / 2 ^ k % 2) := by
  unfold low
  rw [show min ((k : Int) + 1).toNat 32 = k + 1 from by omega, show min (k : Int).toNat 32 = k from by omega]
  exact Nat.mod_pow_succ
theorem rbit_eq (h k : Nat) (hk : k < 32) : (((low h ((k : Int) + 1) : Nat) : Int) != ((low h (k : Int) : Nat) : Int)) = bitB h k := by
  have p := Nat.one_le_two_pow (n := k)
  rw [low_succ h k hk]
  unfold bitB
  rw [if_pos (by omega), if_pos (by omega), Int.toNat_natCast]
  rcases Nat.mod_two_eq_zero_or_one (h / 2 ^ k) with e | e
  · rw [e]; simp
  · rw [e, Nat.mul_one]
    have hne : ((low h k + 2 ^ k : Nat) : Int) ≠ ((low h k : Nat) : Int) := by
      intro hc
      have := Int.ofNat.inj hc
      omega
    rw [bne_iff_ne.2 hne]
    rfl
set_option maxHeartbeats 400000 in
theorem rbit_any (h : Nat) (i : Int) (w : World) (hh : h < 4294967296) :
    Calls Try.prog 23 #[.int .u64 h, .int .i64 i] w fun e w' => e = .returned (.bool (bitB h i)) ∧ w = w' := by
  by_cases h1 : 0 ≤ i
  · by_cases h2 : i < 32
    · obtain ⟨k, rfl⟩ := Int.eq_ofNat_of_zero_le h1
      have hk : k < 32 := by omega
      have H : Hid ((((low h ((k : Int) + 1) : Nat) : Int) != ((low h (k : Int) : Nat) : Int)) = bitB h k) := rbit_eq h k hk
      go_enter Try.func23, Try.ntmps23
      go_wp2_with (go_at_call 21; refine (rlow_any h _ _ hh).mono ?_; rintro e w' ⟨rfl, rfl⟩)
      go_ret
      exact ⟨ret_bool H.out, rfl⟩
    · go_enter Try.func23, Try.ntmps23
      go_wp2
      go_ret
      exact ⟨ret_bool (by unfold bitB; rw [if_pos (by omega), if_neg (by omega)]), rfl⟩
  · go_enter Try.func23, Try.ntmps23
    go_wp2
    go_ret
    exact ⟨ret_bool (by unfold bitB; rw [if_neg (by omega)]), rfl⟩

/-! ### how many bits are alike -/
/-- How many of the lowest bits, at most so many, are none. -/
def alk : Nat → Nat → Nat
  | 0, _ => 0
  | n + 1, x => if x % 2 = 0 then alk n (x / 2) + 1 else 0
theorem alk_le (m : Nat) : ∀ x, alk m x ≤ m := by
  induction m with
  | zero => intro x; exact Nat.le_refl _
  | succ m ih => intro x; unfold alk; have := ih (x / 2); split <;> omega
theorem alk_iff (m : Nat) : ∀ x n, n ≤ m → (n ≤ alk m x ↔ x % 2 ^ n = 0) := by
  induction m with
  | zero =>
    intro x n hn
    obtain rfl : n = 0 := by omega
    simp [Nat.mod_one]
  | succ m ih =>
    intro x n hn
    cases n with
    | zero => simp [Nat.mod_one]
    | succ n =>
      have e : x % 2 ^ (n + 1) = x % 2 + 2 * (x / 2 % 2 ^ n) := by rw [Nat.pow_succ, Nat.mul_comm, Nat.mod_mul]
      have h := ih (x / 2) n (by omega)
      rw [e]
      unfold alk
      split
      · rename_i h2
        constructor
        · intro h3; have := h.1 (by omega); omega
        · intro h3; have := h.2 (by omega); omega
      · omega
def alike (a b : Nat) : Nat := alk 32 (a ^^^ b)
theorem alike_le (a b : Nat) : alike a b ≤ 32 := alk_le 32 _
theorem alike_comm (a b : Nat) : alike a b = alike b a := by unfold alike; rw [Nat.xor_comm]
theorem xor_mod (a b n : Nat) : (a ^^^ b) % 2 ^ n = 0 ↔ a % 2 ^ n = b % 2 ^ n := by
  rw [Nat.xor_mod_two_pow]
  constructor
  · intro h
    have h1 : (a % 2 ^ n ^^^ b % 2 ^ n) ^^^ b % 2 ^ n = a % 2 ^ n := by rw [Nat.xor_assoc, Nat.xor_self, Nat.xor_zero]
    rw [h, Nat.zero_xor] at h1
    exact h1.symm
  · intro h
    rw [h, Nat.xor_self]
theorem alike_iff (a b n : Nat) (hn : n ≤ 32) : n ≤ alike a b ↔ low a n = low b n := by
  unfold alike low
  rw [alk_iff 32 _ n hn, xor_mod, Int.toNat_natCast, Nat.min_eq_left hn]
theorem alike_all (a b : Nat) (ha : a < 4294967296) (hb : b < 4294967296) : alike a b = 32 ↔ a = b := by
  have h := alike_iff a b 32 (by omega)
  have h1 := low_all a ((32 : Nat) : Int) (by omega) ha
  have h2 := low_all b ((32 : Nat) : Int) (by omega) hb
  have h3 := alike_le a b
  rw [h1, h2] at h
  constructor
  · intro h4; exact h.1 (by omega)
  · intro h4; have := h.2 h4; omega
theorem alike_next (a b : Nat) (hn : alike a b < 32) : bitB a (alike a b) ≠ bitB b (alike a b) := by
  intro hc
  have h1 := (alike_iff a b (alike a b) (by omega)).1 (Nat.le_refl _)
  have h2 := alike_iff a b (alike a b + 1) (by omega)
  generalize alike a b = n at *
  have h3 : low a ((n : Int) + 1) ≠ low b ((n : Int) + 1) := by
    intro h4
    have := h2.2 h4
    omega
  rw [low_succ a n hn, low_succ b n hn, h1] at h3
  apply h3
  unfold bitB at hc
  rw [if_pos (by omega), if_pos (by omega), if_pos (by omega), if_pos (by omega), Int.toNat_natCast] at hc
  congr 2
  rcases Nat.mod_two_eq_zero_or_one (a / 2 ^ n) with e | e <;> rcases Nat.mod_two_eq_zero_or_one (b / 2 ^ n) with e' | e' <;> rw [e, e'] at hc ⊢ <;> simp at hc

set_option maxHeartbeats 400000 in
theorem alike_any (a b : Nat) (w : World) (ha : a < 4294967296) (hb : b < 4294967296) :
    Calls Try.prog 24 #[.int .u32 a, .int .u32 b] w fun e w' => e = .returned (.int .i64 (alike a b : Nat)) ∧ w = w' := by
  have hx : Hid (bits .xor .u32 (a : Int) (b : Int) = ((a ^^^ b : Nat) : Int)) := u32_xor_nat a b ha hb
  have hX : a ^^^ b < 4294967296 := Nat.xor_lt_two_pow (n := 32) ha hb
  go_enter Try.func24, Try.ntmps24
  go_wp2
  go_loop [5, 6] (fun x i => ∃ k y : Nat, k ≤ 32 ∧ y < 4294967296 ∧ i = .int .i64 k ∧ x = .int .u32 y ∧ alk (32 - k) y + k = alike a b) (fun _ i => 32 - (intOf i).toNat)
  case atStart => exact ⟨0, a ^^^ b, by omega, hX, rfl, by rw [hx.out], rfl⟩
  case round =>
    obtain ⟨k, y, hk, hy, rfl, rfl, he⟩ := hrel
    have HE : Hid (alk (32 - k) y + k = alike a b) := he
    clear he
    have hm : bits .and .u32 (y : Int) 1 = ((y % 2 : Nat) : Int) := by
      rw [show (1 : Int) = ((1 : Nat) : Int) from rfl, u32_and_nat y 1 hy (by decide), nat_mask1]
    by_cases hlt : k < 32
    · have h1 : 32 - k = (32 - (k + 1)) + 1 := by omega
      by_cases h2 : y % 2 = 0
      · have hc : (bits .and .u32 (y : Int) 1 == 0) = true := by rw [hm, h2]; rfl
        have HE' : Hid (alk (32 - (k + 1)) (y / 2) + (k + 1) = alike a b) := by
          show _ = _
          have := HE.out
          rw [h1] at this
          unfold alk at this
          rw [if_pos h2] at this
          omega
        clear hm h2 h1 hx
        go_wp2
        go_round
        case rel => exact ⟨k + 1, y / 2, by omega, by omega, by go_num, by go_num, HE'.out⟩
        case measure => simp [intOf]; omega
      · have hc : (bits .and .u32 (y : Int) 1 == 0) = false := by
          rw [hm, beq_eq_false_iff_ne]
          omega
        have HE' : Hid (k = alike a b) := by
          show _ = _
          have := HE.out
          rw [h1] at this
          unfold alk at this
          rw [if_neg h2] at this
          omega
        clear hm h2 h1 hx
        go_wp2
        go_ret
        exact ⟨ret_int (by rw [← HE'.out]), rfl⟩
    · obtain rfl : k = 32 := by omega
      clear hm hx
      go_wp2
      go_ret
      exact ⟨ret_int (by rw [← HE.out]; rfl), rfl⟩

set_option maxHeartbeats 400000 in
theorem ralike_any (a b : Nat) (w : World) (ha : a < 4294967296) (hb : b < 4294967296) :
    Calls Try.prog 25 #[.int .u64 a, .int .u64 b] w fun e w' => e = .returned (.int .i64 (alike a b : Nat)) ∧ w = w' := by
  go_enter Try.func25, Try.ntmps25
  go_wp2
  go_loop [5] (fun i => ∃ k : Nat, k ≤ 32 ∧ alike a b ≤ k ∧ i = .int .i64 k) (fun i => (intOf i).toNat)
  case atStart => exact ⟨32, by omega, alike_le a b, rfl⟩
  case round =>
    obtain ⟨k, hk, hal, rfl⟩ := hrel
    have hi := alike_iff a b k hk
    by_cases hlt : 0 < k
    · by_cases h2 : low a k = low b k
      · have hc : (((low a (k : Int) : Nat) : Int) == ((low b (k : Int) : Nat) : Int)) = true := by rw [h2, beq_self_eq_true]
        have HE : Hid (k = alike a b) := by show _ = _; have := hi.2 h2; omega
        clear hi h2
        go_wp2_with (go_at_call 21; (with_reducible first | refine (rlow_any a _ _ ha).mono ?_ | refine (rlow_any b _ _ hb).mono ?_); rintro e w' ⟨rfl, rfl⟩)
        go_ret
        exact ⟨ret_int (by rw [← HE.out]), rfl⟩
      · have hc : (((low a (k : Int) : Nat) : Int) == ((low b (k : Int) : Nat) : Int)) = false := by
          rw [beq_eq_false_iff_ne]
          intro h3
          exact h2 (Int.ofNat.inj h3)
        have HE : alike a b ≤ k - 1 := by
          have : ¬ k ≤ alike a b := fun h3 => h2 (hi.1 h3)
          omega
        clear hi h2
        go_wp2_with (go_at_call 21; (with_reducible first | refine (rlow_any a _ _ ha).mono ?_ | refine (rlow_any b _ _ hb).mono ?_); rintro e w' ⟨rfl, rfl⟩)
        go_round
        case rel => exact ⟨k - 1, by omega, HE, by congr 1; omega⟩
        case measure => simp [intOf]; omega
    · obtain rfl : k = 0 := by omega
      clear hi
      go_wp2
      go_ret
      exact ⟨ret_int (by omega), rfl⟩

/-! ### the document's hash -/
theorem rstep (h : Nat) (c : UInt8) (hh : h < 4294967296) : ((h - h % 256 + (h % 256 ^^^ c.toNat)) * 16777619) % 4294967296 = step h c := by
  have hc := c.toNat_lt
  have e : h - h % 256 + (h % 256 ^^^ c.toNat) = h ^^^ c.toNat := by
    have h1 : (h ^^^ c.toNat) % 256 = h % 256 ^^^ c.toNat := by
      rw [show (256 : Nat) = 2 ^ 8 from rfl, Nat.xor_mod_two_pow, Nat.mod_eq_of_lt (a := c.toNat) (by omega)]
    have h2 : (h ^^^ c.toNat) / 256 = h / 256 := by
      rw [show (256 : Nat) = 2 ^ 8 from rfl, Nat.xor_div_two_pow, Nat.div_eq_of_lt (a := c.toNat) (by omega), Nat.xor_zero]
    have h3 := Nat.div_add_mod (h ^^^ c.toNat) 256
    rw [h1, h2] at h3
    omega
  rw [e]
  unfold step
  rfl
set_option maxHeartbeats 400000 in
theorem rmore_any (h : Nat) (s : ByteArray) (w : World) (hh : h < 4294967296) (hs : s.size ≤ 9223372036854775807) :
    Calls Try.prog 19 #[.int .u64 h, .string s] w fun e w' => e = .returned (.int .u64 (hash h s.data.toList : Nat)) ∧ w = w' := by
  go_enter Try.func19, Try.ntmps19
  go_wp2
  go_loop [0, 5] (fun x i => ∃ k : Nat, k ≤ s.size ∧ i = .int .i64 k ∧ x = .int .u64 (hash h (s.data.toList.take k) : Nat)) (fun _ i => s.size - (intOf i).toNat)
  case atStart => exact ⟨0, Nat.zero_le _, rfl, rfl⟩
  case round =>
    obtain ⟨k, hk, rfl, rfl⟩ := hrel
    by_cases hlt : k < s.size
    · have hx := hash_lt (s.data.toList.take k) h hh
      have hb := (s[k]).toNat_lt
      have H : Hid (hash h (s.data.toList.take (k + 1)) = step (hash h (s.data.toList.take k)) s[k]) := hash_take h s k hlt
      generalize hash h (s.data.toList.take k) = X at hx H ⊢
      obtain ⟨L, hL⟩ : ∃ L : Nat, L = X % 256 ^^^ s[k].toNat := ⟨_, rfl⟩
      have hL2 : L < 256 := by
        rw [hL]
        exact Nat.xor_lt_two_pow (n := 8) (by omega) (by omega)
      have hbx : bits .xor .u64 ((X : Int) % 256) (s[k].toNat : Int) = (L : Int) := by
        rw [hL, show (X : Int) % 256 = ((X % 256 : Nat) : Int) from rfl]
        exact u64_xor_nat _ _ (by omega) (by omega)
      have HR : Hid (step X s[k] = ((X - X % 256 + L) * 16777619) % 4294967296) := by
        show _ = _
        rw [hL, rstep X _ hx]
      clear hL
      go_wp2
      go_round
      case rel => exact ⟨k + 1, by omega, by go_num, by rw [H.out, HR.out]; congr 1; omega⟩
      case measure => simp [intOf]; omega
    · go_wp2
      go_ret
      exact ⟨ret_int (by rw [List.take_of_length_le (by simp; omega)]), rfl⟩
theorem rof_any (s : ByteArray) (w : World) (hs : s.size ≤ 9223372036854775807) :
    Calls Try.prog 17 #[.string s] w fun e w' => e = .returned (.int .u64 (hash 2166136261 s.data.toList : Nat)) ∧ w = w' := by
  go_enter Try.func17, Try.ntmps17
  go_wp2_with (go_at_call 19; refine (rmore_any 2166136261 _ _ (by decide) hs).mono ?_; rintro e w' ⟨rfl, rfl⟩)
  go_ret
  exact ⟨rfl, rfl⟩

theorem works_any (w : World) :
    Calls Try.prog 15 #[] w fun e w' => e = .returned (.bool true) ∧ w = w' := by
  have h1 : ((low 13 3 : Nat) : Int) = 5 := by decide
  have h2 : ((alike 5 13 : Nat) : Int) = 3 := by decide +kernel
  have h3 : bitB 4 2 = true := by decide
  have h0 : ((hash 2166136261 (ByteArray.mk #[]).data.toList : Nat) : Int) = 2166136261 := by rw [show (ByteArray.mk #[]).data.toList = [] from rfl, hash_nil]; rfl
  go_enter Try.func15, Try.ntmps15
  go_wp2_with (first
    | (go_at_call 16; refine (of_any _ _ (by decide)).mono ?_; rintro e w' ⟨rfl, rfl⟩)
    | (go_at_call 20; refine (low_any 13 3 _ (by decide)).mono ?_; rintro e w' ⟨rfl, rfl⟩)
    | (go_at_call 24; refine (alike_any 5 13 _ (by decide) (by decide)).mono ?_; rintro e w' ⟨rfl, rfl⟩)
    | (go_at_call 22; refine (bit_any 4 2 _ (by decide)).mono ?_; rintro e w' ⟨rfl, rfl⟩))
  go_ret
  exact ⟨rfl, rfl⟩
end Go.Proofs.Ytgcmgohknocfnaa.Mix
