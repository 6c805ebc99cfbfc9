/- Plain laws on a block's bits, and the walk of the statement ChartMakes. -/
import Derived.Test.YtgcmgohknocfnaaChartB
import Derived.Test.YtgcmgohknocfnaaRefD
import Derived.Deep.RegionWith
namespace Go.Proofs.Ytgcmgohknocfnaa.Chart
open Go.RowKit Go.Proofs.Ytgcmgohknocfnaa.Mem Go.Proofs.Ytgcmgohknocfnaa.Open Go.Proofs.Ytgcmgohknocfnaa.Bits Go.Proofs.Ytgcmgohknocfnaa.RefD Go.Proofs.Ytgcmgohknocfnaa.Same
set_option linter.unusedVariables false
set_option linter.unusedSimpArgs false

theorem mask_bit : ∀ m : Fin 8, ∀ k : Fin 8, (255 - 2 ^ m.val).testBit k.val = !decide (m.val = k.val) := by decide +kernel
theorem withB_bit (l : List Nat) (hl : l.length = 256) (i : Int) (on : Bool) (j : Nat) (hj : j < 2048) :
    bitAt (withB l i on) j = if 0 ≤ i ∧ i < 2048 ∧ j = i.toNat then on else bitAt l j := by
  unfold withB
  by_cases h0 : 0 ≤ i
  · by_cases h1 : i < 2048
    · rw [if_pos h0, if_pos h1]
      obtain ⟨k, rfl⟩ := Int.eq_ofNat_of_zero_le h0
      simp only [Int.toNat_natCast]
      unfold bitAt
      by_cases hq : j / 8 = k / 8
      · rw [hq, List.getD_eq_getElem?_getD, List.getElem?_set_self (by omega), Option.getD_some]
        generalize l.getD (k / 8) 0 = x
        have hm : k % 8 < 8 := Nat.mod_lt _ (by decide)
        have hn : j % 8 < 8 := Nat.mod_lt _ (by decide)
        have hjk : j = k ↔ k % 8 = j % 8 := by omega
        cases on with
        | true =>
          rw [if_pos rfl, Nat.testBit_or, Nat.testBit_two_pow]
          by_cases e : j = k
          · rw [if_pos ⟨h0, h1, e⟩, decide_eq_true (hjk.1 e), Bool.or_true]
          · rw [if_neg (fun h => e h.2.2), decide_eq_false (fun h => e (hjk.2 h)), Bool.or_false]
        | false =>
          rw [if_neg (by decide), Nat.testBit_and, mask_bit ⟨k % 8, hm⟩ ⟨j % 8, hn⟩]
          by_cases e : j = k
          · rw [if_pos ⟨h0, h1, e⟩, decide_eq_true (hjk.1 e)]; simp
          · rw [if_neg (fun h => e h.2.2), decide_eq_false (fun h => e (hjk.2 h))]; simp
      · rw [List.getD_eq_getElem?_getD, List.getElem?_set_ne (by omega), ← List.getD_eq_getElem?_getD, if_neg (by omega)]
    · rw [if_pos h0, if_neg h1, if_neg (by omega)]
  · rw [if_neg h0, if_neg (by omega)]
theorem hasB_bit (l : List Nat) (j : Nat) (hj : j < 2048) : hasB l (j : Int) = bitAt l j := by
  unfold hasB bitAt
  rw [if_pos (by omega), if_pos (by omega), Int.toNat_natCast]

theorem zblk_bit (j : Nat) : bitAt zblk j = false := by
  unfold bitAt zblk
  rw [List.getD_eq_getElem?_getD, List.getElem?_replicate]
  split <;> simp
theorem make_bits (xs : List Int) : ∀ j, j < 2048 → bitAt (makeL xs) j = (bitsMk xs).getD j false := by
  have h : ∀ (xs : List Int) (b : List Nat) (l : List Bool), b.length = 256 → l.length = 2048 → (∀ j, j < 2048 → bitAt b j = l.getD j false) →
      ∀ j, j < 2048 → bitAt (xs.foldl (fun b i => withB b i true) b) j = (xs.foldl (fun l i => if 0 ≤ i ∧ i < 2048 then l.set i.toNat true else l) l).getD j false := by
    intro xs
    induction xs with
    | nil => intro b l _ _ h; rw [List.foldl_nil, List.foldl_nil]; exact h
    | cons i xs ih =>
      intro b l hb hl h
      rw [List.foldl_cons, List.foldl_cons]
      refine ih _ _ (by rw [withB_length]; exact hb) (by split <;> simp [hl]) ?_
      intro j hj
      rw [withB_bit b hb i true j hj]
      by_cases hi : 0 ≤ i ∧ i < 2048
      · rw [if_pos hi]
        by_cases e : j = i.toNat
        · rw [if_pos ⟨hi.1, hi.2, e⟩, List.getD_eq_getElem?_getD, e, List.getElem?_set_self (by omega)]; rfl
        · rw [if_neg (fun h => e h.2.2), h j hj, List.getD_eq_getElem?_getD, List.getD_eq_getElem?_getD, List.getElem?_set_ne (fun h => e h.symm)]
      · rw [if_neg hi, if_neg (fun h => hi ⟨h.1, h.2.1⟩), h j hj]
  exact h xs zblk (List.replicate 2048 false) zblk_length (by rw [List.length_replicate]) (fun j hj => by rw [zblk_bit, List.getD_eq_getElem?_getD, List.getElem?_replicate, if_pos hj]; rfl)
theorem make_eq (xs : List Int) : makeL xs = blockL (bitsMk xs) := by
  have h2 := bitsMk_length xs
  refine bits_ext _ _ (by rw [(makeL_ok xs).1, blockL_length, h2]) (makeL_ok xs).2 (blockL_byte _) fun i hi => ?_
  rw [(makeL_ok xs).1] at hi
  rw [make_bits xs i (by omega), blockL_bit _ (by rw [h2]) i (by omega)]

theorem sl256 {w : World} {g : Nat} {T : TypeId} {M : List Nat} (hM : M.length = 256) (h : w.heap[g]? = some (.cells (blk M) T (0, 0))) : Sl w V8 (some ⟨g, 0, none⟩) 256 M := by
  have := sl_block (V := V8) h rfl (by omega)
  rwa [hM] at this
set_option maxHeartbeats 1000000 in
set_option maxRecDepth 100000 in
theorem makes_walk (A : Option Addr) (n c : Nat) (xs : List Int) (w : World) (hx : Sl w (Value.int .i64) A n xs) (hwf : ∀ x ∈ xs, (Lit.int .i64 x).wf = true) :
    Calls Try.prog 6 #[.slice A n c] w fun e w' => e = .returned (.bool true) ∧ Below w.heap.size w w' := by
  have hln := hx.1
  by_cases hl : 60 < (n : Int)
  · go_enter Try.func6, Try.ntmps6
    go_wp2_with (go_at_call 26; refine (works_any _).mono ?_; rintro e w1 ⟨rfl, hbel1⟩)
    go_ret
    exact ⟨rfl, hbel1⟩
  · have HM := make_as xs _ (make_eq xs)
    have hok := makeL_ok xs
    rw [make_eq xs] at hok
    have HR := fun A n c w => rmake_any A n c xs w
    obtain ⟨M, hM⟩ : ∃ M, blockL (bitsMk xs) = M := ⟨_, rfl⟩
    rw [hM] at hok HM
    simp only [hM] at HR
    clear hM
    have HM' := Lib.hid HM
    have HR' := Lib.hid HR
    clear HM HR
    have hs : (blk M).size = 256 := by rw [blk_size]; exact hok.1
    have hz : (blk zblk).size = 256 := by rw [blk_size]; exact zblk_length
    go_enter Try.func6, Try.ntmps6
    go_wp2_with fail
    refine (HM'.out _ _ _ _ hx).mono ?_
    rintro e w1 ⟨rfl, hbel1⟩
    have hsz1 := hbel1.size
    have hb1 := Box.new w1 41 zblk
    go_wp2_with (first
      | (with_reducible refine wpList_allocA rfl 41 rfl _ blkZero ?_)
      | (with_reducible refine wpList_store rfl 41 _ _ rfl _ rfl _ rfl _ 41 256 blkSize hs hz (blk_one _) hb1.out ?_))
    have hb2 := hb1.row M
    have hb3 := below_setRow (hbel1.alloc hsz1 (.cells (blk zblk) 41)) hsz1 (blk M)
    generalize (w1.alloc (.cells (blk zblk) 41)).setRow w1.heap.size (blk M) = w2 at hb2 hb3 ⊢
    go_wp2
    go_region_with (first
      | (go_at_call 29; refine (HR'.out _ _ _ _ (hx.below hb3).drew).mono ?_; rintro e w3 ⟨v, rfl, hown3, hbel3⟩; obtain ⟨A', c', rfl⟩ := hown3.slice; have hs3 := hown3.sl.2; rw [hok.1] at hs3)
      | (go_at_call 28; refine (same_any _ _ _ _ _ _ M M _ (sl256 hok.1 (hb2.drew.below hbel3 hb2.lt).out) hs3).mono ?_; rw [decide_eq_true (rfl : M = M)]; rintro e w4 ⟨rfl, q4, rfl⟩)
      | (go_at_call 26; refine (works_any _).mono ?_; rintro e w5 ⟨rfl, hbel5⟩))
    go_wp2
    go_ret
    have hA := hb3.drew.trans (hbel3.mono hb3.size)
    exact ⟨rfl, (Open.bdrewN hA q4).trans (hbel5.mono hA.size)⟩
end Go.Proofs.Ytgcmgohknocfnaa.Chart
