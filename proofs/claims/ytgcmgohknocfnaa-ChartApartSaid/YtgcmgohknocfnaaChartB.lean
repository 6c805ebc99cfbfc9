/- Contracts of chart.Make and of the page's example of layer 4. No statement is proved here. -/
import Derived.Test.YtgcmgohknocfnaaChart
import Derived.Test.YtgcmgohknocfnaaSame
import Derived.Lib.Hide
namespace Go.Proofs.Ytgcmgohknocfnaa.Chart
open Go.RowKit Go.Proofs.Ytgcmgohknocfnaa.Mem Go.Proofs.Ytgcmgohknocfnaa.Open
set_option linter.unusedVariables false
set_option linter.unusedSimpArgs false

/-- A block of some bits. -/
def makeL (xs : List Int) : List Nat := xs.foldl (fun b i => withB b i true) zblk
theorem makeL_ok (xs : List Int) : (makeL xs).length = 256 ∧ ∀ x ∈ makeL xs, x < 256 := by
  have h : ∀ (xs : List Int) (b : List Nat), (b.length = 256 ∧ ∀ x ∈ b, x < 256) → ((xs.foldl (fun b i => withB b i true) b).length = 256 ∧ ∀ x ∈ xs.foldl (fun b i => withB b i true) b, x < 256) := by
    intro xs
    induction xs with
    | nil => intro b hb; rw [List.foldl_nil]; exact hb
    | cons i xs ih => intro b hb; rw [List.foldl_cons]; exact ih _ ⟨by rw [withB_length]; exact hb.1, withB_byte b i true hb.2⟩
  exact h xs zblk ⟨zblk_length, zblk_byte⟩
theorem makeL_take (xs : List Int) (k : Nat) (hk : k < xs.length) : makeL (xs.take (k + 1)) = withB (makeL (xs.take k)) xs[k] true := by
  unfold makeL
  rw [List.take_succ_eq_append_getElem hk, List.foldl_append, List.foldl_cons, List.foldl_nil]

theorem two_boxes (w : World) (T : TypeId) (a b : List Nat) : Box ((w.alloc (.cells (blk a) T)).alloc (.cells (blk b) T)) w.heap.size T a ∧ Box ((w.alloc (.cells (blk a) T)).alloc (.cells (blk b) T)) (w.heap.size + 1) T b :=
  ⟨heap_alloc2_old w _ _, heap_alloc2_new w _ _⟩

set_option maxHeartbeats 1000000 in
set_option maxRecDepth 100000 in
theorem make_any (A : Option Addr) (n c : Nat) (xs : List Int) (w : World) (hx : Sl w (Value.int .i64) A n xs) :
    Calls Try.prog 27 #[.slice A n c] w fun e w' => e = .returned (.agg (blk (makeL xs))) ∧ Below w.heap.size w w' := by
  have hn := hx.2.1
  have hz : (blk zblk).size = 256 := by rw [blk_size]; exact zblk_length
  obtain ⟨hb1, hb2⟩ := two_boxes w 41 zblk zblk
  go_enter Try.func27, Try.ntmps27
  go_wp2_with (first
    | (with_reducible refine wpList_allocA rfl 41 rfl _ blkZero ?_))
  go_loopw [8] (fun i wr => ∃ k : Nat, k ≤ n ∧ i = .int .i64 k ∧ Box wr w.heap.size 41 zblk ∧ Box wr (w.heap.size + 1) 41 (makeL (xs.take k)) ∧ Below w.heap.size w wr) (fun i _ => n - (intOf i).toNat)
  case atStart => exact ⟨0, by omega, rfl, hb1, hb2, ((Below.refl _ _).alloc (Nat.le_refl _) _).alloc (by simp) _⟩
  case round =>
    obtain ⟨k, hk, rfl, hbz, hbx, hbel⟩ := hrel
    clear hb1 hb2
    have hok := makeL_ok (xs.take k)
    have hs : (blk (makeL (xs.take k))).size = 256 := by rw [blk_size]; exact hok.1
    have hlt1 := hbx.lt
    by_cases hlt : k < n
    · obtain ⟨ad, hA, ha, hca⟩ := (hx.below (hbel)).at_ (i := k) (by have := hx.1; omega)
      have HM : Hid (makeL (xs.take (k + 1)) = withB (makeL (xs.take k)) (xs[k]'(by have := hx.1; omega)) true) := makeL_take xs k (by have := hx.1; omega)
      generalize xs[k]'(by have := hx.1; omega) = x at hca HM
      subst hA
      have hs' : (blk (withB (makeL (xs.take k)) x true)).size = 256 := by rw [blk_size, withB_length]; exact hok.1
      go_wp2_with (first
        | (with_reducible refine wpList_load rfl 41 _ rfl _ rfl 41 _ 256 5 blkUnd blkSize hs hbx.out ?_)
        | (go_at_call 30; refine (with_any (makeL (xs.take k)) x true _ hok.1 hok.2).mono ?_; rintro e w1 ⟨rfl, hbel1⟩; have hbz1 := hbz.below hbel1 hbz.lt; have hbx1 := hbx.below hbel1 hbx.lt)
        | (with_reducible refine wpList_store rfl 41 _ _ rfl _ rfl _ rfl _ 41 256 blkSize hs' hs (blk_one _) hbx1.out ?_))
      go_roundw
      case rel =>
        refine ⟨k + 1, by omega, by go_num, hbz1.far (by omega) _, by rw [HM.out]; exact hbx1.row _, ?_⟩
        exact below_setRow (hbel.trans (hbel1.mono hbel.size)) (by omega) _
      case measure => simp [intOf]; omega
    · obtain rfl : k = n := by omega
      have HF : Hid (xs.take k = xs) := List.take_of_length_le (by have := hx.1; omega)
      go_wp2_with (first
        | (with_reducible refine wpList_load rfl 41 _ rfl _ rfl 41 _ 256 5 blkUnd blkSize hs hbx.out ?_)
        | (with_reducible refine wpList_store rfl 41 _ _ rfl _ rfl _ rfl _ 41 256 blkSize hs hz (blk_one _) hbz.out ?_))
      have hbz2 := hbz.row (makeL (xs.take k))
      rw [HF.out] at hbz2 hs ⊢
      exact bodyPost_ret (v := .agg (blk (makeL xs))) (results_cell_row rfl _ _ w.heap.size 41 (blk (makeL xs)) (0, 0) _ rfl hbz2.out blkUnd rfl (by rw [hs]; exact blkSize)) rfl
        ⟨rfl, below_setRow hbel (Nat.le_refl _) _⟩

theorem ex09 : (makeL [0, 9])[0]? = some 1 ∧ (makeL [0, 9])[1]? = some 2 := by decide +kernel
theorem ex01 : firstO (makeL [0, 1]) 0 3 = some 2 := by decide +kernel
/-- What makes a block, told of a block that bears a name. -/
theorem make_as (xs : List Int) (M : List Nat) (hM : makeL xs = M) (A : Option Addr) (n c : Nat) (w : World) (hx : Sl w (Value.int .i64) A n xs) :
    Calls Try.prog 27 #[.slice A n c] w fun e w' => e = .returned (.agg (blk M)) ∧ Below w.heap.size w w' := by
  rw [← hM]; exact make_any A n c xs w hx
theorem first_as (l : List Nat) (f n : Int) (k : Nat) (hk : firstO l f n = some k) (w : World) (hl : l.length = 256) (hb : ∀ x ∈ l, x < 256) (hf : f ≤ 9223372036854775807) :
    Calls Try.prog 46 #[.agg (blk l), .int .i64 f, .int .i64 n] w fun e w' => e = .returned (.tuple #[.int .i64 (k : Int), .bool true]) ∧ Below w.heap.size w w' := by
  refine (first_any l f n w hl hb hf).mono ?_
  rintro e w' ⟨he, h⟩
  rw [hk] at he
  exact ⟨he, h⟩
theorem sl_two (w : World) (a b : Int) (g : Nat) (hg : w.heap.size = g) : Sl (w.alloc (.cells #[.int .i64 a, .int .i64 b] 3)) (Value.int .i64) (some ⟨g, 0, none⟩) 2 [a, b] := by
  subst hg
  exact sl_block (V := Value.int .i64) (xs := [a, b]) (heap_alloc_new w _) rfl (by simp)
set_option maxHeartbeats 1000000 in
set_option maxRecDepth 100000 in
theorem works_core (M N : List Nat) (w : World) (hM : makeL [0, 9] = M) (hN : makeL [0, 1] = N) (hl : M.length = 256) (hl' : N.length = 256) (hb' : ∀ x ∈ N, x < 256) (h0 : ∃ h, M[0]'h = 1) (h1 : ∃ h, M[1]'h = 2) (hf : firstO N 0 3 = some 2) :
    Calls Try.prog 26 #[] w fun e w' => e = .returned (.bool true) ∧ Below w.heap.size w w' := by
  have hs : (blk M).size = 256 := by rw [blk_size]; exact hl
  have hz : (blk zblk).size = 256 := by rw [blk_size]; exact zblk_length
  obtain ⟨g0, h0⟩ := h0
  obtain ⟨g1, h1⟩ := h1
  have CM := make_as [0, 9] M hM
  have CN := make_as [0, 1] N hN
  have CF := first_as N 0 3 2 hf
  clear hM hN hf
  have H0 : Hid (M[0] = 1) := h0
  have H1 : Hid (M[1] = 2) := h1
  clear h0 h1
  have HCM := Lib.hid CM
  have HCN := Lib.hid CN
  have HCF := Lib.hid CF
  clear CM CN CF
  go_enter Try.func26, Try.ntmps26
  go_wp2_with fail
  refine (HCM.out _ _ _ _ (sl_two w 0 9 _ rfl)).mono ?_
  rintro e w1 ⟨rfl, hbel1⟩
  have hsz1 := hbel1.size
  simp at hsz1
  have hb1 := Box.new w1 41 zblk
  have hb2 : Box ((w1.alloc (.cells (blk zblk) 41)).setRow w1.heap.size (blk M)) w1.heap.size 41 M := hb1.row M
  have hb3 : Below w.heap.size w ((w1.alloc (.cells (blk zblk) 41)).setRow w1.heap.size (blk M)) :=
    below_setRow ((((Below.refl _ _).alloc (Nat.le_refl _) _).trans (hbel1.mono (by simp))).alloc (by omega) _) (by omega) _
  have hz4 : ((w1.alloc (.cells (blk zblk) 41)).setRow w1.heap.size (blk M)).heap.size = w1.heap.size + 1 := by simp
  have HZ4 := Lib.hid hz4
  clear hz4
  have hz3 : w.heap.size + 1 < ((w1.alloc (.cells (blk zblk) 41)).setRow w1.heap.size (blk M)).heap.size := by simp; omega
  go_wp2_with (first
    | (with_reducible refine wpList_allocA rfl 41 rfl _ blkZero ?_)
    | (with_reducible refine wpList_store rfl 41 _ _ rfl _ rfl _ rfl _ 41 256 blkSize hs hz (blk_one _) hb1.out ?_))
  generalize (w1.alloc (.cells (blk zblk) 41)).setRow w1.heap.size (blk M) = w2 at hb2 hb3 hz3 HZ4 ⊢
  have hz4 := HZ4.out
  refine (HCN.out _ _ _ _ (sl_two w2 0 1 _ hz4)).mono ?_
  rintro e w3 ⟨rfl, hbel3⟩
  clear hz4
  have hb4 := (hb2.alloc _).below hbel3 (Nat.lt_of_lt_of_le hb2.lt (by simp))
  have hb5 := (hb3.alloc (by omega) _).trans (hbel3.mono (by simp; omega))
  clear hb2 hb3 hbel1 hb1
  have hz5 : w.heap.size + 1 < w3.heap.size := by have := hbel3.size; simp at this; omega
  clear hbel3
  go_wp2_with fail
  refine (HCF.out _ hl' hb' (by decide)).mono ?_
  rintro e w4 ⟨rfl, hbel4⟩
  have hb6 := hb4.below hbel4 hb4.lt
  have hb7 := hb5.trans (hbel4.mono (by omega))
  have c0 := hb6.cell 0 g0
  have c1 := hb6.cell 1 g1
  rw [H0.out] at c0
  rw [H1.out] at c1
  clear hb4 hb5 hb6 hbel4
  go_wp2
  go_ret
  exact ⟨rfl, hb7⟩
theorem works_any (w : World) :
    Calls Try.prog 26 #[] w fun e w' => e = .returned (.bool true) ∧ Below w.heap.size w w' :=
  works_core _ _ w rfl rfl (makeL_ok _).1 (makeL_ok _).1 (makeL_ok _).2 (List.getElem?_eq_some_iff.1 ex09.1) (List.getElem?_eq_some_iff.1 ex09.2) ex01
end Go.Proofs.Ytgcmgohknocfnaa.Chart
