/- The statement ChartApart. -/
import Derived.Test.YtgcmgohknocfnaaChartP
import Derived.Test.YtgcmgohknocfnaaReg
namespace Go.Proofs.Ytgcmgohknocfnaa.Chart
open Go.RowKit Go.Proofs.Ytgcmgohknocfnaa.Mem Go.Proofs.Ytgcmgohknocfnaa.Open Go.Proofs.Ytgcmgohknocfnaa.Bits Go.Proofs.Ytgcmgohknocfnaa.RefD Go.Proofs.Ytgcmgohknocfnaa.Same
set_option linter.unusedVariables false
set_option linter.unusedSimpArgs false
/-! ### the plain law -/
def apW (on : List Bool) (k : Nat) : Bool := on.getD k false
def apX (l : List Nat) (xs : List Int) (on : List Bool) : Nat → List Nat
  | 0 => l
  | k + 1 => withB (apX l xs on k) (xs.getD k 0 % 2048) (apW on k)
/-- Two thousand and forty-eight noughts. -/
def zlast : List Int := List.replicate 2048 0
def apL (xs : List Int) (on : List Bool) : Nat → List Int
  | 0 => zlast
  | k + 1 => (apL xs on k).set (xs.getD k 0 % 2048).toNat (if apW on k then 2 else 1)
theorem apX_ok (l : List Nat) (xs : List Int) (on : List Bool) (hl : l.length = 256) (hb : ∀ x ∈ l, x < 256) (k : Nat) : (apX l xs on k).length = 256 ∧ ∀ x ∈ apX l xs on k, x < 256 := by
  induction k with
  | zero => exact ⟨hl, hb⟩
  | succ k ih => exact ⟨by unfold apX; rw [withB_length]; exact ih.1, withB_byte _ _ _ ih.2⟩
theorem apL_length (xs : List Int) (on : List Bool) (k : Nat) : (apL xs on k).length = 2048 := by
  induction k with
  | zero => exact List.length_replicate
  | succ k ih => unfold apL; rw [List.length_set]; exact ih
theorem ap_tells (l : List Nat) (xs : List Int) (on : List Bool) (hl : l.length = 256) (hb : ∀ x ∈ l, x < 256) (k j : Nat) (hj : j < 2048) :
    ((apL xs on k)[j]? = some 0 ∧ hasB (apX l xs on k) j = hasB l j) ∨ ((apL xs on k)[j]? = some 1 ∧ hasB (apX l xs on k) j = false) ∨ ((apL xs on k)[j]? = some 2 ∧ hasB (apX l xs on k) j = true) := by
  simp only [hasB_bit _ j hj]
  induction k with
  | zero => exact .inl ⟨by unfold apL zlast; rw [List.getElem?_replicate, if_pos hj], rfl⟩
  | succ k ih =>
    unfold apL apX
    have h0 : 0 ≤ xs.getD k 0 % 2048 ∧ xs.getD k 0 % 2048 < 2048 := by omega
    rw [withB_bit _ (apX_ok l xs on hl hb k).1 _ _ j hj, List.getElem?_set]
    by_cases e : (xs.getD k 0 % 2048).toNat = j
    · rw [if_pos e, if_pos (by rw [apL_length]; omega), if_pos (show 0 ≤ xs.getD k 0 % 2048 ∧ xs.getD k 0 % 2048 < 2048 ∧ j = (xs.getD k 0 % 2048).toNat from ⟨h0.1, h0.2, e.symm⟩)]
      cases apW on k
      · exact .inr (.inl ⟨rfl, rfl⟩)
      · exact .inr (.inr ⟨rfl, rfl⟩)
    · rw [if_neg e, if_neg (fun h => e h.2.2.symm)]
      exact ih
/-! ### the walk -/
theorem lastInfo : (Try.prog.info? 49).map (fun i => (i.zero, i.size)) = some (some (.agg (nums zlast)), 2048) := by kernel_rfl
theorem lastZero : ∀ w, (zeroValue 49).run Try.prog w = .ok (.agg (nums zlast)) w := (zero_of_info lastInfo).1
theorem arrUnd : Try.prog.underlying 40 = some (.array 256 5) := by kernel_rfl
theorem arrSize : (Try.prog.info? 40).map (·.size) = some 256 := by kernel_rfl
theorem u16_mod (x : Int) (h : (Lit.int .u16 x).wf = true) : 0 ≤ x ∧ x ≤ 65535 := by
  simp [Lit.wf, IntKind.min, IntKind.max, IntKind.signed, IntKind.bits] at h
  omega

theorem hasq_any (l : List Nat) (i : Int) (w : World) (hl : l.length = 256) (hb : ∀ x ∈ l, x < 256) :
    Calls Try.prog 31 #[.agg (blk l), .int .i64 i] w fun e w' => e = .returned (.bool (hasB l i)) ∧ Below w.heap.size w w' :=
  (has_any l i w hl hb).mono fun e w' h => ⟨h.1, by rw [h.2]; exact (Below.refl _ _).alloc (Nat.le_refl _) _⟩
set_option maxHeartbeats 1500000 in
set_option maxRecDepth 100000 in
theorem apart_walk (l : List Nat) (A : Option Addr) (n c : Nat) (xs : List Int) (A2 : Option Addr) (m c2 : Nat) (on : List Bool) (w : World) (hl : l.length = 256) (hb : ∀ x ∈ l, x < 256) (hx : Sl w (Value.int .u16) A n xs) (hw : ∀ x ∈ xs, (Lit.int .u16 x).wf = true) (ho : Sl w Value.bool A2 m on) :
    Calls Try.prog 7 #[.agg (blk l), .slice A n c, .slice A2 m c2] w fun e w' => e = .returned (.bool true) ∧ Below w.heap.size w w' := by
  have hn := hx.2.1
  have hm := ho.2.1
  have hs : (blk l).size = 256 := by rw [blk_size]; exact hl
  have hz : (blk zblk).size = 256 := by rw [blk_size]; exact zblk_length
  have hr3 := Row.new w 40 (blk l)
  have hr3a := hr3.alloc (.cells (blk zblk) 41)
  have hr7 := Row.new (w.alloc (.cells (blk l) 40)) 41 (blk zblk)
  by_cases h60 : 60 < n
  · go_enter Try.func7, Try.ntmps7
    go_wp2_with (go_at_call 26; refine (works_any _).mono ?_; rintro e w' ⟨rfl, hbel2⟩)
    go_ret
    exact ⟨rfl, ((Below.refl _ _).alloc (Nat.le_refl _) _).trans (hbel2.mono (by simp))⟩
  · go_enter Try.func7, Try.ntmps7
    go_wp2_with (first
      | (with_reducible refine wpList_load rfl 40 _ rfl _ rfl 40 (blk l) 256 5 arrUnd arrSize hs hr3.out ?_)
      | (with_reducible refine wpList_allocA rfl 41 rfl _ blkZero ?_)
      | (with_reducible refine wpList_allocA rfl 49 rfl _ lastZero ?_)
      | (with_reducible refine wpList_store rfl 41 _ _ rfl _ rfl _ rfl _ 41 256 blkSize hs hz (blk_one _) hr7.out ?_))
    have hr7b := hr7.set (blk l)
    have hr3b := hr3a.far (k := w.heap.size + 1) (by omega) (blk l)
    have hbel0 := below_setRow (((Below.refl w.heap.size w).alloc (Nat.le_refl _) (.cells (blk l) 40)).alloc (by simp) (.cells (blk zblk) 41)) (g := w.heap.size + 1) (by omega) (blk l)
    have hsz : (((w.alloc (.cells (blk l) 40)).alloc (.cells (blk zblk) 41)).setRow (w.alloc (.cells (blk l) 40)).heap.size (blk l)).heap.size = w.heap.size + 2 := by simp
    have hg7 : (w.alloc (.cells (blk l) 40)).heap.size = w.heap.size + 1 := by simp
    rw [hg7] at hr7b hsz
    clear hr3 hr3a hr7 hg7
    generalize ((w.alloc (.cells (blk l) 40)).alloc (.cells (blk zblk) 41)).setRow (w.heap.size + 1) (blk l) = w1 at *
    have hr8 := Row.new w1 49 (nums zlast)
    have hr7c := hr7b.alloc (.cells (nums zlast) 49)
    have hr3c := hr3b.alloc (.cells (nums zlast) 49)
    have hbel1 := hbel0.alloc (by omega) (.cells (nums zlast) 49)
    rw [hsz] at hr8
    clear hr7b hr3b hbel0
    generalize w1.alloc (.cells (nums zlast) 49) = w2 at *
    clear hsz
    obtain ⟨g, hg⟩ : ∃ g, w.heap.size = g := ⟨_, rfl⟩
    rw [hg] at hr8 hr7c hr3c hbel1 ⊢
    go_loopw [9] (fun i wr => ∃ k : Nat, k ≤ n ∧ i = .int .i64 k ∧ Row wr g 40 (blk l) ∧ Row wr (g + 1) 41 (blk (apX l xs on k)) ∧ Row wr (g + 2) 49 (nums (apL xs on k)) ∧ Below g w wr) (fun i _ => n - (intOf i).toNat)
    case atStart => exact ⟨0, by omega, rfl, hr3c, hr7c, hr8, hbel1⟩
    case round =>
      clear hr8 hr7c hr3c hbel1
      obtain ⟨k, hk, rfl, hr3, hr7, hr8, hbel⟩ := hrel
      have hgs : g ≤ wr.heap.size := by rw [← hg]; exact hbel.size
      by_cases hlt : k < n
      · have hkx : k < xs.length := by have := hx.1; omega
        obtain ⟨ad, hA, hadb, hcell⟩ := (hx.below (by rw [hg]; exact hbel)).at_ hkx
        have hu := u16_mod _ (hw _ (List.getElem_mem hkx))
        have hgx0 : xs.getD k 0 = xs[k] := by rw [List.getD_eq_getElem?_getD, List.getElem?_eq_getElem hkx]; rfl
        obtain ⟨x, hgx⟩ : ∃ x, xs[k] % 2048 = x := ⟨_, rfl⟩
        have hx0 : 0 ≤ x := by omega
        have hx1 : x < 2048 := by omega
        have hgx2 : xs.getD k 0 % 2048 = x := by rw [hgx0]; exact hgx
        generalize xs[k] = x0 at *
        obtain ⟨q, rfl⟩ := Int.eq_ofNat_of_zero_le hx0
        by_cases hkm : k < m
        · have hko : k < on.length := by have := ho.1; omega
          obtain ⟨ad2, hA2, hadb2, hcell2⟩ := (ho.below (by rw [hg]; exact hbel)).at_ hko
          have hgw : apW on k = on[k] := by unfold apW; rw [List.getD_eq_getElem?_getD, List.getElem?_eq_getElem hko]; rfl
          cases hon : on[k] with
          | true =>
            rw [hon] at hcell2 hgw
            have HX : Hid (apX l xs on (k + 1) = withB (apX l xs on k) (q : Int) true) := by
              show withB (apX l xs on k) (xs.getD k 0 % 2048) (apW on k) = _
              rw [hgx2, hgw]
            have HL : Hid (apL xs on (k + 1) = (apL xs on k).set q 2) := by
              show (apL xs on k).set (xs.getD k 0 % 2048).toNat (if apW on k then 2 else 1) = _
              rw [hgx2, hgw]; rfl
            obtain ⟨hXl, hXb⟩ := apX_ok l xs on hl hb k
            have hY := apX_ok l xs on hl hb (k + 1)
            have hLl := apL_length xs on k
            rw [HX.out] at hY
            obtain ⟨X, hX⟩ : ∃ X, apX l xs on k = X := ⟨_, rfl⟩
            obtain ⟨L, hL⟩ : ∃ L, apL xs on k = L := ⟨_, rfl⟩
            rw [hX] at HX hXl hXb hr7 hY
            rw [hL] at HL hLl hr8
            clear hX hL
            have CW := Lib.hid (fun w' => with_any X (q : Int) true w' hXl hXb)
            obtain ⟨Y, hYe⟩ : ∃ Y, withB X (q : Int) true = Y := ⟨_, rfl⟩
            rw [hYe] at HX hY
            simp only [hYe] at CW
            clear hYe
            have hXs : (blk X).size = 256 := by rw [blk_size]; exact hXl
            have hYs : (blk Y).size = 256 := by rw [blk_size]; exact hY.1
            have hqL : q < L.length := by omega
            subst hA hA2
            clear hgx2 hgw hY hXl hXb hon
            go_wp2_with (first
              | (with_reducible refine wpList_load rfl 41 _ rfl _ rfl 41 (blk X) 256 5 blkUnd blkSize hXs hr7.out ?_))
            refine (CW.out _).mono ?_
            rintro e w3 ⟨rfl, hbel3⟩
            have hs3 := hr3.below hbel3
            have hs7 := hr7.below hbel3
            have hs8 := hr8.below hbel3
            have hbel4 := below_setRow (hbel.trans (hbel3.mono hgs)) (g := g + 1) (by omega) (blk Y)
            clear hr3 hr7 hr8 hcell hcell2 hbel hbel3 CW
            have ht3 := hs3.far (k := g + 1) (by omega) (blk Y)
            have ht7 := hs7.set (blk Y)
            have ht8 := hs8.far (k := g + 1) (by omega) (blk Y)
            have hc1 := ht8.cell q (nums_get L q hqL)
            have hf1 := ht8.frozen q
            have hu8 := ht8.put q (.int .i64 1)
            rw [nums_set] at hu8
            have hv8 := hu8.put q (.int .i64 2)
            rw [nums_set, List.set_set] at hv8
            have hc2 := hu8.cell q (nums_get (L.set q 1) q (by rw [List.length_set]; exact hqL))
            have hf2 := hu8.frozen q
            have hu7 := (ht7.farCell (a := ⟨g + 2, q, none⟩) (by simp) (.int .i64 1)).farCell (a := ⟨g + 2, q, none⟩) (by simp) (.int .i64 2)
            have hu3 := (ht3.farCell (a := ⟨g + 2, q, none⟩) (by simp) (.int .i64 1)).farCell (a := ⟨g + 2, q, none⟩) (by simp) (.int .i64 2)
            have hbel5 := (hbel4.setCell (p := ⟨g + 2, q, none⟩) (by simp) (.int .i64 1)).setCell (p := ⟨g + 2, q, none⟩) (by simp) (.int .i64 2)
            go_wp2_with (first
              | (with_reducible refine wpList_store rfl 41 _ _ rfl _ rfl _ rfl _ 41 256 blkSize hYs hXs (blk_one _) hs7.out ?_))
            go_roundw
            case rel => exact ⟨k + 1, by omega, by go_num, hu3, by rw [HX.out]; exact hu7, by rw [HL.out]; exact hv8, hbel5⟩
            case measure => simp [intOf]; omega
          | false =>
            rw [hon] at hcell2 hgw
            have HX : Hid (apX l xs on (k + 1) = withB (apX l xs on k) (q : Int) false) := by
              show withB (apX l xs on k) (xs.getD k 0 % 2048) (apW on k) = _
              rw [hgx2, hgw]
            have HL : Hid (apL xs on (k + 1) = (apL xs on k).set q 1) := by
              show (apL xs on k).set (xs.getD k 0 % 2048).toNat (if apW on k then 2 else 1) = _
              rw [hgx2, hgw]; rfl
            obtain ⟨hXl, hXb⟩ := apX_ok l xs on hl hb k
            have hY := apX_ok l xs on hl hb (k + 1)
            have hLl := apL_length xs on k
            rw [HX.out] at hY
            obtain ⟨X, hX⟩ : ∃ X, apX l xs on k = X := ⟨_, rfl⟩
            obtain ⟨L, hL⟩ : ∃ L, apL xs on k = L := ⟨_, rfl⟩
            rw [hX] at HX hXl hXb hr7 hY
            rw [hL] at HL hLl hr8
            clear hX hL
            have CW := Lib.hid (fun w' => with_any X (q : Int) false w' hXl hXb)
            obtain ⟨Y, hYe⟩ : ∃ Y, withB X (q : Int) false = Y := ⟨_, rfl⟩
            rw [hYe] at HX hY
            simp only [hYe] at CW
            clear hYe
            have hXs : (blk X).size = 256 := by rw [blk_size]; exact hXl
            have hYs : (blk Y).size = 256 := by rw [blk_size]; exact hY.1
            have hqL : q < L.length := by omega
            subst hA hA2
            clear hgx2 hgw hY hXl hXb hon
            go_wp2_with (first
              | (with_reducible refine wpList_load rfl 41 _ rfl _ rfl 41 (blk X) 256 5 blkUnd blkSize hXs hr7.out ?_))
            refine (CW.out _).mono ?_
            rintro e w3 ⟨rfl, hbel3⟩
            have hs3 := hr3.below hbel3
            have hs7 := hr7.below hbel3
            have hs8 := hr8.below hbel3
            have hbel4 := below_setRow (hbel.trans (hbel3.mono hgs)) (g := g + 1) (by omega) (blk Y)
            clear hr3 hr7 hr8 hcell hcell2 hbel hbel3 CW
            have ht3 := hs3.far (k := g + 1) (by omega) (blk Y)
            have ht7 := hs7.set (blk Y)
            have ht8 := hs8.far (k := g + 1) (by omega) (blk Y)
            have hc1 := ht8.cell q (nums_get L q hqL)
            have hf1 := ht8.frozen q
            have hu8 := ht8.put q (.int .i64 1)
            rw [nums_set] at hu8
            have hv8 := hu8
            have hu7 := ht7.farCell (a := ⟨g + 2, q, none⟩) (by simp) (.int .i64 1)
            have hu3 := ht3.farCell (a := ⟨g + 2, q, none⟩) (by simp) (.int .i64 1)
            have hbel5 := hbel4.setCell (p := ⟨g + 2, q, none⟩) (by simp) (.int .i64 1)
            go_wp2_with (first
              | (with_reducible refine wpList_store rfl 41 _ _ rfl _ rfl _ rfl _ 41 256 blkSize hYs hXs (blk_one _) hs7.out ?_))
            go_roundw
            case rel => exact ⟨k + 1, by omega, by go_num, hu3, by rw [HX.out]; exact hu7, by rw [HL.out]; exact hv8, hbel5⟩
            case measure => simp [intOf]; omega
        · have hgw : apW on k = false := by unfold apW; rw [List.getD_eq_getElem?_getD, List.getElem?_eq_none (by have := ho.1; omega)]; rfl
          have HX : Hid (apX l xs on (k + 1) = withB (apX l xs on k) (q : Int) false) := by
            show withB (apX l xs on k) (xs.getD k 0 % 2048) (apW on k) = _
            rw [hgx2, hgw]
          have HL : Hid (apL xs on (k + 1) = (apL xs on k).set q 1) := by
            show (apL xs on k).set (xs.getD k 0 % 2048).toNat (if apW on k then 2 else 1) = _
            rw [hgx2, hgw]; rfl
          obtain ⟨hXl, hXb⟩ := apX_ok l xs on hl hb k
          have hY := apX_ok l xs on hl hb (k + 1)
          have hLl := apL_length xs on k
          rw [HX.out] at hY
          obtain ⟨X, hX⟩ : ∃ X, apX l xs on k = X := ⟨_, rfl⟩
          obtain ⟨L, hL⟩ : ∃ L, apL xs on k = L := ⟨_, rfl⟩
          rw [hX] at HX hXl hXb hr7 hY
          rw [hL] at HL hLl hr8
          clear hX hL
          have CW := Lib.hid (fun w' => with_any X (q : Int) false w' hXl hXb)
          obtain ⟨Y, hYe⟩ : ∃ Y, withB X (q : Int) false = Y := ⟨_, rfl⟩
          rw [hYe] at HX hY
          simp only [hYe] at CW
          clear hYe
          have hXs : (blk X).size = 256 := by rw [blk_size]; exact hXl
          have hYs : (blk Y).size = 256 := by rw [blk_size]; exact hY.1
          have hqL : q < L.length := by omega
          subst hA
          clear hgx2 hgw hY hXl hXb
          go_wp2_with (first
            | (with_reducible refine wpList_load rfl 41 _ rfl _ rfl 41 (blk X) 256 5 blkUnd blkSize hXs hr7.out ?_))
          refine (CW.out _).mono ?_
          rintro e w3 ⟨rfl, hbel3⟩
          have hs3 := hr3.below hbel3
          have hs7 := hr7.below hbel3
          have hs8 := hr8.below hbel3
          have hbel4 := below_setRow (hbel.trans (hbel3.mono hgs)) (g := g + 1) (by omega) (blk Y)
          clear hr3 hr7 hr8 hcell hbel hbel3 CW
          have ht3 := hs3.far (k := g + 1) (by omega) (blk Y)
          have ht7 := hs7.set (blk Y)
          have ht8 := hs8.far (k := g + 1) (by omega) (blk Y)
          have hc1 := ht8.cell q (nums_get L q hqL)
          have hf1 := ht8.frozen q
          have hu8 := ht8.put q (.int .i64 1)
          rw [nums_set] at hu8
          have hv8 := hu8
          have hu7 := ht7.farCell (a := ⟨g + 2, q, none⟩) (by simp) (.int .i64 1)
          have hu3 := ht3.farCell (a := ⟨g + 2, q, none⟩) (by simp) (.int .i64 1)
          have hbel5 := hbel4.setCell (p := ⟨g + 2, q, none⟩) (by simp) (.int .i64 1)
          go_wp2_with (first
            | (with_reducible refine wpList_store rfl 41 _ _ rfl _ rfl _ rfl _ 41 256 blkSize hYs hXs (blk_one _) hs7.out ?_))
          go_roundw
          case rel => exact ⟨k + 1, by omega, by go_num, hu3, by rw [HX.out]; exact hu7, by rw [HL.out]; exact hv8, hbel5⟩
          case measure => simp [intOf]; omega
      · obtain rfl : k = n := by omega
        obtain ⟨hXl, hXb⟩ := apX_ok l xs on hl hb k
        have HT := Lib.hid (ap_tells l xs on hl hb k)
        have hLl := apL_length xs on k
        generalize apX l xs on k = X at *
        generalize apL xs on k = L at *
        have hXs : (blk X).size = 256 := by rw [blk_size]; exact hXl
        have hiX : (Try.prog.info? 41).map (·.size) = some (blk X).toList.length := by rw [Array.length_toList, hXs]; exact blkSize
        have hiL : (Try.prog.info? 40).map (·.size) = some (blk l).toList.length := by rw [Array.length_toList, hs]; exact arrSize
        have CX := Lib.hid (fun i w' => hasq_any X i w' hXl hXb)
        have CL := Lib.hid (fun i w' => hasq_any l i w' hl hb)
        clear hx ho hXb hb
        go_wp2
        go_loopw [12] (fun i wr => ∃ k : Nat, k ≤ 2048 ∧ i = .int .i64 k ∧ Row wr g 40 (blk l) ∧ Row wr (g + 1) 41 (blk X) ∧ Row wr (g + 2) 49 (nums L) ∧ Below g w wr) (fun i _ => 2048 - (intOf i).toNat)
        case atStart => exact ⟨0, by omega, rfl, hr3, hr7, hr8, hbel⟩
        case round =>
          clear hr3 hr7 hr8 hbel hgs
          obtain ⟨k, hk, rfl, hr3, hr7, hr8, hbel⟩ := hrel
          rename_i wr _
          have hgs : g ≤ wr.heap.size := by rw [← hg]; exact hbel.size
          by_cases hlt : k < 2048
          · have rg3 := hr3.drew.range
            have rg7 := hr7.drew.range
            have h3 := hr3.drew.lt
            have h7 := hr7.drew.lt
            have h8 := hr8.drew.lt
            have hkL : k < L.length := by omega
            have h0k : (0 : Int) ≤ (k : Int) := by omega
            have hk48 : (k : Int) < 2048 := by omega
            have hcell := hr8.drew.cell k (nums_get L k hkL)
            have hLk := List.getElem?_eq_getElem hkL
            rcases HT.out k hlt with ⟨h, hb⟩ | ⟨h, hb⟩ | ⟨h, hb⟩
            · have hv : L[k] = 0 := by rw [hLk] at h; exact Option.some.inj h
              rw [hv] at hcell
              clear h hv hLk
              have C1 := Lib.hid (CX.out (k : Int))
              have C2 := Lib.hid (CL.out (k : Int))
              rw [← hb] at C2
              clear hb
              generalize hasB X k = b at C1 C2
              go_wp2
              refine wp_region_held_drew (S := Go.RowKit.Below (wr.drew).heap.size (wr.drew)) (by kernel_rfl) ?hb4 (fun hHeld => ?rest4)
              case hb4 =>
                exact Go.RowKit.Below.refl _ _
              case' rest4 => skip
              refine wpAnyH_take (i := 0) (v := ?v5) rfl (by kernel_rfl) (by kernel_rfl) (by kernel_rfl) (fun _ _ _ h => h) (Or.inl ⟨by rfl, ?y5⟩) (by assumption) ?rest5
              case y5 => (intro w hSw; have hT0 := (Go.RowKit.Below.cell hSw (by exact h8)).trans hcell; clear hSw; go_simp; try with_reducible rfl)
              case' rest5 => skip
              try simp only [List.getElem_toArray, List.getElem_cons_succ, List.getElem_cons_zero, Act.put, List.setIfInBounds_toArray, List.set_cons_zero, List.set_cons_succ]
              refine wpAnyH_take (i := 1) (v := ?v6) rfl (by kernel_rfl) (by kernel_rfl) (by kernel_rfl) (fun _ _ _ h => h) (Or.inl ⟨by rfl, ?y6⟩) (by assumption) ?rest6
              case y6 => (intro w hSw; have hT0 := (Go.RowKit.Below.cell hSw (by exact h8)).trans hcell; clear hSw; go_simp; try with_reducible rfl)
              case' rest6 => skip
              try simp only [List.getElem_toArray, List.getElem_cons_succ, List.getElem_cons_zero, Act.put, List.setIfInBounds_toArray, List.set_cons_zero, List.set_cons_succ]
              refine wpAnyH_take (i := 2) (v := ?v7) rfl (by kernel_rfl) (by kernel_rfl) (by kernel_rfl) (fun _ _ _ h => h) (Or.inl ⟨by rfl, ?y7⟩) (by assumption) ?rest7
              case y7 => (intro w hSw; have hT0 := (Go.RowKit.Below.cell hSw (by exact h8)).trans hcell; clear hSw; go_simp; try with_reducible rfl)
              case' rest7 => skip
              try simp only [List.getElem_toArray, List.getElem_cons_succ, List.getElem_cons_zero, Act.put, List.setIfInBounds_toArray, List.set_cons_zero, List.set_cons_succ]
              refine wpAnyH_take (i := 3) (v := ?v8) rfl (by kernel_rfl) (by kernel_rfl) (by kernel_rfl) (fun _ _ _ h => h) (Or.inl ⟨by rfl, ?y8⟩) (by assumption) ?rest8
              case y8 => (intro w hSw; have hT0 := (Go.RowKit.Below.cell hSw (by exact h8)).trans hcell; clear hSw; go_simp; try with_reducible rfl)
              case' rest8 => skip
              try simp only [List.getElem_toArray, List.getElem_cons_succ, List.getElem_cons_zero, Act.put, List.setIfInBounds_toArray, List.set_cons_zero, List.set_cons_succ]
              refine wpAnyH_take (i := 4) (v := ?v9) rfl (by kernel_rfl) (by kernel_rfl) (by kernel_rfl) (fun _ _ _ h => h) (Or.inl ⟨by rfl, ?y9⟩) (by assumption) ?rest9
              case y9 => (intro w hSw; have hT0 := (Go.RowKit.Below.cell hSw (by exact h8)).trans hcell; clear hSw; go_simp; try with_reducible rfl)
              case' rest9 => skip
              try simp only [List.getElem_toArray, List.getElem_cons_succ, List.getElem_cons_zero, Act.put, List.setIfInBounds_toArray, List.set_cons_zero, List.set_cons_succ]
              first
                | refine' wpAnyH_take (i := 5) (v := _) rfl (by kernel_rfl) (by kernel_rfl) (by kernel_rfl) (fun _ _ _ h => h) (yieldsIf_load_mid (by rfl) _ _ rfl _ _ rfl _ _ (fun w hSw => Mem.range_below hSw h7 rg7) blkUnd rfl hiX) (by assumption) ?rest10
                | refine wpAnyH_take (i := 5) (v := undef) rfl (by kernel_rfl) (by kernel_rfl) (by kernel_rfl) (fun _ _ _ h => h) (Or.inr ⟨by rfl, rfl⟩) (by assumption) ?rest10
              case' rest10 => skip
              try simp only [List.getElem_toArray, List.getElem_cons_succ, List.getElem_cons_zero, Act.put, List.setIfInBounds_toArray, List.set_cons_zero, List.set_cons_succ]
              first
                | refine wpAnyH_take (i := 6) (v := undef) rfl (by kernel_rfl) (by kernel_rfl) (by kernel_rfl) (fun _ _ _ h => h) (Or.inr ⟨by rfl, rfl⟩) (by assumption) ?rest11
                | (refine wpAnyH_take (i := 6) (v := ?v11) rfl (by kernel_rfl) (by kernel_rfl) (by kernel_rfl) (fun _ _ _ h => h) (Or.inl ⟨by rfl, ?y11⟩) (by assumption) ?rest11; case y11 => (intro w hSw; have hT0 := (Go.RowKit.Below.cell hSw (by exact h8)).trans hcell; clear hSw; go_simp; try with_reducible rfl))
              case' rest11 => skip
              try simp only [List.getElem_toArray, List.getElem_cons_succ, List.getElem_cons_zero, Act.put, List.setIfInBounds_toArray, List.set_cons_zero, List.set_cons_succ]
              first
                | refine' wpAnyH_take (i := 8) (v := _) rfl (by kernel_rfl) (by kernel_rfl) (by kernel_rfl) (fun _ _ _ h => h) (yieldsIf_load_mid (by rfl) _ _ rfl _ _ rfl _ _ (fun w hSw => Mem.range_below hSw h3 rg3) arrUnd rfl hiL) (by assumption) ?rest12
                | refine wpAnyH_take (i := 8) (v := undef) rfl (by kernel_rfl) (by kernel_rfl) (by kernel_rfl) (fun _ _ _ h => h) (Or.inr ⟨by rfl, rfl⟩) (by assumption) ?rest12
              case' rest12 => skip
              try simp only [List.getElem_toArray, List.getElem_cons_succ, List.getElem_cons_zero, Act.put, List.setIfInBounds_toArray, List.set_cons_zero, List.set_cons_succ]
              first
                | refine wpAnyH_take (i := 9) (v := undef) rfl (by kernel_rfl) (by kernel_rfl) (by kernel_rfl) (fun _ _ _ h => h) (Or.inr ⟨by rfl, rfl⟩) (by assumption) ?rest13
                | (refine wpAnyH_take (i := 9) (v := ?v13) rfl (by kernel_rfl) (by kernel_rfl) (by kernel_rfl) (fun _ _ _ h => h) (Or.inl ⟨by rfl, ?y13⟩) (by assumption) ?rest13; case y13 => (intro w hSw; have hT0 := (Go.RowKit.Below.cell hSw (by exact h8)).trans hcell; clear hSw; go_simp; try with_reducible rfl))
              case' rest13 => skip
              try simp only [List.getElem_toArray, List.getElem_cons_succ, List.getElem_cons_zero, Act.put, List.setIfInBounds_toArray, List.set_cons_zero, List.set_cons_succ]
              refine wpAnyH_ready (rs := [7]) (by kernel_rfl) (by simp) ?_
              refine AllReadyH.cons rfl (fun K hK => ?_) AllReadyH.nil
              go_simp
              (refine (C1.out _).mono ?_; rintro e wa7 ⟨rfl, hba7⟩; have hSnew := hHeld.trans (hba7.mono hHeld.size))
              try go_wp2_with fail
              refine hK.out _ _ ?_ (fun hHeld2 => ?_)
              · exact hSnew
              clear hK K hHeld hSnew
              have hHeld := hHeld2
              clear hHeld2
              try simp only [List.getElem_toArray, List.getElem_cons_succ, List.getElem_cons_zero, Act.put, List.setIfInBounds_toArray, List.set_cons_zero, List.set_cons_succ]
              refine wpAnyH_ready (rs := [10]) (by kernel_rfl) (by simp) ?_
              refine AllReadyH.cons rfl (fun K hK => ?_) AllReadyH.nil
              go_simp
              (refine (C2.out _).mono ?_; rintro e wa10 ⟨rfl, hba10⟩; have hSnew := hHeld.trans (hba10.mono hHeld.size))
              try go_wp2_with fail
              refine hK.out _ _ ?_ (fun hHeld2 => ?_)
              · exact hSnew
              clear hK K hHeld hSnew
              have hHeld := hHeld2
              clear hHeld2
              try simp only [List.getElem_toArray, List.getElem_cons_succ, List.getElem_cons_zero, Act.put, List.setIfInBounds_toArray, List.set_cons_zero, List.set_cons_succ]
              first
                | refine wpAnyH_take (i := 11) (v := undef) rfl (by kernel_rfl) (by kernel_rfl) (by kernel_rfl) (fun _ _ _ h => h) (Or.inr ⟨by rfl, rfl⟩) (by assumption) ?rest14
                | (refine wpAnyH_take (i := 11) (v := ?v14) rfl (by kernel_rfl) (by kernel_rfl) (by kernel_rfl) (fun _ _ _ h => h) (Or.inl ⟨by rfl, ?y14⟩) (by assumption) ?rest14; case y14 => (intro w hSw; have hT0 := (Go.RowKit.Below.cell hSw (by exact h8)).trans hcell; clear hSw; go_simp; try with_reducible rfl))
              case' rest14 => skip
              try simp only [List.getElem_toArray, List.getElem_cons_succ, List.getElem_cons_zero, Act.put, List.setIfInBounds_toArray, List.set_cons_zero, List.set_cons_succ]
              refine wpAnyH_take (i := 12) (v := ?v15) rfl (by kernel_rfl) (by kernel_rfl) (by kernel_rfl) (fun _ _ _ h => h) (Or.inl ⟨by rfl, ?y15⟩) (by assumption) ?rest15
              case y15 => (intro w hSw; have hT0 := (Go.RowKit.Below.cell hSw (by exact h8)).trans hcell; clear hSw; go_simp; try with_reducible rfl)
              case' rest15 => skip
              try simp only [List.getElem_toArray, List.getElem_cons_succ, List.getElem_cons_zero, Act.put, List.setIfInBounds_toArray, List.set_cons_zero, List.set_cons_succ]
              refine wpAnyH_take (i := 13) (v := ?v16) rfl (by kernel_rfl) (by kernel_rfl) (by kernel_rfl) (fun _ _ _ h => h) (Or.inl ⟨by rfl, ?y16⟩) (by assumption) ?rest16
              case y16 => (intro w hSw; have hT0 := (Go.RowKit.Below.cell hSw (by exact h8)).trans hcell; clear hSw; go_simp; try with_reducible rfl)
              case' rest16 => skip
              try simp only [List.getElem_toArray, List.getElem_cons_succ, List.getElem_cons_zero, Act.put, List.setIfInBounds_toArray, List.set_cons_zero, List.set_cons_succ]
              first
                | refine wpAnyH_take (i := 14) (v := undef) rfl (by kernel_rfl) (by kernel_rfl) (by kernel_rfl) (fun _ _ _ h => h) (Or.inr ⟨by rfl, rfl⟩) (by assumption) ?rest17
                | (refine wpAnyH_take (i := 14) (v := ?v17) rfl (by kernel_rfl) (by kernel_rfl) (by kernel_rfl) (fun _ _ _ h => h) (Or.inl ⟨by rfl, ?y17⟩) (by assumption) ?rest17; case y17 => (intro w hSw; have hT0 := (Go.RowKit.Below.cell hSw (by exact h8)).trans hcell; clear hSw; go_simp; try with_reducible rfl))
              case' rest17 => skip
              try simp only [List.getElem_toArray, List.getElem_cons_succ, List.getElem_cons_zero, Act.put, List.setIfInBounds_toArray, List.set_cons_zero, List.set_cons_succ]
              first
                | refine wpAnyH_take (i := 15) (v := undef) rfl (by kernel_rfl) (by kernel_rfl) (by kernel_rfl) (fun _ _ _ h => h) (Or.inr ⟨by rfl, rfl⟩) (by assumption) ?rest18
                | (refine wpAnyH_take (i := 15) (v := ?v18) rfl (by kernel_rfl) (by kernel_rfl) (by kernel_rfl) (fun _ _ _ h => h) (Or.inl ⟨by rfl, ?y18⟩) (by assumption) ?rest18; case y18 => (intro w hSw; have hT0 := (Go.RowKit.Below.cell hSw (by exact h8)).trans hcell; clear hSw; go_simp; try with_reducible rfl))
              case' rest18 => skip
              try simp only [List.getElem_toArray, List.getElem_cons_succ, List.getElem_cons_zero, Act.put, List.setIfInBounds_toArray, List.set_cons_zero, List.set_cons_succ]
              first
                | refine wpAnyH_take (i := 16) (v := undef) rfl (by kernel_rfl) (by kernel_rfl) (by kernel_rfl) (fun _ _ _ h => h) (Or.inr ⟨by rfl, rfl⟩) (by assumption) ?rest19
                | (refine wpAnyH_take (i := 16) (v := ?v19) rfl (by kernel_rfl) (by kernel_rfl) (by kernel_rfl) (fun _ _ _ h => h) (Or.inl ⟨by rfl, ?y19⟩) (by assumption) ?rest19; case y19 => (intro w hSw; have hT0 := (Go.RowKit.Below.cell hSw (by exact h8)).trans hcell; clear hSw; go_simp; try with_reducible rfl))
              case' rest19 => skip
              try simp only [List.getElem_toArray, List.getElem_cons_succ, List.getElem_cons_zero, Act.put, List.setIfInBounds_toArray, List.set_cons_zero, List.set_cons_succ]
              first
                | refine wpAnyH_take (i := 17) (v := undef) rfl (by kernel_rfl) (by kernel_rfl) (by kernel_rfl) (fun _ _ _ h => h) (Or.inr ⟨by rfl, rfl⟩) (by assumption) ?rest20
                | (refine wpAnyH_take (i := 17) (v := ?v20) rfl (by kernel_rfl) (by kernel_rfl) (by kernel_rfl) (fun _ _ _ h => h) (Or.inl ⟨by rfl, ?y20⟩) (by assumption) ?rest20; case y20 => (intro w hSw; have hT0 := (Go.RowKit.Below.cell hSw (by exact h8)).trans hcell; clear hSw; go_simp; try with_reducible rfl))
              case' rest20 => skip
              try simp only [List.getElem_toArray, List.getElem_cons_succ, List.getElem_cons_zero, Act.put, List.setIfInBounds_toArray, List.set_cons_zero, List.set_cons_succ]
              first
                | refine wpAnyH_take (i := 18) (v := undef) rfl (by kernel_rfl) (by kernel_rfl) (by kernel_rfl) (fun _ _ _ h => h) (Or.inr ⟨by rfl, rfl⟩) (by assumption) ?rest21
                | (refine wpAnyH_take (i := 18) (v := ?v21) rfl (by kernel_rfl) (by kernel_rfl) (by kernel_rfl) (fun _ _ _ h => h) (Or.inl ⟨by rfl, ?y21⟩) (by assumption) ?rest21; case y21 => (intro w hSw; have hT0 := (Go.RowKit.Below.cell hSw (by exact h8)).trans hcell; clear hSw; go_simp; try with_reducible rfl))
              case' rest21 => skip
              try simp only [List.getElem_toArray, List.getElem_cons_succ, List.getElem_cons_zero, Act.put, List.setIfInBounds_toArray, List.set_cons_zero, List.set_cons_succ]
              first
                | refine' wpAnyH_take (i := 19) (v := _) rfl (by kernel_rfl) (by kernel_rfl) (by kernel_rfl) (fun _ _ _ h => h) (yieldsIf_load_mid (by rfl) _ _ rfl _ _ rfl _ _ (fun w hSw => Mem.range_below hSw h7 rg7) blkUnd rfl hiX) (by assumption) ?rest22
                | refine wpAnyH_take (i := 19) (v := undef) rfl (by kernel_rfl) (by kernel_rfl) (by kernel_rfl) (fun _ _ _ h => h) (Or.inr ⟨by rfl, rfl⟩) (by assumption) ?rest22
              case' rest22 => skip
              try simp only [List.getElem_toArray, List.getElem_cons_succ, List.getElem_cons_zero, Act.put, List.setIfInBounds_toArray, List.set_cons_zero, List.set_cons_succ]
              first
                | refine wpAnyH_take (i := 20) (v := undef) rfl (by kernel_rfl) (by kernel_rfl) (by kernel_rfl) (fun _ _ _ h => h) (Or.inr ⟨by rfl, rfl⟩) (by assumption) ?rest23
                | (refine wpAnyH_take (i := 20) (v := ?v23) rfl (by kernel_rfl) (by kernel_rfl) (by kernel_rfl) (fun _ _ _ h => h) (Or.inl ⟨by rfl, ?y23⟩) (by assumption) ?rest23; case y23 => (intro w hSw; have hT0 := (Go.RowKit.Below.cell hSw (by exact h8)).trans hcell; clear hSw; go_simp; try with_reducible rfl))
              case' rest23 => skip
              try simp only [List.getElem_toArray, List.getElem_cons_succ, List.getElem_cons_zero, Act.put, List.setIfInBounds_toArray, List.set_cons_zero, List.set_cons_succ]
              first
                | refine wpAnyH_take (i := 21) (v := undef) rfl (by kernel_rfl) (by kernel_rfl) (by kernel_rfl) (fun _ _ _ h => h) (Or.inr ⟨by rfl, rfl⟩) (by assumption) ?rest24
                | (refine wpAnyH_take (i := 21) (v := ?v24) rfl (by kernel_rfl) (by kernel_rfl) (by kernel_rfl) (fun _ _ _ h => h) (Or.inl ⟨by rfl, ?y24⟩) (by assumption) ?rest24; case y24 => (intro w hSw; have hT0 := (Go.RowKit.Below.cell hSw (by exact h8)).trans hcell; clear hSw; go_simp; try with_reducible rfl))
              case' rest24 => skip
              try simp only [List.getElem_toArray, List.getElem_cons_succ, List.getElem_cons_zero, Act.put, List.setIfInBounds_toArray, List.set_cons_zero, List.set_cons_succ]
              first
                | refine wpAnyH_take (i := 22) (v := undef) rfl (by kernel_rfl) (by kernel_rfl) (by kernel_rfl) (fun _ _ _ h => h) (Or.inr ⟨by rfl, rfl⟩) (by assumption) ?rest25
                | (refine wpAnyH_take (i := 22) (v := ?v25) rfl (by kernel_rfl) (by kernel_rfl) (by kernel_rfl) (fun _ _ _ h => h) (Or.inl ⟨by rfl, ?y25⟩) (by assumption) ?rest25; case y25 => (intro w hSw; have hT0 := (Go.RowKit.Below.cell hSw (by exact h8)).trans hcell; clear hSw; go_simp; try with_reducible rfl))
              case' rest25 => skip
              try simp only [List.getElem_toArray, List.getElem_cons_succ, List.getElem_cons_zero, Act.put, List.setIfInBounds_toArray, List.set_cons_zero, List.set_cons_succ]
              refine wpAnyH_take (i := 23) (v := ?v26) rfl (by kernel_rfl) (by kernel_rfl) (by kernel_rfl) (fun _ _ _ h => h) (Or.inl ⟨by rfl, ?y26⟩) (by assumption) ?rest26
              case y26 => (intro w hSw; have hT0 := (Go.RowKit.Below.cell hSw (by exact h8)).trans hcell; clear hSw; go_simp; try with_reducible rfl)
              case' rest26 => skip
              try simp only [List.getElem_toArray, List.getElem_cons_succ, List.getElem_cons_zero, Act.put, List.setIfInBounds_toArray, List.set_cons_zero, List.set_cons_succ]
              refine wpAnyH_take (i := 24) (v := ?v27) rfl (by kernel_rfl) (by kernel_rfl) (by kernel_rfl) (fun _ _ _ h => h) (Or.inl ⟨by rfl, ?y27⟩) (by assumption) ?rest27
              case y27 => (intro w hSw; have hT0 := (Go.RowKit.Below.cell hSw (by exact h8)).trans hcell; clear hSw; go_simp; try with_reducible rfl)
              case' rest27 => skip
              try simp only [List.getElem_toArray, List.getElem_cons_succ, List.getElem_cons_zero, Act.put, List.setIfInBounds_toArray, List.set_cons_zero, List.set_cons_succ]
              first
                | refine wpAnyH_take (i := 25) (v := undef) rfl (by kernel_rfl) (by kernel_rfl) (by kernel_rfl) (fun _ _ _ h => h) (Or.inr ⟨by rfl, rfl⟩) (by assumption) ?rest28
                | (refine wpAnyH_take (i := 25) (v := ?v28) rfl (by kernel_rfl) (by kernel_rfl) (by kernel_rfl) (fun _ _ _ h => h) (Or.inl ⟨by rfl, ?y28⟩) (by assumption) ?rest28; case y28 => (intro w hSw; have hT0 := (Go.RowKit.Below.cell hSw (by exact h8)).trans hcell; clear hSw; go_simp; try with_reducible rfl))
              case' rest28 => skip
              try simp only [List.getElem_toArray, List.getElem_cons_succ, List.getElem_cons_zero, Act.put, List.setIfInBounds_toArray, List.set_cons_zero, List.set_cons_succ]
              first
                | refine wpAnyH_take (i := 26) (v := undef) rfl (by kernel_rfl) (by kernel_rfl) (by kernel_rfl) (fun _ _ _ h => h) (Or.inr ⟨by rfl, rfl⟩) (by assumption) ?rest29
                | (refine wpAnyH_take (i := 26) (v := ?v29) rfl (by kernel_rfl) (by kernel_rfl) (by kernel_rfl) (fun _ _ _ h => h) (Or.inl ⟨by rfl, ?y29⟩) (by assumption) ?rest29; case y29 => (intro w hSw; have hT0 := (Go.RowKit.Below.cell hSw (by exact h8)).trans hcell; clear hSw; go_simp; try with_reducible rfl))
              case' rest29 => skip
              try simp only [List.getElem_toArray, List.getElem_cons_succ, List.getElem_cons_zero, Act.put, List.setIfInBounds_toArray, List.set_cons_zero, List.set_cons_succ]
              first
                | refine wpAnyH_take (i := 27) (v := undef) rfl (by kernel_rfl) (by kernel_rfl) (by kernel_rfl) (fun _ _ _ h => h) (Or.inr ⟨by rfl, rfl⟩) (by assumption) ?rest30
                | (refine wpAnyH_take (i := 27) (v := ?v30) rfl (by kernel_rfl) (by kernel_rfl) (by kernel_rfl) (fun _ _ _ h => h) (Or.inl ⟨by rfl, ?y30⟩) (by assumption) ?rest30; case y30 => (intro w hSw; have hT0 := (Go.RowKit.Below.cell hSw (by exact h8)).trans hcell; clear hSw; go_simp; try with_reducible rfl))
              case' rest30 => skip
              try simp only [List.getElem_toArray, List.getElem_cons_succ, List.getElem_cons_zero, Act.put, List.setIfInBounds_toArray, List.set_cons_zero, List.set_cons_succ]
              first
                | refine wpAnyH_take (i := 28) (v := undef) rfl (by kernel_rfl) (by kernel_rfl) (by kernel_rfl) (fun _ _ _ h => h) (Or.inr ⟨by rfl, rfl⟩) (by assumption) ?rest31
                | (refine wpAnyH_take (i := 28) (v := ?v31) rfl (by kernel_rfl) (by kernel_rfl) (by kernel_rfl) (fun _ _ _ h => h) (Or.inl ⟨by rfl, ?y31⟩) (by assumption) ?rest31; case y31 => (intro w hSw; have hT0 := (Go.RowKit.Below.cell hSw (by exact h8)).trans hcell; clear hSw; go_simp; try with_reducible rfl))
              case' rest31 => skip
              try simp only [List.getElem_toArray, List.getElem_cons_succ, List.getElem_cons_zero, Act.put, List.setIfInBounds_toArray, List.set_cons_zero, List.set_cons_succ]
              first
                | refine wpAnyH_take (i := 29) (v := undef) rfl (by kernel_rfl) (by kernel_rfl) (by kernel_rfl) (fun _ _ _ h => h) (Or.inr ⟨by rfl, rfl⟩) (by assumption) ?rest32
                | (refine wpAnyH_take (i := 29) (v := ?v32) rfl (by kernel_rfl) (by kernel_rfl) (by kernel_rfl) (fun _ _ _ h => h) (Or.inl ⟨by rfl, ?y32⟩) (by assumption) ?rest32; case y32 => (intro w hSw; have hT0 := (Go.RowKit.Below.cell hSw (by exact h8)).trans hcell; clear hSw; go_simp; try with_reducible rfl))
              case' rest32 => skip
              try simp only [List.getElem_toArray, List.getElem_cons_succ, List.getElem_cons_zero, Act.put, List.setIfInBounds_toArray, List.set_cons_zero, List.set_cons_succ]
              first
                | refine' wpAnyH_take (i := 30) (v := _) rfl (by kernel_rfl) (by kernel_rfl) (by kernel_rfl) (fun _ _ _ h => h) (yieldsIf_load_mid (by rfl) _ _ rfl _ _ rfl _ _ (fun w hSw => Mem.range_below hSw h7 rg7) blkUnd rfl hiX) (by assumption) ?rest33
                | refine wpAnyH_take (i := 30) (v := undef) rfl (by kernel_rfl) (by kernel_rfl) (by kernel_rfl) (fun _ _ _ h => h) (Or.inr ⟨by rfl, rfl⟩) (by assumption) ?rest33
              case' rest33 => skip
              try simp only [List.getElem_toArray, List.getElem_cons_succ, List.getElem_cons_zero, Act.put, List.setIfInBounds_toArray, List.set_cons_zero, List.set_cons_succ]
              first
                | refine wpAnyH_take (i := 31) (v := undef) rfl (by kernel_rfl) (by kernel_rfl) (by kernel_rfl) (fun _ _ _ h => h) (Or.inr ⟨by rfl, rfl⟩) (by assumption) ?rest34
                | (refine wpAnyH_take (i := 31) (v := ?v34) rfl (by kernel_rfl) (by kernel_rfl) (by kernel_rfl) (fun _ _ _ h => h) (Or.inl ⟨by rfl, ?y34⟩) (by assumption) ?rest34; case y34 => (intro w hSw; have hT0 := (Go.RowKit.Below.cell hSw (by exact h8)).trans hcell; clear hSw; go_simp; try with_reducible rfl))
              case' rest34 => skip
              try simp only [List.getElem_toArray, List.getElem_cons_succ, List.getElem_cons_zero, Act.put, List.setIfInBounds_toArray, List.set_cons_zero, List.set_cons_succ]
              first
                | refine wpAnyH_take (i := 32) (v := undef) rfl (by kernel_rfl) (by kernel_rfl) (by kernel_rfl) (fun _ _ _ h => h) (Or.inr ⟨by rfl, rfl⟩) (by assumption) ?rest35
                | (refine wpAnyH_take (i := 32) (v := ?v35) rfl (by kernel_rfl) (by kernel_rfl) (by kernel_rfl) (fun _ _ _ h => h) (Or.inl ⟨by rfl, ?y35⟩) (by assumption) ?rest35; case y35 => (intro w hSw; have hT0 := (Go.RowKit.Below.cell hSw (by exact h8)).trans hcell; clear hSw; go_simp; try with_reducible rfl))
              case' rest35 => skip
              try simp only [List.getElem_toArray, List.getElem_cons_succ, List.getElem_cons_zero, Act.put, List.setIfInBounds_toArray, List.set_cons_zero, List.set_cons_succ]
              first
                | refine wpAnyH_take (i := 33) (v := undef) rfl (by kernel_rfl) (by kernel_rfl) (by kernel_rfl) (fun _ _ _ h => h) (Or.inr ⟨by rfl, rfl⟩) (by assumption) ?rest36
                | (refine wpAnyH_take (i := 33) (v := ?v36) rfl (by kernel_rfl) (by kernel_rfl) (by kernel_rfl) (fun _ _ _ h => h) (Or.inl ⟨by rfl, ?y36⟩) (by assumption) ?rest36; case y36 => (intro w hSw; have hT0 := (Go.RowKit.Below.cell hSw (by exact h8)).trans hcell; clear hSw; go_simp; try with_reducible rfl))
              case' rest36 => skip
              try simp only [List.getElem_toArray, List.getElem_cons_succ, List.getElem_cons_zero, Act.put, List.setIfInBounds_toArray, List.set_cons_zero, List.set_cons_succ]
              first
                | refine wpAnyH_take (i := 34) (v := undef) rfl (by kernel_rfl) (by kernel_rfl) (by kernel_rfl) (fun _ _ _ h => h) (Or.inr ⟨by rfl, rfl⟩) (by assumption) ?rest37
                | (refine wpAnyH_take (i := 34) (v := ?v37) rfl (by kernel_rfl) (by kernel_rfl) (by kernel_rfl) (fun _ _ _ h => h) (Or.inl ⟨by rfl, ?y37⟩) (by assumption) ?rest37; case y37 => (intro w hSw; have hT0 := (Go.RowKit.Below.cell hSw (by exact h8)).trans hcell; clear hSw; go_simp; try with_reducible rfl))
              case' rest37 => skip
              try simp only [List.getElem_toArray, List.getElem_cons_succ, List.getElem_cons_zero, Act.put, List.setIfInBounds_toArray, List.set_cons_zero, List.set_cons_succ]
              refine wpAnyH_take (i := 35) (v := ?v38) rfl (by kernel_rfl) (by kernel_rfl) (by kernel_rfl) (fun _ _ _ h => h) (Or.inl ⟨by rfl, ?y38⟩) (by assumption) ?rest38
              case y38 => (intro w hSw; have hT0 := (Go.RowKit.Below.cell hSw (by exact h8)).trans hcell; clear hSw; go_simp; try with_reducible rfl)
              case' rest38 => skip
              try simp only [List.getElem_toArray, List.getElem_cons_succ, List.getElem_cons_zero, Act.put, List.setIfInBounds_toArray, List.set_cons_zero, List.set_cons_succ]
              refine wpAnyH_done (by kernel_rfl) ?_ _
              go_wp2
              have hrow := hHeld
              go_roundw
              case rel => exact ⟨k + 1, by omega, by go_num, hr3.drew.below hrow, hr7.drew.below hrow, hr8.drew.below hrow, hbel.drew.trans (hrow.mono hgs)⟩
              case measure => simp [intOf]; omega
            · have hv : L[k] = 1 := by rw [hLk] at h; exact Option.some.inj h
              rw [hv] at hcell
              clear h hv hLk
              have C1 := Lib.hid (CX.out (k : Int))
              rw [hb] at C1
              clear hb
              go_wp2
              refine wp_region_held_drew (S := Go.RowKit.Below (wr.drew).heap.size (wr.drew)) (by kernel_rfl) ?hb41 (fun hHeld => ?rest41)
              case hb41 =>
                exact Go.RowKit.Below.refl _ _
              case' rest41 => skip
              refine wpAnyH_take (i := 0) (v := ?v42) rfl (by kernel_rfl) (by kernel_rfl) (by kernel_rfl) (fun _ _ _ h => h) (Or.inl ⟨by rfl, ?y42⟩) (by assumption) ?rest42
              case y42 => (intro w hSw; have hT0 := (Go.RowKit.Below.cell hSw (by exact h8)).trans hcell; clear hSw; go_simp; try with_reducible rfl)
              case' rest42 => skip
              try simp only [List.getElem_toArray, List.getElem_cons_succ, List.getElem_cons_zero, Act.put, List.setIfInBounds_toArray, List.set_cons_zero, List.set_cons_succ]
              refine wpAnyH_take (i := 1) (v := ?v43) rfl (by kernel_rfl) (by kernel_rfl) (by kernel_rfl) (fun _ _ _ h => h) (Or.inl ⟨by rfl, ?y43⟩) (by assumption) ?rest43
              case y43 => (intro w hSw; have hT0 := (Go.RowKit.Below.cell hSw (by exact h8)).trans hcell; clear hSw; go_simp; try with_reducible rfl)
              case' rest43 => skip
              try simp only [List.getElem_toArray, List.getElem_cons_succ, List.getElem_cons_zero, Act.put, List.setIfInBounds_toArray, List.set_cons_zero, List.set_cons_succ]
              refine wpAnyH_take (i := 2) (v := ?v44) rfl (by kernel_rfl) (by kernel_rfl) (by kernel_rfl) (fun _ _ _ h => h) (Or.inl ⟨by rfl, ?y44⟩) (by assumption) ?rest44
              case y44 => (intro w hSw; have hT0 := (Go.RowKit.Below.cell hSw (by exact h8)).trans hcell; clear hSw; go_simp; try with_reducible rfl)
              case' rest44 => skip
              try simp only [List.getElem_toArray, List.getElem_cons_succ, List.getElem_cons_zero, Act.put, List.setIfInBounds_toArray, List.set_cons_zero, List.set_cons_succ]
              refine wpAnyH_take (i := 3) (v := ?v45) rfl (by kernel_rfl) (by kernel_rfl) (by kernel_rfl) (fun _ _ _ h => h) (Or.inl ⟨by rfl, ?y45⟩) (by assumption) ?rest45
              case y45 => (intro w hSw; have hT0 := (Go.RowKit.Below.cell hSw (by exact h8)).trans hcell; clear hSw; go_simp; try with_reducible rfl)
              case' rest45 => skip
              try simp only [List.getElem_toArray, List.getElem_cons_succ, List.getElem_cons_zero, Act.put, List.setIfInBounds_toArray, List.set_cons_zero, List.set_cons_succ]
              refine wpAnyH_take (i := 4) (v := ?v46) rfl (by kernel_rfl) (by kernel_rfl) (by kernel_rfl) (fun _ _ _ h => h) (Or.inl ⟨by rfl, ?y46⟩) (by assumption) ?rest46
              case y46 => (intro w hSw; have hT0 := (Go.RowKit.Below.cell hSw (by exact h8)).trans hcell; clear hSw; go_simp; try with_reducible rfl)
              case' rest46 => skip
              try simp only [List.getElem_toArray, List.getElem_cons_succ, List.getElem_cons_zero, Act.put, List.setIfInBounds_toArray, List.set_cons_zero, List.set_cons_succ]
              first
                | refine' wpAnyH_take (i := 5) (v := _) rfl (by kernel_rfl) (by kernel_rfl) (by kernel_rfl) (fun _ _ _ h => h) (yieldsIf_load_mid (by rfl) _ _ rfl _ _ rfl _ _ (fun w hSw => Mem.range_below hSw h7 rg7) blkUnd rfl hiX) (by assumption) ?rest47
                | refine wpAnyH_take (i := 5) (v := undef) rfl (by kernel_rfl) (by kernel_rfl) (by kernel_rfl) (fun _ _ _ h => h) (Or.inr ⟨by rfl, rfl⟩) (by assumption) ?rest47
              case' rest47 => skip
              try simp only [List.getElem_toArray, List.getElem_cons_succ, List.getElem_cons_zero, Act.put, List.setIfInBounds_toArray, List.set_cons_zero, List.set_cons_succ]
              first
                | refine wpAnyH_take (i := 6) (v := undef) rfl (by kernel_rfl) (by kernel_rfl) (by kernel_rfl) (fun _ _ _ h => h) (Or.inr ⟨by rfl, rfl⟩) (by assumption) ?rest48
                | (refine wpAnyH_take (i := 6) (v := ?v48) rfl (by kernel_rfl) (by kernel_rfl) (by kernel_rfl) (fun _ _ _ h => h) (Or.inl ⟨by rfl, ?y48⟩) (by assumption) ?rest48; case y48 => (intro w hSw; have hT0 := (Go.RowKit.Below.cell hSw (by exact h8)).trans hcell; clear hSw; go_simp; try with_reducible rfl))
              case' rest48 => skip
              try simp only [List.getElem_toArray, List.getElem_cons_succ, List.getElem_cons_zero, Act.put, List.setIfInBounds_toArray, List.set_cons_zero, List.set_cons_succ]
              first
                | refine wpAnyH_take (i := 7) (v := undef) rfl (by kernel_rfl) (by kernel_rfl) (by kernel_rfl) (fun _ _ _ h => h) (Or.inr ⟨by rfl, rfl⟩) (by assumption) ?rest49
                | (refine wpAnyH_take (i := 7) (v := ?v49) rfl (by kernel_rfl) (by kernel_rfl) (by kernel_rfl) (fun _ _ _ h => h) (Or.inl ⟨by rfl, ?y49⟩) (by assumption) ?rest49; case y49 => (intro w hSw; have hT0 := (Go.RowKit.Below.cell hSw (by exact h8)).trans hcell; clear hSw; go_simp; try with_reducible rfl))
              case' rest49 => skip
              try simp only [List.getElem_toArray, List.getElem_cons_succ, List.getElem_cons_zero, Act.put, List.setIfInBounds_toArray, List.set_cons_zero, List.set_cons_succ]
              first
                | refine' wpAnyH_take (i := 8) (v := _) rfl (by kernel_rfl) (by kernel_rfl) (by kernel_rfl) (fun _ _ _ h => h) (yieldsIf_load_mid (by rfl) _ _ rfl _ _ rfl _ _ (fun w hSw => Mem.range_below hSw h3 rg3) arrUnd rfl hiL) (by assumption) ?rest50
                | refine wpAnyH_take (i := 8) (v := undef) rfl (by kernel_rfl) (by kernel_rfl) (by kernel_rfl) (fun _ _ _ h => h) (Or.inr ⟨by rfl, rfl⟩) (by assumption) ?rest50
              case' rest50 => skip
              try simp only [List.getElem_toArray, List.getElem_cons_succ, List.getElem_cons_zero, Act.put, List.setIfInBounds_toArray, List.set_cons_zero, List.set_cons_succ]
              first
                | refine wpAnyH_take (i := 9) (v := undef) rfl (by kernel_rfl) (by kernel_rfl) (by kernel_rfl) (fun _ _ _ h => h) (Or.inr ⟨by rfl, rfl⟩) (by assumption) ?rest51
                | (refine wpAnyH_take (i := 9) (v := ?v51) rfl (by kernel_rfl) (by kernel_rfl) (by kernel_rfl) (fun _ _ _ h => h) (Or.inl ⟨by rfl, ?y51⟩) (by assumption) ?rest51; case y51 => (intro w hSw; have hT0 := (Go.RowKit.Below.cell hSw (by exact h8)).trans hcell; clear hSw; go_simp; try with_reducible rfl))
              case' rest51 => skip
              try simp only [List.getElem_toArray, List.getElem_cons_succ, List.getElem_cons_zero, Act.put, List.setIfInBounds_toArray, List.set_cons_zero, List.set_cons_succ]
              first
                | refine wpAnyH_take (i := 10) (v := undef) rfl (by kernel_rfl) (by kernel_rfl) (by kernel_rfl) (fun _ _ _ h => h) (Or.inr ⟨by rfl, rfl⟩) (by assumption) ?rest52
                | (refine wpAnyH_take (i := 10) (v := ?v52) rfl (by kernel_rfl) (by kernel_rfl) (by kernel_rfl) (fun _ _ _ h => h) (Or.inl ⟨by rfl, ?y52⟩) (by assumption) ?rest52; case y52 => (intro w hSw; have hT0 := (Go.RowKit.Below.cell hSw (by exact h8)).trans hcell; clear hSw; go_simp; try with_reducible rfl))
              case' rest52 => skip
              try simp only [List.getElem_toArray, List.getElem_cons_succ, List.getElem_cons_zero, Act.put, List.setIfInBounds_toArray, List.set_cons_zero, List.set_cons_succ]
              first
                | refine wpAnyH_take (i := 11) (v := undef) rfl (by kernel_rfl) (by kernel_rfl) (by kernel_rfl) (fun _ _ _ h => h) (Or.inr ⟨by rfl, rfl⟩) (by assumption) ?rest53
                | (refine wpAnyH_take (i := 11) (v := ?v53) rfl (by kernel_rfl) (by kernel_rfl) (by kernel_rfl) (fun _ _ _ h => h) (Or.inl ⟨by rfl, ?y53⟩) (by assumption) ?rest53; case y53 => (intro w hSw; have hT0 := (Go.RowKit.Below.cell hSw (by exact h8)).trans hcell; clear hSw; go_simp; try with_reducible rfl))
              case' rest53 => skip
              try simp only [List.getElem_toArray, List.getElem_cons_succ, List.getElem_cons_zero, Act.put, List.setIfInBounds_toArray, List.set_cons_zero, List.set_cons_succ]
              refine wpAnyH_take (i := 12) (v := ?v54) rfl (by kernel_rfl) (by kernel_rfl) (by kernel_rfl) (fun _ _ _ h => h) (Or.inl ⟨by rfl, ?y54⟩) (by assumption) ?rest54
              case y54 => (intro w hSw; have hT0 := (Go.RowKit.Below.cell hSw (by exact h8)).trans hcell; clear hSw; go_simp; try with_reducible rfl)
              case' rest54 => skip
              try simp only [List.getElem_toArray, List.getElem_cons_succ, List.getElem_cons_zero, Act.put, List.setIfInBounds_toArray, List.set_cons_zero, List.set_cons_succ]
              refine wpAnyH_take (i := 13) (v := ?v55) rfl (by kernel_rfl) (by kernel_rfl) (by kernel_rfl) (fun _ _ _ h => h) (Or.inl ⟨by rfl, ?y55⟩) (by assumption) ?rest55
              case y55 => (intro w hSw; have hT0 := (Go.RowKit.Below.cell hSw (by exact h8)).trans hcell; clear hSw; go_simp; try with_reducible rfl)
              case' rest55 => skip
              try simp only [List.getElem_toArray, List.getElem_cons_succ, List.getElem_cons_zero, Act.put, List.setIfInBounds_toArray, List.set_cons_zero, List.set_cons_succ]
              first
                | refine wpAnyH_take (i := 14) (v := undef) rfl (by kernel_rfl) (by kernel_rfl) (by kernel_rfl) (fun _ _ _ h => h) (Or.inr ⟨by rfl, rfl⟩) (by assumption) ?rest56
                | (refine wpAnyH_take (i := 14) (v := ?v56) rfl (by kernel_rfl) (by kernel_rfl) (by kernel_rfl) (fun _ _ _ h => h) (Or.inl ⟨by rfl, ?y56⟩) (by assumption) ?rest56; case y56 => (intro w hSw; have hT0 := (Go.RowKit.Below.cell hSw (by exact h8)).trans hcell; clear hSw; go_simp; try with_reducible rfl))
              case' rest56 => skip
              try simp only [List.getElem_toArray, List.getElem_cons_succ, List.getElem_cons_zero, Act.put, List.setIfInBounds_toArray, List.set_cons_zero, List.set_cons_succ]
              first
                | refine wpAnyH_take (i := 15) (v := undef) rfl (by kernel_rfl) (by kernel_rfl) (by kernel_rfl) (fun _ _ _ h => h) (Or.inr ⟨by rfl, rfl⟩) (by assumption) ?rest57
                | (refine wpAnyH_take (i := 15) (v := ?v57) rfl (by kernel_rfl) (by kernel_rfl) (by kernel_rfl) (fun _ _ _ h => h) (Or.inl ⟨by rfl, ?y57⟩) (by assumption) ?rest57; case y57 => (intro w hSw; have hT0 := (Go.RowKit.Below.cell hSw (by exact h8)).trans hcell; clear hSw; go_simp; try with_reducible rfl))
              case' rest57 => skip
              try simp only [List.getElem_toArray, List.getElem_cons_succ, List.getElem_cons_zero, Act.put, List.setIfInBounds_toArray, List.set_cons_zero, List.set_cons_succ]
              first
                | refine wpAnyH_take (i := 16) (v := undef) rfl (by kernel_rfl) (by kernel_rfl) (by kernel_rfl) (fun _ _ _ h => h) (Or.inr ⟨by rfl, rfl⟩) (by assumption) ?rest58
                | (refine wpAnyH_take (i := 16) (v := ?v58) rfl (by kernel_rfl) (by kernel_rfl) (by kernel_rfl) (fun _ _ _ h => h) (Or.inl ⟨by rfl, ?y58⟩) (by assumption) ?rest58; case y58 => (intro w hSw; have hT0 := (Go.RowKit.Below.cell hSw (by exact h8)).trans hcell; clear hSw; go_simp; try with_reducible rfl))
              case' rest58 => skip
              try simp only [List.getElem_toArray, List.getElem_cons_succ, List.getElem_cons_zero, Act.put, List.setIfInBounds_toArray, List.set_cons_zero, List.set_cons_succ]
              first
                | refine wpAnyH_take (i := 17) (v := undef) rfl (by kernel_rfl) (by kernel_rfl) (by kernel_rfl) (fun _ _ _ h => h) (Or.inr ⟨by rfl, rfl⟩) (by assumption) ?rest59
                | (refine wpAnyH_take (i := 17) (v := ?v59) rfl (by kernel_rfl) (by kernel_rfl) (by kernel_rfl) (fun _ _ _ h => h) (Or.inl ⟨by rfl, ?y59⟩) (by assumption) ?rest59; case y59 => (intro w hSw; have hT0 := (Go.RowKit.Below.cell hSw (by exact h8)).trans hcell; clear hSw; go_simp; try with_reducible rfl))
              case' rest59 => skip
              try simp only [List.getElem_toArray, List.getElem_cons_succ, List.getElem_cons_zero, Act.put, List.setIfInBounds_toArray, List.set_cons_zero, List.set_cons_succ]
              first
                | refine wpAnyH_take (i := 18) (v := undef) rfl (by kernel_rfl) (by kernel_rfl) (by kernel_rfl) (fun _ _ _ h => h) (Or.inr ⟨by rfl, rfl⟩) (by assumption) ?rest60
                | (refine wpAnyH_take (i := 18) (v := ?v60) rfl (by kernel_rfl) (by kernel_rfl) (by kernel_rfl) (fun _ _ _ h => h) (Or.inl ⟨by rfl, ?y60⟩) (by assumption) ?rest60; case y60 => (intro w hSw; have hT0 := (Go.RowKit.Below.cell hSw (by exact h8)).trans hcell; clear hSw; go_simp; try with_reducible rfl))
              case' rest60 => skip
              try simp only [List.getElem_toArray, List.getElem_cons_succ, List.getElem_cons_zero, Act.put, List.setIfInBounds_toArray, List.set_cons_zero, List.set_cons_succ]
              first
                | refine' wpAnyH_take (i := 19) (v := _) rfl (by kernel_rfl) (by kernel_rfl) (by kernel_rfl) (fun _ _ _ h => h) (yieldsIf_load_mid (by rfl) _ _ rfl _ _ rfl _ _ (fun w hSw => Mem.range_below hSw h7 rg7) blkUnd rfl hiX) (by assumption) ?rest61
                | refine wpAnyH_take (i := 19) (v := undef) rfl (by kernel_rfl) (by kernel_rfl) (by kernel_rfl) (fun _ _ _ h => h) (Or.inr ⟨by rfl, rfl⟩) (by assumption) ?rest61
              case' rest61 => skip
              try simp only [List.getElem_toArray, List.getElem_cons_succ, List.getElem_cons_zero, Act.put, List.setIfInBounds_toArray, List.set_cons_zero, List.set_cons_succ]
              first
                | refine wpAnyH_take (i := 20) (v := undef) rfl (by kernel_rfl) (by kernel_rfl) (by kernel_rfl) (fun _ _ _ h => h) (Or.inr ⟨by rfl, rfl⟩) (by assumption) ?rest62
                | (refine wpAnyH_take (i := 20) (v := ?v62) rfl (by kernel_rfl) (by kernel_rfl) (by kernel_rfl) (fun _ _ _ h => h) (Or.inl ⟨by rfl, ?y62⟩) (by assumption) ?rest62; case y62 => (intro w hSw; have hT0 := (Go.RowKit.Below.cell hSw (by exact h8)).trans hcell; clear hSw; go_simp; try with_reducible rfl))
              case' rest62 => skip
              try simp only [List.getElem_toArray, List.getElem_cons_succ, List.getElem_cons_zero, Act.put, List.setIfInBounds_toArray, List.set_cons_zero, List.set_cons_succ]
              refine wpAnyH_ready (rs := [21]) (by kernel_rfl) (by simp) ?_
              refine AllReadyH.cons rfl (fun K hK => ?_) AllReadyH.nil
              go_simp
              (refine (C1.out _).mono ?_; rintro e wa21 ⟨rfl, hba21⟩; have hSnew := hHeld.trans (hba21.mono hHeld.size))
              try go_wp2_with fail
              refine hK.out _ _ ?_ (fun hHeld2 => ?_)
              · exact hSnew
              clear hK K hHeld hSnew
              have hHeld := hHeld2
              clear hHeld2
              try simp only [List.getElem_toArray, List.getElem_cons_succ, List.getElem_cons_zero, Act.put, List.setIfInBounds_toArray, List.set_cons_zero, List.set_cons_succ]
              first
                | refine wpAnyH_take (i := 22) (v := undef) rfl (by kernel_rfl) (by kernel_rfl) (by kernel_rfl) (fun _ _ _ h => h) (Or.inr ⟨by rfl, rfl⟩) (by assumption) ?rest63
                | (refine wpAnyH_take (i := 22) (v := ?v63) rfl (by kernel_rfl) (by kernel_rfl) (by kernel_rfl) (fun _ _ _ h => h) (Or.inl ⟨by rfl, ?y63⟩) (by assumption) ?rest63; case y63 => (intro w hSw; have hT0 := (Go.RowKit.Below.cell hSw (by exact h8)).trans hcell; clear hSw; go_simp; try with_reducible rfl))
              case' rest63 => skip
              try simp only [List.getElem_toArray, List.getElem_cons_succ, List.getElem_cons_zero, Act.put, List.setIfInBounds_toArray, List.set_cons_zero, List.set_cons_succ]
              refine wpAnyH_take (i := 23) (v := ?v64) rfl (by kernel_rfl) (by kernel_rfl) (by kernel_rfl) (fun _ _ _ h => h) (Or.inl ⟨by rfl, ?y64⟩) (by assumption) ?rest64
              case y64 => (intro w hSw; have hT0 := (Go.RowKit.Below.cell hSw (by exact h8)).trans hcell; clear hSw; go_simp; try with_reducible rfl)
              case' rest64 => skip
              try simp only [List.getElem_toArray, List.getElem_cons_succ, List.getElem_cons_zero, Act.put, List.setIfInBounds_toArray, List.set_cons_zero, List.set_cons_succ]
              refine wpAnyH_take (i := 24) (v := ?v65) rfl (by kernel_rfl) (by kernel_rfl) (by kernel_rfl) (fun _ _ _ h => h) (Or.inl ⟨by rfl, ?y65⟩) (by assumption) ?rest65
              case y65 => (intro w hSw; have hT0 := (Go.RowKit.Below.cell hSw (by exact h8)).trans hcell; clear hSw; go_simp; try with_reducible rfl)
              case' rest65 => skip
              try simp only [List.getElem_toArray, List.getElem_cons_succ, List.getElem_cons_zero, Act.put, List.setIfInBounds_toArray, List.set_cons_zero, List.set_cons_succ]
              first
                | refine wpAnyH_take (i := 25) (v := undef) rfl (by kernel_rfl) (by kernel_rfl) (by kernel_rfl) (fun _ _ _ h => h) (Or.inr ⟨by rfl, rfl⟩) (by assumption) ?rest66
                | (refine wpAnyH_take (i := 25) (v := ?v66) rfl (by kernel_rfl) (by kernel_rfl) (by kernel_rfl) (fun _ _ _ h => h) (Or.inl ⟨by rfl, ?y66⟩) (by assumption) ?rest66; case y66 => (intro w hSw; have hT0 := (Go.RowKit.Below.cell hSw (by exact h8)).trans hcell; clear hSw; go_simp; try with_reducible rfl))
              case' rest66 => skip
              try simp only [List.getElem_toArray, List.getElem_cons_succ, List.getElem_cons_zero, Act.put, List.setIfInBounds_toArray, List.set_cons_zero, List.set_cons_succ]
              first
                | refine wpAnyH_take (i := 26) (v := undef) rfl (by kernel_rfl) (by kernel_rfl) (by kernel_rfl) (fun _ _ _ h => h) (Or.inr ⟨by rfl, rfl⟩) (by assumption) ?rest67
                | (refine wpAnyH_take (i := 26) (v := ?v67) rfl (by kernel_rfl) (by kernel_rfl) (by kernel_rfl) (fun _ _ _ h => h) (Or.inl ⟨by rfl, ?y67⟩) (by assumption) ?rest67; case y67 => (intro w hSw; have hT0 := (Go.RowKit.Below.cell hSw (by exact h8)).trans hcell; clear hSw; go_simp; try with_reducible rfl))
              case' rest67 => skip
              try simp only [List.getElem_toArray, List.getElem_cons_succ, List.getElem_cons_zero, Act.put, List.setIfInBounds_toArray, List.set_cons_zero, List.set_cons_succ]
              first
                | refine wpAnyH_take (i := 27) (v := undef) rfl (by kernel_rfl) (by kernel_rfl) (by kernel_rfl) (fun _ _ _ h => h) (Or.inr ⟨by rfl, rfl⟩) (by assumption) ?rest68
                | (refine wpAnyH_take (i := 27) (v := ?v68) rfl (by kernel_rfl) (by kernel_rfl) (by kernel_rfl) (fun _ _ _ h => h) (Or.inl ⟨by rfl, ?y68⟩) (by assumption) ?rest68; case y68 => (intro w hSw; have hT0 := (Go.RowKit.Below.cell hSw (by exact h8)).trans hcell; clear hSw; go_simp; try with_reducible rfl))
              case' rest68 => skip
              try simp only [List.getElem_toArray, List.getElem_cons_succ, List.getElem_cons_zero, Act.put, List.setIfInBounds_toArray, List.set_cons_zero, List.set_cons_succ]
              first
                | refine wpAnyH_take (i := 28) (v := undef) rfl (by kernel_rfl) (by kernel_rfl) (by kernel_rfl) (fun _ _ _ h => h) (Or.inr ⟨by rfl, rfl⟩) (by assumption) ?rest69
                | (refine wpAnyH_take (i := 28) (v := ?v69) rfl (by kernel_rfl) (by kernel_rfl) (by kernel_rfl) (fun _ _ _ h => h) (Or.inl ⟨by rfl, ?y69⟩) (by assumption) ?rest69; case y69 => (intro w hSw; have hT0 := (Go.RowKit.Below.cell hSw (by exact h8)).trans hcell; clear hSw; go_simp; try with_reducible rfl))
              case' rest69 => skip
              try simp only [List.getElem_toArray, List.getElem_cons_succ, List.getElem_cons_zero, Act.put, List.setIfInBounds_toArray, List.set_cons_zero, List.set_cons_succ]
              first
                | refine wpAnyH_take (i := 29) (v := undef) rfl (by kernel_rfl) (by kernel_rfl) (by kernel_rfl) (fun _ _ _ h => h) (Or.inr ⟨by rfl, rfl⟩) (by assumption) ?rest70
                | (refine wpAnyH_take (i := 29) (v := ?v70) rfl (by kernel_rfl) (by kernel_rfl) (by kernel_rfl) (fun _ _ _ h => h) (Or.inl ⟨by rfl, ?y70⟩) (by assumption) ?rest70; case y70 => (intro w hSw; have hT0 := (Go.RowKit.Below.cell hSw (by exact h8)).trans hcell; clear hSw; go_simp; try with_reducible rfl))
              case' rest70 => skip
              try simp only [List.getElem_toArray, List.getElem_cons_succ, List.getElem_cons_zero, Act.put, List.setIfInBounds_toArray, List.set_cons_zero, List.set_cons_succ]
              first
                | refine' wpAnyH_take (i := 30) (v := _) rfl (by kernel_rfl) (by kernel_rfl) (by kernel_rfl) (fun _ _ _ h => h) (yieldsIf_load_mid (by rfl) _ _ rfl _ _ rfl _ _ (fun w hSw => Mem.range_below hSw h7 rg7) blkUnd rfl hiX) (by assumption) ?rest71
                | refine wpAnyH_take (i := 30) (v := undef) rfl (by kernel_rfl) (by kernel_rfl) (by kernel_rfl) (fun _ _ _ h => h) (Or.inr ⟨by rfl, rfl⟩) (by assumption) ?rest71
              case' rest71 => skip
              try simp only [List.getElem_toArray, List.getElem_cons_succ, List.getElem_cons_zero, Act.put, List.setIfInBounds_toArray, List.set_cons_zero, List.set_cons_succ]
              first
                | refine wpAnyH_take (i := 31) (v := undef) rfl (by kernel_rfl) (by kernel_rfl) (by kernel_rfl) (fun _ _ _ h => h) (Or.inr ⟨by rfl, rfl⟩) (by assumption) ?rest72
                | (refine wpAnyH_take (i := 31) (v := ?v72) rfl (by kernel_rfl) (by kernel_rfl) (by kernel_rfl) (fun _ _ _ h => h) (Or.inl ⟨by rfl, ?y72⟩) (by assumption) ?rest72; case y72 => (intro w hSw; have hT0 := (Go.RowKit.Below.cell hSw (by exact h8)).trans hcell; clear hSw; go_simp; try with_reducible rfl))
              case' rest72 => skip
              try simp only [List.getElem_toArray, List.getElem_cons_succ, List.getElem_cons_zero, Act.put, List.setIfInBounds_toArray, List.set_cons_zero, List.set_cons_succ]
              first
                | refine wpAnyH_take (i := 32) (v := undef) rfl (by kernel_rfl) (by kernel_rfl) (by kernel_rfl) (fun _ _ _ h => h) (Or.inr ⟨by rfl, rfl⟩) (by assumption) ?rest73
                | (refine wpAnyH_take (i := 32) (v := ?v73) rfl (by kernel_rfl) (by kernel_rfl) (by kernel_rfl) (fun _ _ _ h => h) (Or.inl ⟨by rfl, ?y73⟩) (by assumption) ?rest73; case y73 => (intro w hSw; have hT0 := (Go.RowKit.Below.cell hSw (by exact h8)).trans hcell; clear hSw; go_simp; try with_reducible rfl))
              case' rest73 => skip
              try simp only [List.getElem_toArray, List.getElem_cons_succ, List.getElem_cons_zero, Act.put, List.setIfInBounds_toArray, List.set_cons_zero, List.set_cons_succ]
              first
                | refine wpAnyH_take (i := 33) (v := undef) rfl (by kernel_rfl) (by kernel_rfl) (by kernel_rfl) (fun _ _ _ h => h) (Or.inr ⟨by rfl, rfl⟩) (by assumption) ?rest74
                | (refine wpAnyH_take (i := 33) (v := ?v74) rfl (by kernel_rfl) (by kernel_rfl) (by kernel_rfl) (fun _ _ _ h => h) (Or.inl ⟨by rfl, ?y74⟩) (by assumption) ?rest74; case y74 => (intro w hSw; have hT0 := (Go.RowKit.Below.cell hSw (by exact h8)).trans hcell; clear hSw; go_simp; try with_reducible rfl))
              case' rest74 => skip
              try simp only [List.getElem_toArray, List.getElem_cons_succ, List.getElem_cons_zero, Act.put, List.setIfInBounds_toArray, List.set_cons_zero, List.set_cons_succ]
              first
                | refine wpAnyH_take (i := 34) (v := undef) rfl (by kernel_rfl) (by kernel_rfl) (by kernel_rfl) (fun _ _ _ h => h) (Or.inr ⟨by rfl, rfl⟩) (by assumption) ?rest75
                | (refine wpAnyH_take (i := 34) (v := ?v75) rfl (by kernel_rfl) (by kernel_rfl) (by kernel_rfl) (fun _ _ _ h => h) (Or.inl ⟨by rfl, ?y75⟩) (by assumption) ?rest75; case y75 => (intro w hSw; have hT0 := (Go.RowKit.Below.cell hSw (by exact h8)).trans hcell; clear hSw; go_simp; try with_reducible rfl))
              case' rest75 => skip
              try simp only [List.getElem_toArray, List.getElem_cons_succ, List.getElem_cons_zero, Act.put, List.setIfInBounds_toArray, List.set_cons_zero, List.set_cons_succ]
              refine wpAnyH_take (i := 35) (v := ?v76) rfl (by kernel_rfl) (by kernel_rfl) (by kernel_rfl) (fun _ _ _ h => h) (Or.inl ⟨by rfl, ?y76⟩) (by assumption) ?rest76
              case y76 => (intro w hSw; have hT0 := (Go.RowKit.Below.cell hSw (by exact h8)).trans hcell; clear hSw; go_simp; try with_reducible rfl)
              case' rest76 => skip
              try simp only [List.getElem_toArray, List.getElem_cons_succ, List.getElem_cons_zero, Act.put, List.setIfInBounds_toArray, List.set_cons_zero, List.set_cons_succ]
              refine wpAnyH_done (by kernel_rfl) ?_ _
              go_wp2
              have hrow := hHeld
              go_roundw
              case rel => exact ⟨k + 1, by omega, by go_num, hr3.drew.below hrow, hr7.drew.below hrow, hr8.drew.below hrow, hbel.drew.trans (hrow.mono hgs)⟩
              case measure => simp [intOf]; omega
            · have hv : L[k] = 2 := by rw [hLk] at h; exact Option.some.inj h
              rw [hv] at hcell
              clear h hv hLk
              have C1 := Lib.hid (CX.out (k : Int))
              rw [hb] at C1
              clear hb
              go_wp2
              refine wp_region_held_drew (S := Go.RowKit.Below (wr.drew).heap.size (wr.drew)) (by kernel_rfl) ?hb79 (fun hHeld => ?rest79)
              case hb79 =>
                exact Go.RowKit.Below.refl _ _
              case' rest79 => skip
              refine wpAnyH_take (i := 0) (v := ?v80) rfl (by kernel_rfl) (by kernel_rfl) (by kernel_rfl) (fun _ _ _ h => h) (Or.inl ⟨by rfl, ?y80⟩) (by assumption) ?rest80
              case y80 => (intro w hSw; have hT0 := (Go.RowKit.Below.cell hSw (by exact h8)).trans hcell; clear hSw; go_simp; try with_reducible rfl)
              case' rest80 => skip
              try simp only [List.getElem_toArray, List.getElem_cons_succ, List.getElem_cons_zero, Act.put, List.setIfInBounds_toArray, List.set_cons_zero, List.set_cons_succ]
              refine wpAnyH_take (i := 1) (v := ?v81) rfl (by kernel_rfl) (by kernel_rfl) (by kernel_rfl) (fun _ _ _ h => h) (Or.inl ⟨by rfl, ?y81⟩) (by assumption) ?rest81
              case y81 => (intro w hSw; have hT0 := (Go.RowKit.Below.cell hSw (by exact h8)).trans hcell; clear hSw; go_simp; try with_reducible rfl)
              case' rest81 => skip
              try simp only [List.getElem_toArray, List.getElem_cons_succ, List.getElem_cons_zero, Act.put, List.setIfInBounds_toArray, List.set_cons_zero, List.set_cons_succ]
              refine wpAnyH_take (i := 2) (v := ?v82) rfl (by kernel_rfl) (by kernel_rfl) (by kernel_rfl) (fun _ _ _ h => h) (Or.inl ⟨by rfl, ?y82⟩) (by assumption) ?rest82
              case y82 => (intro w hSw; have hT0 := (Go.RowKit.Below.cell hSw (by exact h8)).trans hcell; clear hSw; go_simp; try with_reducible rfl)
              case' rest82 => skip
              try simp only [List.getElem_toArray, List.getElem_cons_succ, List.getElem_cons_zero, Act.put, List.setIfInBounds_toArray, List.set_cons_zero, List.set_cons_succ]
              refine wpAnyH_take (i := 3) (v := ?v83) rfl (by kernel_rfl) (by kernel_rfl) (by kernel_rfl) (fun _ _ _ h => h) (Or.inl ⟨by rfl, ?y83⟩) (by assumption) ?rest83
              case y83 => (intro w hSw; have hT0 := (Go.RowKit.Below.cell hSw (by exact h8)).trans hcell; clear hSw; go_simp; try with_reducible rfl)
              case' rest83 => skip
              try simp only [List.getElem_toArray, List.getElem_cons_succ, List.getElem_cons_zero, Act.put, List.setIfInBounds_toArray, List.set_cons_zero, List.set_cons_succ]
              refine wpAnyH_take (i := 4) (v := ?v84) rfl (by kernel_rfl) (by kernel_rfl) (by kernel_rfl) (fun _ _ _ h => h) (Or.inl ⟨by rfl, ?y84⟩) (by assumption) ?rest84
              case y84 => (intro w hSw; have hT0 := (Go.RowKit.Below.cell hSw (by exact h8)).trans hcell; clear hSw; go_simp; try with_reducible rfl)
              case' rest84 => skip
              try simp only [List.getElem_toArray, List.getElem_cons_succ, List.getElem_cons_zero, Act.put, List.setIfInBounds_toArray, List.set_cons_zero, List.set_cons_succ]
              first
                | refine' wpAnyH_take (i := 5) (v := _) rfl (by kernel_rfl) (by kernel_rfl) (by kernel_rfl) (fun _ _ _ h => h) (yieldsIf_load_mid (by rfl) _ _ rfl _ _ rfl _ _ (fun w hSw => Mem.range_below hSw h7 rg7) blkUnd rfl hiX) (by assumption) ?rest85
                | refine wpAnyH_take (i := 5) (v := undef) rfl (by kernel_rfl) (by kernel_rfl) (by kernel_rfl) (fun _ _ _ h => h) (Or.inr ⟨by rfl, rfl⟩) (by assumption) ?rest85
              case' rest85 => skip
              try simp only [List.getElem_toArray, List.getElem_cons_succ, List.getElem_cons_zero, Act.put, List.setIfInBounds_toArray, List.set_cons_zero, List.set_cons_succ]
              first
                | refine wpAnyH_take (i := 6) (v := undef) rfl (by kernel_rfl) (by kernel_rfl) (by kernel_rfl) (fun _ _ _ h => h) (Or.inr ⟨by rfl, rfl⟩) (by assumption) ?rest86
                | (refine wpAnyH_take (i := 6) (v := ?v86) rfl (by kernel_rfl) (by kernel_rfl) (by kernel_rfl) (fun _ _ _ h => h) (Or.inl ⟨by rfl, ?y86⟩) (by assumption) ?rest86; case y86 => (intro w hSw; have hT0 := (Go.RowKit.Below.cell hSw (by exact h8)).trans hcell; clear hSw; go_simp; try with_reducible rfl))
              case' rest86 => skip
              try simp only [List.getElem_toArray, List.getElem_cons_succ, List.getElem_cons_zero, Act.put, List.setIfInBounds_toArray, List.set_cons_zero, List.set_cons_succ]
              first
                | refine wpAnyH_take (i := 7) (v := undef) rfl (by kernel_rfl) (by kernel_rfl) (by kernel_rfl) (fun _ _ _ h => h) (Or.inr ⟨by rfl, rfl⟩) (by assumption) ?rest87
                | (refine wpAnyH_take (i := 7) (v := ?v87) rfl (by kernel_rfl) (by kernel_rfl) (by kernel_rfl) (fun _ _ _ h => h) (Or.inl ⟨by rfl, ?y87⟩) (by assumption) ?rest87; case y87 => (intro w hSw; have hT0 := (Go.RowKit.Below.cell hSw (by exact h8)).trans hcell; clear hSw; go_simp; try with_reducible rfl))
              case' rest87 => skip
              try simp only [List.getElem_toArray, List.getElem_cons_succ, List.getElem_cons_zero, Act.put, List.setIfInBounds_toArray, List.set_cons_zero, List.set_cons_succ]
              first
                | refine' wpAnyH_take (i := 8) (v := _) rfl (by kernel_rfl) (by kernel_rfl) (by kernel_rfl) (fun _ _ _ h => h) (yieldsIf_load_mid (by rfl) _ _ rfl _ _ rfl _ _ (fun w hSw => Mem.range_below hSw h3 rg3) arrUnd rfl hiL) (by assumption) ?rest88
                | refine wpAnyH_take (i := 8) (v := undef) rfl (by kernel_rfl) (by kernel_rfl) (by kernel_rfl) (fun _ _ _ h => h) (Or.inr ⟨by rfl, rfl⟩) (by assumption) ?rest88
              case' rest88 => skip
              try simp only [List.getElem_toArray, List.getElem_cons_succ, List.getElem_cons_zero, Act.put, List.setIfInBounds_toArray, List.set_cons_zero, List.set_cons_succ]
              first
                | refine wpAnyH_take (i := 9) (v := undef) rfl (by kernel_rfl) (by kernel_rfl) (by kernel_rfl) (fun _ _ _ h => h) (Or.inr ⟨by rfl, rfl⟩) (by assumption) ?rest89
                | (refine wpAnyH_take (i := 9) (v := ?v89) rfl (by kernel_rfl) (by kernel_rfl) (by kernel_rfl) (fun _ _ _ h => h) (Or.inl ⟨by rfl, ?y89⟩) (by assumption) ?rest89; case y89 => (intro w hSw; have hT0 := (Go.RowKit.Below.cell hSw (by exact h8)).trans hcell; clear hSw; go_simp; try with_reducible rfl))
              case' rest89 => skip
              try simp only [List.getElem_toArray, List.getElem_cons_succ, List.getElem_cons_zero, Act.put, List.setIfInBounds_toArray, List.set_cons_zero, List.set_cons_succ]
              first
                | refine wpAnyH_take (i := 10) (v := undef) rfl (by kernel_rfl) (by kernel_rfl) (by kernel_rfl) (fun _ _ _ h => h) (Or.inr ⟨by rfl, rfl⟩) (by assumption) ?rest90
                | (refine wpAnyH_take (i := 10) (v := ?v90) rfl (by kernel_rfl) (by kernel_rfl) (by kernel_rfl) (fun _ _ _ h => h) (Or.inl ⟨by rfl, ?y90⟩) (by assumption) ?rest90; case y90 => (intro w hSw; have hT0 := (Go.RowKit.Below.cell hSw (by exact h8)).trans hcell; clear hSw; go_simp; try with_reducible rfl))
              case' rest90 => skip
              try simp only [List.getElem_toArray, List.getElem_cons_succ, List.getElem_cons_zero, Act.put, List.setIfInBounds_toArray, List.set_cons_zero, List.set_cons_succ]
              first
                | refine wpAnyH_take (i := 11) (v := undef) rfl (by kernel_rfl) (by kernel_rfl) (by kernel_rfl) (fun _ _ _ h => h) (Or.inr ⟨by rfl, rfl⟩) (by assumption) ?rest91
                | (refine wpAnyH_take (i := 11) (v := ?v91) rfl (by kernel_rfl) (by kernel_rfl) (by kernel_rfl) (fun _ _ _ h => h) (Or.inl ⟨by rfl, ?y91⟩) (by assumption) ?rest91; case y91 => (intro w hSw; have hT0 := (Go.RowKit.Below.cell hSw (by exact h8)).trans hcell; clear hSw; go_simp; try with_reducible rfl))
              case' rest91 => skip
              try simp only [List.getElem_toArray, List.getElem_cons_succ, List.getElem_cons_zero, Act.put, List.setIfInBounds_toArray, List.set_cons_zero, List.set_cons_succ]
              refine wpAnyH_take (i := 12) (v := ?v92) rfl (by kernel_rfl) (by kernel_rfl) (by kernel_rfl) (fun _ _ _ h => h) (Or.inl ⟨by rfl, ?y92⟩) (by assumption) ?rest92
              case y92 => (intro w hSw; have hT0 := (Go.RowKit.Below.cell hSw (by exact h8)).trans hcell; clear hSw; go_simp; try with_reducible rfl)
              case' rest92 => skip
              try simp only [List.getElem_toArray, List.getElem_cons_succ, List.getElem_cons_zero, Act.put, List.setIfInBounds_toArray, List.set_cons_zero, List.set_cons_succ]
              refine wpAnyH_take (i := 13) (v := ?v93) rfl (by kernel_rfl) (by kernel_rfl) (by kernel_rfl) (fun _ _ _ h => h) (Or.inl ⟨by rfl, ?y93⟩) (by assumption) ?rest93
              case y93 => (intro w hSw; have hT0 := (Go.RowKit.Below.cell hSw (by exact h8)).trans hcell; clear hSw; go_simp; try with_reducible rfl)
              case' rest93 => skip
              try simp only [List.getElem_toArray, List.getElem_cons_succ, List.getElem_cons_zero, Act.put, List.setIfInBounds_toArray, List.set_cons_zero, List.set_cons_succ]
              first
                | refine wpAnyH_take (i := 14) (v := undef) rfl (by kernel_rfl) (by kernel_rfl) (by kernel_rfl) (fun _ _ _ h => h) (Or.inr ⟨by rfl, rfl⟩) (by assumption) ?rest94
                | (refine wpAnyH_take (i := 14) (v := ?v94) rfl (by kernel_rfl) (by kernel_rfl) (by kernel_rfl) (fun _ _ _ h => h) (Or.inl ⟨by rfl, ?y94⟩) (by assumption) ?rest94; case y94 => (intro w hSw; have hT0 := (Go.RowKit.Below.cell hSw (by exact h8)).trans hcell; clear hSw; go_simp; try with_reducible rfl))
              case' rest94 => skip
              try simp only [List.getElem_toArray, List.getElem_cons_succ, List.getElem_cons_zero, Act.put, List.setIfInBounds_toArray, List.set_cons_zero, List.set_cons_succ]
              first
                | refine wpAnyH_take (i := 15) (v := undef) rfl (by kernel_rfl) (by kernel_rfl) (by kernel_rfl) (fun _ _ _ h => h) (Or.inr ⟨by rfl, rfl⟩) (by assumption) ?rest95
                | (refine wpAnyH_take (i := 15) (v := ?v95) rfl (by kernel_rfl) (by kernel_rfl) (by kernel_rfl) (fun _ _ _ h => h) (Or.inl ⟨by rfl, ?y95⟩) (by assumption) ?rest95; case y95 => (intro w hSw; have hT0 := (Go.RowKit.Below.cell hSw (by exact h8)).trans hcell; clear hSw; go_simp; try with_reducible rfl))
              case' rest95 => skip
              try simp only [List.getElem_toArray, List.getElem_cons_succ, List.getElem_cons_zero, Act.put, List.setIfInBounds_toArray, List.set_cons_zero, List.set_cons_succ]
              first
                | refine wpAnyH_take (i := 16) (v := undef) rfl (by kernel_rfl) (by kernel_rfl) (by kernel_rfl) (fun _ _ _ h => h) (Or.inr ⟨by rfl, rfl⟩) (by assumption) ?rest96
                | (refine wpAnyH_take (i := 16) (v := ?v96) rfl (by kernel_rfl) (by kernel_rfl) (by kernel_rfl) (fun _ _ _ h => h) (Or.inl ⟨by rfl, ?y96⟩) (by assumption) ?rest96; case y96 => (intro w hSw; have hT0 := (Go.RowKit.Below.cell hSw (by exact h8)).trans hcell; clear hSw; go_simp; try with_reducible rfl))
              case' rest96 => skip
              try simp only [List.getElem_toArray, List.getElem_cons_succ, List.getElem_cons_zero, Act.put, List.setIfInBounds_toArray, List.set_cons_zero, List.set_cons_succ]
              first
                | refine wpAnyH_take (i := 17) (v := undef) rfl (by kernel_rfl) (by kernel_rfl) (by kernel_rfl) (fun _ _ _ h => h) (Or.inr ⟨by rfl, rfl⟩) (by assumption) ?rest97
                | (refine wpAnyH_take (i := 17) (v := ?v97) rfl (by kernel_rfl) (by kernel_rfl) (by kernel_rfl) (fun _ _ _ h => h) (Or.inl ⟨by rfl, ?y97⟩) (by assumption) ?rest97; case y97 => (intro w hSw; have hT0 := (Go.RowKit.Below.cell hSw (by exact h8)).trans hcell; clear hSw; go_simp; try with_reducible rfl))
              case' rest97 => skip
              try simp only [List.getElem_toArray, List.getElem_cons_succ, List.getElem_cons_zero, Act.put, List.setIfInBounds_toArray, List.set_cons_zero, List.set_cons_succ]
              first
                | refine wpAnyH_take (i := 18) (v := undef) rfl (by kernel_rfl) (by kernel_rfl) (by kernel_rfl) (fun _ _ _ h => h) (Or.inr ⟨by rfl, rfl⟩) (by assumption) ?rest98
                | (refine wpAnyH_take (i := 18) (v := ?v98) rfl (by kernel_rfl) (by kernel_rfl) (by kernel_rfl) (fun _ _ _ h => h) (Or.inl ⟨by rfl, ?y98⟩) (by assumption) ?rest98; case y98 => (intro w hSw; have hT0 := (Go.RowKit.Below.cell hSw (by exact h8)).trans hcell; clear hSw; go_simp; try with_reducible rfl))
              case' rest98 => skip
              try simp only [List.getElem_toArray, List.getElem_cons_succ, List.getElem_cons_zero, Act.put, List.setIfInBounds_toArray, List.set_cons_zero, List.set_cons_succ]
              first
                | refine' wpAnyH_take (i := 19) (v := _) rfl (by kernel_rfl) (by kernel_rfl) (by kernel_rfl) (fun _ _ _ h => h) (yieldsIf_load_mid (by rfl) _ _ rfl _ _ rfl _ _ (fun w hSw => Mem.range_below hSw h7 rg7) blkUnd rfl hiX) (by assumption) ?rest99
                | refine wpAnyH_take (i := 19) (v := undef) rfl (by kernel_rfl) (by kernel_rfl) (by kernel_rfl) (fun _ _ _ h => h) (Or.inr ⟨by rfl, rfl⟩) (by assumption) ?rest99
              case' rest99 => skip
              try simp only [List.getElem_toArray, List.getElem_cons_succ, List.getElem_cons_zero, Act.put, List.setIfInBounds_toArray, List.set_cons_zero, List.set_cons_succ]
              first
                | refine wpAnyH_take (i := 20) (v := undef) rfl (by kernel_rfl) (by kernel_rfl) (by kernel_rfl) (fun _ _ _ h => h) (Or.inr ⟨by rfl, rfl⟩) (by assumption) ?rest100
                | (refine wpAnyH_take (i := 20) (v := ?v100) rfl (by kernel_rfl) (by kernel_rfl) (by kernel_rfl) (fun _ _ _ h => h) (Or.inl ⟨by rfl, ?y100⟩) (by assumption) ?rest100; case y100 => (intro w hSw; have hT0 := (Go.RowKit.Below.cell hSw (by exact h8)).trans hcell; clear hSw; go_simp; try with_reducible rfl))
              case' rest100 => skip
              try simp only [List.getElem_toArray, List.getElem_cons_succ, List.getElem_cons_zero, Act.put, List.setIfInBounds_toArray, List.set_cons_zero, List.set_cons_succ]
              first
                | refine wpAnyH_take (i := 21) (v := undef) rfl (by kernel_rfl) (by kernel_rfl) (by kernel_rfl) (fun _ _ _ h => h) (Or.inr ⟨by rfl, rfl⟩) (by assumption) ?rest101
                | (refine wpAnyH_take (i := 21) (v := ?v101) rfl (by kernel_rfl) (by kernel_rfl) (by kernel_rfl) (fun _ _ _ h => h) (Or.inl ⟨by rfl, ?y101⟩) (by assumption) ?rest101; case y101 => (intro w hSw; have hT0 := (Go.RowKit.Below.cell hSw (by exact h8)).trans hcell; clear hSw; go_simp; try with_reducible rfl))
              case' rest101 => skip
              try simp only [List.getElem_toArray, List.getElem_cons_succ, List.getElem_cons_zero, Act.put, List.setIfInBounds_toArray, List.set_cons_zero, List.set_cons_succ]
              first
                | refine wpAnyH_take (i := 22) (v := undef) rfl (by kernel_rfl) (by kernel_rfl) (by kernel_rfl) (fun _ _ _ h => h) (Or.inr ⟨by rfl, rfl⟩) (by assumption) ?rest102
                | (refine wpAnyH_take (i := 22) (v := ?v102) rfl (by kernel_rfl) (by kernel_rfl) (by kernel_rfl) (fun _ _ _ h => h) (Or.inl ⟨by rfl, ?y102⟩) (by assumption) ?rest102; case y102 => (intro w hSw; have hT0 := (Go.RowKit.Below.cell hSw (by exact h8)).trans hcell; clear hSw; go_simp; try with_reducible rfl))
              case' rest102 => skip
              try simp only [List.getElem_toArray, List.getElem_cons_succ, List.getElem_cons_zero, Act.put, List.setIfInBounds_toArray, List.set_cons_zero, List.set_cons_succ]
              refine wpAnyH_take (i := 23) (v := ?v103) rfl (by kernel_rfl) (by kernel_rfl) (by kernel_rfl) (fun _ _ _ h => h) (Or.inl ⟨by rfl, ?y103⟩) (by assumption) ?rest103
              case y103 => (intro w hSw; have hT0 := (Go.RowKit.Below.cell hSw (by exact h8)).trans hcell; clear hSw; go_simp; try with_reducible rfl)
              case' rest103 => skip
              try simp only [List.getElem_toArray, List.getElem_cons_succ, List.getElem_cons_zero, Act.put, List.setIfInBounds_toArray, List.set_cons_zero, List.set_cons_succ]
              refine wpAnyH_take (i := 24) (v := ?v104) rfl (by kernel_rfl) (by kernel_rfl) (by kernel_rfl) (fun _ _ _ h => h) (Or.inl ⟨by rfl, ?y104⟩) (by assumption) ?rest104
              case y104 => (intro w hSw; have hT0 := (Go.RowKit.Below.cell hSw (by exact h8)).trans hcell; clear hSw; go_simp; try with_reducible rfl)
              case' rest104 => skip
              try simp only [List.getElem_toArray, List.getElem_cons_succ, List.getElem_cons_zero, Act.put, List.setIfInBounds_toArray, List.set_cons_zero, List.set_cons_succ]
              first
                | refine wpAnyH_take (i := 25) (v := undef) rfl (by kernel_rfl) (by kernel_rfl) (by kernel_rfl) (fun _ _ _ h => h) (Or.inr ⟨by rfl, rfl⟩) (by assumption) ?rest105
                | (refine wpAnyH_take (i := 25) (v := ?v105) rfl (by kernel_rfl) (by kernel_rfl) (by kernel_rfl) (fun _ _ _ h => h) (Or.inl ⟨by rfl, ?y105⟩) (by assumption) ?rest105; case y105 => (intro w hSw; have hT0 := (Go.RowKit.Below.cell hSw (by exact h8)).trans hcell; clear hSw; go_simp; try with_reducible rfl))
              case' rest105 => skip
              try simp only [List.getElem_toArray, List.getElem_cons_succ, List.getElem_cons_zero, Act.put, List.setIfInBounds_toArray, List.set_cons_zero, List.set_cons_succ]
              first
                | refine wpAnyH_take (i := 26) (v := undef) rfl (by kernel_rfl) (by kernel_rfl) (by kernel_rfl) (fun _ _ _ h => h) (Or.inr ⟨by rfl, rfl⟩) (by assumption) ?rest106
                | (refine wpAnyH_take (i := 26) (v := ?v106) rfl (by kernel_rfl) (by kernel_rfl) (by kernel_rfl) (fun _ _ _ h => h) (Or.inl ⟨by rfl, ?y106⟩) (by assumption) ?rest106; case y106 => (intro w hSw; have hT0 := (Go.RowKit.Below.cell hSw (by exact h8)).trans hcell; clear hSw; go_simp; try with_reducible rfl))
              case' rest106 => skip
              try simp only [List.getElem_toArray, List.getElem_cons_succ, List.getElem_cons_zero, Act.put, List.setIfInBounds_toArray, List.set_cons_zero, List.set_cons_succ]
              first
                | refine wpAnyH_take (i := 27) (v := undef) rfl (by kernel_rfl) (by kernel_rfl) (by kernel_rfl) (fun _ _ _ h => h) (Or.inr ⟨by rfl, rfl⟩) (by assumption) ?rest107
                | (refine wpAnyH_take (i := 27) (v := ?v107) rfl (by kernel_rfl) (by kernel_rfl) (by kernel_rfl) (fun _ _ _ h => h) (Or.inl ⟨by rfl, ?y107⟩) (by assumption) ?rest107; case y107 => (intro w hSw; have hT0 := (Go.RowKit.Below.cell hSw (by exact h8)).trans hcell; clear hSw; go_simp; try with_reducible rfl))
              case' rest107 => skip
              try simp only [List.getElem_toArray, List.getElem_cons_succ, List.getElem_cons_zero, Act.put, List.setIfInBounds_toArray, List.set_cons_zero, List.set_cons_succ]
              first
                | refine wpAnyH_take (i := 28) (v := undef) rfl (by kernel_rfl) (by kernel_rfl) (by kernel_rfl) (fun _ _ _ h => h) (Or.inr ⟨by rfl, rfl⟩) (by assumption) ?rest108
                | (refine wpAnyH_take (i := 28) (v := ?v108) rfl (by kernel_rfl) (by kernel_rfl) (by kernel_rfl) (fun _ _ _ h => h) (Or.inl ⟨by rfl, ?y108⟩) (by assumption) ?rest108; case y108 => (intro w hSw; have hT0 := (Go.RowKit.Below.cell hSw (by exact h8)).trans hcell; clear hSw; go_simp; try with_reducible rfl))
              case' rest108 => skip
              try simp only [List.getElem_toArray, List.getElem_cons_succ, List.getElem_cons_zero, Act.put, List.setIfInBounds_toArray, List.set_cons_zero, List.set_cons_succ]
              first
                | refine wpAnyH_take (i := 29) (v := undef) rfl (by kernel_rfl) (by kernel_rfl) (by kernel_rfl) (fun _ _ _ h => h) (Or.inr ⟨by rfl, rfl⟩) (by assumption) ?rest109
                | (refine wpAnyH_take (i := 29) (v := ?v109) rfl (by kernel_rfl) (by kernel_rfl) (by kernel_rfl) (fun _ _ _ h => h) (Or.inl ⟨by rfl, ?y109⟩) (by assumption) ?rest109; case y109 => (intro w hSw; have hT0 := (Go.RowKit.Below.cell hSw (by exact h8)).trans hcell; clear hSw; go_simp; try with_reducible rfl))
              case' rest109 => skip
              try simp only [List.getElem_toArray, List.getElem_cons_succ, List.getElem_cons_zero, Act.put, List.setIfInBounds_toArray, List.set_cons_zero, List.set_cons_succ]
              first
                | refine' wpAnyH_take (i := 30) (v := _) rfl (by kernel_rfl) (by kernel_rfl) (by kernel_rfl) (fun _ _ _ h => h) (yieldsIf_load_mid (by rfl) _ _ rfl _ _ rfl _ _ (fun w hSw => Mem.range_below hSw h7 rg7) blkUnd rfl hiX) (by assumption) ?rest110
                | refine wpAnyH_take (i := 30) (v := undef) rfl (by kernel_rfl) (by kernel_rfl) (by kernel_rfl) (fun _ _ _ h => h) (Or.inr ⟨by rfl, rfl⟩) (by assumption) ?rest110
              case' rest110 => skip
              try simp only [List.getElem_toArray, List.getElem_cons_succ, List.getElem_cons_zero, Act.put, List.setIfInBounds_toArray, List.set_cons_zero, List.set_cons_succ]
              first
                | refine wpAnyH_take (i := 31) (v := undef) rfl (by kernel_rfl) (by kernel_rfl) (by kernel_rfl) (fun _ _ _ h => h) (Or.inr ⟨by rfl, rfl⟩) (by assumption) ?rest111
                | (refine wpAnyH_take (i := 31) (v := ?v111) rfl (by kernel_rfl) (by kernel_rfl) (by kernel_rfl) (fun _ _ _ h => h) (Or.inl ⟨by rfl, ?y111⟩) (by assumption) ?rest111; case y111 => (intro w hSw; have hT0 := (Go.RowKit.Below.cell hSw (by exact h8)).trans hcell; clear hSw; go_simp; try with_reducible rfl))
              case' rest111 => skip
              try simp only [List.getElem_toArray, List.getElem_cons_succ, List.getElem_cons_zero, Act.put, List.setIfInBounds_toArray, List.set_cons_zero, List.set_cons_succ]
              refine wpAnyH_ready (rs := [32]) (by kernel_rfl) (by simp) ?_
              refine AllReadyH.cons rfl (fun K hK => ?_) AllReadyH.nil
              go_simp
              (refine (C1.out _).mono ?_; rintro e wa32 ⟨rfl, hba32⟩; have hSnew := hHeld.trans (hba32.mono hHeld.size))
              try go_wp2_with fail
              refine hK.out _ _ ?_ (fun hHeld2 => ?_)
              · exact hSnew
              clear hK K hHeld hSnew
              have hHeld := hHeld2
              clear hHeld2
              try simp only [List.getElem_toArray, List.getElem_cons_succ, List.getElem_cons_zero, Act.put, List.setIfInBounds_toArray, List.set_cons_zero, List.set_cons_succ]
              first
                | refine wpAnyH_take (i := 33) (v := undef) rfl (by kernel_rfl) (by kernel_rfl) (by kernel_rfl) (fun _ _ _ h => h) (Or.inr ⟨by rfl, rfl⟩) (by assumption) ?rest112
                | (refine wpAnyH_take (i := 33) (v := ?v112) rfl (by kernel_rfl) (by kernel_rfl) (by kernel_rfl) (fun _ _ _ h => h) (Or.inl ⟨by rfl, ?y112⟩) (by assumption) ?rest112; case y112 => (intro w hSw; have hT0 := (Go.RowKit.Below.cell hSw (by exact h8)).trans hcell; clear hSw; go_simp; try with_reducible rfl))
              case' rest112 => skip
              try simp only [List.getElem_toArray, List.getElem_cons_succ, List.getElem_cons_zero, Act.put, List.setIfInBounds_toArray, List.set_cons_zero, List.set_cons_succ]
              first
                | refine wpAnyH_take (i := 34) (v := undef) rfl (by kernel_rfl) (by kernel_rfl) (by kernel_rfl) (fun _ _ _ h => h) (Or.inr ⟨by rfl, rfl⟩) (by assumption) ?rest113
                | (refine wpAnyH_take (i := 34) (v := ?v113) rfl (by kernel_rfl) (by kernel_rfl) (by kernel_rfl) (fun _ _ _ h => h) (Or.inl ⟨by rfl, ?y113⟩) (by assumption) ?rest113; case y113 => (intro w hSw; have hT0 := (Go.RowKit.Below.cell hSw (by exact h8)).trans hcell; clear hSw; go_simp; try with_reducible rfl))
              case' rest113 => skip
              try simp only [List.getElem_toArray, List.getElem_cons_succ, List.getElem_cons_zero, Act.put, List.setIfInBounds_toArray, List.set_cons_zero, List.set_cons_succ]
              refine wpAnyH_take (i := 35) (v := ?v114) rfl (by kernel_rfl) (by kernel_rfl) (by kernel_rfl) (fun _ _ _ h => h) (Or.inl ⟨by rfl, ?y114⟩) (by assumption) ?rest114
              case y114 => (intro w hSw; have hT0 := (Go.RowKit.Below.cell hSw (by exact h8)).trans hcell; clear hSw; go_simp; try with_reducible rfl)
              case' rest114 => skip
              try simp only [List.getElem_toArray, List.getElem_cons_succ, List.getElem_cons_zero, Act.put, List.setIfInBounds_toArray, List.set_cons_zero, List.set_cons_succ]
              refine wpAnyH_done (by kernel_rfl) ?_ _
              go_wp2
              have hrow := hHeld
              go_roundw
              case rel => exact ⟨k + 1, by omega, by go_num, hr3.drew.below hrow, hr7.drew.below hrow, hr8.drew.below hrow, hbel.drew.trans (hrow.mono hgs)⟩
              case measure => simp [intOf]; omega
          · go_wp2_with (go_at_call 26; refine (works_any _).mono ?_; rintro e w' ⟨rfl, hbel2⟩)
            go_ret
            exact ⟨rfl, by rw [hg]; exact hbel.trans (hbel2.mono hgs)⟩
end Go.Proofs.Ytgcmgohknocfnaa.Chart
