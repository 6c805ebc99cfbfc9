/- The walk of the statement ChartFull. -/
import Derived.Test.YtgcmgohknocfnaaChartB
namespace Go.Proofs.Ytgcmgohknocfnaa.Chart
open Go.RowKit Go.Proofs.Ytgcmgohknocfnaa.Mem Go.Proofs.Ytgcmgohknocfnaa.Open
set_option linter.unusedVariables false
set_option linter.unusedSimpArgs false

theorem fullUnd : Try.prog.underlying 40 = some (.array 256 5) := by kernel_rfl
theorem fullSize : (Try.prog.info? 40).map (·.size) = some 256 := by kernel_rfl
theorem setK_mono (l : List Nat) (a b : Nat) (h : a ≤ b) : (setK l a).length ≤ (setK l b).length := by
  induction b with
  | zero => obtain rfl : a = 0 := by omega
            exact Nat.le_refl _
  | succ b ih =>
    by_cases e : a = b + 1
    · rw [e]; exact Nat.le_refl _
    · have := ih (by omega)
      cases hb : hasB l (b : Int) with
      | true => rw [setK_yes l b hb, List.length_append]; omega
      | false => rw [setK_no l b hb]; exact this
/-- What the first bit that is not set tells. -/
theorem firstO_tells (l : List Nat) (f m : Nat) (hm : m ≤ 2048) :
    ∃ (r : Nat) (ok : Bool) (e : Nat), firstV (firstO l (f : Int) (m : Int)) = .tuple #[.int .i64 (r : Int), .bool ok] ∧ (ok = true → f ≤ r ∧ r < m ∧ hasB l (r : Int) = false ∧ e = r) ∧ (ok = false → e = m) ∧ e ≤ 2048 ∧ ∀ j : Nat, f ≤ j → j < e → hasB l (j : Int) = true := by
  have hu : upTo (m : Int) = m := by unfold upTo; omega
  cases ho : firstO l (f : Int) (m : Int) with
  | none =>
    refine ⟨0, false, m, rfl, fun h => by simp at h, fun _ => rfl, hm, fun j h1 h2 => ?_⟩
    unfold firstO at ho
    rw [List.find?_range_eq_none, hu] at ho
    have := ho j h2
    unfold freeB at this
    rw [decide_eq_true (by omega)] at this
    simpa using this
  | some k =>
    unfold firstO at ho
    rw [List.find?_range_eq_some, hu] at ho
    obtain ⟨h1, h2, h3⟩ := ho
    rw [List.mem_range] at h2
    unfold freeB at h1
    rw [Bool.and_eq_true, decide_eq_true_eq] at h1
    obtain ⟨h1, h4⟩ := h1
    have h5 : hasB l (k : Int) = false := by simpa using h4
    refine ⟨k, true, k, rfl, fun _ => ⟨by omega, h2, h5, rfl⟩, fun h => by simp at h, by omega, fun j h6 h7 => ?_⟩
    have := h3 j h7
    unfold freeB at this
    rw [decide_eq_true (by omega)] at this
    simpa using this

set_option maxHeartbeats 2000000 in
set_option maxRecDepth 100000 in
theorem full_nat (l : List Nat) (f0 n0 : Nat) (w : World) (hl : l.length = 256) (hb : ∀ x ∈ l, x < 256) (hf : f0 < 65536) (hn : n0 < 65536) :
    Calls Try.prog 13 #[.agg (blk l), .int .u16 f0, .int .u16 n0] w fun e w' => e = .returned (.bool true) ∧ Below w.heap.size w w' := by
  have hs : (blk l).size = 256 := by rw [blk_size]; exact hl
  have hz : (blk zblk).size = 256 := by rw [blk_size]; exact zblk_length
  obtain ⟨f, hfe⟩ : ∃ f, f0 % 2048 = f := ⟨_, rfl⟩
  obtain ⟨m, hme⟩ : ∃ m, n0 % 2049 = m := ⟨_, rfl⟩
  have hf2 : f < 2048 := by omega
  have hm2 : m ≤ 2048 := by omega
  have ef : (f0 : Int) % 2048 = (f : Int) := by omega
  have em : (n0 : Int) % 2049 = (m : Int) := by omega
  obtain ⟨r, ok, e, hr, h1, h2, h3, h4⟩ := firstO_tells l f m hm2
  have CF := fun w' => first_any l f m w' hl hb (by omega)
  simp only [hr] at CF
  replace CF := Lib.hid CF
  have CS := fun w' => set_any l m w' hl hb
  have CC := fun w' => count_any l m w' hl hb
  have CA := fun w' => count_any l 2048 w' hl hb
  have hum : upTo (m : Int) = m := by unfold upTo; omega
  have hua : upTo (2048 : Int) = 2048 := by decide
  have hmono := setK_mono l m 2048 hm2
  simp only [hum, hua] at CS CC CA
  obtain ⟨S, hS⟩ : ∃ S, setK l m = S := ⟨_, rfl⟩
  obtain ⟨T, hT⟩ : ∃ T, (setK l 2048).length = T := ⟨_, rfl⟩
  rw [hT, hS] at hmono
  simp only [hS, hT] at CS CC CA
  replace CS := Lib.hid CS
  replace CC := Lib.hid CC
  replace CA := Lib.hid CA
  clear hS hT hum hua hr hfe hme
  have H4 := Lib.hid h4
  clear h4
  have hb0 := Box.new w 40 l
  have hb1 := hb0.alloc (.cells (blk zblk) 41)
  have hb2' := Box.new (w.alloc (.cells (blk l) 40)) 41 zblk
  have hc2 : Box (((w.alloc (.cells (blk l) 40)).alloc (.cells (blk zblk) 41)).setRow (w.heap.size + 1) (blk l)) (w.heap.size + 1) 41 l := by
    have h : Box ((w.alloc (.cells (blk l) 40)).alloc (.cells (blk zblk) 41)) (w.heap.size + 1) 41 zblk := heap_alloc2_new w _ _
    exact h.row l
  have hbel := below_setRow (((Below.refl w.heap.size w).alloc (Nat.le_refl _) (.cells (blk l) 40)).alloc (by simp) (.cells (blk zblk) 41)) (g := w.heap.size + 1) (by omega) (blk l)
  go_enter Try.func13, Try.ntmps13
  go_wp2_with (first
    | (with_reducible refine wpList_load rfl 40 _ rfl _ rfl 40 (blk l) 256 5 fullUnd fullSize hs hb0.out ?_)
    | (with_reducible refine wpList_allocA rfl 41 rfl _ blkZero ?_)
    | (with_reducible refine wpList_store rfl 41 _ _ rfl _ rfl _ rfl _ 41 256 blkSize hs hz (blk_one _) hb2'.out ?_)
    | (with_reducible refine wpList_load rfl 41 _ rfl _ rfl 41 (blk l) 256 5 blkUnd blkSize hs hc2.out ?_))
  generalize ((w.alloc (.cells (blk l) 40)).alloc (.cells (blk zblk) 41)).setRow (w.heap.size + 1) (blk l) = w1 at hc2 hbel ⊢
  clear hb0 hb1 hb2'
  refine (CF.out _).mono ?_
  rintro e' w2 ⟨rfl, hbel2⟩
  have hd2 := hc2.below hbel2 hc2.lt
  have hbel3 := hbel.trans (hbel2.mono hbel.size)
  clear hc2 hbel hbel2
  have hend : ∀ (j : Nat) (wr : World), Box wr (w.heap.size + 1) 41 l → Below w.heap.size w wr → True := fun _ _ _ _ => trivial
  clear hend
  cases ok with
  | true =>
    obtain ⟨h5, h6, h7, rfl⟩ := h1 rfl
    clear h1 h2
    have hd1 : decide (e < f) = false := by rw [decide_eq_false_iff_not]; omega
    have hd4 : decide (m ≤ e) = false := by rw [decide_eq_false_iff_not]; omega
    have hsz := hbel3.size
    go_wp2_with fail
    refine wp_loadA 41 _ rfl _ rfl 41 (blk l) 256 5 blkUnd blkSize hs hd2.out ?_
    go_wp2_with fail
    refine (has_any l _ _ hl hb).mono ?_
    rw [h7]
    rintro e' w3 ⟨rfl, rfl⟩
    have hd3 := hd2.alloc (.cells (blk l) 41)
    have hbel4 := hbel3.alloc hsz (.cells (blk l) 41)
    clear h7 hsz
    generalize w2.alloc (.cells (blk l) 41) = w3 at hd3 hbel4 ⊢
    clear hd2 hbel3
    go_wp2
    go_loopw [13] (fun i wr => ∃ j : Nat, f ≤ j ∧ (j ≤ e ∨ j = f) ∧ i = .int .i64 j ∧ Box wr (w.heap.size + 1) 41 l ∧ Below w.heap.size w wr) (fun i _ => 2048 - (intOf i).toNat)
    case atStart => exact ⟨f, Nat.le_refl _, .inr rfl, rfl, hd3, hbel4⟩
    case round =>
      obtain ⟨j, hj1, hj2, rfl, hdj, hbj⟩ := hrel
      clear hd3 hbel4
      have hsj := hbj.size
      by_cases hlt : j < e
      · have hh := H4.out j hj1 hlt
        go_wp2_with (first
          | (with_reducible refine wpList_load rfl 41 _ rfl _ rfl 41 (blk l) 256 5 blkUnd blkSize hs hdj.out ?_)
          | (go_at_call 31; refine (has_any l _ _ hl hb).mono ?_; rw [hh]; rintro e' w3 ⟨rfl, rfl⟩))
        go_roundw
        case rel => exact ⟨j + 1, by omega, .inl (by omega), by go_num, hdj.alloc _, hbj.alloc hsj _⟩
        case measure => simp [intOf]; omega
      · clear hj2
        go_wp2_with (with_reducible refine wpList_load rfl 41 _ rfl _ rfl 41 (blk l) 256 5 blkUnd blkSize hs hdj.out ?_)
        refine (CS.out _).mono ?_
        rintro e' w4 ⟨v, rfl, hown, hb4⟩
        obtain ⟨A, c, rfl⟩ := hown.slice
        have hd4 := hdj.below hb4 hdj.lt
        have hb5 := hbj.trans (hb4.mono hsj)
        clear hdj hbj hb4 hown
        go_wp2_with (with_reducible refine wpList_load rfl 41 _ rfl _ rfl 41 (blk l) 256 5 blkUnd blkSize hs hd4.out ?_)
        refine (CC.out _).mono ?_
        rintro e' w5 ⟨rfl, hb6⟩
        have hd5 := hd4.below hb6 hd4.lt
        have hb7 := hb5.trans (hb6.mono hb5.size)
        clear hd4 hb5 hb6
        have hSS : ((S.length : Int) == (S.length : Int)) = true := by simp
        go_wp2_with fail
        refine wp_loadA 41 _ rfl _ rfl 41 (blk l) 256 5 blkUnd blkSize hs hd5.out ?_
        go_wp2_with fail
        refine (CA.out _).mono ?_
        rintro e' w6 ⟨rfl, hb8⟩
        have hb9 := hb7.trans (hb8.mono hb7.size)
        clear hd5 hb7 hb8
        have hTS : decide ((S.length : Int) ≤ (T : Int)) = true := by rw [decide_eq_true_eq]; omega
        go_wp2_with fail
        refine (works_any _).mono ?_
        rintro e' w7 ⟨rfl, hb10⟩
        have hb11 := hb9.trans (hb10.mono hb9.size)
        clear hb9 hb10
        go_wp2
        go_ret
        exact ⟨rfl, hb11⟩
  | false =>
    obtain rfl := h2 rfl
    clear h1 h2
    have hd3 := hd2
    have hbel4 := hbel3
    clear hd2 hbel3
    go_wp2
    go_loopw [13] (fun i wr => ∃ j : Nat, f ≤ j ∧ (j ≤ e ∨ j = f) ∧ i = .int .i64 j ∧ Box wr (w.heap.size + 1) 41 l ∧ Below w.heap.size w wr) (fun i _ => 2048 - (intOf i).toNat)
    case atStart => exact ⟨f, Nat.le_refl _, .inr rfl, rfl, hd3, hbel4⟩
    case round =>
      obtain ⟨j, hj1, hj2, rfl, hdj, hbj⟩ := hrel
      clear hd3 hbel4
      have hsj := hbj.size
      by_cases hlt : j < e
      · have hh := H4.out j hj1 hlt
        go_wp2_with (first
          | (with_reducible refine wpList_load rfl 41 _ rfl _ rfl 41 (blk l) 256 5 blkUnd blkSize hs hdj.out ?_)
          | (go_at_call 31; refine (has_any l _ _ hl hb).mono ?_; rw [hh]; rintro e' w3 ⟨rfl, rfl⟩))
        go_roundw
        case rel => exact ⟨j + 1, by omega, .inl (by omega), by go_num, hdj.alloc _, hbj.alloc hsj _⟩
        case measure => simp [intOf]; omega
      · clear hj2
        go_wp2_with (with_reducible refine wpList_load rfl 41 _ rfl _ rfl 41 (blk l) 256 5 blkUnd blkSize hs hdj.out ?_)
        refine (CS.out _).mono ?_
        rintro e' w4 ⟨v, rfl, hown, hb4⟩
        obtain ⟨A, c, rfl⟩ := hown.slice
        have hd4 := hdj.below hb4 hdj.lt
        have hb5 := hbj.trans (hb4.mono hsj)
        clear hdj hbj hb4 hown
        go_wp2_with (with_reducible refine wpList_load rfl 41 _ rfl _ rfl 41 (blk l) 256 5 blkUnd blkSize hs hd4.out ?_)
        refine (CC.out _).mono ?_
        rintro e' w5 ⟨rfl, hb6⟩
        have hd5 := hd4.below hb6 hd4.lt
        have hb7 := hb5.trans (hb6.mono hb5.size)
        clear hd4 hb5 hb6
        have hSS : ((S.length : Int) == (S.length : Int)) = true := by simp
        go_wp2_with fail
        refine wp_loadA 41 _ rfl _ rfl 41 (blk l) 256 5 blkUnd blkSize hs hd5.out ?_
        go_wp2_with fail
        refine (CA.out _).mono ?_
        rintro e' w6 ⟨rfl, hb8⟩
        have hb9 := hb7.trans (hb8.mono hb7.size)
        clear hd5 hb7 hb8
        have hTS : decide ((S.length : Int) ≤ (T : Int)) = true := by rw [decide_eq_true_eq]; omega
        go_wp2_with fail
        refine (works_any _).mono ?_
        rintro e' w7 ⟨rfl, hb10⟩
        have hb11 := hb9.trans (hb10.mono hb9.size)
        clear hb9 hb10
        go_wp2
        go_ret
        exact ⟨rfl, hb11⟩
theorem u16_nat {a : Int} (h : (Lit.int .u16 a).wf = true) : ∃ n : Nat, a = (n : Int) ∧ n < 65536 := by
  simp [Lit.wf, IntKind.min, IntKind.max, IntKind.signed, IntKind.bits] at h
  exact ⟨a.toNat, by omega, by omega⟩
theorem full_walk (l : List Nat) (f n : Int) (w : World) (hl : l.length = 256) (hb : ∀ x ∈ l, x < 256) (hf : (Lit.int .u16 f).wf = true) (hn : (Lit.int .u16 n).wf = true) :
    Calls Try.prog 13 #[.agg (blk l), .int .u16 f, .int .u16 n] w fun e w' => e = .returned (.bool true) ∧ Below w.heap.size w w' := by
  obtain ⟨f0, rfl, h1⟩ := u16_nat hf
  obtain ⟨n0, rfl, h2⟩ := u16_nat hn
  exact full_nat l f0 n0 w hl hb h1 h2
end Go.Proofs.Ytgcmgohknocfnaa.Chart
