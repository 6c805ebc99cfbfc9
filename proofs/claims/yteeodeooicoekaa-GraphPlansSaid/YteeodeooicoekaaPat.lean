/- Patches: what they are, whether they may be, what they make of a block: patch.Check, patch.Lay, and the document's Right. -/
import Derived.Test.YteeodeooicoekaaBlk
namespace Go.Proofs.Yteeodeooicoekaa.Pat
open Go.RowKit Go.Proofs.Yteeodeooicoekaa.Mem Go.Proofs.Yteeodeooicoekaa.Open Go.Proofs.Yteeodeooicoekaa.Kind Go.Proofs.Yteeodeooicoekaa.Blk
set_option linter.unusedVariables false
set_option linter.unusedSimpArgs false
/-- May a patch of so many bytes be there? -/
def rightN (a : Int) (n : Nat) : Bool := decide (1 ≤ n ∧ n ≤ 256 ∧ 0 ≤ a ∧ a + n ≤ 256)
theorem right_iff (a : Int) (n : Nat) : rightN a n = true ↔ 1 ≤ n ∧ n ≤ 256 ∧ 0 ≤ a ∧ a + n ≤ 256 := by unfold rightN; exact decide_eq_true_iff
theorem right_not (a : Int) (n : Nat) : rightN a n = false ↔ ¬ (1 ≤ n ∧ n ≤ 256 ∧ 0 ≤ a ∧ a + n ≤ 256) := by unfold rightN; exact decide_eq_false_iff_not
/-- A block of which k bytes are laid. -/
def layK (l : List Nat) (a : Nat) (d : List Nat) : Nat → List Nat
  | 0 => l
  | k + 1 => (layK l a d k).set (a + k) (d.getD k 0)
theorem layK_length (l : List Nat) (a : Nat) (d : List Nat) (k : Nat) : (layK l a d k).length = l.length := by
  induction k with
  | zero => rfl
  | succ k ih => unfold layK; rw [List.length_set, ih]
theorem layK_get (l : List Nat) (a : Nat) (d : List Nat) (k j : Nat) (h : a + k ≤ l.length) : (layK l a d k)[j]? = if a ≤ j ∧ j < a + k then some (d.getD (j - a) 0) else l[j]? := by
  induction k with
  | zero => rw [if_neg (by omega)]; rfl
  | succ k ih =>
    unfold layK
    rw [List.getElem?_set, layK_length]
    by_cases e : a + k = j
    · subst e
      rw [if_pos rfl, if_pos (by omega), if_pos (by omega), show a + k - a = k from by omega]
    · rw [if_neg e, ih (by omega)]
      by_cases h2 : a ≤ j ∧ j < a + k
      · rw [if_pos h2, if_pos (by omega)]
      · rw [if_neg h2, if_neg (by omega)]
theorem layK_byte (l : List Nat) (a : Nat) (d : List Nat) (hl : ∀ x ∈ l, x < 256) (hd : ∀ x ∈ d, x < 256) (k : Nat) : ∀ x ∈ layK l a d k, x < 256 := by
  induction k with
  | zero => exact hl
  | succ k ih =>
    unfold layK
    intro x hx
    rcases List.mem_or_eq_of_mem_set hx with h | h
    · exact ih x h
    · subst h
      rw [List.getD_eq_getElem?_getD]
      by_cases hk : k < d.length
      · rw [List.getElem?_eq_getElem hk]; exact hd _ (List.getElem_mem hk)
      · rw [List.getElem?_eq_none (by omega)]; decide
/-- What a patch makes of a block. -/
def layL (l : List Nat) (a : Int) (d : List Nat) : List Nat := if rightN a d.length then layK l a.toNat d d.length else l
theorem layL_length (l : List Nat) (a : Int) (d : List Nat) : (layL l a d).length = l.length := by unfold layL; split <;> first | rfl | exact layK_length _ _ _ _
theorem layL_byte (l : List Nat) (a : Int) (d : List Nat) (hl : ∀ x ∈ l, x < 256) (hd : ∀ x ∈ d, x < 256) : ∀ x ∈ layL l a d, x < 256 := by
  unfold layL; split
  · exact layK_byte l _ d hl hd _
  · exact hl
theorem layL_get (l : List Nat) (a : Int) (d : List Nat) (hl : l.length = 256) (j : Nat) : (layL l a d)[j]? = if rightN a d.length = true ∧ a ≤ j ∧ (j : Int) < a + d.length then some (d.getD (j - a.toNat) 0) else l[j]? := by
  unfold layL
  cases h : rightN a d.length with
  | false => simp
  | true =>
    have := (right_iff _ _).1 h
    rw [if_pos rfl, layK_get _ _ _ _ _ (by omega)]
    by_cases h2 : a.toNat ≤ j ∧ j < a.toNat + d.length
    · rw [if_pos h2, if_pos ⟨rfl, by omega, by omega⟩]
    · rw [if_neg h2, if_neg (fun h3 => h2 (by omega))]
/-- A patch as a value. -/
abbrev patV (a : Int) (A : Option Addr) (n c : Nat) : Value := .agg #[.int .i64 a, .slice A n c]

/-! ### patch.Check, the document's Right -/
set_option maxHeartbeats 1000000 in
theorem check_yes (a : Int) (A : Option Addr) (n c : Nat) (w : World) (h : rightN a n = true) :
    Calls Try.prog 75 #[patV a A n c] w fun e w' => e = .returned (.int .i64 0) ∧ Below w.heap.size w w' := by
  obtain ⟨h1, h2, h3, h4⟩ := (right_iff _ _).1 h
  clear h
  go_enter Try.func75, Try.ntmps75
  go_wp2
  go_ret
  exact ⟨rfl, (Below.refl _ _).alloc (Nat.le_refl _) _⟩
set_option maxHeartbeats 1000000 in
theorem check_no (a : Int) (A : Option Addr) (n c : Nat) (w : World) (hn : n ≤ M63) (h : rightN a n = false) :
    Calls Try.prog 75 #[patV a A n c] w fun e w' => e = .returned (.int .i64 2) ∧ Below w.heap.size w w' := by
  have h := (right_not _ _).1 h
  unfold M63 at hn
  by_cases h1 : n < 1
  · clear h
    go_enter Try.func75, Try.ntmps75
    go_wp2
    go_ret
    exact ⟨rfl, (Below.refl _ _).alloc (Nat.le_refl _) _⟩
  by_cases h2 : 256 < n
  · clear h
    go_enter Try.func75, Try.ntmps75
    go_wp2
    go_ret
    exact ⟨rfl, (Below.refl _ _).alloc (Nat.le_refl _) _⟩
  by_cases h3 : a < 0
  · clear h
    go_enter Try.func75, Try.ntmps75
    go_wp2
    go_ret
    exact ⟨rfl, (Below.refl _ _).alloc (Nat.le_refl _) _⟩
  · have h4 : 256 - (n : Int) < a := by omega
    clear h
    go_enter Try.func75, Try.ntmps75
    go_wp2
    go_ret
    exact ⟨rfl, (Below.refl _ _).alloc (Nat.le_refl _) _⟩
theorem check_any (a : Int) (A : Option Addr) (n c : Nat) (w : World) (hn : n ≤ M63) :
    Calls Try.prog 75 #[patV a A n c] w fun e w' => e = .returned (.int .i64 (if rightN a n then 0 else 2)) ∧ Below w.heap.size w w' := by
  cases h : rightN a n
  · exact check_no a A n c w hn h
  · exact check_yes a A n c w h
set_option maxHeartbeats 1000000 in
theorem right_any (a : Int) (A : Option Addr) (n c : Nat) (w : World) (hn : n ≤ M63) :
    Calls Try.prog 66 #[patV a A n c] w fun e w' => e = .returned (.bool (rightN a n)) ∧ Below w.heap.size w w' := by
  unfold M63 at hn
  by_cases h1 : n < 1
  · have HR := Lib.hid ((right_not a n).2 (by omega))
    go_enter Try.func66, Try.ntmps66
    go_wp2
    go_ret
    exact ⟨ret_bool HR.out.symm, (Below.refl _ _).alloc (Nat.le_refl _) _⟩
  by_cases h2 : 256 < n
  · have HR := Lib.hid ((right_not a n).2 (by omega))
    go_enter Try.func66, Try.ntmps66
    go_wp2
    go_ret
    exact ⟨ret_bool HR.out.symm, (Below.refl _ _).alloc (Nat.le_refl _) _⟩
  by_cases h3 : a < 0
  · have HR := Lib.hid ((right_not a n).2 (by omega))
    go_enter Try.func66, Try.ntmps66
    go_wp2
    go_ret
    exact ⟨ret_bool HR.out.symm, (Below.refl _ _).alloc (Nat.le_refl _) _⟩
  by_cases h4 : 256 - (n : Int) < a
  · have HR := Lib.hid ((right_not a n).2 (by omega))
    have hd : decide (a ≤ 256 - (n : Int)) = false := decide_eq_false (by omega)
    go_enter Try.func66, Try.ntmps66
    go_wp2
    go_ret
    exact ⟨ret_bool HR.out.symm, (Below.refl _ _).alloc (Nat.le_refl _) _⟩
  · have HR := Lib.hid ((right_iff a n).2 (by omega))
    have hd : decide (a ≤ 256 - (n : Int)) = true := decide_eq_true (by omega)
    go_enter Try.func66, Try.ntmps66
    go_wp2
    go_ret
    exact ⟨ret_bool HR.out.symm, (Below.refl _ _).alloc (Nat.le_refl _) _⟩

/-! ### patch.Lay -/
theorem patSize : (Try.prog.info? 60).map (·.size) = some 2 := by kernel_rfl
theorem three (w : World) (l z : List Nat) (T T2 : TypeId) (p : Array Value) :
    Box (((w.alloc (.cells (blk l) T)).alloc (.cells p T2)).alloc (.cells (blk z) T)) w.heap.size T l ∧ Row (((w.alloc (.cells (blk l) T)).alloc (.cells p T2)).alloc (.cells (blk z) T)) (w.heap.size + 1) T2 p ∧
    Box (((w.alloc (.cells (blk l) T)).alloc (.cells p T2)).alloc (.cells (blk z) T)) (w.heap.size + 1 + 1) T z ∧ Below w.heap.size w (((w.alloc (.cells (blk l) T)).alloc (.cells p T2)).alloc (.cells (blk z) T)) := by
  have h1 : Row (w.alloc (.cells (blk l) T)) w.heap.size T (blk l) := Row.new _ _ _
  have h2 : Row ((w.alloc (.cells (blk l) T)).alloc (.cells p T2)) (w.alloc (.cells (blk l) T)).heap.size T2 p := Row.new _ _ _
  have h3 : Row (((w.alloc (.cells (blk l) T)).alloc (.cells p T2)).alloc (.cells (blk z) T)) ((w.alloc (.cells (blk l) T)).alloc (.cells p T2)).heap.size T (blk z) := Row.new _ _ _
  have e1 : (w.alloc (.cells (blk l) T)).heap.size = w.heap.size + 1 := by simp
  have e2 : ((w.alloc (.cells (blk l) T)).alloc (.cells p T2)).heap.size = w.heap.size + 1 + 1 := by simp
  have h2a := h2.alloc (.cells (blk z) T)
  rw [e1] at h2a
  rw [e2] at h3
  exact ⟨(h1.alloc _).alloc _, h2a, h3, (((Below.refl _ _).alloc (Nat.le_refl _) _).alloc (by simp) _).alloc (by simp; omega) _⟩
set_option maxHeartbeats 1000000 in
set_option maxRecDepth 100000 in
theorem lay_no (l : List Nat) (a : Int) (A : Option Addr) (n c : Nat) (w : World) (hl : l.length = 256) (hn : n ≤ M63) (h : rightN a n = false) :
    Calls Try.prog 77 #[.agg (blk l), patV a A n c] w fun e w' => e = .returned (.agg (blk l)) ∧ Below w.heap.size w w' := by
  have hs : (blk l).size = 256 := by rw [blk_size]; exact hl
  obtain ⟨hb, hp, hz, hbel⟩ := three w l zblk 26 60 #[.int .i64 a, .slice A n c]
  go_enter Try.func77, Try.ntmps77
  go_wp2_with (with_reducible refine wpList_allocA rfl 26 rfl _ blkZero ?_)
  generalize ((w.alloc (.cells (blk l) 26)).alloc (.cells #[.int .i64 a, .slice A n c] 60)).alloc (.cells (blk zblk) 26) = w1 at *
  refine (check_no a A n c _ hn h).mono ?_
  rintro e w2 ⟨rfl, hbel2⟩
  have hb2 := hb.below hbel2 hb.lt
  have hz2 := hz.below hbel2 hz.lt
  have hbel3 := hbel.trans (hbel2.mono hbel.size)
  clear hb hz hp hbel hbel2
  go_wp2_with (first
    | (with_reducible refine wpList_load rfl 26 _ rfl _ rfl 26 (blk l) 256 5 blkUnd blkSize hs hb2.out ?_)
    | (with_reducible refine wpList_store rfl 26 _ _ rfl _ rfl _ rfl _ 26 256 blkSize hs zblk_size (blk_one _) hz2.out ?_))
  exact bodyPost_ret (v := .agg (blk l)) (results_cell_row rfl _ _ (w.heap.size + 1 + 1) 26 (blk l) (0, 0) _ rfl (setRow_heap _ _ _ _ _ _ hz2) blkUnd rfl (by rw [hs]; exact blkSize)) rfl
      ⟨rfl, below_setRow hbel3 (by omega) _⟩
set_option maxHeartbeats 1000000 in
set_option maxRecDepth 100000 in
theorem lay_yes (l : List Nat) (a : Nat) (A : Option Addr) (n c : Nat) (d : List Nat) (w : World) (hl : l.length = 256) (hd : Sl w V8 A n d) (h : rightN (a : Int) n = true) :
    Calls Try.prog 77 #[.agg (blk l), patV (a : Int) A n c] w fun e w' => e = .returned (.agg (blk (layK l a d n))) ∧ Below w.heap.size w w' := by
  have hs : (blk l).size = 256 := by rw [blk_size]; exact hl
  have hs2 : (blk (layK l a d n)).size = 256 := by rw [blk_size, layK_length]; exact hl
  obtain ⟨h1, h2, h3, h4⟩ := (right_iff _ _).1 h
  have HR := Lib.hid h
  clear h
  obtain ⟨hb, hp, hz, hbel⟩ := three w l zblk 26 60 #[.int .i64 (a : Int), .slice A n c]
  go_enter Try.func77, Try.ntmps77
  go_wp2_with (with_reducible refine wpList_allocA rfl 26 rfl _ blkZero ?_)
  generalize ((w.alloc (.cells (blk l) 26)).alloc (.cells #[.int .i64 (a : Int), .slice A n c] 60)).alloc (.cells (blk zblk) 26) = w1 at *
  refine (check_yes (a : Int) A n c _ HR.out).mono ?_
  rintro e w2 ⟨rfl, hbel2⟩
  have hb2 := hb.below hbel2 hb.lt
  have hz2 := hz.below hbel2 hz.lt
  have hp2 := hp.below hbel2
  have hbel3 := hbel.trans (hbel2.mono hbel.size)
  clear hb hz hp hbel hbel2
  obtain ⟨g, hg⟩ : ∃ g, w.heap.size = g := ⟨_, rfl⟩
  have HG := Lib.hid hg
  rw [hg] at hb2 hz2 hp2 hbel3 ⊢
  have hdx := hd.1
  have HD : Hid (∀ wr, Below g w wr → ∀ k, (hk : k < d.length) → ∃ ad, A = some ad ∧ ad.block < g ∧ wr.cell? (ad.add k) = some (V8 d[k])) := by
    intro wr hb k hk
    obtain ⟨ad, e1, e2, e3⟩ := (hd.below (by rw [hg]; exact hb)).at_ hk
    obtain ⟨ad', e1', e2', _⟩ := hd.at_ hk
    have : ad = ad' := by rw [e1] at e1'; exact Option.some.inj e1'
    subst this
    exact ⟨ad, e1, by rw [← hg]; exact e2', e3⟩
  clear hd hg
  have hpc0 := hp2.cell 0 rfl
  have hpc1 := hp2.cell 1 rfl
  go_wp2
  clear hpc0 hpc1
  go_loopw [14] (fun i wr => ∃ k : Nat, k ≤ n ∧ i = .int .i64 k ∧ Box wr g 26 (layK l a d k) ∧ Row wr (g + 1) 60 #[.int .i64 (a : Int), .slice A n c] ∧ Box wr (g + 1 + 1) 26 zblk ∧ Below g w wr) (fun i _ => n - (intOf i).toNat)
  case atStart => exact ⟨0, by omega, rfl, hb2, hp2, hz2, hbel3⟩
  case round =>
    clear hb2 hp2 hz2 hbel3
    obtain ⟨k, hk, rfl, hb2, hp2, hz2, hbel3⟩ := hrel
    have hpc0 := hp2.cell 0 rfl
    by_cases hlt : k < n
    · obtain ⟨ad, hA, hadb, hcell⟩ := HD.out _ hbel3 k (by omega)
      have HL : Hid (layK l a d (k + 1) = (layK l a d k).set (a + k) d[k]) := by
        show (layK l a d k).set (a + k) (d.getD k 0) = _
        rw [List.getD_eq_getElem?_getD, List.getElem?_eq_getElem (by omega)]; rfl
      have hXl := layK_length l a d k
      generalize d[k] = x at *
      generalize layK l a d k = X at *
      have hq : a + k < X.length := by omega
      have hc := hb2.cell (a + k) hq
      have hf := hb2.frozen (a + k)
      have hb3 : Box (wr.setCell ⟨g, a + k, none⟩ (.int .u8 (x : Int))) g 26 (X.set (a + k) x) := by
        unfold Box; rw [← blk_set]; exact heap_setCell_same _ _ _ _ _ _ hb2
      have hp3 := hp2.farCell (a := ⟨g, a + k, none⟩) (by simp) (.int .u8 (x : Int))
      have hz3 : Box (wr.setCell ⟨g, a + k, none⟩ (.int .u8 (x : Int))) (g + 1 + 1) 26 zblk := by unfold Box; rw [heap_setCell_other _ _ _ _ (by simp; omega)]; exact hz2
      have hbel4 := hbel3.setCell (p := ⟨g, a + k, none⟩) (by simp) (.int .u8 (x : Int))
      unfold V8 at hcell
      subst hA
      go_wp2
      go_roundw
      case rel => exact ⟨k + 1, by omega, by go_num, by rw [HL.out]; exact hb3, hp3, hz3, hbel4⟩
      case measure => simp [intOf]; omega
    · obtain rfl : k = n := by omega
      go_wp2_with (first
        | (with_reducible refine wpList_load rfl 26 _ rfl _ rfl 26 (blk (layK l a d k)) 256 5 blkUnd blkSize hs2 hb2.out ?_)
        | (with_reducible refine wpList_store rfl 26 _ _ rfl _ rfl _ rfl _ 26 256 blkSize hs2 zblk_size (blk_one _) hz2.out ?_))
      exact bodyPost_ret (v := .agg (blk (layK l a d k))) (results_cell_row rfl _ _ (g + 1 + 1) 26 (blk (layK l a d k)) (0, 0) _ rfl (setRow_heap _ _ _ _ _ _ hz2) blkUnd rfl (by rw [hs2]; exact blkSize)) rfl
        ⟨rfl, by rw [HG.out]; exact below_setRow hbel3 (by omega) _⟩
theorem lay_any (l : List Nat) (a : Int) (A : Option Addr) (n c : Nat) (d : List Nat) (w : World) (hl : l.length = 256) (hd : Sl w V8 A n d) :
    Calls Try.prog 77 #[.agg (blk l), patV a A n c] w fun e w' => e = .returned (.agg (blk (layL l a d))) ∧ Below w.heap.size w w' := by
  have hn := hd.1
  subst hn
  cases h : rightN a d.length
  · have e : layL l a d = l := by unfold layL; rw [h]; rfl
    rw [e]
    exact lay_no l a A _ c w hl hd.2.1 h
  · have e : layL l a d = layK l a.toNat d d.length := by unfold layL; rw [h]; rfl
    rw [e]
    obtain ⟨q, rfl⟩ := Int.eq_ofNat_of_zero_le ((right_iff _ _).1 h).2.2.1
    exact lay_yes l q A _ c d w hl hd h
end Go.Proofs.Yteeodeooicoekaa.Pat
