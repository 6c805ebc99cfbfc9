/- Laws and contracts of several chapters, laid in one text. No statement is proved here. -/
import Derived.Test.YtbamhiegabeicaaGreatApp
import Derived.Test.YtbamhiegabeicaaGreatSame
/- Patches: what they are, whether they may be, what they make of a block: patch.Check, patch.Lay, and the document's Right. -/
namespace Go.Proofs.YtbamhiegabeicaaGreat.Pat
open Go.RowKit Go.Proofs.YtbamhiegabeicaaGreat.Mem Go.Proofs.YtbamhiegabeicaaGreat.Open Go.Proofs.YtbamhiegabeicaaGreat.Kind Go.Proofs.YtbamhiegabeicaaGreat.Blk
set_option linter.unusedVariables false
set_option linter.unusedSimpArgs false
/-- May a patch of so many bytes be there? -/
def rightN (a : Int) (n : Nat) : Bool := decide (1 ≤ n ∧ n ≤ 256 ∧ 0 ≤ a ∧ a + n ≤ 256)
theorem right_iff (a : Int) (n : Nat) : rightN a n = true ↔ 1 ≤ n ∧ n ≤ 256 ∧ 0 ≤ a ∧ a + n ≤ 256 := by unfold rightN; exact decide_eq_true_iff
theorem right_not (a : Int) (n : Nat) : rightN a n = false ↔ ¬ (1 ≤ n ∧ n ≤ 256 ∧ 0 ≤ a ∧ a + n ≤ 256) := by unfold rightN; exact decide_eq_false_iff_not
/-- A block of which k bytes are laid. -/
def layK (l : List Nat) (a : Nat) (d : List Nat) : Nat → List Nat
  | 0 => l
  | k + 1 => (layK l a d k).set (a + k) (d.getD k 0)
theorem layK_length (l : List Nat) (a : Nat) (d : List Nat) (k : Nat) : (layK l a d k).length = l.length := by
  induction k with
  | zero => rfl
  | succ k ih => unfold layK; rw [List.length_set, ih]
theorem layK_get (l : List Nat) (a : Nat) (d : List Nat) (k j : Nat) (h : a + k ≤ l.length) : (layK l a d k)[j]? = if a ≤ j ∧ j < a + k then some (d.getD (j - a) 0) else l[j]? := by
  induction k with
  | zero => rw [if_neg (by omega)]; rfl
  | succ k ih =>
    unfold layK
    rw [List.getElem?_set, layK_length]
    by_cases e : a + k = j
    · subst e
      rw [if_pos rfl, if_pos (by omega), if_pos (by omega), show a + k - a = k from by omega]
    · rw [if_neg e, ih (by omega)]
      by_cases h2 : a ≤ j ∧ j < a + k
      · rw [if_pos h2, if_pos (by omega)]
      · rw [if_neg h2, if_neg (by omega)]
/-- What a patch makes of a block. -/
def layL (l : List Nat) (a : Int) (d : List Nat) : List Nat := if rightN a d.length then layK l a.toNat d d.length else l
theorem layL_length (l : List Nat) (a : Int) (d : List Nat) : (layL l a d).length = l.length := by unfold layL; split <;> first | rfl | exact layK_length _ _ _ _
theorem layL_get (l : List Nat) (a : Int) (d : List Nat) (hl : l.length = 256) (j : Nat) : (layL l a d)[j]? = if rightN a d.length = true ∧ a ≤ j ∧ (j : Int) < a + d.length then some (d.getD (j - a.toNat) 0) else l[j]? := by
  unfold layL
  cases h : rightN a d.length with
  | false => simp
  | true =>
    have := (right_iff _ _).1 h
    rw [if_pos rfl, layK_get _ _ _ _ _ (by omega)]
    by_cases h2 : a.toNat ≤ j ∧ j < a.toNat + d.length
    · rw [if_pos h2, if_pos ⟨rfl, by omega, by omega⟩]
    · rw [if_neg h2, if_neg (fun h3 => h2 (by omega))]
/-- A patch as a value. -/
abbrev patV (a : Int) (A : Option Addr) (n c : Nat) : Value := .agg #[.int .i64 a, .slice A n c]

/-! ### patch.Check, the document's Right -/
set_option maxHeartbeats 1000000 in
theorem check_yes (a : Int) (A : Option Addr) (n c : Nat) (w : World) (h : rightN a n = true) :
    Calls Tryz.prog 36 #[patV a A n c] w fun e w' => e = .returned (.int .i64 0) ∧ Below w.heap.size w w' := by
  obtain ⟨h1, h2, h3, h4⟩ := (right_iff _ _).1 h
  clear h
  go_enter Tryz.func36, Tryz.ntmps36
  go_wp2
  go_ret
  exact ⟨rfl, (Below.refl _ _).alloc (Nat.le_refl _) _⟩
set_option maxHeartbeats 1000000 in
theorem check_no (a : Int) (A : Option Addr) (n c : Nat) (w : World) (hn : n ≤ M63) (h : rightN a n = false) :
    Calls Tryz.prog 36 #[patV a A n c] w fun e w' => e = .returned (.int .i64 2) ∧ Below w.heap.size w w' := by
  have h := (right_not _ _).1 h
  unfold M63 at hn
  by_cases h1 : n < 1
  · clear h
    go_enter Tryz.func36, Tryz.ntmps36
    go_wp2
    go_ret
    exact ⟨rfl, (Below.refl _ _).alloc (Nat.le_refl _) _⟩
  by_cases h2 : 256 < n
  · clear h
    go_enter Tryz.func36, Tryz.ntmps36
    go_wp2
    go_ret
    exact ⟨rfl, (Below.refl _ _).alloc (Nat.le_refl _) _⟩
  by_cases h3 : a < 0
  · clear h
    go_enter Tryz.func36, Tryz.ntmps36
    go_wp2
    go_ret
    exact ⟨rfl, (Below.refl _ _).alloc (Nat.le_refl _) _⟩
  · have h4 : 256 - (n : Int) < a := by omega
    clear h
    go_enter Tryz.func36, Tryz.ntmps36
    go_wp2
    go_ret
    exact ⟨rfl, (Below.refl _ _).alloc (Nat.le_refl _) _⟩
theorem check_any (a : Int) (A : Option Addr) (n c : Nat) (w : World) (hn : n ≤ M63) :
    Calls Tryz.prog 36 #[patV a A n c] w fun e w' => e = .returned (.int .i64 (if rightN a n then 0 else 2)) ∧ Below w.heap.size w w' := by
  cases h : rightN a n
  · exact check_no a A n c w hn h
  · exact check_yes a A n c w h
set_option maxHeartbeats 1000000 in
theorem right_any (a : Int) (A : Option Addr) (n c : Nat) (w : World) (hn : n ≤ M63) :
    Calls Tryz.prog 66 #[patV a A n c] w fun e w' => e = .returned (.bool (rightN a n)) ∧ Below w.heap.size w w' := by
  unfold M63 at hn
  by_cases h1 : n < 1
  · have HR := Lib.hid ((right_not a n).2 (by omega))
    go_enter Tryz.func66, Tryz.ntmps66
    go_wp2
    go_ret
    exact ⟨ret_bool HR.out.symm, (Below.refl _ _).alloc (Nat.le_refl _) _⟩
  by_cases h2 : 256 < n
  · have HR := Lib.hid ((right_not a n).2 (by omega))
    go_enter Tryz.func66, Tryz.ntmps66
    go_wp2
    go_ret
    exact ⟨ret_bool HR.out.symm, (Below.refl _ _).alloc (Nat.le_refl _) _⟩
  by_cases h3 : a < 0
  · have HR := Lib.hid ((right_not a n).2 (by omega))
    go_enter Tryz.func66, Tryz.ntmps66
    go_wp2
    go_ret
    exact ⟨ret_bool HR.out.symm, (Below.refl _ _).alloc (Nat.le_refl _) _⟩
  by_cases h4 : 256 - (n : Int) < a
  · have HR := Lib.hid ((right_not a n).2 (by omega))
    have hd : decide (a ≤ 256 - (n : Int)) = false := decide_eq_false (by omega)
    go_enter Tryz.func66, Tryz.ntmps66
    go_wp2
    go_ret
    exact ⟨ret_bool HR.out.symm, (Below.refl _ _).alloc (Nat.le_refl _) _⟩
  · have HR := Lib.hid ((right_iff a n).2 (by omega))
    have hd : decide (a ≤ 256 - (n : Int)) = true := decide_eq_true (by omega)
    go_enter Tryz.func66, Tryz.ntmps66
    go_wp2
    go_ret
    exact ⟨ret_bool HR.out.symm, (Below.refl _ _).alloc (Nat.le_refl _) _⟩

/-! ### patch.Lay -/
theorem patSize : (Tryz.prog.info? 52).map (·.size) = some 2 := by kernel_rfl
theorem three (w : World) (l z : List Nat) (T T2 : TypeId) (p : Array Value) :
    Box (((w.alloc (.cells (blk l) T)).alloc (.cells p T2)).alloc (.cells (blk z) T)) w.heap.size T l ∧ Row (((w.alloc (.cells (blk l) T)).alloc (.cells p T2)).alloc (.cells (blk z) T)) (w.heap.size + 1) T2 p ∧
    Box (((w.alloc (.cells (blk l) T)).alloc (.cells p T2)).alloc (.cells (blk z) T)) (w.heap.size + 1 + 1) T z ∧ Below w.heap.size w (((w.alloc (.cells (blk l) T)).alloc (.cells p T2)).alloc (.cells (blk z) T)) := by
  have h1 : Row (w.alloc (.cells (blk l) T)) w.heap.size T (blk l) := Row.new _ _ _
  have h2 : Row ((w.alloc (.cells (blk l) T)).alloc (.cells p T2)) (w.alloc (.cells (blk l) T)).heap.size T2 p := Row.new _ _ _
  have h3 : Row (((w.alloc (.cells (blk l) T)).alloc (.cells p T2)).alloc (.cells (blk z) T)) ((w.alloc (.cells (blk l) T)).alloc (.cells p T2)).heap.size T (blk z) := Row.new _ _ _
  have e1 : (w.alloc (.cells (blk l) T)).heap.size = w.heap.size + 1 := by simp
  have e2 : ((w.alloc (.cells (blk l) T)).alloc (.cells p T2)).heap.size = w.heap.size + 1 + 1 := by simp
  have h2a := h2.alloc (.cells (blk z) T)
  rw [e1] at h2a
  rw [e2] at h3
  exact ⟨(h1.alloc _).alloc _, h2a, h3, (((Below.refl _ _).alloc (Nat.le_refl _) _).alloc (by simp) _).alloc (by simp; omega) _⟩
set_option maxHeartbeats 1000000 in
set_option maxRecDepth 100000 in
theorem lay_no (l : List Nat) (a : Int) (A : Option Addr) (n c : Nat) (w : World) (hl : l.length = 256) (hn : n ≤ M63) (h : rightN a n = false) :
    Calls Tryz.prog 106 #[.agg (blk l), patV a A n c] w fun e w' => e = .returned (.agg (blk l)) ∧ Below w.heap.size w w' := by
  have hs : (blk l).size = 256 := by rw [blk_size]; exact hl
  obtain ⟨hb, hp, hz, hbel⟩ := three w l zblk 78 52 #[.int .i64 a, .slice A n c]
  go_enter Tryz.func106, Tryz.ntmps106
  go_wp2_with (with_reducible refine wpList_allocA rfl 78 rfl _ blkZero ?_)
  generalize ((w.alloc (.cells (blk l) 78)).alloc (.cells #[.int .i64 a, .slice A n c] 52)).alloc (.cells (blk zblk) 78) = w1 at *
  refine (check_no a A n c _ hn h).mono ?_
  rintro e w2 ⟨rfl, hbel2⟩
  have hb2 := hb.below hbel2 hb.lt
  have hz2 := hz.below hbel2 hz.lt
  have hbel3 := hbel.trans (hbel2.mono hbel.size)
  clear hb hz hp hbel hbel2
  go_wp2_with (first
    | (with_reducible refine wpList_load rfl 78 _ rfl _ rfl 78 (blk l) 256 5 blkUnd blkSize hs hb2.out ?_)
    | (with_reducible refine wpList_store rfl 78 _ _ rfl _ rfl _ rfl _ 78 256 blkSize hs zblk_size (blk_one _) hz2.out ?_))
  exact bodyPost_ret (v := .agg (blk l)) (results_cell_row rfl _ _ (w.heap.size + 1 + 1) 78 (blk l) (0, 0) _ rfl (setRow_heap _ _ _ _ _ _ hz2) blkUnd rfl (by rw [hs]; exact blkSize)) rfl
      ⟨rfl, below_setRow hbel3 (by omega) _⟩
set_option maxHeartbeats 1000000 in
set_option maxRecDepth 100000 in
theorem lay_yes (l : List Nat) (a : Nat) (A : Option Addr) (n c : Nat) (d : List Nat) (w : World) (hl : l.length = 256) (hd : Sl w V8 A n d) (h : rightN (a : Int) n = true) :
    Calls Tryz.prog 106 #[.agg (blk l), patV (a : Int) A n c] w fun e w' => e = .returned (.agg (blk (layK l a d n))) ∧ Below w.heap.size w w' := by
  have hs : (blk l).size = 256 := by rw [blk_size]; exact hl
  have hs2 : (blk (layK l a d n)).size = 256 := by rw [blk_size, layK_length]; exact hl
  obtain ⟨h1, h2, h3, h4⟩ := (right_iff _ _).1 h
  have HR := Lib.hid h
  clear h
  obtain ⟨hb, hp, hz, hbel⟩ := three w l zblk 78 52 #[.int .i64 (a : Int), .slice A n c]
  go_enter Tryz.func106, Tryz.ntmps106
  go_wp2_with (with_reducible refine wpList_allocA rfl 78 rfl _ blkZero ?_)
  generalize ((w.alloc (.cells (blk l) 78)).alloc (.cells #[.int .i64 (a : Int), .slice A n c] 52)).alloc (.cells (blk zblk) 78) = w1 at *
  refine (check_yes (a : Int) A n c _ HR.out).mono ?_
  rintro e w2 ⟨rfl, hbel2⟩
  have hb2 := hb.below hbel2 hb.lt
  have hz2 := hz.below hbel2 hz.lt
  have hp2 := hp.below hbel2
  have hbel3 := hbel.trans (hbel2.mono hbel.size)
  clear hb hz hp hbel hbel2
  obtain ⟨g, hg⟩ : ∃ g, w.heap.size = g := ⟨_, rfl⟩
  have HG := Lib.hid hg
  rw [hg] at hb2 hz2 hp2 hbel3 ⊢
  have hdx := hd.1
  have HD : Hid (∀ wr, Below g w wr → ∀ k, (hk : k < d.length) → ∃ ad, A = some ad ∧ ad.block < g ∧ wr.cell? (ad.add k) = some (V8 d[k])) := by
    intro wr hb k hk
    obtain ⟨ad, e1, e2, e3⟩ := (hd.below (by rw [hg]; exact hb)).at_ hk
    obtain ⟨ad', e1', e2', _⟩ := hd.at_ hk
    have : ad = ad' := by rw [e1] at e1'; exact Option.some.inj e1'
    subst this
    exact ⟨ad, e1, by rw [← hg]; exact e2', e3⟩
  clear hd hg
  have hpc0 := hp2.cell 0 rfl
  have hpc1 := hp2.cell 1 rfl
  go_wp2
  clear hpc0 hpc1
  go_loopw [14] (fun i wr => ∃ k : Nat, k ≤ n ∧ i = .int .i64 k ∧ Box wr g 78 (layK l a d k) ∧ Row wr (g + 1) 52 #[.int .i64 (a : Int), .slice A n c] ∧ Box wr (g + 1 + 1) 78 zblk ∧ Below g w wr) (fun i _ => n - (intOf i).toNat)
  case atStart => exact ⟨0, by omega, rfl, hb2, hp2, hz2, hbel3⟩
  case round =>
    clear hb2 hp2 hz2 hbel3
    obtain ⟨k, hk, rfl, hb2, hp2, hz2, hbel3⟩ := hrel
    have hpc0 := hp2.cell 0 rfl
    by_cases hlt : k < n
    · obtain ⟨ad, hA, hadb, hcell⟩ := HD.out _ hbel3 k (by omega)
      have HL : Hid (layK l a d (k + 1) = (layK l a d k).set (a + k) d[k]) := by
        show (layK l a d k).set (a + k) (d.getD k 0) = _
        rw [List.getD_eq_getElem?_getD, List.getElem?_eq_getElem (by omega)]; rfl
      have hXl := layK_length l a d k
      generalize d[k] = x at *
      generalize layK l a d k = X at *
      have hq : a + k < X.length := by omega
      have hc := hb2.cell (a + k) hq
      have hf := hb2.frozen (a + k)
      have hb3 : Box (wr.setCell ⟨g, a + k, none⟩ (.int .u8 (x : Int))) g 78 (X.set (a + k) x) := by
        unfold Box; rw [← blk_set]; exact heap_setCell_same _ _ _ _ _ _ hb2
      have hp3 := hp2.farCell (a := ⟨g, a + k, none⟩) (by simp) (.int .u8 (x : Int))
      have hz3 : Box (wr.setCell ⟨g, a + k, none⟩ (.int .u8 (x : Int))) (g + 1 + 1) 78 zblk := by unfold Box; rw [heap_setCell_other _ _ _ _ (by simp; omega)]; exact hz2
      have hbel4 := hbel3.setCell (p := ⟨g, a + k, none⟩) (by simp) (.int .u8 (x : Int))
      unfold V8 at hcell
      subst hA
      go_wp2
      go_roundw
      case rel => exact ⟨k + 1, by omega, by go_num, by rw [HL.out]; exact hb3, hp3, hz3, hbel4⟩
      case measure => simp [intOf]; omega
    · obtain rfl : k = n := by omega
      go_wp2_with (first
        | (with_reducible refine wpList_load rfl 78 _ rfl _ rfl 78 (blk (layK l a d k)) 256 5 blkUnd blkSize hs2 hb2.out ?_)
        | (with_reducible refine wpList_store rfl 78 _ _ rfl _ rfl _ rfl _ 78 256 blkSize hs2 zblk_size (blk_one _) hz2.out ?_))
      exact bodyPost_ret (v := .agg (blk (layK l a d k))) (results_cell_row rfl _ _ (g + 1 + 1) 78 (blk (layK l a d k)) (0, 0) _ rfl (setRow_heap _ _ _ _ _ _ hz2) blkUnd rfl (by rw [hs2]; exact blkSize)) rfl
        ⟨rfl, by rw [HG.out]; exact below_setRow hbel3 (by omega) _⟩
theorem lay_any (l : List Nat) (a : Int) (A : Option Addr) (n c : Nat) (d : List Nat) (w : World) (hl : l.length = 256) (hd : Sl w V8 A n d) :
    Calls Tryz.prog 106 #[.agg (blk l), patV a A n c] w fun e w' => e = .returned (.agg (blk (layL l a d))) ∧ Below w.heap.size w w' := by
  have hn := hd.1
  subst hn
  cases h : rightN a d.length
  · have e : layL l a d = l := by unfold layL; rw [h]; rfl
    rw [e]
    exact lay_no l a A _ c w hl hd.2.1 h
  · have e : layL l a d = layK l a.toNat d d.length := by unfold layL; rw [h]; rfl
    rw [e]
    obtain ⟨q, rfl⟩ := Int.eq_ofNat_of_zero_le ((right_iff _ _).1 h).2.2.1
    exact lay_yes l q A _ c d w hl hd h
end Go.Proofs.YtbamhiegabeicaaGreat.Pat

/- Patches, on: to and fro, what they take the place of. -/
namespace Go.Proofs.YtbamhiegabeicaaGreat.Pat
open Go.RowKit Go.Proofs.YtbamhiegabeicaaGreat.Mem Go.Proofs.YtbamhiegabeicaaGreat.Open Go.Proofs.YtbamhiegabeicaaGreat.Kind Go.Proofs.YtbamhiegabeicaaGreat.Blk Go.Proofs.YtbamhiegabeicaaGreat.App
set_option linter.unusedVariables false
set_option linter.unusedSimpArgs false
theorem rpatSize : (Tryz.prog.info? 46).map (·.size) = some 2 := by kernel_rfl
theorem pat_one (a : Int) (A : Option Addr) (n c : Nat) : (#[.int .i64 a, .slice A n c] : Array Value).all (·.oneCell') = true := by simp [Value.oneCell']
theorem V8_one (y : Nat) : (V8 y).oneCell' = true := rfl
set_option maxHeartbeats 1000000 in
set_option maxRecDepth 100000 in
theorem to_any (a : Int) (A : Option Addr) (c : Nat) (d : List Nat) (w : World) (hd : By w A d) (hc : A = none → c = 0) (hn : d.length ≤ 100000) :
    Calls Tryz.prog 42 #[patV a A d.length c] w fun e w' => ∃ A' c', e = .returned (patV a A' d.length c') ∧ d.length ≤ c' ∧ c' ≤ M63 ∧ (A' = none → c' = 0) ∧ ByF w' w.heap.size A' d ∧ Below w.heap.size w w' := by
  have hr1 : Row (w.alloc (.cells #[.int .i64 a, .slice A d.length c] 46)) w.heap.size 46 #[.int .i64 a, .slice A d.length c] := Row.new _ _ _
  have hr2 := hr1.alloc (.cells #[.int .i64 0, .slice none 0 0] 52)
  have hq2 : Row ((w.alloc (.cells #[.int .i64 a, .slice A d.length c] 46)).alloc (.cells #[.int .i64 0, .slice none 0 0] 52)) (w.alloc (.cells #[.int .i64 a, .slice A d.length c] 46)).heap.size 52 #[.int .i64 0, .slice none 0 0] := Row.new _ _ _
  have hbel := ((Below.refl w.heap.size w).alloc (Nat.le_refl _) (.cells #[.int .i64 a, .slice A d.length c] 46)).alloc (by simp) (.cells #[.int .i64 0, .slice none 0 0] 52)
  have e1 : (w.alloc (.cells #[.int .i64 a, .slice A d.length c] 46)).heap.size = w.heap.size + 1 := by simp
  rw [e1] at hq2
  go_enter Tryz.func42, Tryz.ntmps42
  go_wp2_with fail
  generalize (w.alloc (.cells #[.int .i64 a, .slice A d.length c] 46)).alloc (.cells #[.int .i64 0, .slice none 0 0] 52) = w1 at *
  have hd1 := (hd.below hbel).sl_byte
  have hlt2 := hq2.lt
  have hrd := hr2.drew
  have hqd := hq2.drew
  refine wp_region_held_drew (S := Go.RowKit.Below (w.heap.size + 1) (w1.drew)) (by kernel_rfl) ?hb5 (fun hHeld => ?rest5)
  case hb5 =>
    exact Go.RowKit.Below.refl _ _
  case' rest5 => skip
  have hCl := fun (wS : World) (hSw : Go.RowKit.Below (w.heap.size + 1) (w1.drew) wS) => And.intro ((Mem.bl_row hSw hrd (by first | exact Mem.Row.lt hrd | omega | (simp <;> omega))).cell 0 rfl) <| (Mem.bl_row hSw hrd (by first | exact Mem.Row.lt hrd | omega | (simp <;> omega))).cell 1 rfl
  replace hCl := Go.Lib.hid hCl
  refine Mem.tkV 0 ?v6 ?y6 ?r6
  case y6 => (intro w hSw; clear hSw; go_simp; try with_reducible rfl)
  refine Mem.tkV 1 ?v7 ?y7 ?r7
  case y7 => (intro w hSw; obtain ⟨hT0, hT1⟩ := hCl.out w hSw; clear hSw; go_simp; try with_reducible rfl)
  refine Mem.tkV 3 ?v8 ?y8 ?r8
  case y8 => (intro w hSw; clear hSw; go_simp; try with_reducible rfl)
  try simp only [Mem.pa, Mem.pb, Mem.pc, Act.put, Mem.pd, Mem.pe, Mem.pf]
  refine Mem.tkV 4 ?v9 ?y9 ?r9
  case y9 => (intro w hSw; obtain ⟨hT0, hT1⟩ := hCl.out w hSw; clear hSw; go_simp; try with_reducible rfl)
  try simp only [Mem.pa, Mem.pb, Mem.pc, Act.put, Mem.pd, Mem.pe, Mem.pf]
  refine wpAnyH_ready (rs := [2]) (by kernel_rfl) (by simp) ?_
  refine AllReadyH.cons rfl (fun K hK => ?_) AllReadyH.nil
  go_simp
  have hbl := (Below.refl _ w1.drew).alloc (Nat.le_refl _) (.cells #[] 5); have ho0 : Own (w1.drew.alloc (.cells #[] 5)) w1.heap.size 5 V8 (.slice (some ⟨w1.heap.size, 0, none⟩) 0 0) [] := own_empty (Nat.le_refl _); have hbelA := (Below.refl w1.heap.size w1).drew.alloc (Nat.le_refl _) (.cells #[] 5); have hqa := hqd.alloc (.cells #[] 5)
  try go_wp2_with fail
  have hSnew := Mem.bl_step hHeld hbl (by first | exact Nat.le_refl _ | omega | (simp <;> omega))
  refine hK.out _ _ ?_ (fun hHeld2 => ?_)
  · exact hSnew
  clear hbl
  clear hK K hHeld hSnew
  have hHeld := hHeld2
  clear hHeld2
  try simp only [Mem.pa, Mem.pb, Mem.pc, Act.put, Mem.pd, Mem.pe, Mem.pf]
  refine wpAnyH_ready (rs := [5]) (by kernel_rfl) (by simp) ?_
  refine AllReadyH.cons rfl (fun K hK => ?_) AllReadyH.nil
  rw [if_pos (by rfl)]
  refine wp_app _ _ _ (by rfl) (V8 0) 1 Tryz.underlying44 u8Info rfl (by rfl) (by rfl) ho0 (hd1.below hbelA) hc V8_one (by simp; omega) (by simp; omega) (by simp) ?_; intro v3 w3 hown3 hg3 hat3; rw [List.nil_append] at hown3; obtain ⟨A3, c3, rfl, hl3, hm3, hc3, hby3⟩ := own_byF hown3 hd.lt_byte; have hSnew := hHeld.grown hg3 (by simp; omega) (fun k hk => by simp [Value.ownBlock] at hk; omega); have hqb := gb_row hg3 hqa (by simp [Value.ownBlock]; omega); have hbelB := (hbel.trans (hbelA.mono hbel.size)).grown hg3 (by simp; omega) (fun k hk => by simp [Value.ownBlock] at hk; omega)
  refine hK.out _ _ ?_ (fun hHeld2 => ?_)
  · exact hSnew
  clear hK K hHeld hSnew
  have hHeld := hHeld2
  clear hHeld2
  try simp only [Mem.pa, Mem.pb, Mem.pc, Act.put, Mem.pd, Mem.pe, Mem.pf]
  refine Mem.tkV 6 ?v10 ?y10 ?r10
  case y10 => (intro w hSw; clear hSw; go_simp; try with_reducible rfl)
  try simp only [Mem.pa, Mem.pb, Mem.pc, Act.put, Mem.pd, Mem.pe, Mem.pf]
  refine wpAnyH_ready (rs := [7]) (by kernel_rfl) (by simp) ?_
  refine AllReadyH.cons rfl (fun K hK => ?_) AllReadyH.nil
  rw [if_pos (by rfl)]
  refine wp_storeRow _ _ _ (by rfl) (w.heap.size + 1) (by rfl) #[.int .i64 a, .slice A3 d.length c3] (by rfl) #[.int .i64 0, .slice none 0 0] 52 2 patSize rfl rfl (pat_one _ _ _ _) hqb ?_; have hSnew := below_setRow hHeld (Nat.le_refl _) #[.int .i64 a, .slice A3 d.length c3]
  refine hK.out _ _ ?_ (fun hHeld2 => ?_)
  · exact hSnew
  clear hK K hHeld hSnew
  have hHeld := hHeld2
  clear hHeld2
  try simp only [Mem.pa, Mem.pb, Mem.pc, Act.put, Mem.pd, Mem.pe, Mem.pf]
  refine wpAnyH_done (by kernel_rfl) ?_ _
  clear hCl
  have hq5 := hqb.set #[.int .i64 a, .slice A3 d.length c3]
  have hbel5 := below_setRow hbelB (g := w.heap.size + 1) (by omega) #[.int .i64 a, .slice A3 d.length c3]
  go_wp2
  exact bodyPost_ret (v := patV a A3 d.length c3) (results_cell_row rfl _ _ (w.heap.size + 1) 52 #[.int .i64 a, .slice A3 d.length c3] (0, 0) _ rfl hq5 Tryz.underlying52 rfl patSize) rfl
    ⟨A3, c3, rfl, hl3, hm3, hc3, (hby3.stay fun b hb => setRow_other _ _ _ _ (by omega)).mono fun b hb => ⟨by omega, by simpa using hb.2⟩, hbel5⟩
end Go.Proofs.YtbamhiegabeicaaGreat.Pat

/- Patches, on: what lies there, whether two meet, are the same; the document's. -/
namespace Go.Proofs.YtbamhiegabeicaaGreat.Pat
open Go.RowKit Go.Proofs.YtbamhiegabeicaaGreat.Mem Go.Proofs.YtbamhiegabeicaaGreat.Open Go.Proofs.YtbamhiegabeicaaGreat.Kind Go.Proofs.YtbamhiegabeicaaGreat.Blk Go.Proofs.YtbamhiegabeicaaGreat.App
set_option linter.unusedVariables false
set_option linter.unusedSimpArgs false
/-! ### plain -/
def layR (b : List Nat) (a : Nat) (d : List Nat) : List Nat := (List.range b.length).map fun i => if a ≤ i ∧ i - a < d.length then d.getD (i - a) 0 else b.getD i 0
theorem layR_length (b : List Nat) (a : Nat) (d : List Nat) : (layR b a d).length = b.length := by unfold layR; simp
theorem layR_get (b : List Nat) (a : Nat) (d : List Nat) (i : Nat) (hi : i < b.length) : (layR b a d)[i]? = some (if a ≤ i ∧ i - a < d.length then d.getD (i - a) 0 else b.getD i 0) := by
  unfold layR
  rw [List.getElem?_map, List.getElem?_range hi]; rfl
theorem layR_eq (b : List Nat) (a : Nat) (d : List Nat) (h : a + d.length ≤ b.length) : layR b a d = layK b a d d.length := by
  apply List.ext_getElem?
  intro j
  rw [layK_get _ _ _ _ _ h]
  by_cases hj : j < b.length
  · rw [layR_get _ _ _ _ hj]
    by_cases h2 : a ≤ j ∧ j - a < d.length
    · rw [if_pos h2, if_pos (by omega)]
    · rw [if_neg h2, if_neg (by omega), List.getD_eq_getElem?_getD, List.getElem?_eq_getElem hj]; rfl
  · rw [List.getElem?_eq_none (by rw [layR_length]; omega), if_neg (by omega), List.getElem?_eq_none (by omega)]
theorem getD_at (l : List Nat) (i : Nat) (hi : i < l.length) : l.getD i 0 = l[i] := by rw [List.getD_eq_getElem?_getD, List.getElem?_eq_getElem hi]; rfl
/-- What lies where a patch is laid. -/
def wasD (l : List Nat) (a : Int) (n : Nat) : List Nat := if rightN a n then (l.drop a.toNat).take n else []
def wasA (a : Int) (n : Nat) : Int := if rightN a n then a else 0
def meetB (a : Int) (n : Nat) (b : Int) (m : Nat) : Bool := rightN a n && rightN b m && decide (a < b + m ∧ b < a + n)
theorem take_succ' {α : Type} (l : List α) (k : Nat) (x : α) (h : l[k]? = some x) : l.take (k + 1) = l.take k ++ [x] := by
  rw [List.take_add_one, h]; rfl

/-! ### Of, patch.Was -/
set_option maxHeartbeats 1000000 in
theorem of_any (a : Int) (A : Option Addr) (n c : Nat) (w : World) :
    Calls Tryz.prog 60 #[patV a A n c] w fun e w' => e = .returned (patV a A n c) ∧ Below w.heap.size w w' := by
  have hr1 : Row (w.alloc (.cells #[.int .i64 a, .slice A n c] 52)) w.heap.size 52 #[.int .i64 a, .slice A n c] := Row.new _ _ _
  have hr2 : Row ((w.alloc (.cells #[.int .i64 a, .slice A n c] 52)).alloc (.cells #[.int .i64 0, .slice none 0 0] 46)) (w.alloc (.cells #[.int .i64 a, .slice A n c] 52)).heap.size 46 #[.int .i64 0, .slice none 0 0] := Row.new _ _ _
  have e1 : (w.alloc (.cells #[.int .i64 a, .slice A n c] 52)).heap.size = w.heap.size + 1 := by simp
  rw [e1] at hr2
  have hbel := ((Below.refl w.heap.size w).alloc (Nat.le_refl _) (.cells #[.int .i64 a, .slice A n c] 52)).alloc (by simp) (.cells #[.int .i64 0, .slice none 0 0] 46)
  go_enter Tryz.func60, Tryz.ntmps60
  go_wp2_with (with_reducible refine wpList_storeRow rfl 46 _ _ rfl (w.heap.size + 1) rfl #[.int .i64 a, .slice A n c] rfl #[.int .i64 0, .slice none 0 0] 46 2 rpatSize rfl rfl (pat_one _ _ _ _) hr2 ?_)
  exact bodyPost_ret (v := patV a A n c) (results_cell_row rfl _ _ (w.heap.size + 1) 46 #[.int .i64 a, .slice A n c] (0, 0) _ rfl (hr2.set _) Tryz.underlying46 rfl rpatSize) rfl
    ⟨rfl, below_setRow hbel (by omega) _⟩
theorem two (w : World) (l : List Nat) (T T2 T3 : TypeId) (p q : Array Value) :
    Box (((w.alloc (.cells (blk l) T)).alloc (.cells p T2)).alloc (.cells q T3)) w.heap.size T l ∧ Row (((w.alloc (.cells (blk l) T)).alloc (.cells p T2)).alloc (.cells q T3)) (w.heap.size + 1) T2 p ∧
    Row (((w.alloc (.cells (blk l) T)).alloc (.cells p T2)).alloc (.cells q T3)) (w.heap.size + 1 + 1) T3 q ∧ Below w.heap.size w (((w.alloc (.cells (blk l) T)).alloc (.cells p T2)).alloc (.cells q T3)) := by
  have h1 : Row (w.alloc (.cells (blk l) T)) w.heap.size T (blk l) := Row.new _ _ _
  have h2 : Row ((w.alloc (.cells (blk l) T)).alloc (.cells p T2)) (w.alloc (.cells (blk l) T)).heap.size T2 p := Row.new _ _ _
  have h3 : Row (((w.alloc (.cells (blk l) T)).alloc (.cells p T2)).alloc (.cells q T3)) ((w.alloc (.cells (blk l) T)).alloc (.cells p T2)).heap.size T3 q := Row.new _ _ _
  have e1 : (w.alloc (.cells (blk l) T)).heap.size = w.heap.size + 1 := by simp
  have e2 : ((w.alloc (.cells (blk l) T)).alloc (.cells p T2)).heap.size = w.heap.size + 1 + 1 := by simp
  have h2a := h2.alloc (.cells q T3)
  rw [e1] at h2a
  rw [e2] at h3
  exact ⟨(h1.alloc _).alloc _, h2a, h3, (((Below.refl _ _).alloc (Nat.le_refl _) _).alloc (by simp) _).alloc (by simp; omega) _⟩
end Go.Proofs.YtbamhiegabeicaaGreat.Pat

/- Patches, on: whether two meet, are the same; the document's Lay, Cut, In, Meet, Was, Same. -/
namespace Go.Proofs.YtbamhiegabeicaaGreat.Pat
open Go.RowKit Go.Proofs.YtbamhiegabeicaaGreat.Mem Go.Proofs.YtbamhiegabeicaaGreat.Open Go.Proofs.YtbamhiegabeicaaGreat.Kind Go.Proofs.YtbamhiegabeicaaGreat.Blk Go.Proofs.YtbamhiegabeicaaGreat.App
set_option linter.unusedVariables false
set_option linter.unusedSimpArgs false
theorem two_rows (w : World) (T T2 : TypeId) (p q : Array Value) :
    Row ((w.alloc (.cells p T)).alloc (.cells q T2)) w.heap.size T p ∧ Row ((w.alloc (.cells p T)).alloc (.cells q T2)) (w.heap.size + 1) T2 q ∧ Below w.heap.size w ((w.alloc (.cells p T)).alloc (.cells q T2)) := by
  have h1 : Row (w.alloc (.cells p T)) w.heap.size T p := Row.new _ _ _
  have h2 : Row ((w.alloc (.cells p T)).alloc (.cells q T2)) (w.alloc (.cells p T)).heap.size T2 q := Row.new _ _ _
  have e1 : (w.alloc (.cells p T)).heap.size = w.heap.size + 1 := by simp
  rw [e1] at h2
  exact ⟨h1.alloc _, h2, ((Below.refl _ _).alloc (Nat.le_refl _) _).alloc (by simp) _⟩
/-! ### patch.Meet -/
set_option maxHeartbeats 1000000 in
theorem meet_any (a : Int) (A : Option Addr) (n c : Nat) (b : Int) (A2 : Option Addr) (m c2 : Nat) (w : World) (hn : n ≤ M63) (hm : m ≤ M63) :
    Calls Tryz.prog 102 #[patV a A n c, patV b A2 m c2] w fun e w' => e = .returned (.bool (meetB a n b m)) ∧ Below w.heap.size w w' := by
  obtain ⟨hp, hq, hbel⟩ := two_rows w 52 52 #[.int .i64 a, .slice A n c] #[.int .i64 b, .slice A2 m c2]
  cases h : rightN a n with
  | false =>
    have HM : Hid (meetB a n b m = false) := by unfold meetB; rw [h]; rfl
    have HC := Lib.hid (fun w' => check_no a A n c w' hn h)
    clear h
    go_enter Tryz.func102, Tryz.ntmps102
    go_wp2_with fail
    generalize (w.alloc (.cells #[.int .i64 a, .slice A n c] 52)).alloc (.cells #[.int .i64 b, .slice A2 m c2] 52) = w1 at *
    refine (HC.out _).mono ?_
    rintro e w2 ⟨rfl, hbel2⟩
    have hbel3 := hbel.trans (hbel2.mono hbel.size)
    clear hp hq hbel hbel2
    go_wp2
    go_ret
    exact ⟨ret_bool HM.out.symm, hbel3⟩
  | true =>
    have HC := Lib.hid (fun w' => check_yes a A n c w' h)
    cases h2 : rightN b m with
    | false =>
      have HM : Hid (meetB a n b m = false) := by unfold meetB; rw [h, h2]; rfl
      have HC2 := Lib.hid (fun w' => check_no b A2 m c2 w' hm h2)
      clear h h2
      go_enter Tryz.func102, Tryz.ntmps102
      go_wp2_with fail
      generalize (w.alloc (.cells #[.int .i64 a, .slice A n c] 52)).alloc (.cells #[.int .i64 b, .slice A2 m c2] 52) = w1 at *
      refine (HC.out _).mono ?_
      rintro e w2 ⟨rfl, hbel2⟩
      have hq2 := hq.below hbel2
      have c0 := hq2.cell 0 rfl
      have c1 := hq2.cell 1 rfl
      have hbel3 := hbel.trans (hbel2.mono hbel.size)
      clear hp hq hbel hbel2
      go_wp2_with fail
      refine (HC2.out _).mono ?_
      rintro e w3 ⟨rfl, hbel2⟩
      have hbel4 := hbel3.trans (hbel2.mono hbel3.size)
      clear hbel3 hbel2 c0 c1
      go_wp2
      go_ret
      exact ⟨ret_bool HM.out.symm, hbel4⟩
    | true =>
      have HC2 := Lib.hid (fun w' => check_yes b A2 m c2 w' h2)
      obtain ⟨r1, r2, r3, r4⟩ := (right_iff _ _).1 h
      obtain ⟨s1, s2, s3, s4⟩ := (right_iff _ _).1 h2
      have HM : Hid (meetB a n b m = decide (a < b + m ∧ b < a + n)) := by unfold meetB; rw [h, h2]; rfl
      clear h h2
      by_cases g1 : a < b + m
      · by_cases g2 : b < a + n
        · have HV : Hid (meetB a n b m = true) := by rw [HM.out]; exact decide_eq_true ⟨g1, g2⟩
          go_enter Tryz.func102, Tryz.ntmps102
          go_wp2_with fail
          generalize (w.alloc (.cells #[.int .i64 a, .slice A n c] 52)).alloc (.cells #[.int .i64 b, .slice A2 m c2] 52) = w1 at *
          refine (HC.out _).mono ?_
          rintro e w2 ⟨rfl, hbel2⟩
          have hp2 := hp.below hbel2
          have hq2 := hq.below hbel2
          have c0 := hq2.cell 0 rfl
          have c1 := hq2.cell 1 rfl
          have hbel3 := hbel.trans (hbel2.mono hbel.size)
          clear hp hq hbel hbel2
          go_wp2_with fail
          refine (HC2.out _).mono ?_
          rintro e w3 ⟨rfl, hbel2⟩
          have hbel4 := hbel3.trans (hbel2.mono hbel3.size)
          have d0 := (hp2.below hbel2).cell 0 rfl
          have d1 := (hp2.below hbel2).cell 1 rfl
          have e0 := (hq2.below hbel2).cell 0 rfl
          have e1 := (hq2.below hbel2).cell 1 rfl
          clear hbel3 hbel2 c0 c1 hp2 hq2
          go_wp2
          go_ret
          exact ⟨ret_bool HV.out.symm, hbel4⟩
        · have HV : Hid (meetB a n b m = false) := by rw [HM.out]; exact decide_eq_false (fun h => g2 h.2)
          have hg2 : decide (b < a + (n : Int)) = false := decide_eq_false g2
          go_enter Tryz.func102, Tryz.ntmps102
          go_wp2_with fail
          generalize (w.alloc (.cells #[.int .i64 a, .slice A n c] 52)).alloc (.cells #[.int .i64 b, .slice A2 m c2] 52) = w1 at *
          refine (HC.out _).mono ?_
          rintro e w2 ⟨rfl, hbel2⟩
          have hp2 := hp.below hbel2
          have hq2 := hq.below hbel2
          have c0 := hq2.cell 0 rfl
          have c1 := hq2.cell 1 rfl
          have hbel3 := hbel.trans (hbel2.mono hbel.size)
          clear hp hq hbel hbel2
          go_wp2_with fail
          refine (HC2.out _).mono ?_
          rintro e w3 ⟨rfl, hbel2⟩
          have hbel4 := hbel3.trans (hbel2.mono hbel3.size)
          have d0 := (hp2.below hbel2).cell 0 rfl
          have d1 := (hp2.below hbel2).cell 1 rfl
          have e0 := (hq2.below hbel2).cell 0 rfl
          have e1 := (hq2.below hbel2).cell 1 rfl
          clear hbel3 hbel2 c0 c1 hp2 hq2
          go_wp2
          go_ret
          exact ⟨ret_bool HV.out.symm, hbel4⟩
      · have HV : Hid (meetB a n b m = false) := by rw [HM.out]; exact decide_eq_false (fun h => g1 h.1)
        go_enter Tryz.func102, Tryz.ntmps102
        go_wp2_with fail
        generalize (w.alloc (.cells #[.int .i64 a, .slice A n c] 52)).alloc (.cells #[.int .i64 b, .slice A2 m c2] 52) = w1 at *
        refine (HC.out _).mono ?_
        rintro e w2 ⟨rfl, hbel2⟩
        have hp2 := hp.below hbel2
        have hq2 := hq.below hbel2
        have c0 := hq2.cell 0 rfl
        have c1 := hq2.cell 1 rfl
        have hbel3 := hbel.trans (hbel2.mono hbel.size)
        clear hp hq hbel hbel2
        go_wp2_with fail
        refine (HC2.out _).mono ?_
        rintro e w3 ⟨rfl, hbel2⟩
        have hbel4 := hbel3.trans (hbel2.mono hbel3.size)
        have d0 := (hp2.below hbel2).cell 0 rfl
        have e0 := (hq2.below hbel2).cell 0 rfl
        have e1 := (hq2.below hbel2).cell 1 rfl
        clear hbel3 hbel2 c0 c1 hp2 hq2
        go_wp2
        go_ret
        exact ⟨ret_bool HV.out.symm, hbel4⟩
/-! ### patch.Same -/
/-- Are patches the same? -/
def psameB (a : Int) (d : List Nat) (b : Int) (f : List Nat) : Bool := decide (a = b ∧ d = f)
/-! ### the document's Lay, Cut -/
set_option maxHeartbeats 1000000 in
set_option maxRecDepth 100000 in
theorem rlay1_any (A : Option Addr) (c : Nat) (b : List Nat) (a : Nat) (A2 : Option Addr) (c2 : Nat) (d : List Nat) (w : World) (hb : By w A b) (hd : By w A2 d) (hb2 : b.length ≤ 100000) (ha : a ≤ 100000) :
    Calls Tryz.prog 104 #[.slice A b.length c, .int .i64 (a : Int), .slice A2 d.length c2] w fun e w' => ∃ A' c', e = .returned (.slice A' b.length c') ∧ b.length ≤ c' ∧ c' ≤ M63 ∧ (A' = none → c' = 0) ∧ ByF w' w.heap.size A' (layR b a d) ∧ Below w.heap.size w w' := by
  have hdl := hd.2.1
  unfold M63 at hdl
  have hbb := hb.lt_byte
  have hdb := hd.lt_byte
  have hb1 := hb.sl_byte
  have hd1 := hd.sl_byte
  have hR := layR_length b a d
  obtain ⟨R, hRe⟩ : ∃ R, layR b a d = R := ⟨_, rfl⟩
  have HG : Hid (∀ k, (hk : k < b.length) → R[k]? = some (if a ≤ k ∧ k - a < d.length then d.getD (k - a) 0 else b.getD k 0)) := fun k hk => by rw [← hRe]; exact layR_get b a d k hk
  have HB : Hid (∀ x ∈ R, x < 256) := by
    intro x hx
    obtain ⟨k, hk, rfl⟩ := List.mem_iff_getElem.1 hx
    have := HG.out k (by rw [← hR, hRe]; exact hk)
    rw [List.getElem?_eq_getElem hk] at this
    rw [Option.some.inj this]
    split
    · rename_i h; rw [getD_at _ _ h.2]; exact hdb _ (List.getElem_mem _)
    · rw [getD_at _ _ (by rw [← hR, hRe]; exact hk)]; exact hbb _ (List.getElem_mem _)
  rw [hRe] at hR ⊢
  clear hRe hb hd
  go_enter Tryz.func104, Tryz.ntmps104
  go_wp2
  go_loopw [7, 8] (fun v i wr => ∃ (u : Value) (k : Nat), u = v ∧ k ≤ b.length ∧ i = .int .i64 k ∧ Own wr w.heap.size 5 V8 u (R.take k) ∧ Below w.heap.size w wr) (fun _ i _ => b.length - (intOf i).toNat)
  case atStart => exact ⟨_, 0, rfl, by omega, rfl, Own.nil _ _ _ _, Below.refl _ _⟩
  case round =>
    obtain ⟨u, k, rfl, hk, rfl, hown, hbel⟩ := hrel
    have hB := hbel.size
    by_cases hlt : k < b.length
    · obtain ⟨ad, rfl, hadb, hcell⟩ := (hb1.below hbel).at_ hlt
      have hx := HG.out k hlt
      have htl : (R.take k).length ≤ k := by rw [List.length_take]; omega
      unfold V8 at hcell
      by_cases hak : a ≤ k
      · obtain ⟨q, rfl⟩ : ∃ q, k = a + q := ⟨k - a, by omega⟩
        rw [show a + q - a = q from by omega] at hx
        have hsub : ((a + q : Nat) : Int) - (a : Int) = (q : Int) := by omega
        have hge : decide ((a : Int) ≤ ((a + q : Nat) : Int)) = true := decide_eq_true (by omega)
        by_cases hq : q < d.length
        · obtain ⟨ad2, rfl, hadb2, hcell2⟩ := (hd1.below hbel).at_ hq
          rw [if_pos ⟨hak, hq⟩, getD_at _ _ hq] at hx
          have HT := Lib.hid (take_succ' R _ _ hx)
          unfold V8 at hcell2
          generalize d[q] = y at *
          clear hx
          have hc1 : (wr.alloc (.cells #[.int .u8 (y : Int)] 5)).cell? ⟨wr.heap.size, 0, none⟩ = some (V8 y) := by
            rw [cell_of_row _ _ _ _ _ _ (heap_alloc_new wr _)]; rfl
          go_wp2_with (at_builtin; refine wpList_app1 rfl _ _ 44 rfl w.heap.size 5 (V8 0) 1 V8 Tryz.underlying44 u8Info rfl u (R.take (a + q)) y rfl _ wr.heap.size rfl (hown.alloc _) hc1 rfl (by omega) (by omega) (by simp; omega) ?_; intro v1 w2 hown2 hbel2 hg2)
          go_roundw
          case rel => exact ⟨_, a + q + 1, rfl, by omega, by go_num, by rw [HT.out]; exact hown2, (hbel.alloc hB _).trans hbel2⟩
          case measure => simp [intOf]; omega
        · rw [if_neg (fun h => hq h.2), getD_at _ _ hlt] at hx
          have HT := Lib.hid (take_succ' R _ _ hx)
          generalize b[a + q] = y at *
          clear hx
          have hc1 : (wr.alloc (.cells #[.int .u8 (y : Int)] 5)).cell? ⟨wr.heap.size, 0, none⟩ = some (V8 y) := by
            rw [cell_of_row _ _ _ _ _ _ (heap_alloc_new wr _)]; rfl
          go_wp2_with (at_builtin; refine wpList_app1 rfl _ _ 44 rfl w.heap.size 5 (V8 0) 1 V8 Tryz.underlying44 u8Info rfl u (R.take (a + q)) y rfl _ wr.heap.size rfl (hown.alloc _) hc1 rfl (by omega) (by omega) (by simp; omega) ?_; intro v1 w2 hown2 hbel2 hg2)
          go_roundw
          case rel => exact ⟨_, a + q + 1, rfl, by omega, by go_num, by rw [HT.out]; exact hown2, (hbel.alloc hB _).trans hbel2⟩
          case measure => simp [intOf]; omega
      · rw [if_neg (fun h => hak h.1), getD_at _ _ hlt] at hx
        have hge : decide ((a : Int) ≤ (k : Int)) = false := decide_eq_false (by omega)
        have HT := Lib.hid (take_succ' R _ _ hx)
        generalize b[k] = y at *
        clear hx
        have hc1 : (wr.alloc (.cells #[.int .u8 (y : Int)] 5)).cell? ⟨wr.heap.size, 0, none⟩ = some (V8 y) := by
          rw [cell_of_row _ _ _ _ _ _ (heap_alloc_new wr _)]; rfl
        go_wp2_with (at_builtin; refine wpList_app1 rfl _ _ 44 rfl w.heap.size 5 (V8 0) 1 V8 Tryz.underlying44 u8Info rfl u (R.take k) y rfl _ wr.heap.size rfl (hown.alloc _) hc1 rfl (by omega) (by omega) (by simp; omega) ?_; intro v1 w2 hown2 hbel2 hg2)
        go_roundw
        case rel => exact ⟨_, k + 1, rfl, by omega, by go_num, by rw [HT.out]; exact hown2, (hbel.alloc hB _).trans hbel2⟩
        case measure => simp [intOf]; omega
    · have HT : Hid (R.take k = R) := List.take_of_length_le (by omega)
      rw [HT.out] at hown
      obtain ⟨A', c', rfl, q1, q2, q3, q4⟩ := own_byF hown HB.out
      rw [hR] at q1 ⊢
      go_wp2
      go_ret
      exact ⟨A', c', rfl, q1, q2, q3, q4, hbel⟩
end Go.Proofs.YtbamhiegabeicaaGreat.Pat

/- Patches, on: the document's Cut, Lay, In, Meet, Was, Same. -/
namespace Go.Proofs.YtbamhiegabeicaaGreat.Pat
open Go.RowKit Go.Proofs.YtbamhiegabeicaaGreat.Mem Go.Proofs.YtbamhiegabeicaaGreat.Open Go.Proofs.YtbamhiegabeicaaGreat.Kind Go.Proofs.YtbamhiegabeicaaGreat.Blk Go.Proofs.YtbamhiegabeicaaGreat.App
set_option linter.unusedVariables false
set_option linter.unusedSimpArgs false
/-- Is a byte of a block in a patch that may be? -/
def inB (a : Int) (n : Nat) (i : Nat) : Bool := rightN a n && decide (a ≤ i ∧ (i : Int) < a + n)
set_option maxHeartbeats 1000000 in
set_option maxRecDepth 100000 in
theorem in_any (a : Int) (A : Option Addr) (n c : Nat) (i : Nat) (w : World) (hn : n ≤ M63) (hi : i ≤ 1000) :
    Calls Tryz.prog 103 #[patV a A n c, .int .i64 (i : Int)] w fun e w' => e = .returned (.bool (inB a n i)) ∧ Below w.heap.size w w' := by
  have hr := Row.new w 46 #[.int .i64 a, .slice A n c]
  have hbel := (Below.refl w.heap.size w).alloc (Nat.le_refl _) (.cells #[.int .i64 a, .slice A n c] 46)
  have CR := Lib.hid (fun w' => right_any a A n c w' hn)
  cases h : rightN a n with
  | false =>
    have HV : Hid (inB a n i = false) := by unfold inB; rw [h]; rfl
    rw [h] at CR
    clear h
    go_enter Tryz.func103, Tryz.ntmps103
    go_wp2_with fail
    generalize w.alloc (.cells #[.int .i64 a, .slice A n c] 46) = w1 at *
    refine (CR.out _).mono ?_
    rintro e w2 ⟨rfl, hbel2⟩
    go_wp2
    go_ret
    exact ⟨ret_bool HV.out.symm, hbel.trans (hbel2.mono hbel.size)⟩
  | true =>
    obtain ⟨h1, h2, h3, h4⟩ := (right_iff _ _).1 h
    have HM : Hid (inB a n i = decide (a ≤ i ∧ (i : Int) < a + n)) := by unfold inB; rw [h]; rfl
    rw [h] at CR
    clear h
    by_cases g1 : a ≤ (i : Int)
    · have hg1 : decide (a ≤ (i : Int)) = true := decide_eq_true g1
      by_cases g2 : (i : Int) < a + n
      · have HV : Hid (inB a n i = true) := by rw [HM.out]; exact decide_eq_true ⟨g1, g2⟩
        have hg2 : decide ((i : Int) < a + n) = true := decide_eq_true g2
        go_enter Tryz.func103, Tryz.ntmps103
        go_wp2_with fail
        generalize w.alloc (.cells #[.int .i64 a, .slice A n c] 46) = w1 at *
        refine (CR.out _).mono ?_
        rintro e w2 ⟨rfl, hbel2⟩
        have c0 := (hr.below hbel2).cell 0 rfl
        have c1 := (hr.below hbel2).cell 1 rfl
        have hbel3 := hbel.trans (hbel2.mono hbel.size)
        clear hr hbel hbel2
        go_wp2
        go_ret
        exact ⟨ret_bool HV.out.symm, hbel3⟩
      · have HV : Hid (inB a n i = false) := by rw [HM.out]; exact decide_eq_false (fun h => g2 h.2)
        have hg2 : decide ((i : Int) < a + n) = false := decide_eq_false g2
        go_enter Tryz.func103, Tryz.ntmps103
        go_wp2_with fail
        generalize w.alloc (.cells #[.int .i64 a, .slice A n c] 46) = w1 at *
        refine (CR.out _).mono ?_
        rintro e w2 ⟨rfl, hbel2⟩
        have c0 := (hr.below hbel2).cell 0 rfl
        have c1 := (hr.below hbel2).cell 1 rfl
        have hbel3 := hbel.trans (hbel2.mono hbel.size)
        clear hr hbel hbel2
        go_wp2
        go_ret
        exact ⟨ret_bool HV.out.symm, hbel3⟩
    · have HV : Hid (inB a n i = false) := by rw [HM.out]; exact decide_eq_false (fun h => g1 h.1)
      have hg1 : decide (a ≤ (i : Int)) = false := decide_eq_false g1
      go_enter Tryz.func103, Tryz.ntmps103
      go_wp2_with fail
      generalize w.alloc (.cells #[.int .i64 a, .slice A n c] 46) = w1 at *
      refine (CR.out _).mono ?_
      rintro e w2 ⟨rfl, hbel2⟩
      have c0 := (hr.below hbel2).cell 0 rfl
      have c1 := (hr.below hbel2).cell 1 rfl
      have hbel3 := hbel.trans (hbel2.mono hbel.size)
      clear hr hbel hbel2
      go_wp2
      go_ret
      exact ⟨ret_bool HV.out.symm, hbel3⟩
/-! ### the document's Meet -/
theorem meet_iff (a : Int) (n : Nat) (b : Int) (m : Nat) : meetB a n b m = true ↔ ∃ i, i < 256 ∧ inB a n i = true ∧ inB b m i = true := by
  unfold meetB inB
  simp only [Bool.and_eq_true, decide_eq_true_eq]
  constructor
  · rintro ⟨⟨h1, h2⟩, h3, h4⟩
    have r1 := (right_iff _ _).1 h1
    have r2 := (right_iff _ _).1 h2
    refine ⟨(max a b).toNat, by omega, ⟨h1, by omega, by omega⟩, ⟨h2, by omega, by omega⟩⟩
  · rintro ⟨i, hi, ⟨h1, h3, h4⟩, ⟨h2, h5, h6⟩⟩
    exact ⟨⟨h1, h2⟩, by omega, by omega⟩
set_option maxHeartbeats 1000000 in
set_option maxRecDepth 100000 in
theorem rmeet_any (a : Int) (A : Option Addr) (n c : Nat) (b : Int) (A2 : Option Addr) (m c2 : Nat) (w : World) (hn : n ≤ M63) (hm : m ≤ M63) :
    Calls Tryz.prog 92 #[patV a A n c, patV b A2 m c2] w fun e w' => e = .returned (.bool (meetB a n b m)) ∧ Below w.heap.size w w' := by
  obtain ⟨hp, hq, hbel⟩ := two_rows w 46 46 #[.int .i64 a, .slice A n c] #[.int .i64 b, .slice A2 m c2]
  have CA := Lib.hid (fun i w' => in_any a A n c i w' hn)
  have CB := Lib.hid (fun i w' => in_any b A2 m c2 i w' hm)
  have HI := Lib.hid (meet_iff a n b m)
  go_enter Tryz.func92, Tryz.ntmps92
  go_wp2
  generalize (w.alloc (.cells #[.int .i64 a, .slice A n c] 46)).alloc (.cells #[.int .i64 b, .slice A2 m c2] 46) = w1 at *
  obtain ⟨g, hg⟩ : ∃ g, w.heap.size = g := ⟨_, rfl⟩
  have HGe := Lib.hid hg
  rw [hg] at hp hq hbel ⊢
  clear hg
  go_loopw [5] (fun i wr => ∃ k : Nat, k ≤ 256 ∧ i = .int .i64 k ∧ Row wr g 46 #[.int .i64 a, .slice A n c] ∧ Row wr (g + 1) 46 #[.int .i64 b, .slice A2 m c2] ∧ Below g w wr ∧ (∀ j, j < k → ¬ (inB a n j = true ∧ inB b m j = true))) (fun i _ => 256 - (intOf i).toNat)
  case atStart => exact ⟨0, by omega, rfl, hp, hq, hbel, fun j h => by omega⟩
  case round =>
    clear hp hq hbel
    obtain ⟨k, hk, rfl, hp, hq, hbel, hno⟩ := hrel
    have HN := Lib.hid hno
    clear hno
    have hgs : g ≤ wr.heap.size := by have := hp.lt; omega
    have c0 := hp.cell 0 rfl
    have c1 := hp.cell 1 rfl
    by_cases hlt : k < 256
    · have C1 := Lib.hid (fun w' => CA.out k w' (by omega))
      have C2 := Lib.hid (fun w' => CB.out k w' (by omega))
      cases h1 : inB a n k with
      | false =>
        have HN2 : Hid (∀ j, j < k + 1 → ¬ (inB a n j = true ∧ inB b m j = true)) := by
          intro j hj
          by_cases e : j = k
          · subst e; rw [h1]; exact fun h => Bool.noConfusion h.1
          · exact HN.out j (by omega)
        rw [h1] at C1
        clear h1
        go_wp2_with fail
        refine (C1.out _).mono ?_
        rintro e w2 ⟨rfl, hbel2⟩
        have hp2 := hp.below hbel2
        have hq2 := hq.below hbel2
        have hbel3 := hbel.trans (hbel2.mono hgs)
        clear hp hq hbel hbel2 c0 c1
        go_wp2
        go_roundw
        case rel => exact ⟨k + 1, by omega, by go_num, hp2, hq2, hbel3, HN2.out⟩
        case measure => simp [intOf]; omega
      | true =>
        rw [h1] at C1
        cases h2 : inB b m k with
        | false =>
          have HN2 : Hid (∀ j, j < k + 1 → ¬ (inB a n j = true ∧ inB b m j = true)) := by
            intro j hj
            by_cases e : j = k
            · subst e; rw [h2]; exact fun h => Bool.noConfusion h.2
            · exact HN.out j (by omega)
          rw [h2] at C2
          clear h1 h2
          go_wp2_with fail
          refine (C1.out _).mono ?_
          rintro e w2 ⟨rfl, hbel2⟩
          have hp2 := hp.below hbel2
          have hq2 := hq.below hbel2
          have hbel3 := hbel.trans (hbel2.mono hgs)
          have hgs2 : g ≤ w2.heap.size := by have := hp2.lt; omega
          clear hp hq hbel hbel2 c0 c1
          have c0 := hq2.cell 0 rfl
          have c1 := hq2.cell 1 rfl
          go_wp2_with fail
          refine (C2.out _).mono ?_
          rintro e w3 ⟨rfl, hbel4⟩
          have hp3 := hp2.below hbel4
          have hq3 := hq2.below hbel4
          have hbel5 := hbel3.trans (hbel4.mono hgs2)
          clear hp2 hq2 hbel3 hbel4 c0 c1
          go_wp2
          go_roundw
          case rel => exact ⟨k + 1, by omega, by go_num, hp3, hq3, hbel5, HN2.out⟩
          case measure => simp [intOf]; omega
        | true =>
          have HV : Hid (meetB a n b m = true) := HI.out.2 ⟨k, hlt, h1, h2⟩
          rw [h2] at C2
          clear h1 h2
          go_wp2_with fail
          refine (C1.out _).mono ?_
          rintro e w2 ⟨rfl, hbel2⟩
          have hq2 := hq.below hbel2
          have hp2 := hp.below hbel2
          have hbel3 := hbel.trans (hbel2.mono hgs)
          have hgs2 : g ≤ w2.heap.size := by have := hp2.lt; omega
          clear hp hq hbel hbel2 c0 c1
          have c0 := hq2.cell 0 rfl
          have c1 := hq2.cell 1 rfl
          go_wp2_with fail
          refine (C2.out _).mono ?_
          rintro e w3 ⟨rfl, hbel4⟩
          have hbel5 := hbel3.trans (hbel4.mono hgs2)
          clear hp2 hq2 hbel3 hbel4 c0 c1
          go_wp2
          go_ret
          exact ⟨ret_bool HV.out.symm, by rw [HGe.out]; exact hbel5⟩
    · have HV : Hid (meetB a n b m = false) := by
        cases hm2 : meetB a n b m with
        | false => exact (rfl : _ = _)
        | true =>
          obtain ⟨i, hi, h1, h2⟩ := HI.out.1 hm2
          exact absurd ⟨h1, h2⟩ (HN.out i (by omega))
      go_wp2
      go_ret
      exact ⟨ret_bool HV.out.symm, by rw [HGe.out]; exact hbel⟩
end Go.Proofs.YtbamhiegabeicaaGreat.Pat


