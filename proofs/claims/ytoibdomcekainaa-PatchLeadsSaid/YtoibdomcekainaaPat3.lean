/- Patches, on: what lies there, whether two meet, are the same; the document's. -/
import Derived.Test.YtoibdomcekainaaPat2
import Derived.Test.YtoibdomcekainaaSame
namespace Go.Proofs.Ytoibdomcekainaa.Pat
open Go.RowKit Go.Proofs.Ytoibdomcekainaa.Mem Go.Proofs.Ytoibdomcekainaa.Open Go.Proofs.Ytoibdomcekainaa.Kind Go.Proofs.Ytoibdomcekainaa.Blk Go.Proofs.Ytoibdomcekainaa.App
set_option linter.unusedVariables false
set_option linter.unusedSimpArgs false
/-! ### plain -/
def layR (b : List Nat) (a : Nat) (d : List Nat) : List Nat := (List.range b.length).map fun i => if a ≤ i ∧ i - a < d.length then d.getD (i - a) 0 else b.getD i 0
theorem layR_length (b : List Nat) (a : Nat) (d : List Nat) : (layR b a d).length = b.length := by unfold layR; simp
theorem layR_get (b : List Nat) (a : Nat) (d : List Nat) (i : Nat) (hi : i < b.length) : (layR b a d)[i]? = some (if a ≤ i ∧ i - a < d.length then d.getD (i - a) 0 else b.getD i 0) := by
  unfold layR
  rw [List.getElem?_map, List.getElem?_range hi]; rfl
theorem layR_eq (b : List Nat) (a : Nat) (d : List Nat) (h : a + d.length ≤ b.length) : layR b a d = layK b a d d.length := by
  apply List.ext_getElem?
  intro j
  rw [layK_get _ _ _ _ _ h]
  by_cases hj : j < b.length
  · rw [layR_get _ _ _ _ hj]
    by_cases h2 : a ≤ j ∧ j - a < d.length
    · rw [if_pos h2, if_pos (by omega)]
    · rw [if_neg h2, if_neg (by omega), List.getD_eq_getElem?_getD, List.getElem?_eq_getElem hj]; rfl
  · rw [List.getElem?_eq_none (by rw [layR_length]; omega), if_neg (by omega), List.getElem?_eq_none (by omega)]
theorem getD_at (l : List Nat) (i : Nat) (hi : i < l.length) : l.getD i 0 = l[i] := by rw [List.getD_eq_getElem?_getD, List.getElem?_eq_getElem hi]; rfl
/-- What lies where a patch is laid. -/
def wasD (l : List Nat) (a : Int) (n : Nat) : List Nat := if rightN a n then (l.drop a.toNat).take n else []
def wasA (a : Int) (n : Nat) : Int := if rightN a n then a else 0
theorem wasD_byte (l : List Nat) (a : Int) (n : Nat) (hl : ∀ x ∈ l, x < 256) : ∀ x ∈ wasD l a n, x < 256 := by
  unfold wasD; split
  · intro x hx; exact hl x (List.mem_of_mem_drop (List.mem_of_mem_take hx))
  · intro x hx; cases hx
theorem wasD_length (l : List Nat) (a : Int) (n : Nat) (hl : l.length = 256) : (wasD l a n).length = if rightN a n then n else 0 := by
  unfold wasD; split
  · rename_i h; have := (right_iff _ _).1 h; rw [List.length_take, List.length_drop]; omega
  · rfl
def meetB (a : Int) (n : Nat) (b : Int) (m : Nat) : Bool := rightN a n && rightN b m && decide (a < b + m ∧ b < a + n)
theorem take_succ' {α : Type} (l : List α) (k : Nat) (x : α) (h : l[k]? = some x) : l.take (k + 1) = l.take k ++ [x] := by
  rw [List.take_add_one, h]; rfl

/-! ### Of, patch.Was -/
set_option maxHeartbeats 1000000 in
theorem of_any (a : Int) (A : Option Addr) (n c : Nat) (w : World) :
    Calls Try.prog 34 #[patV a A n c] w fun e w' => e = .returned (patV a A n c) ∧ Below w.heap.size w w' := by
  have hr1 : Row (w.alloc (.cells #[.int .i64 a, .slice A n c] 36)) w.heap.size 36 #[.int .i64 a, .slice A n c] := Row.new _ _ _
  have hr2 : Row ((w.alloc (.cells #[.int .i64 a, .slice A n c] 36)).alloc (.cells #[.int .i64 0, .slice none 0 0] 34)) (w.alloc (.cells #[.int .i64 a, .slice A n c] 36)).heap.size 34 #[.int .i64 0, .slice none 0 0] := Row.new _ _ _
  have e1 : (w.alloc (.cells #[.int .i64 a, .slice A n c] 36)).heap.size = w.heap.size + 1 := by simp
  rw [e1] at hr2
  have hbel := ((Below.refl w.heap.size w).alloc (Nat.le_refl _) (.cells #[.int .i64 a, .slice A n c] 36)).alloc (by simp) (.cells #[.int .i64 0, .slice none 0 0] 34)
  go_enter Try.func34, Try.ntmps34
  go_wp2_with (with_reducible refine wpList_storeRow rfl 34 _ _ rfl (w.heap.size + 1) rfl #[.int .i64 a, .slice A n c] rfl #[.int .i64 0, .slice none 0 0] 34 2 rpatSize rfl rfl (pat_one _ _ _ _) hr2 ?_)
  exact bodyPost_ret (v := patV a A n c) (results_cell_row rfl _ _ (w.heap.size + 1) 34 #[.int .i64 a, .slice A n c] (0, 0) _ rfl (hr2.set _) Try.underlying34 rfl rpatSize) rfl
    ⟨rfl, below_setRow hbel (by omega) _⟩
theorem two (w : World) (l : List Nat) (T T2 T3 : TypeId) (p q : Array Value) :
    Box (((w.alloc (.cells (blk l) T)).alloc (.cells p T2)).alloc (.cells q T3)) w.heap.size T l ∧ Row (((w.alloc (.cells (blk l) T)).alloc (.cells p T2)).alloc (.cells q T3)) (w.heap.size + 1) T2 p ∧
    Row (((w.alloc (.cells (blk l) T)).alloc (.cells p T2)).alloc (.cells q T3)) (w.heap.size + 1 + 1) T3 q ∧ Below w.heap.size w (((w.alloc (.cells (blk l) T)).alloc (.cells p T2)).alloc (.cells q T3)) := by
  have h1 : Row (w.alloc (.cells (blk l) T)) w.heap.size T (blk l) := Row.new _ _ _
  have h2 : Row ((w.alloc (.cells (blk l) T)).alloc (.cells p T2)) (w.alloc (.cells (blk l) T)).heap.size T2 p := Row.new _ _ _
  have h3 : Row (((w.alloc (.cells (blk l) T)).alloc (.cells p T2)).alloc (.cells q T3)) ((w.alloc (.cells (blk l) T)).alloc (.cells p T2)).heap.size T3 q := Row.new _ _ _
  have e1 : (w.alloc (.cells (blk l) T)).heap.size = w.heap.size + 1 := by simp
  have e2 : ((w.alloc (.cells (blk l) T)).alloc (.cells p T2)).heap.size = w.heap.size + 1 + 1 := by simp
  have h2a := h2.alloc (.cells q T3)
  rw [e1] at h2a
  rw [e2] at h3
  exact ⟨(h1.alloc _).alloc _, h2a, h3, (((Below.refl _ _).alloc (Nat.le_refl _) _).alloc (by simp) _).alloc (by simp; omega) _⟩
/-- A part of a block, read as bytes. -/
theorem box_part {w : World} {g : Nat} {T : TypeId} {l : List Nat} (h : Box w g T l) (a n : Nat) (hn : a + n ≤ l.length) (h256 : l.length = 256) : Sl w V8 (some ⟨g, a, none⟩) n ((l.drop a).take n) := by
  refine ⟨by rw [List.length_take, List.length_drop]; omega, by omega, fun i x hx => ⟨_, rfl, h.lt, ?_⟩⟩
  rw [addr_add]
  rw [List.getElem?_take] at hx
  split at hx
  · rw [List.getElem?_drop] at hx
    obtain ⟨hi, rfl⟩ := List.getElem?_eq_some_iff.1 hx
    exact h.cell (a + i) hi
  · cases hx
set_option maxHeartbeats 1000000 in
set_option maxRecDepth 100000 in
theorem was_any (l : List Nat) (a : Int) (A : Option Addr) (n c : Nat) (w : World) (hl : l.length = 256) (hb : ∀ x ∈ l, x < 256) (hn : n ≤ M63) :
    Calls Try.prog 21 #[.agg (blk l), patV a A n c] w fun e w' => ∃ A' c', e = .returned (patV (wasA a n) A' (wasD l a n).length c') ∧ (wasD l a n).length ≤ c' ∧ c' ≤ M63 ∧ (A' = none → c' = 0) ∧ ByF w' w.heap.size A' (wasD l a n) ∧ Below w.heap.size w w' := by
  have hs : (blk l).size = 256 := by rw [blk_size]; exact hl
  obtain ⟨hbx, hp, hq, hbel⟩ := two w l 28 36 36 #[.int .i64 a, .slice A n c] #[.int .i64 0, .slice none 0 0]
  cases h : rightN a n with
  | false =>
    have e1 : wasA a n = 0 := by unfold wasA; rw [h]; rfl
    have e2 : wasD l a n = [] := by unfold wasD; rw [h]; rfl
    rw [e1, e2]
    have HR := Lib.hid h
    clear h e1 e2
    go_enter Try.func21, Try.ntmps21
    go_wp2_with fail
    generalize ((w.alloc (.cells (blk l) 28)).alloc (.cells #[.int .i64 a, .slice A n c] 36)).alloc (.cells #[.int .i64 0, .slice none 0 0] 36) = w1 at *
    refine (check_no a A n c _ hn HR.out).mono ?_
    rintro e w2 ⟨rfl, hbel2⟩
    have hq2 := hq.below hbel2
    have hbel3 := hbel.trans (hbel2.mono hbel.size)
    clear hbx hq hp hbel hbel2
    go_wp2_with (with_reducible refine wpList_storeRow rfl 36 _ _ rfl (w.heap.size + 1 + 1) rfl #[.int .i64 0, .slice none 0 0] rfl #[.int .i64 0, .slice none 0 0] 36 2 patSize rfl rfl (pat_one _ _ _ _) hq2 ?_)
    exact bodyPost_ret (v := patV 0 none 0 0) (results_cell_row rfl _ _ (w.heap.size + 1 + 1) 36 #[.int .i64 0, .slice none 0 0] (0, 0) _ rfl (hq2.set _) Try.underlying36 rfl patSize) rfl
      ⟨none, 0, rfl, by simp, by simp, fun _ => rfl, Rw.nil _ _ _ _, below_setRow hbel3 (by omega) _⟩
  | true =>
    have hdb := wasD_byte l a n hb
    have hdl := wasD_length l a n hl
    rw [h, if_pos rfl] at hdl
    have e1 : wasA a n = a := by unfold wasA; rw [h]; rfl
    have e2 : wasD l a n = (l.drop a.toNat).take n := by unfold wasD; rw [h]; rfl
    rw [e1]
    obtain ⟨h1, h2, h3, h4⟩ := (right_iff _ _).1 h
    obtain ⟨q, rfl⟩ := Int.eq_ofNat_of_zero_le h3
    rw [Int.toNat_natCast] at e2
    have HR := Lib.hid h
    have HE := Lib.hid e2
    clear h e1 e2
    obtain ⟨D, hD⟩ : ∃ D, wasD l (q : Int) n = D := ⟨_, rfl⟩
    rw [hD] at hdb hdl HE ⊢
    clear hD
    subst hdl
    go_enter Try.func21, Try.ntmps21
    go_wp2_with fail
    generalize ((w.alloc (.cells (blk l) 28)).alloc (.cells #[.int .i64 (q : Int), .slice A D.length c] 36)).alloc (.cells #[.int .i64 0, .slice none 0 0] 36) = w1 at *
    refine (check_yes (q : Int) A D.length c _ HR.out).mono ?_
    rintro e w2 ⟨rfl, hbel2⟩
    have hb2 : Box w2 w.heap.size 28 l := hbx.below hbel2 hbx.lt
    have hp2 := hp.below hbel2
    have hq2 := hq.below hbel2
    have hbel3 := hbel.trans (hbel2.mono hbel.size)
    clear hbx hq hp hbel hbel2
    have hsl := box_part hb2 q D.length (by omega) hl
    rw [← HE.out] at hsl
    have hpd := hp2.drew
    have hqd := hq2.drew
    have hlt2 := hq2.lt
    have i1 : (0 : Int) ≤ (q : Int) := by omega
    have i2 : (q : Int) ≤ (q : Int) + (D.length : Int) := by omega
    have i3 : (q : Int) + (D.length : Int) ≤ 256 := by omega
    have i5 : ((q : Int) + (D.length : Int)).toNat - q = D.length := by omega
    have i4 : IntKind.i64.wrap ((q : Int) + (D.length : Int)) = (q : Int) + (D.length : Int) := by
      unfold IntKind.wrap; simp [IntKind.signed, IntKind.bits]; omega
    go_wp2
    refine wp_region_held_drew (S := Go.RowKit.Below (w.heap.size + 1 + 1) (w2.drew)) (by kernel_rfl) ?hb5 (fun hHeld => ?rest5)
    case hb5 =>
      exact Go.RowKit.Below.refl _ _
    case' rest5 => skip
    refine wpAnyH_take (i := 0) (v := ?v6) rfl (by kernel_rfl) (by kernel_rfl) (by kernel_rfl) (fun _ _ _ h => h) (Or.inl ⟨by rfl, ?y6⟩) (by assumption) ?rest6
    case y6 => (intro w hSw; have hT0 := (Mem.bl_row hSw hpd (by first | exact Mem.Row.lt hpd | omega | (simp <;> omega))).cell 0 rfl; have hT1 := (Mem.bl_row hSw hpd (by first | exact Mem.Row.lt hpd | omega | (simp <;> omega))).cell 1 rfl; clear hSw; go_simp; try with_reducible rfl)
    case' rest6 => skip
    try simp only [List.getElem_toArray, List.getElem_cons_succ, List.getElem_cons_zero, Act.put, List.setIfInBounds_toArray, List.set_cons_zero, List.set_cons_succ]
    refine wpAnyH_take (i := 1) (v := ?v7) rfl (by kernel_rfl) (by kernel_rfl) (by kernel_rfl) (fun _ _ _ h => h) (Or.inl ⟨by rfl, ?y7⟩) (by assumption) ?rest7
    case y7 => (intro w hSw; have hT0 := (Mem.bl_row hSw hpd (by first | exact Mem.Row.lt hpd | omega | (simp <;> omega))).cell 0 rfl; have hT1 := (Mem.bl_row hSw hpd (by first | exact Mem.Row.lt hpd | omega | (simp <;> omega))).cell 1 rfl; clear hSw; go_simp; try with_reducible rfl)
    case' rest7 => skip
    try simp only [List.getElem_toArray, List.getElem_cons_succ, List.getElem_cons_zero, Act.put, List.setIfInBounds_toArray, List.set_cons_zero, List.set_cons_succ]
    refine wpAnyH_take (i := 3) (v := ?v8) rfl (by kernel_rfl) (by kernel_rfl) (by kernel_rfl) (fun _ _ _ h => h) (Or.inl ⟨by rfl, ?y8⟩) (by assumption) ?rest8
    case y8 => (intro w hSw; have hT0 := (Mem.bl_row hSw hpd (by first | exact Mem.Row.lt hpd | omega | (simp <;> omega))).cell 0 rfl; have hT1 := (Mem.bl_row hSw hpd (by first | exact Mem.Row.lt hpd | omega | (simp <;> omega))).cell 1 rfl; clear hSw; go_simp; try with_reducible rfl)
    case' rest8 => skip
    try simp only [List.getElem_toArray, List.getElem_cons_succ, List.getElem_cons_zero, Act.put, List.setIfInBounds_toArray, List.set_cons_zero, List.set_cons_succ]
    refine wpAnyH_take (i := 4) (v := ?v9) rfl (by kernel_rfl) (by kernel_rfl) (by kernel_rfl) (fun _ _ _ h => h) (Or.inl ⟨by rfl, ?y9⟩) (by assumption) ?rest9
    case y9 => (intro w hSw; have hT0 := (Mem.bl_row hSw hpd (by first | exact Mem.Row.lt hpd | omega | (simp <;> omega))).cell 0 rfl; have hT1 := (Mem.bl_row hSw hpd (by first | exact Mem.Row.lt hpd | omega | (simp <;> omega))).cell 1 rfl; clear hSw; go_simp; try with_reducible rfl)
    case' rest9 => skip
    try simp only [List.getElem_toArray, List.getElem_cons_succ, List.getElem_cons_zero, Act.put, List.setIfInBounds_toArray, List.set_cons_zero, List.set_cons_succ]
    refine wpAnyH_take (i := 5) (v := ?v10) rfl (by kernel_rfl) (by kernel_rfl) (by kernel_rfl) (fun _ _ _ h => h) (Or.inl ⟨by rfl, ?y10⟩) (by assumption) ?rest10
    case y10 => (intro w hSw; have hT0 := (Mem.bl_row hSw hpd (by first | exact Mem.Row.lt hpd | omega | (simp <;> omega))).cell 0 rfl; have hT1 := (Mem.bl_row hSw hpd (by first | exact Mem.Row.lt hpd | omega | (simp <;> omega))).cell 1 rfl; clear hSw; go_simp; try with_reducible rfl)
    case' rest10 => skip
    try simp only [List.getElem_toArray, List.getElem_cons_succ, List.getElem_cons_zero, Act.put, List.setIfInBounds_toArray, List.set_cons_zero, List.set_cons_succ]
    refine wpAnyH_take (i := 6) (v := ?v11) rfl (by kernel_rfl) (by kernel_rfl) (by kernel_rfl) (fun _ _ _ h => h) (Or.inl ⟨by rfl, ?y11⟩) (by assumption) ?rest11
    case y11 => (intro w hSw; have hT0 := (Mem.bl_row hSw hpd (by first | exact Mem.Row.lt hpd | omega | (simp <;> omega))).cell 0 rfl; have hT1 := (Mem.bl_row hSw hpd (by first | exact Mem.Row.lt hpd | omega | (simp <;> omega))).cell 1 rfl; clear hSw; go_simp; try with_reducible rfl)
    case' rest11 => skip
    try simp only [List.getElem_toArray, List.getElem_cons_succ, List.getElem_cons_zero, Act.put, List.setIfInBounds_toArray, List.set_cons_zero, List.set_cons_succ]
    refine wpAnyH_take (i := 7) (v := ?v12) rfl (by kernel_rfl) (by kernel_rfl) (by kernel_rfl) (fun _ _ _ h => h) (Or.inl ⟨by rfl, ?y12⟩) (by assumption) ?rest12
    case y12 => (intro w hSw; have hT0 := (Mem.bl_row hSw hpd (by first | exact Mem.Row.lt hpd | omega | (simp <;> omega))).cell 0 rfl; have hT1 := (Mem.bl_row hSw hpd (by first | exact Mem.Row.lt hpd | omega | (simp <;> omega))).cell 1 rfl; clear hSw; go_simp; try with_reducible rfl)
    case' rest12 => skip
    try simp only [List.getElem_toArray, List.getElem_cons_succ, List.getElem_cons_zero, Act.put, List.setIfInBounds_toArray, List.set_cons_zero, List.set_cons_succ]
    refine wpAnyH_take (i := 8) (v := ?v13) rfl (by kernel_rfl) (by kernel_rfl) (by kernel_rfl) (fun _ _ _ h => h) (Or.inl ⟨by rfl, ?y13⟩) (by assumption) ?rest13
    case y13 => (intro w hSw; have hT0 := (Mem.bl_row hSw hpd (by first | exact Mem.Row.lt hpd | omega | (simp <;> omega))).cell 0 rfl; have hT1 := (Mem.bl_row hSw hpd (by first | exact Mem.Row.lt hpd | omega | (simp <;> omega))).cell 1 rfl; clear hSw; go_simp; try with_reducible rfl)
    case' rest13 => skip
    try simp only [List.getElem_toArray, List.getElem_cons_succ, List.getElem_cons_zero, Act.put, List.setIfInBounds_toArray, List.set_cons_zero, List.set_cons_succ]
    refine wpAnyH_take (i := 9) (v := ?v14) rfl (by kernel_rfl) (by kernel_rfl) (by kernel_rfl) (fun _ _ _ h => h) (Or.inl ⟨by rfl, ?y14⟩) (by assumption) ?rest14
    case y14 => (intro w hSw; have hT0 := (Mem.bl_row hSw hpd (by first | exact Mem.Row.lt hpd | omega | (simp <;> omega))).cell 0 rfl; have hT1 := (Mem.bl_row hSw hpd (by first | exact Mem.Row.lt hpd | omega | (simp <;> omega))).cell 1 rfl; clear hSw; go_simp; try with_reducible rfl)
    case' rest14 => skip
    try simp only [List.getElem_toArray, List.getElem_cons_succ, List.getElem_cons_zero, Act.put, List.setIfInBounds_toArray, List.set_cons_zero, List.set_cons_succ]
    refine wpAnyH_take (i := 10) (v := ?v15) rfl (by kernel_rfl) (by kernel_rfl) (by kernel_rfl) (fun _ _ _ h => h) (Or.inl ⟨by rfl, ?y15⟩) (by assumption) ?rest15
    case y15 => (intro w hSw; have hT0 := (Mem.bl_row hSw hpd (by first | exact Mem.Row.lt hpd | omega | (simp <;> omega))).cell 0 rfl; have hT1 := (Mem.bl_row hSw hpd (by first | exact Mem.Row.lt hpd | omega | (simp <;> omega))).cell 1 rfl; clear hSw; go_simp; try with_reducible rfl)
    case' rest15 => skip
    try simp only [List.getElem_toArray, List.getElem_cons_succ, List.getElem_cons_zero, Act.put, List.setIfInBounds_toArray, List.set_cons_zero, List.set_cons_succ]
    refine wpAnyH_take (i := 11) (v := ?v16) rfl (by kernel_rfl) (by kernel_rfl) (by kernel_rfl) (fun _ _ _ h => h) (Or.inl ⟨by rfl, ?y16⟩) (by assumption) ?rest16
    case y16 => (intro w hSw; have hT0 := (Mem.bl_row hSw hpd (by first | exact Mem.Row.lt hpd | omega | (simp <;> omega))).cell 0 rfl; have hT1 := (Mem.bl_row hSw hpd (by first | exact Mem.Row.lt hpd | omega | (simp <;> omega))).cell 1 rfl; clear hSw; go_simp; try with_reducible rfl)
    case' rest16 => skip
    try simp only [List.getElem_toArray, List.getElem_cons_succ, List.getElem_cons_zero, Act.put, List.setIfInBounds_toArray, List.set_cons_zero, List.set_cons_succ]
    refine wpAnyH_ready (rs := [2]) (by kernel_rfl) (by simp) ?_
    refine AllReadyH.cons rfl (fun K hK => ?_) AllReadyH.nil
    go_simp
    have hbl := (Below.refl _ w2.drew).alloc (Nat.le_refl _) (.cells #[] 5); have ho0 : Own (w2.drew.alloc (.cells #[] 5)) w2.heap.size 5 V8 (.slice (some ⟨w2.heap.size, 0, none⟩) 0 0) [] := own_empty (Nat.le_refl _); have hbelA := (Below.refl w2.heap.size w2).drew.alloc (Nat.le_refl _) (.cells #[] 5); have hqa := hqd.alloc (.cells #[] 5)
    try go_wp2_with fail
    have hSnew := Mem.bl_step hHeld hbl (by first | exact Nat.le_refl _ | omega | (simp <;> omega))
    refine hK.out _ _ ?_ (fun hHeld2 => ?_)
    · exact hSnew
    clear hbl
    clear hK K hHeld hSnew
    have hHeld := hHeld2
    clear hHeld2
    try simp only [List.getElem_toArray, List.getElem_cons_succ, List.getElem_cons_zero, Act.put, List.setIfInBounds_toArray, List.set_cons_zero, List.set_cons_succ]
    refine wpAnyH_ready (rs := [12]) (by kernel_rfl) (by simp) ?_
    refine AllReadyH.cons rfl (fun K hK => ?_) AllReadyH.nil
    rw [if_pos (by rfl)]
    refine wp_app _ _ _ (by rfl) (V8 0) 1 Try.underlying30 u8Info rfl (by rfl) (by rfl) ho0 (hsl.below hbelA) (fun h => by cases h) V8_one (by simp; omega) (by simp; omega) (by simp) ?_; intro v3 w3 hown3 hg3 hat3; rw [List.nil_append] at hown3; obtain ⟨A3, c3, rfl, hl3, hm3, hc3, hby3⟩ := own_byF hown3 hdb; have hSnew := hHeld.grown hg3 (by simp; omega) (fun k hk => by simp [Value.ownBlock] at hk; omega); have hqb := gb_row hg3 hqa (by simp [Value.ownBlock]; omega); have hbelB := (hbel3.trans (hbelA.mono hbel3.size)).grown hg3 (by simp; omega) (fun k hk => by simp [Value.ownBlock] at hk; omega)
    refine hK.out _ _ ?_ (fun hHeld2 => ?_)
    · exact hSnew
    clear hK K hHeld hSnew
    have hHeld := hHeld2
    clear hHeld2
    try simp only [List.getElem_toArray, List.getElem_cons_succ, List.getElem_cons_zero, Act.put, List.setIfInBounds_toArray, List.set_cons_zero, List.set_cons_succ]
    refine wpAnyH_take (i := 13) (v := ?v17) rfl (by kernel_rfl) (by kernel_rfl) (by kernel_rfl) (fun _ _ _ h => h) (Or.inl ⟨by rfl, ?y17⟩) (by assumption) ?rest17
    case y17 => (intro w hSw; have hT0 := (Mem.bl_row hSw hpd (by first | exact Mem.Row.lt hpd | omega | (simp <;> omega))).cell 0 rfl; have hT1 := (Mem.bl_row hSw hpd (by first | exact Mem.Row.lt hpd | omega | (simp <;> omega))).cell 1 rfl; clear hSw; go_simp; try with_reducible rfl)
    case' rest17 => skip
    try simp only [List.getElem_toArray, List.getElem_cons_succ, List.getElem_cons_zero, Act.put, List.setIfInBounds_toArray, List.set_cons_zero, List.set_cons_succ]
    refine wpAnyH_ready (rs := [14]) (by kernel_rfl) (by simp) ?_
    refine AllReadyH.cons rfl (fun K hK => ?_) AllReadyH.nil
    rw [if_pos (by rfl)]
    refine wp_storeRow _ _ _ (by rfl) (w.heap.size + 1 + 1) (by rfl) #[.int .i64 (q : Int), .slice A3 D.length c3] (by rfl) #[.int .i64 0, .slice none 0 0] 36 2 patSize rfl rfl (pat_one _ _ _ _) hqb ?_; have hSnew := below_setRow hHeld (Nat.le_refl _) #[.int .i64 (q : Int), .slice A3 D.length c3]
    refine hK.out _ _ ?_ (fun hHeld2 => ?_)
    · exact hSnew
    clear hK K hHeld hSnew
    have hHeld := hHeld2
    clear hHeld2
    try simp only [List.getElem_toArray, List.getElem_cons_succ, List.getElem_cons_zero, Act.put, List.setIfInBounds_toArray, List.set_cons_zero, List.set_cons_succ]
    refine wpAnyH_done (by kernel_rfl) ?_ _
    have hq5 := hqb.set #[.int .i64 (q : Int), .slice A3 D.length c3]
    have hbel5 := below_setRow hbelB (g := w.heap.size + 1 + 1) (by omega) #[.int .i64 (q : Int), .slice A3 D.length c3]
    go_wp2
    exact bodyPost_ret (v := patV (q : Int) A3 D.length c3) (results_cell_row rfl _ _ (w.heap.size + 1 + 1) 36 #[.int .i64 (q : Int), .slice A3 D.length c3] (0, 0) _ rfl hq5 Try.underlying36 rfl patSize) rfl
      ⟨A3, c3, rfl, hl3, hm3, hc3, (hby3.stay fun b hb => setRow_other _ _ _ _ (by omega)).mono fun b hb => ⟨by omega, by simpa using hb.2⟩, hbel5⟩
end Go.Proofs.Ytoibdomcekainaa.Pat
