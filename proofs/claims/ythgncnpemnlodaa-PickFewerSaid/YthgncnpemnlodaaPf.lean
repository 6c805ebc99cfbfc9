/- The statement PickFewer: the walk. -/
import Derived.Test.YthgncnpemnlodaaPw
namespace Go.Proofs.Ythgncnpemnlodaa.Fl
open Go.RowKit Go.Proofs.Ythgncnpemnlodaa.Mem
set_option linter.unusedVariables false
set_option linter.unusedSimpArgs false
/-- The ratio of so many to fourteen. -/
def rat (n : Nat) : Option Nat := floatBits .quo .f64 (floatOfInt .f64 n) (floatOfInt .f64 14)
theorem rat_rises : ∀ n ∈ List.range 255, (match rat n, rat (n + 1) with | some r, some s => decide (tk r ≤ tk s) | _, _ => false) = true := by decide +kernel
theorem rat_some {n : Nat} (h : n ≤ 255) : ∃ r, rat n = some r := by
  by_cases h0 : n = 255
  · have := rat_rises 254 (by decide)
    subst h0
    cases h1 : rat 255 with
    | some r => exact ⟨r, rfl⟩
    | none => rw [h1] at this; revert this; cases rat 254 <;> simp
  · have := rat_rises n (by rw [List.mem_range]; omega)
    cases h1 : rat n with
    | some r => exact ⟨r, rfl⟩
    | none => rw [h1] at this; cases this
theorem rat_mono {n m r s : Nat} (h : n ≤ m) (hm : m ≤ 255) (hr : rat n = some r) (hs : rat m = some s) : tk r ≤ tk s := by
  induction m generalizing s with
  | zero =>
    obtain rfl : n = 0 := by omega
    rw [hr] at hs; injection hs with hs; subst hs; exact Int.le_refl _
  | succ m ih =>
    by_cases e : n = m + 1
    · subst e
      rw [hr] at hs; injection hs with hs; subst hs; exact Int.le_refl _
    · obtain ⟨t, ht⟩ := rat_some (n := m) (by omega)
      have h1 := ih (by omega) (by omega) ht
      have h2 := rat_rises m (by rw [List.mem_range]; omega)
      rw [ht, hs] at h2
      have h2 := of_decide_eq_true h2
      omega
theorem worth_rat {n r b : Nat} (h : rat n = some r) : worthB n 14 b = (!nan b && decide (tk r ≤ tk b)) := by
  unfold worthB
  have h : floatBits .quo .f64 (floatOfInt .f64 n) (floatOfInt .f64 14) = some r := h
  rw [h]
  simp only [ord_le]
theorem worth_few {n m b : Nat} (h : n ≤ m) (hm : m ≤ 255) (hw : worthB m 14 b = true) : worthB n 14 b = true := by
  obtain ⟨r, hr⟩ := rat_some (n := n) (by omega)
  obtain ⟨s, hs⟩ := rat_some (n := m) hm
  have := rat_mono h hm hr hs
  rw [worth_rat hr]
  rw [worth_rat hs] at hw
  simp at hw ⊢
  exact ⟨hw.1, by omega⟩
theorem worth_bound {n a b : Nat} (hn : n ≤ 255) (ha : nan a = false) (ho : ord a b ≤ 0) (hw : worthB n 14 a = true) : worthB n 14 b = true := by
  obtain ⟨r, hr⟩ := rat_some hn
  rw [worth_rat hr] at hw ⊢
  rw [ord_le] at ho
  simp at hw ⊢
  refine ⟨?_, by omega⟩
  cases hb : nan b
  · rfl
  · exfalso
    have e : tk b = -36893488147419103232 := by unfold tk; rw [hb]; rfl
    have := rung_lt a
    have h2 : tk a = if sgn a then -1 - (rung a : Int) else rung a := by unfold tk; rw [ha]; rfl
    rw [h2] at ho
    split at ho <;> omega
theorem worth_nan {n : Int} {b : Nat} (h : nan b = true) : worthB n 14 b = false := by unfold worthB; rw [h]; rfl
theorem from_bel (b : Nat) (w : World) :
    Calls Try.prog 17 #[.int .u64 b] w fun e w' => e = .returned (F b) ∧ Below w.heap.size w w' := by
  refine (from_any b w).mono ?_
  rintro e w' ⟨rfl, rfl⟩
  exact ⟨rfl, Below.refl _ _⟩
set_option maxHeartbeats 2000000 in
set_option maxRecDepth 100000 in
theorem fewer_core (f0 f1 fe ma : Nat) (b0 b1 : Nat) (w : World) (h0 : f0 < 256) (h1 : f1 < 256) (hfm : fe ≤ ma ∧ ma ≤ 255) (hmin : (f0 ≤ f1 ∧ fe = f0 ∧ ma = f1) ∨ (f1 < f0 ∧ fe = f1 ∧ ma = f0)) (hb0 : b0 < 18446744073709551616) (hb1 : b1 < 18446744073709551616) :
    Calls Try.prog 12 #[.agg #[.int .u8 f0, .int .u8 f1], .agg #[.int .u64 b0, .int .u64 b1]] w fun e w' => e = .returned (.bool true) ∧ Below w.heap.size w w' := by
  have C4 := Lib.hid (from_bel b0)
  have C5 := Lib.hid (from_bel b1)
  have C6 := Lib.hid (kind_any b0 hb0)
  have C7 := Lib.hid (order_any b0 b1 hb0 hb1)
  have C1 := Lib.hid (worth_any (ma : Int) 14 b0 hb0)
  have C2 := Lib.hid (worth_any (fe : Int) 14 b0 hb0)
  have C3 := Lib.hid (worth_any (fe : Int) 14 b1 hb1)
  have r0 : Row ((w.alloc (.cells #[.int .u8 f0, .int .u8 f1] 49)).alloc (.cells #[.int .u64 b0, .int .u64 b1] 50)) w.heap.size 49 #[.int .u8 f0, .int .u8 f1] := (Row.new _ _ _).alloc _
  have r1 : Row ((w.alloc (.cells #[.int .u8 f0, .int .u8 f1] 49)).alloc (.cells #[.int .u64 b0, .int .u64 b1] 50)) (w.heap.size + 1) 50 #[.int .u64 b0, .int .u64 b1] := by
    have := Row.new (w.alloc (.cells #[.int .u8 f0, .int .u8 f1] 49)) 50 #[.int .u64 b0, .int .u64 b1]
    simpa using this
  have hb : Below w.heap.size w ((w.alloc (.cells #[.int .u8 f0, .int .u8 f1] 49)).alloc (.cells #[.int .u64 b0, .int .u64 b1] 50)) := ((Below.refl _ _).alloc (Nat.le_refl _) _).alloc (by simp) _
  cases hn : nan b0 with
  | true =>
    rw [worth_nan hn] at C1 C2
    rw [kd_nan hn] at C6
    clear hn C3 C7
    go_enter Try.func12, Try.ntmps12
    go_wp2_with fail
    generalize (w.alloc (.cells #[.int .u8 f0, .int .u8 f1] 49)).alloc (.cells #[.int .u64 b0, .int .u64 b1] 50) = w2 at *
    have r0d := r0.drew
    have hfe : IntKind.i64.wrap (if f1 < f0 then (f1 : Int) else (f0 : Int)) = (fe : Int) := by rw [IntKind.wrap_i64]; split <;> omega
    have hma : IntKind.i64.wrap (if f0 < f1 then (f1 : Int) else (f0 : Int)) = (ma : Int) := by rw [IntKind.wrap_i64]; split <;> omega
    have r1d := r1.drew
    refine wp_region_held_drew (S := Go.RowKit.Below ((w2.drew).heap.size) (w2.drew)) (by kernel_rfl) ?hb2 (fun hHeld => ?rest2)
    case hb2 =>
      exact Go.RowKit.Below.refl _ _
    case' rest2 => skip
    refine wpAnyH_take (i := 0) (v := ?v3) rfl (by kernel_rfl) (by kernel_rfl) (by kernel_rfl) (fun _ _ _ h => h) (Or.inl ⟨by rfl, ?y3⟩) (by assumption) ?rest3
    case y3 => (intro w hSw; have hT0 := (Mem.bl_row hSw r0d (by first | exact Mem.Row.lt r0d | omega | (simp <;> omega))).cell 0 rfl; have hT1 := (Mem.bl_row hSw r0d (by first | exact Mem.Row.lt r0d | omega | (simp <;> omega))).cell 1 rfl; clear hSw; go_simp; try with_reducible rfl)
    case' rest3 => skip
    try simp only [List.getElem_toArray, List.getElem_cons_succ, List.getElem_cons_zero, Act.put, List.setIfInBounds_toArray, List.set_cons_zero, List.set_cons_succ]
    refine wpAnyH_take (i := 1) (v := ?v4) rfl (by kernel_rfl) (by kernel_rfl) (by kernel_rfl) (fun _ _ _ h => h) (Or.inl ⟨by rfl, ?y4⟩) (by assumption) ?rest4
    case y4 => (intro w hSw; have hT0 := (Mem.bl_row hSw r0d (by first | exact Mem.Row.lt r0d | omega | (simp <;> omega))).cell 0 rfl; have hT1 := (Mem.bl_row hSw r0d (by first | exact Mem.Row.lt r0d | omega | (simp <;> omega))).cell 1 rfl; clear hSw; go_simp; try with_reducible rfl)
    case' rest4 => skip
    try simp only [List.getElem_toArray, List.getElem_cons_succ, List.getElem_cons_zero, Act.put, List.setIfInBounds_toArray, List.set_cons_zero, List.set_cons_succ]
    refine wpAnyH_take (i := 2) (v := ?v5) rfl (by kernel_rfl) (by kernel_rfl) (by kernel_rfl) (fun _ _ _ h => h) (Or.inl ⟨by rfl, ?y5⟩) (by assumption) ?rest5
    case y5 => (intro w hSw; have hT0 := (Mem.bl_row hSw r0d (by first | exact Mem.Row.lt r0d | omega | (simp <;> omega))).cell 0 rfl; have hT1 := (Mem.bl_row hSw r0d (by first | exact Mem.Row.lt r0d | omega | (simp <;> omega))).cell 1 rfl; clear hSw; go_simp; try with_reducible rfl)
    case' rest5 => skip
    try simp only [List.getElem_toArray, List.getElem_cons_succ, List.getElem_cons_zero, Act.put, List.setIfInBounds_toArray, List.set_cons_zero, List.set_cons_succ]
    refine wpAnyH_take (i := 3) (v := ?v6) rfl (by kernel_rfl) (by kernel_rfl) (by kernel_rfl) (fun _ _ _ h => h) (Or.inl ⟨by rfl, ?y6⟩) (by assumption) ?rest6
    case y6 => (intro w hSw; have hT0 := (Mem.bl_row hSw r0d (by first | exact Mem.Row.lt r0d | omega | (simp <;> omega))).cell 0 rfl; have hT1 := (Mem.bl_row hSw r0d (by first | exact Mem.Row.lt r0d | omega | (simp <;> omega))).cell 1 rfl; clear hSw; go_simp; try with_reducible rfl)
    case' rest6 => skip
    try simp only [List.getElem_toArray, List.getElem_cons_succ, List.getElem_cons_zero, Act.put, List.setIfInBounds_toArray, List.set_cons_zero, List.set_cons_succ]
    refine wpAnyH_take (i := 4) (v := ?v7) rfl (by kernel_rfl) (by kernel_rfl) (by kernel_rfl) (fun _ _ _ h => h) (Or.inl ⟨by rfl, ?y7⟩) (by assumption) ?rest7
    case y7 => (intro w hSw; have hT0 := (Mem.bl_row hSw r0d (by first | exact Mem.Row.lt r0d | omega | (simp <;> omega))).cell 0 rfl; have hT1 := (Mem.bl_row hSw r0d (by first | exact Mem.Row.lt r0d | omega | (simp <;> omega))).cell 1 rfl; clear hSw; go_simp; try with_reducible rfl)
    case' rest7 => skip
    try simp only [List.getElem_toArray, List.getElem_cons_succ, List.getElem_cons_zero, Act.put, List.setIfInBounds_toArray, List.set_cons_zero, List.set_cons_succ]
    refine wpAnyH_take (i := 5) (v := ?v8) rfl (by kernel_rfl) (by kernel_rfl) (by kernel_rfl) (fun _ _ _ h => h) (Or.inl ⟨by rfl, ?y8⟩) (by assumption) ?rest8
    case y8 => (intro w hSw; have hT0 := (Mem.bl_row hSw r0d (by first | exact Mem.Row.lt r0d | omega | (simp <;> omega))).cell 0 rfl; have hT1 := (Mem.bl_row hSw r0d (by first | exact Mem.Row.lt r0d | omega | (simp <;> omega))).cell 1 rfl; clear hSw; go_simp; try with_reducible rfl)
    case' rest8 => skip
    try simp only [List.getElem_toArray, List.getElem_cons_succ, List.getElem_cons_zero, Act.put, List.setIfInBounds_toArray, List.set_cons_zero, List.set_cons_succ]
    refine wpAnyH_take (i := 6) (v := ?v9) rfl (by kernel_rfl) (by kernel_rfl) (by kernel_rfl) (fun _ _ _ h => h) (Or.inl ⟨by rfl, ?y9⟩) (by assumption) ?rest9
    case y9 => (intro w hSw; have hT0 := (Mem.bl_row hSw r0d (by first | exact Mem.Row.lt r0d | omega | (simp <;> omega))).cell 0 rfl; have hT1 := (Mem.bl_row hSw r0d (by first | exact Mem.Row.lt r0d | omega | (simp <;> omega))).cell 1 rfl; clear hSw; go_simp; try with_reducible rfl)
    case' rest9 => skip
    try simp only [List.getElem_toArray, List.getElem_cons_succ, List.getElem_cons_zero, Act.put, List.setIfInBounds_toArray, List.set_cons_zero, List.set_cons_succ]
    refine wpAnyH_take (i := 7) (v := ?v10) rfl (by kernel_rfl) (by kernel_rfl) (by kernel_rfl) (fun _ _ _ h => h) (Or.inl ⟨by rfl, ?y10⟩) (by assumption) ?rest10
    case y10 => (intro w hSw; have hT0 := (Mem.bl_row hSw r0d (by first | exact Mem.Row.lt r0d | omega | (simp <;> omega))).cell 0 rfl; have hT1 := (Mem.bl_row hSw r0d (by first | exact Mem.Row.lt r0d | omega | (simp <;> omega))).cell 1 rfl; clear hSw; go_simp; try with_reducible rfl)
    case' rest10 => skip
    try simp only [List.getElem_toArray, List.getElem_cons_succ, List.getElem_cons_zero, Act.put, List.setIfInBounds_toArray, List.set_cons_zero, List.set_cons_succ]
    refine wpAnyH_take (i := 8) (v := ?v11) rfl (by kernel_rfl) (by kernel_rfl) (by kernel_rfl) (fun _ _ _ h => h) (Or.inl ⟨by rfl, ?y11⟩) (by assumption) ?rest11
    case y11 => (intro w hSw; have hT0 := (Mem.bl_row hSw r0d (by first | exact Mem.Row.lt r0d | omega | (simp <;> omega))).cell 0 rfl; have hT1 := (Mem.bl_row hSw r0d (by first | exact Mem.Row.lt r0d | omega | (simp <;> omega))).cell 1 rfl; clear hSw; go_simp; try with_reducible rfl)
    case' rest11 => skip
    try simp only [List.getElem_toArray, List.getElem_cons_succ, List.getElem_cons_zero, Act.put, List.setIfInBounds_toArray, List.set_cons_zero, List.set_cons_succ]
    refine wpAnyH_take (i := 9) (v := ?v12) rfl (by kernel_rfl) (by kernel_rfl) (by kernel_rfl) (fun _ _ _ h => h) (Or.inl ⟨by rfl, ?y12⟩) (by assumption) ?rest12
    case y12 => (intro w hSw; have hT0 := (Mem.bl_row hSw r0d (by first | exact Mem.Row.lt r0d | omega | (simp <;> omega))).cell 0 rfl; have hT1 := (Mem.bl_row hSw r0d (by first | exact Mem.Row.lt r0d | omega | (simp <;> omega))).cell 1 rfl; clear hSw; go_simp; try with_reducible rfl)
    case' rest12 => skip
    try simp only [List.getElem_toArray, List.getElem_cons_succ, List.getElem_cons_zero, Act.put, List.setIfInBounds_toArray, List.set_cons_zero, List.set_cons_succ]
    refine wpAnyH_take (i := 10) (v := ?v13) rfl (by kernel_rfl) (by kernel_rfl) (by kernel_rfl) (fun _ _ _ h => h) (Or.inl ⟨by rfl, ?y13⟩) (by assumption) ?rest13
    case y13 => (intro w hSw; have hT0 := (Mem.bl_row hSw r0d (by first | exact Mem.Row.lt r0d | omega | (simp <;> omega))).cell 0 rfl; have hT1 := (Mem.bl_row hSw r0d (by first | exact Mem.Row.lt r0d | omega | (simp <;> omega))).cell 1 rfl; clear hSw; go_simp; try with_reducible rfl)
    case' rest13 => skip
    try simp only [List.getElem_toArray, List.getElem_cons_succ, List.getElem_cons_zero, Act.put, List.setIfInBounds_toArray, List.set_cons_zero, List.set_cons_succ]
    refine wpAnyH_take (i := 11) (v := ?v14) rfl (by kernel_rfl) (by kernel_rfl) (by kernel_rfl) (fun _ _ _ h => h) (Or.inl ⟨by rfl, ?y14⟩) (by assumption) ?rest14
    case y14 => (intro w hSw; have hT0 := (Mem.bl_row hSw r0d (by first | exact Mem.Row.lt r0d | omega | (simp <;> omega))).cell 0 rfl; have hT1 := (Mem.bl_row hSw r0d (by first | exact Mem.Row.lt r0d | omega | (simp <;> omega))).cell 1 rfl; clear hSw; go_simp; try with_reducible rfl)
    case' rest14 => skip
    try simp only [List.getElem_toArray, List.getElem_cons_succ, List.getElem_cons_zero, Act.put, List.setIfInBounds_toArray, List.set_cons_zero, List.set_cons_succ]
    refine wpAnyH_take (i := 12) (v := ?v15) rfl (by kernel_rfl) (by kernel_rfl) (by kernel_rfl) (fun _ _ _ h => h) (Or.inl ⟨by rfl, ?y15⟩) (by assumption) ?rest15
    case y15 => (intro w hSw; have hT0 := (Mem.bl_row hSw r0d (by first | exact Mem.Row.lt r0d | omega | (simp <;> omega))).cell 0 rfl; have hT1 := (Mem.bl_row hSw r0d (by first | exact Mem.Row.lt r0d | omega | (simp <;> omega))).cell 1 rfl; clear hSw; go_simp; try with_reducible rfl)
    case' rest15 => skip
    try simp only [List.getElem_toArray, List.getElem_cons_succ, List.getElem_cons_zero, Act.put, List.setIfInBounds_toArray, List.set_cons_zero, List.set_cons_succ]
    refine wpAnyH_take (i := 13) (v := ?v16) rfl (by kernel_rfl) (by kernel_rfl) (by kernel_rfl) (fun _ _ _ h => h) (Or.inl ⟨by rfl, ?y16⟩) (by assumption) ?rest16
    case y16 => (intro w hSw; have hT0 := (Mem.bl_row hSw r0d (by first | exact Mem.Row.lt r0d | omega | (simp <;> omega))).cell 0 rfl; have hT1 := (Mem.bl_row hSw r0d (by first | exact Mem.Row.lt r0d | omega | (simp <;> omega))).cell 1 rfl; clear hSw; go_simp; try with_reducible rfl)
    case' rest16 => skip
    try simp only [List.getElem_toArray, List.getElem_cons_succ, List.getElem_cons_zero, Act.put, List.setIfInBounds_toArray, List.set_cons_zero, List.set_cons_succ]
    refine wpAnyH_done (by kernel_rfl) ?_ _
    clear hfe hma r0 r0d r1 hmin hHeld
    generalize (if f1 < f0 then (f1 : Int) else (f0 : Int)) = z1
    generalize (if f0 < f1 then (f1 : Int) else (f0 : Int)) = z2
    have hbd := hb.drew
    obtain ⟨g1, hg1⟩ : ∃ g1, w.heap.size + 1 = g1 := ⟨_, rfl⟩
    rw [hg1] at r1d ⊢
    clear hg1 hb
    generalize w2.drew = w3 at *
    have c0 := r1d.cell 0 rfl
    have c1 := r1d.cell 1 rfl
    go_wp2_with fail
    refine (C1.out _).mono ?_
    rintro e w4 ⟨rfl, q4, rfl⟩
    go_wp2_with fail
    have ra := r1d.drewN q4
    have rad := ra.drew
    have hba := below_drewN hbd q4
    clear r1d hbd c0 c1
    generalize w3.drewN q4 = wa at *
    refine wp_region_held_drew (S := Go.RowKit.Below ((wa.drew).heap.size) (wa.drew)) (by kernel_rfl) ?hb42 (fun hHeld => ?rest42)
    case hb42 =>
      exact Go.RowKit.Below.refl _ _
    case' rest42 => skip
    refine wpAnyH_take (i := 0) (v := ?v43) rfl (by kernel_rfl) (by kernel_rfl) (by kernel_rfl) (fun _ _ _ h => h) (Or.inl ⟨by rfl, ?y43⟩) (by assumption) ?rest43
    case y43 => (intro w hSw; have hT0 := (Mem.bl_row hSw rad (by first | exact Mem.Row.lt rad | omega | (simp <;> omega))).cell 0 rfl; have hT1 := (Mem.bl_row hSw rad (by first | exact Mem.Row.lt rad | omega | (simp <;> omega))).cell 1 rfl; clear hSw; go_simp; try with_reducible rfl)
    case' rest43 => skip
    try simp only [List.getElem_toArray, List.getElem_cons_succ, List.getElem_cons_zero, Act.put, List.setIfInBounds_toArray, List.set_cons_zero, List.set_cons_succ]
    refine wpAnyH_take (i := 1) (v := ?v44) rfl (by kernel_rfl) (by kernel_rfl) (by kernel_rfl) (fun _ _ _ h => h) (Or.inl ⟨by rfl, ?y44⟩) (by assumption) ?rest44
    case y44 => (intro w hSw; have hT0 := (Mem.bl_row hSw rad (by first | exact Mem.Row.lt rad | omega | (simp <;> omega))).cell 0 rfl; have hT1 := (Mem.bl_row hSw rad (by first | exact Mem.Row.lt rad | omega | (simp <;> omega))).cell 1 rfl; clear hSw; go_simp; try with_reducible rfl)
    case' rest44 => skip
    try simp only [List.getElem_toArray, List.getElem_cons_succ, List.getElem_cons_zero, Act.put, List.setIfInBounds_toArray, List.set_cons_zero, List.set_cons_succ]
    refine wpAnyH_take (i := 3) (v := ?v45) rfl (by kernel_rfl) (by kernel_rfl) (by kernel_rfl) (fun _ _ _ h => h) (Or.inl ⟨by rfl, ?y45⟩) (by assumption) ?rest45
    case y45 => (intro w hSw; have hT0 := (Mem.bl_row hSw rad (by first | exact Mem.Row.lt rad | omega | (simp <;> omega))).cell 0 rfl; have hT1 := (Mem.bl_row hSw rad (by first | exact Mem.Row.lt rad | omega | (simp <;> omega))).cell 1 rfl; clear hSw; go_simp; try with_reducible rfl)
    case' rest45 => skip
    try simp only [List.getElem_toArray, List.getElem_cons_succ, List.getElem_cons_zero, Act.put, List.setIfInBounds_toArray, List.set_cons_zero, List.set_cons_succ]
    refine wpAnyH_take (i := 4) (v := ?v46) rfl (by kernel_rfl) (by kernel_rfl) (by kernel_rfl) (fun _ _ _ h => h) (Or.inl ⟨by rfl, ?y46⟩) (by assumption) ?rest46
    case y46 => (intro w hSw; have hT0 := (Mem.bl_row hSw rad (by first | exact Mem.Row.lt rad | omega | (simp <;> omega))).cell 0 rfl; have hT1 := (Mem.bl_row hSw rad (by first | exact Mem.Row.lt rad | omega | (simp <;> omega))).cell 1 rfl; clear hSw; go_simp; try with_reducible rfl)
    case' rest46 => skip
    try simp only [List.getElem_toArray, List.getElem_cons_succ, List.getElem_cons_zero, Act.put, List.setIfInBounds_toArray, List.set_cons_zero, List.set_cons_succ]
    refine wpAnyH_ready (rs := [2]) (by kernel_rfl) (by simp) ?_
    refine AllReadyH.cons rfl (fun K hK => ?_) AllReadyH.nil
    go_simp
    (refine (C4.out _).mono ?_; rintro e wx ⟨rfl, hbl⟩)
    try go_wp2_with fail
    have hSnew := Mem.bl_step hHeld hbl (by first | exact Nat.le_refl _ | omega | (simp <;> omega))
    refine hK.out _ _ ?_ (fun hHeld2 => ?_)
    · exact hSnew
    clear hbl
    clear hK K hHeld hSnew
    have hHeld := hHeld2
    clear hHeld2
    try simp only [List.getElem_toArray, List.getElem_cons_succ, List.getElem_cons_zero, Act.put, List.setIfInBounds_toArray, List.set_cons_zero, List.set_cons_succ]
    refine wpAnyH_ready (rs := [5]) (by kernel_rfl) (by simp) ?_
    refine AllReadyH.cons rfl (fun K hK => ?_) AllReadyH.nil
    go_simp
    (refine (C5.out _).mono ?_; rintro e wx ⟨rfl, hbl⟩)
    try go_wp2_with fail
    have hSnew := Mem.bl_step hHeld hbl (by first | exact Nat.le_refl _ | omega | (simp <;> omega))
    refine hK.out _ _ ?_ (fun hHeld2 => ?_)
    · exact hSnew
    clear hbl
    clear hK K hHeld hSnew
    have hHeld := hHeld2
    clear hHeld2
    try simp only [List.getElem_toArray, List.getElem_cons_succ, List.getElem_cons_zero, Act.put, List.setIfInBounds_toArray, List.set_cons_zero, List.set_cons_succ]
    refine wpAnyH_take (i := 6) (v := ?v47) rfl (by kernel_rfl) (by kernel_rfl) (by kernel_rfl) (fun _ _ _ h => h) (Or.inl ⟨by rfl, ?y47⟩) (by assumption) ?rest47
    case y47 => (intro w hSw; have hT0 := (Mem.bl_row hSw rad (by first | exact Mem.Row.lt rad | omega | (simp <;> omega))).cell 0 rfl; have hT1 := (Mem.bl_row hSw rad (by first | exact Mem.Row.lt rad | omega | (simp <;> omega))).cell 1 rfl; clear hSw; go_simp; try with_reducible rfl)
    case' rest47 => skip
    try simp only [List.getElem_toArray, List.getElem_cons_succ, List.getElem_cons_zero, Act.put, List.setIfInBounds_toArray, List.set_cons_zero, List.set_cons_succ]
    refine wpAnyH_take (i := 7) (v := ?v48) rfl (by kernel_rfl) (by kernel_rfl) (by kernel_rfl) (fun _ _ _ h => h) (Or.inl ⟨by rfl, ?y48⟩) (by assumption) ?rest48
    case y48 => (intro w hSw; have hT0 := (Mem.bl_row hSw rad (by first | exact Mem.Row.lt rad | omega | (simp <;> omega))).cell 0 rfl; have hT1 := (Mem.bl_row hSw rad (by first | exact Mem.Row.lt rad | omega | (simp <;> omega))).cell 1 rfl; clear hSw; go_simp; try with_reducible rfl)
    case' rest48 => skip
    try simp only [List.getElem_toArray, List.getElem_cons_succ, List.getElem_cons_zero, Act.put, List.setIfInBounds_toArray, List.set_cons_zero, List.set_cons_succ]
    refine wpAnyH_done (by kernel_rfl) ?_ _
    have hsa := hba.size
    rename_i wz
    have rz := rad.below hHeld
    have hbz := hba.drew.trans (hHeld.mono hsa)
    clear ra rad hba hsa hHeld
    have c0 := rz.cell 0 rfl
    have c1 := rz.cell 1 rfl
    go_wp2_with fail
    refine (C6.out _).mono ?_
    rintro e w6 ⟨rfl, rfl⟩
    go_wp2_with fail
    refine (C6.out _).mono ?_
    rintro e w10 ⟨rfl, rfl⟩
    go_wp2_with fail
    refine (C2.out _).mono ?_
    rintro e w11 ⟨rfl, q11, rfl⟩
    go_wp2_with fail
    refine (works6_any _).mono ?_
    rintro e w12 ⟨rfl, hb12⟩
    go_wp2
    go_ret
    exact ⟨rfl, by first | exact hbz.trans (hb12.mono hbz.size) | exact (below_drewN hbz _).trans (hb12.mono (below_drewN hbz _).size)⟩
  | false =>
    have hk : (kd b0 != 0) = true := by rw [bne_iff_ne]; rcases kd_cases b0 with h | h | h | h | h | h | h <;> first | (exfalso; rw [hn] at h; simp at h; done) | omega
    have hW := fun h => worth_few (b := b0) hfm.1 hfm.2 h
    have hV := fun h h2 => worth_bound (n := fe) (a := b0) (b := b1) (by omega) hn h h2
    clear hn
    generalize worthB (ma : Int) 14 b0 = W1 at *
    generalize worthB (fe : Int) 14 b0 = W2 at *
    generalize worthB (fe : Int) 14 b1 = W3 at *
    generalize ord b0 b1 = o at *
    generalize kd b0 = k at *
    by_cases ho : o ≤ 0
    · cases W1 with
      | true =>
        have h2 := hW rfl
        subst h2
        have h3 := hV ho rfl
        subst h3
        clear hW hV
        go_enter Try.func12, Try.ntmps12
        go_wp2_with fail
        generalize (w.alloc (.cells #[.int .u8 f0, .int .u8 f1] 49)).alloc (.cells #[.int .u64 b0, .int .u64 b1] 50) = w2 at *
        have r0d := r0.drew
        have hfe : IntKind.i64.wrap (if f1 < f0 then (f1 : Int) else (f0 : Int)) = (fe : Int) := by rw [IntKind.wrap_i64]; split <;> omega
        have hma : IntKind.i64.wrap (if f0 < f1 then (f1 : Int) else (f0 : Int)) = (ma : Int) := by rw [IntKind.wrap_i64]; split <;> omega
        have r1d := r1.drew
        refine wp_region_held_drew (S := Go.RowKit.Below ((w2.drew).heap.size) (w2.drew)) (by kernel_rfl) ?hb50 (fun hHeld => ?rest50)
        case hb50 =>
          exact Go.RowKit.Below.refl _ _
        case' rest50 => skip
        refine wpAnyH_take (i := 0) (v := ?v51) rfl (by kernel_rfl) (by kernel_rfl) (by kernel_rfl) (fun _ _ _ h => h) (Or.inl ⟨by rfl, ?y51⟩) (by assumption) ?rest51
        case y51 => (intro w hSw; have hT0 := (Mem.bl_row hSw r0d (by first | exact Mem.Row.lt r0d | omega | (simp <;> omega))).cell 0 rfl; have hT1 := (Mem.bl_row hSw r0d (by first | exact Mem.Row.lt r0d | omega | (simp <;> omega))).cell 1 rfl; clear hSw; go_simp; try with_reducible rfl)
        case' rest51 => skip
        try simp only [List.getElem_toArray, List.getElem_cons_succ, List.getElem_cons_zero, Act.put, List.setIfInBounds_toArray, List.set_cons_zero, List.set_cons_succ]
        refine wpAnyH_take (i := 1) (v := ?v52) rfl (by kernel_rfl) (by kernel_rfl) (by kernel_rfl) (fun _ _ _ h => h) (Or.inl ⟨by rfl, ?y52⟩) (by assumption) ?rest52
        case y52 => (intro w hSw; have hT0 := (Mem.bl_row hSw r0d (by first | exact Mem.Row.lt r0d | omega | (simp <;> omega))).cell 0 rfl; have hT1 := (Mem.bl_row hSw r0d (by first | exact Mem.Row.lt r0d | omega | (simp <;> omega))).cell 1 rfl; clear hSw; go_simp; try with_reducible rfl)
        case' rest52 => skip
        try simp only [List.getElem_toArray, List.getElem_cons_succ, List.getElem_cons_zero, Act.put, List.setIfInBounds_toArray, List.set_cons_zero, List.set_cons_succ]
        refine wpAnyH_take (i := 2) (v := ?v53) rfl (by kernel_rfl) (by kernel_rfl) (by kernel_rfl) (fun _ _ _ h => h) (Or.inl ⟨by rfl, ?y53⟩) (by assumption) ?rest53
        case y53 => (intro w hSw; have hT0 := (Mem.bl_row hSw r0d (by first | exact Mem.Row.lt r0d | omega | (simp <;> omega))).cell 0 rfl; have hT1 := (Mem.bl_row hSw r0d (by first | exact Mem.Row.lt r0d | omega | (simp <;> omega))).cell 1 rfl; clear hSw; go_simp; try with_reducible rfl)
        case' rest53 => skip
        try simp only [List.getElem_toArray, List.getElem_cons_succ, List.getElem_cons_zero, Act.put, List.setIfInBounds_toArray, List.set_cons_zero, List.set_cons_succ]
        refine wpAnyH_take (i := 3) (v := ?v54) rfl (by kernel_rfl) (by kernel_rfl) (by kernel_rfl) (fun _ _ _ h => h) (Or.inl ⟨by rfl, ?y54⟩) (by assumption) ?rest54
        case y54 => (intro w hSw; have hT0 := (Mem.bl_row hSw r0d (by first | exact Mem.Row.lt r0d | omega | (simp <;> omega))).cell 0 rfl; have hT1 := (Mem.bl_row hSw r0d (by first | exact Mem.Row.lt r0d | omega | (simp <;> omega))).cell 1 rfl; clear hSw; go_simp; try with_reducible rfl)
        case' rest54 => skip
        try simp only [List.getElem_toArray, List.getElem_cons_succ, List.getElem_cons_zero, Act.put, List.setIfInBounds_toArray, List.set_cons_zero, List.set_cons_succ]
        refine wpAnyH_take (i := 4) (v := ?v55) rfl (by kernel_rfl) (by kernel_rfl) (by kernel_rfl) (fun _ _ _ h => h) (Or.inl ⟨by rfl, ?y55⟩) (by assumption) ?rest55
        case y55 => (intro w hSw; have hT0 := (Mem.bl_row hSw r0d (by first | exact Mem.Row.lt r0d | omega | (simp <;> omega))).cell 0 rfl; have hT1 := (Mem.bl_row hSw r0d (by first | exact Mem.Row.lt r0d | omega | (simp <;> omega))).cell 1 rfl; clear hSw; go_simp; try with_reducible rfl)
        case' rest55 => skip
        try simp only [List.getElem_toArray, List.getElem_cons_succ, List.getElem_cons_zero, Act.put, List.setIfInBounds_toArray, List.set_cons_zero, List.set_cons_succ]
        refine wpAnyH_take (i := 5) (v := ?v56) rfl (by kernel_rfl) (by kernel_rfl) (by kernel_rfl) (fun _ _ _ h => h) (Or.inl ⟨by rfl, ?y56⟩) (by assumption) ?rest56
        case y56 => (intro w hSw; have hT0 := (Mem.bl_row hSw r0d (by first | exact Mem.Row.lt r0d | omega | (simp <;> omega))).cell 0 rfl; have hT1 := (Mem.bl_row hSw r0d (by first | exact Mem.Row.lt r0d | omega | (simp <;> omega))).cell 1 rfl; clear hSw; go_simp; try with_reducible rfl)
        case' rest56 => skip
        try simp only [List.getElem_toArray, List.getElem_cons_succ, List.getElem_cons_zero, Act.put, List.setIfInBounds_toArray, List.set_cons_zero, List.set_cons_succ]
        refine wpAnyH_take (i := 6) (v := ?v57) rfl (by kernel_rfl) (by kernel_rfl) (by kernel_rfl) (fun _ _ _ h => h) (Or.inl ⟨by rfl, ?y57⟩) (by assumption) ?rest57
        case y57 => (intro w hSw; have hT0 := (Mem.bl_row hSw r0d (by first | exact Mem.Row.lt r0d | omega | (simp <;> omega))).cell 0 rfl; have hT1 := (Mem.bl_row hSw r0d (by first | exact Mem.Row.lt r0d | omega | (simp <;> omega))).cell 1 rfl; clear hSw; go_simp; try with_reducible rfl)
        case' rest57 => skip
        try simp only [List.getElem_toArray, List.getElem_cons_succ, List.getElem_cons_zero, Act.put, List.setIfInBounds_toArray, List.set_cons_zero, List.set_cons_succ]
        refine wpAnyH_take (i := 7) (v := ?v58) rfl (by kernel_rfl) (by kernel_rfl) (by kernel_rfl) (fun _ _ _ h => h) (Or.inl ⟨by rfl, ?y58⟩) (by assumption) ?rest58
        case y58 => (intro w hSw; have hT0 := (Mem.bl_row hSw r0d (by first | exact Mem.Row.lt r0d | omega | (simp <;> omega))).cell 0 rfl; have hT1 := (Mem.bl_row hSw r0d (by first | exact Mem.Row.lt r0d | omega | (simp <;> omega))).cell 1 rfl; clear hSw; go_simp; try with_reducible rfl)
        case' rest58 => skip
        try simp only [List.getElem_toArray, List.getElem_cons_succ, List.getElem_cons_zero, Act.put, List.setIfInBounds_toArray, List.set_cons_zero, List.set_cons_succ]
        refine wpAnyH_take (i := 8) (v := ?v59) rfl (by kernel_rfl) (by kernel_rfl) (by kernel_rfl) (fun _ _ _ h => h) (Or.inl ⟨by rfl, ?y59⟩) (by assumption) ?rest59
        case y59 => (intro w hSw; have hT0 := (Mem.bl_row hSw r0d (by first | exact Mem.Row.lt r0d | omega | (simp <;> omega))).cell 0 rfl; have hT1 := (Mem.bl_row hSw r0d (by first | exact Mem.Row.lt r0d | omega | (simp <;> omega))).cell 1 rfl; clear hSw; go_simp; try with_reducible rfl)
        case' rest59 => skip
        try simp only [List.getElem_toArray, List.getElem_cons_succ, List.getElem_cons_zero, Act.put, List.setIfInBounds_toArray, List.set_cons_zero, List.set_cons_succ]
        refine wpAnyH_take (i := 9) (v := ?v60) rfl (by kernel_rfl) (by kernel_rfl) (by kernel_rfl) (fun _ _ _ h => h) (Or.inl ⟨by rfl, ?y60⟩) (by assumption) ?rest60
        case y60 => (intro w hSw; have hT0 := (Mem.bl_row hSw r0d (by first | exact Mem.Row.lt r0d | omega | (simp <;> omega))).cell 0 rfl; have hT1 := (Mem.bl_row hSw r0d (by first | exact Mem.Row.lt r0d | omega | (simp <;> omega))).cell 1 rfl; clear hSw; go_simp; try with_reducible rfl)
        case' rest60 => skip
        try simp only [List.getElem_toArray, List.getElem_cons_succ, List.getElem_cons_zero, Act.put, List.setIfInBounds_toArray, List.set_cons_zero, List.set_cons_succ]
        refine wpAnyH_take (i := 10) (v := ?v61) rfl (by kernel_rfl) (by kernel_rfl) (by kernel_rfl) (fun _ _ _ h => h) (Or.inl ⟨by rfl, ?y61⟩) (by assumption) ?rest61
        case y61 => (intro w hSw; have hT0 := (Mem.bl_row hSw r0d (by first | exact Mem.Row.lt r0d | omega | (simp <;> omega))).cell 0 rfl; have hT1 := (Mem.bl_row hSw r0d (by first | exact Mem.Row.lt r0d | omega | (simp <;> omega))).cell 1 rfl; clear hSw; go_simp; try with_reducible rfl)
        case' rest61 => skip
        try simp only [List.getElem_toArray, List.getElem_cons_succ, List.getElem_cons_zero, Act.put, List.setIfInBounds_toArray, List.set_cons_zero, List.set_cons_succ]
        refine wpAnyH_take (i := 11) (v := ?v62) rfl (by kernel_rfl) (by kernel_rfl) (by kernel_rfl) (fun _ _ _ h => h) (Or.inl ⟨by rfl, ?y62⟩) (by assumption) ?rest62
        case y62 => (intro w hSw; have hT0 := (Mem.bl_row hSw r0d (by first | exact Mem.Row.lt r0d | omega | (simp <;> omega))).cell 0 rfl; have hT1 := (Mem.bl_row hSw r0d (by first | exact Mem.Row.lt r0d | omega | (simp <;> omega))).cell 1 rfl; clear hSw; go_simp; try with_reducible rfl)
        case' rest62 => skip
        try simp only [List.getElem_toArray, List.getElem_cons_succ, List.getElem_cons_zero, Act.put, List.setIfInBounds_toArray, List.set_cons_zero, List.set_cons_succ]
        refine wpAnyH_take (i := 12) (v := ?v63) rfl (by kernel_rfl) (by kernel_rfl) (by kernel_rfl) (fun _ _ _ h => h) (Or.inl ⟨by rfl, ?y63⟩) (by assumption) ?rest63
        case y63 => (intro w hSw; have hT0 := (Mem.bl_row hSw r0d (by first | exact Mem.Row.lt r0d | omega | (simp <;> omega))).cell 0 rfl; have hT1 := (Mem.bl_row hSw r0d (by first | exact Mem.Row.lt r0d | omega | (simp <;> omega))).cell 1 rfl; clear hSw; go_simp; try with_reducible rfl)
        case' rest63 => skip
        try simp only [List.getElem_toArray, List.getElem_cons_succ, List.getElem_cons_zero, Act.put, List.setIfInBounds_toArray, List.set_cons_zero, List.set_cons_succ]
        refine wpAnyH_take (i := 13) (v := ?v64) rfl (by kernel_rfl) (by kernel_rfl) (by kernel_rfl) (fun _ _ _ h => h) (Or.inl ⟨by rfl, ?y64⟩) (by assumption) ?rest64
        case y64 => (intro w hSw; have hT0 := (Mem.bl_row hSw r0d (by first | exact Mem.Row.lt r0d | omega | (simp <;> omega))).cell 0 rfl; have hT1 := (Mem.bl_row hSw r0d (by first | exact Mem.Row.lt r0d | omega | (simp <;> omega))).cell 1 rfl; clear hSw; go_simp; try with_reducible rfl)
        case' rest64 => skip
        try simp only [List.getElem_toArray, List.getElem_cons_succ, List.getElem_cons_zero, Act.put, List.setIfInBounds_toArray, List.set_cons_zero, List.set_cons_succ]
        refine wpAnyH_done (by kernel_rfl) ?_ _
        clear hfe hma r0 r0d r1 hmin hHeld
        generalize (if f1 < f0 then (f1 : Int) else (f0 : Int)) = z1
        generalize (if f0 < f1 then (f1 : Int) else (f0 : Int)) = z2
        have hbd := hb.drew
        obtain ⟨g1, hg1⟩ : ∃ g1, w.heap.size + 1 = g1 := ⟨_, rfl⟩
        rw [hg1] at r1d ⊢
        clear hg1 hb
        generalize w2.drew = w3 at *
        have c0 := r1d.cell 0 rfl
        have c1 := r1d.cell 1 rfl
        go_wp2_with fail
        refine (C1.out _).mono ?_
        rintro e w4 ⟨rfl, q4, rfl⟩
        go_wp2_with fail
        refine (C2.out _).mono ?_
        rintro e w5 ⟨rfl, q5, rfl⟩
        go_wp2_with fail
        have ra := r1d.drewN (q4 + q5)
        have rad := ra.drew
        have hba := below_drewN hbd (q4 + q5)
        clear r1d hbd c0 c1
        generalize w3.drewN (q4 + q5) = wa at *
        refine wp_region_held_drew (S := Go.RowKit.Below ((wa.drew).heap.size) (wa.drew)) (by kernel_rfl) ?hb96 (fun hHeld => ?rest96)
        case hb96 =>
          exact Go.RowKit.Below.refl _ _
        case' rest96 => skip
        refine wpAnyH_take (i := 0) (v := ?v97) rfl (by kernel_rfl) (by kernel_rfl) (by kernel_rfl) (fun _ _ _ h => h) (Or.inl ⟨by rfl, ?y97⟩) (by assumption) ?rest97
        case y97 => (intro w hSw; have hT0 := (Mem.bl_row hSw rad (by first | exact Mem.Row.lt rad | omega | (simp <;> omega))).cell 0 rfl; have hT1 := (Mem.bl_row hSw rad (by first | exact Mem.Row.lt rad | omega | (simp <;> omega))).cell 1 rfl; clear hSw; go_simp; try with_reducible rfl)
        case' rest97 => skip
        try simp only [List.getElem_toArray, List.getElem_cons_succ, List.getElem_cons_zero, Act.put, List.setIfInBounds_toArray, List.set_cons_zero, List.set_cons_succ]
        refine wpAnyH_take (i := 1) (v := ?v98) rfl (by kernel_rfl) (by kernel_rfl) (by kernel_rfl) (fun _ _ _ h => h) (Or.inl ⟨by rfl, ?y98⟩) (by assumption) ?rest98
        case y98 => (intro w hSw; have hT0 := (Mem.bl_row hSw rad (by first | exact Mem.Row.lt rad | omega | (simp <;> omega))).cell 0 rfl; have hT1 := (Mem.bl_row hSw rad (by first | exact Mem.Row.lt rad | omega | (simp <;> omega))).cell 1 rfl; clear hSw; go_simp; try with_reducible rfl)
        case' rest98 => skip
        try simp only [List.getElem_toArray, List.getElem_cons_succ, List.getElem_cons_zero, Act.put, List.setIfInBounds_toArray, List.set_cons_zero, List.set_cons_succ]
        refine wpAnyH_take (i := 3) (v := ?v99) rfl (by kernel_rfl) (by kernel_rfl) (by kernel_rfl) (fun _ _ _ h => h) (Or.inl ⟨by rfl, ?y99⟩) (by assumption) ?rest99
        case y99 => (intro w hSw; have hT0 := (Mem.bl_row hSw rad (by first | exact Mem.Row.lt rad | omega | (simp <;> omega))).cell 0 rfl; have hT1 := (Mem.bl_row hSw rad (by first | exact Mem.Row.lt rad | omega | (simp <;> omega))).cell 1 rfl; clear hSw; go_simp; try with_reducible rfl)
        case' rest99 => skip
        try simp only [List.getElem_toArray, List.getElem_cons_succ, List.getElem_cons_zero, Act.put, List.setIfInBounds_toArray, List.set_cons_zero, List.set_cons_succ]
        refine wpAnyH_take (i := 4) (v := ?v100) rfl (by kernel_rfl) (by kernel_rfl) (by kernel_rfl) (fun _ _ _ h => h) (Or.inl ⟨by rfl, ?y100⟩) (by assumption) ?rest100
        case y100 => (intro w hSw; have hT0 := (Mem.bl_row hSw rad (by first | exact Mem.Row.lt rad | omega | (simp <;> omega))).cell 0 rfl; have hT1 := (Mem.bl_row hSw rad (by first | exact Mem.Row.lt rad | omega | (simp <;> omega))).cell 1 rfl; clear hSw; go_simp; try with_reducible rfl)
        case' rest100 => skip
        try simp only [List.getElem_toArray, List.getElem_cons_succ, List.getElem_cons_zero, Act.put, List.setIfInBounds_toArray, List.set_cons_zero, List.set_cons_succ]
        refine wpAnyH_ready (rs := [2]) (by kernel_rfl) (by simp) ?_
        refine AllReadyH.cons rfl (fun K hK => ?_) AllReadyH.nil
        go_simp
        (refine (C4.out _).mono ?_; rintro e wx ⟨rfl, hbl⟩)
        try go_wp2_with fail
        have hSnew := Mem.bl_step hHeld hbl (by first | exact Nat.le_refl _ | omega | (simp <;> omega))
        refine hK.out _ _ ?_ (fun hHeld2 => ?_)
        · exact hSnew
        clear hbl
        clear hK K hHeld hSnew
        have hHeld := hHeld2
        clear hHeld2
        try simp only [List.getElem_toArray, List.getElem_cons_succ, List.getElem_cons_zero, Act.put, List.setIfInBounds_toArray, List.set_cons_zero, List.set_cons_succ]
        refine wpAnyH_ready (rs := [5]) (by kernel_rfl) (by simp) ?_
        refine AllReadyH.cons rfl (fun K hK => ?_) AllReadyH.nil
        go_simp
        (refine (C5.out _).mono ?_; rintro e wx ⟨rfl, hbl⟩)
        try go_wp2_with fail
        have hSnew := Mem.bl_step hHeld hbl (by first | exact Nat.le_refl _ | omega | (simp <;> omega))
        refine hK.out _ _ ?_ (fun hHeld2 => ?_)
        · exact hSnew
        clear hbl
        clear hK K hHeld hSnew
        have hHeld := hHeld2
        clear hHeld2
        try simp only [List.getElem_toArray, List.getElem_cons_succ, List.getElem_cons_zero, Act.put, List.setIfInBounds_toArray, List.set_cons_zero, List.set_cons_succ]
        refine wpAnyH_take (i := 6) (v := ?v101) rfl (by kernel_rfl) (by kernel_rfl) (by kernel_rfl) (fun _ _ _ h => h) (Or.inl ⟨by rfl, ?y101⟩) (by assumption) ?rest101
        case y101 => (intro w hSw; have hT0 := (Mem.bl_row hSw rad (by first | exact Mem.Row.lt rad | omega | (simp <;> omega))).cell 0 rfl; have hT1 := (Mem.bl_row hSw rad (by first | exact Mem.Row.lt rad | omega | (simp <;> omega))).cell 1 rfl; clear hSw; go_simp; try with_reducible rfl)
        case' rest101 => skip
        try simp only [List.getElem_toArray, List.getElem_cons_succ, List.getElem_cons_zero, Act.put, List.setIfInBounds_toArray, List.set_cons_zero, List.set_cons_succ]
        refine wpAnyH_take (i := 7) (v := ?v102) rfl (by kernel_rfl) (by kernel_rfl) (by kernel_rfl) (fun _ _ _ h => h) (Or.inl ⟨by rfl, ?y102⟩) (by assumption) ?rest102
        case y102 => (intro w hSw; have hT0 := (Mem.bl_row hSw rad (by first | exact Mem.Row.lt rad | omega | (simp <;> omega))).cell 0 rfl; have hT1 := (Mem.bl_row hSw rad (by first | exact Mem.Row.lt rad | omega | (simp <;> omega))).cell 1 rfl; clear hSw; go_simp; try with_reducible rfl)
        case' rest102 => skip
        try simp only [List.getElem_toArray, List.getElem_cons_succ, List.getElem_cons_zero, Act.put, List.setIfInBounds_toArray, List.set_cons_zero, List.set_cons_succ]
        refine wpAnyH_done (by kernel_rfl) ?_ _
        have hsa := hba.size
        rename_i wz
        have rz := rad.below hHeld
        have hbz := hba.drew.trans (hHeld.mono hsa)
        clear ra rad hba hsa hHeld
        have c0 := rz.cell 0 rfl
        have c1 := rz.cell 1 rfl
        go_wp2_with fail
        refine (C6.out _).mono ?_
        rintro e w6 ⟨rfl, rfl⟩
        go_wp2_with fail
        refine (C7.out _).mono ?_
        rintro e w7 ⟨rfl, rfl⟩
        go_wp2_with fail
        refine (C2.out _).mono ?_
        rintro e w8 ⟨rfl, q8, rfl⟩
        go_wp2_with fail
        refine (C3.out _).mono ?_
        rintro e w9 ⟨rfl, q9, rfl⟩
        go_wp2_with fail
        refine (C6.out _).mono ?_
        rintro e w10 ⟨rfl, rfl⟩
        go_wp2_with fail
        refine (works6_any _).mono ?_
        rintro e w12 ⟨rfl, hb12⟩
        go_wp2
        go_ret
        exact ⟨rfl, by first | exact hbz.trans (hb12.mono hbz.size) | exact (below_drewN hbz _).trans (hb12.mono (below_drewN hbz _).size)⟩
      | false =>
        cases W2 with
        | true =>
          have h3 := hV ho rfl
          subst h3
          clear hW hV
          go_enter Try.func12, Try.ntmps12
          go_wp2_with fail
          generalize (w.alloc (.cells #[.int .u8 f0, .int .u8 f1] 49)).alloc (.cells #[.int .u64 b0, .int .u64 b1] 50) = w2 at *
          have r0d := r0.drew
          have hfe : IntKind.i64.wrap (if f1 < f0 then (f1 : Int) else (f0 : Int)) = (fe : Int) := by rw [IntKind.wrap_i64]; split <;> omega
          have hma : IntKind.i64.wrap (if f0 < f1 then (f1 : Int) else (f0 : Int)) = (ma : Int) := by rw [IntKind.wrap_i64]; split <;> omega
          have r1d := r1.drew
          refine wp_region_held_drew (S := Go.RowKit.Below ((w2.drew).heap.size) (w2.drew)) (by kernel_rfl) ?hb104 (fun hHeld => ?rest104)
          case hb104 =>
            exact Go.RowKit.Below.refl _ _
          case' rest104 => skip
          refine wpAnyH_take (i := 0) (v := ?v105) rfl (by kernel_rfl) (by kernel_rfl) (by kernel_rfl) (fun _ _ _ h => h) (Or.inl ⟨by rfl, ?y105⟩) (by assumption) ?rest105
          case y105 => (intro w hSw; have hT0 := (Mem.bl_row hSw r0d (by first | exact Mem.Row.lt r0d | omega | (simp <;> omega))).cell 0 rfl; have hT1 := (Mem.bl_row hSw r0d (by first | exact Mem.Row.lt r0d | omega | (simp <;> omega))).cell 1 rfl; clear hSw; go_simp; try with_reducible rfl)
          case' rest105 => skip
          try simp only [List.getElem_toArray, List.getElem_cons_succ, List.getElem_cons_zero, Act.put, List.setIfInBounds_toArray, List.set_cons_zero, List.set_cons_succ]
          refine wpAnyH_take (i := 1) (v := ?v106) rfl (by kernel_rfl) (by kernel_rfl) (by kernel_rfl) (fun _ _ _ h => h) (Or.inl ⟨by rfl, ?y106⟩) (by assumption) ?rest106
          case y106 => (intro w hSw; have hT0 := (Mem.bl_row hSw r0d (by first | exact Mem.Row.lt r0d | omega | (simp <;> omega))).cell 0 rfl; have hT1 := (Mem.bl_row hSw r0d (by first | exact Mem.Row.lt r0d | omega | (simp <;> omega))).cell 1 rfl; clear hSw; go_simp; try with_reducible rfl)
          case' rest106 => skip
          try simp only [List.getElem_toArray, List.getElem_cons_succ, List.getElem_cons_zero, Act.put, List.setIfInBounds_toArray, List.set_cons_zero, List.set_cons_succ]
          refine wpAnyH_take (i := 2) (v := ?v107) rfl (by kernel_rfl) (by kernel_rfl) (by kernel_rfl) (fun _ _ _ h => h) (Or.inl ⟨by rfl, ?y107⟩) (by assumption) ?rest107
          case y107 => (intro w hSw; have hT0 := (Mem.bl_row hSw r0d (by first | exact Mem.Row.lt r0d | omega | (simp <;> omega))).cell 0 rfl; have hT1 := (Mem.bl_row hSw r0d (by first | exact Mem.Row.lt r0d | omega | (simp <;> omega))).cell 1 rfl; clear hSw; go_simp; try with_reducible rfl)
          case' rest107 => skip
          try simp only [List.getElem_toArray, List.getElem_cons_succ, List.getElem_cons_zero, Act.put, List.setIfInBounds_toArray, List.set_cons_zero, List.set_cons_succ]
          refine wpAnyH_take (i := 3) (v := ?v108) rfl (by kernel_rfl) (by kernel_rfl) (by kernel_rfl) (fun _ _ _ h => h) (Or.inl ⟨by rfl, ?y108⟩) (by assumption) ?rest108
          case y108 => (intro w hSw; have hT0 := (Mem.bl_row hSw r0d (by first | exact Mem.Row.lt r0d | omega | (simp <;> omega))).cell 0 rfl; have hT1 := (Mem.bl_row hSw r0d (by first | exact Mem.Row.lt r0d | omega | (simp <;> omega))).cell 1 rfl; clear hSw; go_simp; try with_reducible rfl)
          case' rest108 => skip
          try simp only [List.getElem_toArray, List.getElem_cons_succ, List.getElem_cons_zero, Act.put, List.setIfInBounds_toArray, List.set_cons_zero, List.set_cons_succ]
          refine wpAnyH_take (i := 4) (v := ?v109) rfl (by kernel_rfl) (by kernel_rfl) (by kernel_rfl) (fun _ _ _ h => h) (Or.inl ⟨by rfl, ?y109⟩) (by assumption) ?rest109
          case y109 => (intro w hSw; have hT0 := (Mem.bl_row hSw r0d (by first | exact Mem.Row.lt r0d | omega | (simp <;> omega))).cell 0 rfl; have hT1 := (Mem.bl_row hSw r0d (by first | exact Mem.Row.lt r0d | omega | (simp <;> omega))).cell 1 rfl; clear hSw; go_simp; try with_reducible rfl)
          case' rest109 => skip
          try simp only [List.getElem_toArray, List.getElem_cons_succ, List.getElem_cons_zero, Act.put, List.setIfInBounds_toArray, List.set_cons_zero, List.set_cons_succ]
          refine wpAnyH_take (i := 5) (v := ?v110) rfl (by kernel_rfl) (by kernel_rfl) (by kernel_rfl) (fun _ _ _ h => h) (Or.inl ⟨by rfl, ?y110⟩) (by assumption) ?rest110
          case y110 => (intro w hSw; have hT0 := (Mem.bl_row hSw r0d (by first | exact Mem.Row.lt r0d | omega | (simp <;> omega))).cell 0 rfl; have hT1 := (Mem.bl_row hSw r0d (by first | exact Mem.Row.lt r0d | omega | (simp <;> omega))).cell 1 rfl; clear hSw; go_simp; try with_reducible rfl)
          case' rest110 => skip
          try simp only [List.getElem_toArray, List.getElem_cons_succ, List.getElem_cons_zero, Act.put, List.setIfInBounds_toArray, List.set_cons_zero, List.set_cons_succ]
          refine wpAnyH_take (i := 6) (v := ?v111) rfl (by kernel_rfl) (by kernel_rfl) (by kernel_rfl) (fun _ _ _ h => h) (Or.inl ⟨by rfl, ?y111⟩) (by assumption) ?rest111
          case y111 => (intro w hSw; have hT0 := (Mem.bl_row hSw r0d (by first | exact Mem.Row.lt r0d | omega | (simp <;> omega))).cell 0 rfl; have hT1 := (Mem.bl_row hSw r0d (by first | exact Mem.Row.lt r0d | omega | (simp <;> omega))).cell 1 rfl; clear hSw; go_simp; try with_reducible rfl)
          case' rest111 => skip
          try simp only [List.getElem_toArray, List.getElem_cons_succ, List.getElem_cons_zero, Act.put, List.setIfInBounds_toArray, List.set_cons_zero, List.set_cons_succ]
          refine wpAnyH_take (i := 7) (v := ?v112) rfl (by kernel_rfl) (by kernel_rfl) (by kernel_rfl) (fun _ _ _ h => h) (Or.inl ⟨by rfl, ?y112⟩) (by assumption) ?rest112
          case y112 => (intro w hSw; have hT0 := (Mem.bl_row hSw r0d (by first | exact Mem.Row.lt r0d | omega | (simp <;> omega))).cell 0 rfl; have hT1 := (Mem.bl_row hSw r0d (by first | exact Mem.Row.lt r0d | omega | (simp <;> omega))).cell 1 rfl; clear hSw; go_simp; try with_reducible rfl)
          case' rest112 => skip
          try simp only [List.getElem_toArray, List.getElem_cons_succ, List.getElem_cons_zero, Act.put, List.setIfInBounds_toArray, List.set_cons_zero, List.set_cons_succ]
          refine wpAnyH_take (i := 8) (v := ?v113) rfl (by kernel_rfl) (by kernel_rfl) (by kernel_rfl) (fun _ _ _ h => h) (Or.inl ⟨by rfl, ?y113⟩) (by assumption) ?rest113
          case y113 => (intro w hSw; have hT0 := (Mem.bl_row hSw r0d (by first | exact Mem.Row.lt r0d | omega | (simp <;> omega))).cell 0 rfl; have hT1 := (Mem.bl_row hSw r0d (by first | exact Mem.Row.lt r0d | omega | (simp <;> omega))).cell 1 rfl; clear hSw; go_simp; try with_reducible rfl)
          case' rest113 => skip
          try simp only [List.getElem_toArray, List.getElem_cons_succ, List.getElem_cons_zero, Act.put, List.setIfInBounds_toArray, List.set_cons_zero, List.set_cons_succ]
          refine wpAnyH_take (i := 9) (v := ?v114) rfl (by kernel_rfl) (by kernel_rfl) (by kernel_rfl) (fun _ _ _ h => h) (Or.inl ⟨by rfl, ?y114⟩) (by assumption) ?rest114
          case y114 => (intro w hSw; have hT0 := (Mem.bl_row hSw r0d (by first | exact Mem.Row.lt r0d | omega | (simp <;> omega))).cell 0 rfl; have hT1 := (Mem.bl_row hSw r0d (by first | exact Mem.Row.lt r0d | omega | (simp <;> omega))).cell 1 rfl; clear hSw; go_simp; try with_reducible rfl)
          case' rest114 => skip
          try simp only [List.getElem_toArray, List.getElem_cons_succ, List.getElem_cons_zero, Act.put, List.setIfInBounds_toArray, List.set_cons_zero, List.set_cons_succ]
          refine wpAnyH_take (i := 10) (v := ?v115) rfl (by kernel_rfl) (by kernel_rfl) (by kernel_rfl) (fun _ _ _ h => h) (Or.inl ⟨by rfl, ?y115⟩) (by assumption) ?rest115
          case y115 => (intro w hSw; have hT0 := (Mem.bl_row hSw r0d (by first | exact Mem.Row.lt r0d | omega | (simp <;> omega))).cell 0 rfl; have hT1 := (Mem.bl_row hSw r0d (by first | exact Mem.Row.lt r0d | omega | (simp <;> omega))).cell 1 rfl; clear hSw; go_simp; try with_reducible rfl)
          case' rest115 => skip
          try simp only [List.getElem_toArray, List.getElem_cons_succ, List.getElem_cons_zero, Act.put, List.setIfInBounds_toArray, List.set_cons_zero, List.set_cons_succ]
          refine wpAnyH_take (i := 11) (v := ?v116) rfl (by kernel_rfl) (by kernel_rfl) (by kernel_rfl) (fun _ _ _ h => h) (Or.inl ⟨by rfl, ?y116⟩) (by assumption) ?rest116
          case y116 => (intro w hSw; have hT0 := (Mem.bl_row hSw r0d (by first | exact Mem.Row.lt r0d | omega | (simp <;> omega))).cell 0 rfl; have hT1 := (Mem.bl_row hSw r0d (by first | exact Mem.Row.lt r0d | omega | (simp <;> omega))).cell 1 rfl; clear hSw; go_simp; try with_reducible rfl)
          case' rest116 => skip
          try simp only [List.getElem_toArray, List.getElem_cons_succ, List.getElem_cons_zero, Act.put, List.setIfInBounds_toArray, List.set_cons_zero, List.set_cons_succ]
          refine wpAnyH_take (i := 12) (v := ?v117) rfl (by kernel_rfl) (by kernel_rfl) (by kernel_rfl) (fun _ _ _ h => h) (Or.inl ⟨by rfl, ?y117⟩) (by assumption) ?rest117
          case y117 => (intro w hSw; have hT0 := (Mem.bl_row hSw r0d (by first | exact Mem.Row.lt r0d | omega | (simp <;> omega))).cell 0 rfl; have hT1 := (Mem.bl_row hSw r0d (by first | exact Mem.Row.lt r0d | omega | (simp <;> omega))).cell 1 rfl; clear hSw; go_simp; try with_reducible rfl)
          case' rest117 => skip
          try simp only [List.getElem_toArray, List.getElem_cons_succ, List.getElem_cons_zero, Act.put, List.setIfInBounds_toArray, List.set_cons_zero, List.set_cons_succ]
          refine wpAnyH_take (i := 13) (v := ?v118) rfl (by kernel_rfl) (by kernel_rfl) (by kernel_rfl) (fun _ _ _ h => h) (Or.inl ⟨by rfl, ?y118⟩) (by assumption) ?rest118
          case y118 => (intro w hSw; have hT0 := (Mem.bl_row hSw r0d (by first | exact Mem.Row.lt r0d | omega | (simp <;> omega))).cell 0 rfl; have hT1 := (Mem.bl_row hSw r0d (by first | exact Mem.Row.lt r0d | omega | (simp <;> omega))).cell 1 rfl; clear hSw; go_simp; try with_reducible rfl)
          case' rest118 => skip
          try simp only [List.getElem_toArray, List.getElem_cons_succ, List.getElem_cons_zero, Act.put, List.setIfInBounds_toArray, List.set_cons_zero, List.set_cons_succ]
          refine wpAnyH_done (by kernel_rfl) ?_ _
          clear hfe hma r0 r0d r1 hmin hHeld
          generalize (if f1 < f0 then (f1 : Int) else (f0 : Int)) = z1
          generalize (if f0 < f1 then (f1 : Int) else (f0 : Int)) = z2
          have hbd := hb.drew
          obtain ⟨g1, hg1⟩ : ∃ g1, w.heap.size + 1 = g1 := ⟨_, rfl⟩
          rw [hg1] at r1d ⊢
          clear hg1 hb
          generalize w2.drew = w3 at *
          have c0 := r1d.cell 0 rfl
          have c1 := r1d.cell 1 rfl
          go_wp2_with fail
          refine (C1.out _).mono ?_
          rintro e w4 ⟨rfl, q4, rfl⟩
          go_wp2_with fail
          have ra := r1d.drewN q4
          have rad := ra.drew
          have hba := below_drewN hbd q4
          clear r1d hbd c0 c1
          generalize w3.drewN q4 = wa at *
          refine wp_region_held_drew (S := Go.RowKit.Below ((wa.drew).heap.size) (wa.drew)) (by kernel_rfl) ?hb150 (fun hHeld => ?rest150)
          case hb150 =>
            exact Go.RowKit.Below.refl _ _
          case' rest150 => skip
          refine wpAnyH_take (i := 0) (v := ?v151) rfl (by kernel_rfl) (by kernel_rfl) (by kernel_rfl) (fun _ _ _ h => h) (Or.inl ⟨by rfl, ?y151⟩) (by assumption) ?rest151
          case y151 => (intro w hSw; have hT0 := (Mem.bl_row hSw rad (by first | exact Mem.Row.lt rad | omega | (simp <;> omega))).cell 0 rfl; have hT1 := (Mem.bl_row hSw rad (by first | exact Mem.Row.lt rad | omega | (simp <;> omega))).cell 1 rfl; clear hSw; go_simp; try with_reducible rfl)
          case' rest151 => skip
          try simp only [List.getElem_toArray, List.getElem_cons_succ, List.getElem_cons_zero, Act.put, List.setIfInBounds_toArray, List.set_cons_zero, List.set_cons_succ]
          refine wpAnyH_take (i := 1) (v := ?v152) rfl (by kernel_rfl) (by kernel_rfl) (by kernel_rfl) (fun _ _ _ h => h) (Or.inl ⟨by rfl, ?y152⟩) (by assumption) ?rest152
          case y152 => (intro w hSw; have hT0 := (Mem.bl_row hSw rad (by first | exact Mem.Row.lt rad | omega | (simp <;> omega))).cell 0 rfl; have hT1 := (Mem.bl_row hSw rad (by first | exact Mem.Row.lt rad | omega | (simp <;> omega))).cell 1 rfl; clear hSw; go_simp; try with_reducible rfl)
          case' rest152 => skip
          try simp only [List.getElem_toArray, List.getElem_cons_succ, List.getElem_cons_zero, Act.put, List.setIfInBounds_toArray, List.set_cons_zero, List.set_cons_succ]
          refine wpAnyH_take (i := 3) (v := ?v153) rfl (by kernel_rfl) (by kernel_rfl) (by kernel_rfl) (fun _ _ _ h => h) (Or.inl ⟨by rfl, ?y153⟩) (by assumption) ?rest153
          case y153 => (intro w hSw; have hT0 := (Mem.bl_row hSw rad (by first | exact Mem.Row.lt rad | omega | (simp <;> omega))).cell 0 rfl; have hT1 := (Mem.bl_row hSw rad (by first | exact Mem.Row.lt rad | omega | (simp <;> omega))).cell 1 rfl; clear hSw; go_simp; try with_reducible rfl)
          case' rest153 => skip
          try simp only [List.getElem_toArray, List.getElem_cons_succ, List.getElem_cons_zero, Act.put, List.setIfInBounds_toArray, List.set_cons_zero, List.set_cons_succ]
          refine wpAnyH_take (i := 4) (v := ?v154) rfl (by kernel_rfl) (by kernel_rfl) (by kernel_rfl) (fun _ _ _ h => h) (Or.inl ⟨by rfl, ?y154⟩) (by assumption) ?rest154
          case y154 => (intro w hSw; have hT0 := (Mem.bl_row hSw rad (by first | exact Mem.Row.lt rad | omega | (simp <;> omega))).cell 0 rfl; have hT1 := (Mem.bl_row hSw rad (by first | exact Mem.Row.lt rad | omega | (simp <;> omega))).cell 1 rfl; clear hSw; go_simp; try with_reducible rfl)
          case' rest154 => skip
          try simp only [List.getElem_toArray, List.getElem_cons_succ, List.getElem_cons_zero, Act.put, List.setIfInBounds_toArray, List.set_cons_zero, List.set_cons_succ]
          refine wpAnyH_ready (rs := [2]) (by kernel_rfl) (by simp) ?_
          refine AllReadyH.cons rfl (fun K hK => ?_) AllReadyH.nil
          go_simp
          (refine (C4.out _).mono ?_; rintro e wx ⟨rfl, hbl⟩)
          try go_wp2_with fail
          have hSnew := Mem.bl_step hHeld hbl (by first | exact Nat.le_refl _ | omega | (simp <;> omega))
          refine hK.out _ _ ?_ (fun hHeld2 => ?_)
          · exact hSnew
          clear hbl
          clear hK K hHeld hSnew
          have hHeld := hHeld2
          clear hHeld2
          try simp only [List.getElem_toArray, List.getElem_cons_succ, List.getElem_cons_zero, Act.put, List.setIfInBounds_toArray, List.set_cons_zero, List.set_cons_succ]
          refine wpAnyH_ready (rs := [5]) (by kernel_rfl) (by simp) ?_
          refine AllReadyH.cons rfl (fun K hK => ?_) AllReadyH.nil
          go_simp
          (refine (C5.out _).mono ?_; rintro e wx ⟨rfl, hbl⟩)
          try go_wp2_with fail
          have hSnew := Mem.bl_step hHeld hbl (by first | exact Nat.le_refl _ | omega | (simp <;> omega))
          refine hK.out _ _ ?_ (fun hHeld2 => ?_)
          · exact hSnew
          clear hbl
          clear hK K hHeld hSnew
          have hHeld := hHeld2
          clear hHeld2
          try simp only [List.getElem_toArray, List.getElem_cons_succ, List.getElem_cons_zero, Act.put, List.setIfInBounds_toArray, List.set_cons_zero, List.set_cons_succ]
          refine wpAnyH_take (i := 6) (v := ?v155) rfl (by kernel_rfl) (by kernel_rfl) (by kernel_rfl) (fun _ _ _ h => h) (Or.inl ⟨by rfl, ?y155⟩) (by assumption) ?rest155
          case y155 => (intro w hSw; have hT0 := (Mem.bl_row hSw rad (by first | exact Mem.Row.lt rad | omega | (simp <;> omega))).cell 0 rfl; have hT1 := (Mem.bl_row hSw rad (by first | exact Mem.Row.lt rad | omega | (simp <;> omega))).cell 1 rfl; clear hSw; go_simp; try with_reducible rfl)
          case' rest155 => skip
          try simp only [List.getElem_toArray, List.getElem_cons_succ, List.getElem_cons_zero, Act.put, List.setIfInBounds_toArray, List.set_cons_zero, List.set_cons_succ]
          refine wpAnyH_take (i := 7) (v := ?v156) rfl (by kernel_rfl) (by kernel_rfl) (by kernel_rfl) (fun _ _ _ h => h) (Or.inl ⟨by rfl, ?y156⟩) (by assumption) ?rest156
          case y156 => (intro w hSw; have hT0 := (Mem.bl_row hSw rad (by first | exact Mem.Row.lt rad | omega | (simp <;> omega))).cell 0 rfl; have hT1 := (Mem.bl_row hSw rad (by first | exact Mem.Row.lt rad | omega | (simp <;> omega))).cell 1 rfl; clear hSw; go_simp; try with_reducible rfl)
          case' rest156 => skip
          try simp only [List.getElem_toArray, List.getElem_cons_succ, List.getElem_cons_zero, Act.put, List.setIfInBounds_toArray, List.set_cons_zero, List.set_cons_succ]
          refine wpAnyH_done (by kernel_rfl) ?_ _
          have hsa := hba.size
          rename_i wz
          have rz := rad.below hHeld
          have hbz := hba.drew.trans (hHeld.mono hsa)
          clear ra rad hba hsa hHeld
          have c0 := rz.cell 0 rfl
          have c1 := rz.cell 1 rfl
          go_wp2_with fail
          refine (C6.out _).mono ?_
          rintro e w6 ⟨rfl, rfl⟩
          go_wp2_with fail
          refine (C7.out _).mono ?_
          rintro e w7 ⟨rfl, rfl⟩
          go_wp2_with fail
          refine (C2.out _).mono ?_
          rintro e w8 ⟨rfl, q8, rfl⟩
          go_wp2_with fail
          refine (C3.out _).mono ?_
          rintro e w9 ⟨rfl, q9, rfl⟩
          go_wp2_with fail
          refine (C6.out _).mono ?_
          rintro e w10 ⟨rfl, rfl⟩
          go_wp2_with fail
          refine (works6_any _).mono ?_
          rintro e w12 ⟨rfl, hb12⟩
          go_wp2
          go_ret
          exact ⟨rfl, by first | exact hbz.trans (hb12.mono hbz.size) | exact (below_drewN hbz _).trans (hb12.mono (below_drewN hbz _).size)⟩
        | false =>
          clear hW hV
          go_enter Try.func12, Try.ntmps12
          go_wp2_with fail
          generalize (w.alloc (.cells #[.int .u8 f0, .int .u8 f1] 49)).alloc (.cells #[.int .u64 b0, .int .u64 b1] 50) = w2 at *
          have r0d := r0.drew
          have hfe : IntKind.i64.wrap (if f1 < f0 then (f1 : Int) else (f0 : Int)) = (fe : Int) := by rw [IntKind.wrap_i64]; split <;> omega
          have hma : IntKind.i64.wrap (if f0 < f1 then (f1 : Int) else (f0 : Int)) = (ma : Int) := by rw [IntKind.wrap_i64]; split <;> omega
          have r1d := r1.drew
          refine wp_region_held_drew (S := Go.RowKit.Below ((w2.drew).heap.size) (w2.drew)) (by kernel_rfl) ?hb158 (fun hHeld => ?rest158)
          case hb158 =>
            exact Go.RowKit.Below.refl _ _
          case' rest158 => skip
          refine wpAnyH_take (i := 0) (v := ?v159) rfl (by kernel_rfl) (by kernel_rfl) (by kernel_rfl) (fun _ _ _ h => h) (Or.inl ⟨by rfl, ?y159⟩) (by assumption) ?rest159
          case y159 => (intro w hSw; have hT0 := (Mem.bl_row hSw r0d (by first | exact Mem.Row.lt r0d | omega | (simp <;> omega))).cell 0 rfl; have hT1 := (Mem.bl_row hSw r0d (by first | exact Mem.Row.lt r0d | omega | (simp <;> omega))).cell 1 rfl; clear hSw; go_simp; try with_reducible rfl)
          case' rest159 => skip
          try simp only [List.getElem_toArray, List.getElem_cons_succ, List.getElem_cons_zero, Act.put, List.setIfInBounds_toArray, List.set_cons_zero, List.set_cons_succ]
          refine wpAnyH_take (i := 1) (v := ?v160) rfl (by kernel_rfl) (by kernel_rfl) (by kernel_rfl) (fun _ _ _ h => h) (Or.inl ⟨by rfl, ?y160⟩) (by assumption) ?rest160
          case y160 => (intro w hSw; have hT0 := (Mem.bl_row hSw r0d (by first | exact Mem.Row.lt r0d | omega | (simp <;> omega))).cell 0 rfl; have hT1 := (Mem.bl_row hSw r0d (by first | exact Mem.Row.lt r0d | omega | (simp <;> omega))).cell 1 rfl; clear hSw; go_simp; try with_reducible rfl)
          case' rest160 => skip
          try simp only [List.getElem_toArray, List.getElem_cons_succ, List.getElem_cons_zero, Act.put, List.setIfInBounds_toArray, List.set_cons_zero, List.set_cons_succ]
          refine wpAnyH_take (i := 2) (v := ?v161) rfl (by kernel_rfl) (by kernel_rfl) (by kernel_rfl) (fun _ _ _ h => h) (Or.inl ⟨by rfl, ?y161⟩) (by assumption) ?rest161
          case y161 => (intro w hSw; have hT0 := (Mem.bl_row hSw r0d (by first | exact Mem.Row.lt r0d | omega | (simp <;> omega))).cell 0 rfl; have hT1 := (Mem.bl_row hSw r0d (by first | exact Mem.Row.lt r0d | omega | (simp <;> omega))).cell 1 rfl; clear hSw; go_simp; try with_reducible rfl)
          case' rest161 => skip
          try simp only [List.getElem_toArray, List.getElem_cons_succ, List.getElem_cons_zero, Act.put, List.setIfInBounds_toArray, List.set_cons_zero, List.set_cons_succ]
          refine wpAnyH_take (i := 3) (v := ?v162) rfl (by kernel_rfl) (by kernel_rfl) (by kernel_rfl) (fun _ _ _ h => h) (Or.inl ⟨by rfl, ?y162⟩) (by assumption) ?rest162
          case y162 => (intro w hSw; have hT0 := (Mem.bl_row hSw r0d (by first | exact Mem.Row.lt r0d | omega | (simp <;> omega))).cell 0 rfl; have hT1 := (Mem.bl_row hSw r0d (by first | exact Mem.Row.lt r0d | omega | (simp <;> omega))).cell 1 rfl; clear hSw; go_simp; try with_reducible rfl)
          case' rest162 => skip
          try simp only [List.getElem_toArray, List.getElem_cons_succ, List.getElem_cons_zero, Act.put, List.setIfInBounds_toArray, List.set_cons_zero, List.set_cons_succ]
          refine wpAnyH_take (i := 4) (v := ?v163) rfl (by kernel_rfl) (by kernel_rfl) (by kernel_rfl) (fun _ _ _ h => h) (Or.inl ⟨by rfl, ?y163⟩) (by assumption) ?rest163
          case y163 => (intro w hSw; have hT0 := (Mem.bl_row hSw r0d (by first | exact Mem.Row.lt r0d | omega | (simp <;> omega))).cell 0 rfl; have hT1 := (Mem.bl_row hSw r0d (by first | exact Mem.Row.lt r0d | omega | (simp <;> omega))).cell 1 rfl; clear hSw; go_simp; try with_reducible rfl)
          case' rest163 => skip
          try simp only [List.getElem_toArray, List.getElem_cons_succ, List.getElem_cons_zero, Act.put, List.setIfInBounds_toArray, List.set_cons_zero, List.set_cons_succ]
          refine wpAnyH_take (i := 5) (v := ?v164) rfl (by kernel_rfl) (by kernel_rfl) (by kernel_rfl) (fun _ _ _ h => h) (Or.inl ⟨by rfl, ?y164⟩) (by assumption) ?rest164
          case y164 => (intro w hSw; have hT0 := (Mem.bl_row hSw r0d (by first | exact Mem.Row.lt r0d | omega | (simp <;> omega))).cell 0 rfl; have hT1 := (Mem.bl_row hSw r0d (by first | exact Mem.Row.lt r0d | omega | (simp <;> omega))).cell 1 rfl; clear hSw; go_simp; try with_reducible rfl)
          case' rest164 => skip
          try simp only [List.getElem_toArray, List.getElem_cons_succ, List.getElem_cons_zero, Act.put, List.setIfInBounds_toArray, List.set_cons_zero, List.set_cons_succ]
          refine wpAnyH_take (i := 6) (v := ?v165) rfl (by kernel_rfl) (by kernel_rfl) (by kernel_rfl) (fun _ _ _ h => h) (Or.inl ⟨by rfl, ?y165⟩) (by assumption) ?rest165
          case y165 => (intro w hSw; have hT0 := (Mem.bl_row hSw r0d (by first | exact Mem.Row.lt r0d | omega | (simp <;> omega))).cell 0 rfl; have hT1 := (Mem.bl_row hSw r0d (by first | exact Mem.Row.lt r0d | omega | (simp <;> omega))).cell 1 rfl; clear hSw; go_simp; try with_reducible rfl)
          case' rest165 => skip
          try simp only [List.getElem_toArray, List.getElem_cons_succ, List.getElem_cons_zero, Act.put, List.setIfInBounds_toArray, List.set_cons_zero, List.set_cons_succ]
          refine wpAnyH_take (i := 7) (v := ?v166) rfl (by kernel_rfl) (by kernel_rfl) (by kernel_rfl) (fun _ _ _ h => h) (Or.inl ⟨by rfl, ?y166⟩) (by assumption) ?rest166
          case y166 => (intro w hSw; have hT0 := (Mem.bl_row hSw r0d (by first | exact Mem.Row.lt r0d | omega | (simp <;> omega))).cell 0 rfl; have hT1 := (Mem.bl_row hSw r0d (by first | exact Mem.Row.lt r0d | omega | (simp <;> omega))).cell 1 rfl; clear hSw; go_simp; try with_reducible rfl)
          case' rest166 => skip
          try simp only [List.getElem_toArray, List.getElem_cons_succ, List.getElem_cons_zero, Act.put, List.setIfInBounds_toArray, List.set_cons_zero, List.set_cons_succ]
          refine wpAnyH_take (i := 8) (v := ?v167) rfl (by kernel_rfl) (by kernel_rfl) (by kernel_rfl) (fun _ _ _ h => h) (Or.inl ⟨by rfl, ?y167⟩) (by assumption) ?rest167
          case y167 => (intro w hSw; have hT0 := (Mem.bl_row hSw r0d (by first | exact Mem.Row.lt r0d | omega | (simp <;> omega))).cell 0 rfl; have hT1 := (Mem.bl_row hSw r0d (by first | exact Mem.Row.lt r0d | omega | (simp <;> omega))).cell 1 rfl; clear hSw; go_simp; try with_reducible rfl)
          case' rest167 => skip
          try simp only [List.getElem_toArray, List.getElem_cons_succ, List.getElem_cons_zero, Act.put, List.setIfInBounds_toArray, List.set_cons_zero, List.set_cons_succ]
          refine wpAnyH_take (i := 9) (v := ?v168) rfl (by kernel_rfl) (by kernel_rfl) (by kernel_rfl) (fun _ _ _ h => h) (Or.inl ⟨by rfl, ?y168⟩) (by assumption) ?rest168
          case y168 => (intro w hSw; have hT0 := (Mem.bl_row hSw r0d (by first | exact Mem.Row.lt r0d | omega | (simp <;> omega))).cell 0 rfl; have hT1 := (Mem.bl_row hSw r0d (by first | exact Mem.Row.lt r0d | omega | (simp <;> omega))).cell 1 rfl; clear hSw; go_simp; try with_reducible rfl)
          case' rest168 => skip
          try simp only [List.getElem_toArray, List.getElem_cons_succ, List.getElem_cons_zero, Act.put, List.setIfInBounds_toArray, List.set_cons_zero, List.set_cons_succ]
          refine wpAnyH_take (i := 10) (v := ?v169) rfl (by kernel_rfl) (by kernel_rfl) (by kernel_rfl) (fun _ _ _ h => h) (Or.inl ⟨by rfl, ?y169⟩) (by assumption) ?rest169
          case y169 => (intro w hSw; have hT0 := (Mem.bl_row hSw r0d (by first | exact Mem.Row.lt r0d | omega | (simp <;> omega))).cell 0 rfl; have hT1 := (Mem.bl_row hSw r0d (by first | exact Mem.Row.lt r0d | omega | (simp <;> omega))).cell 1 rfl; clear hSw; go_simp; try with_reducible rfl)
          case' rest169 => skip
          try simp only [List.getElem_toArray, List.getElem_cons_succ, List.getElem_cons_zero, Act.put, List.setIfInBounds_toArray, List.set_cons_zero, List.set_cons_succ]
          refine wpAnyH_take (i := 11) (v := ?v170) rfl (by kernel_rfl) (by kernel_rfl) (by kernel_rfl) (fun _ _ _ h => h) (Or.inl ⟨by rfl, ?y170⟩) (by assumption) ?rest170
          case y170 => (intro w hSw; have hT0 := (Mem.bl_row hSw r0d (by first | exact Mem.Row.lt r0d | omega | (simp <;> omega))).cell 0 rfl; have hT1 := (Mem.bl_row hSw r0d (by first | exact Mem.Row.lt r0d | omega | (simp <;> omega))).cell 1 rfl; clear hSw; go_simp; try with_reducible rfl)
          case' rest170 => skip
          try simp only [List.getElem_toArray, List.getElem_cons_succ, List.getElem_cons_zero, Act.put, List.setIfInBounds_toArray, List.set_cons_zero, List.set_cons_succ]
          refine wpAnyH_take (i := 12) (v := ?v171) rfl (by kernel_rfl) (by kernel_rfl) (by kernel_rfl) (fun _ _ _ h => h) (Or.inl ⟨by rfl, ?y171⟩) (by assumption) ?rest171
          case y171 => (intro w hSw; have hT0 := (Mem.bl_row hSw r0d (by first | exact Mem.Row.lt r0d | omega | (simp <;> omega))).cell 0 rfl; have hT1 := (Mem.bl_row hSw r0d (by first | exact Mem.Row.lt r0d | omega | (simp <;> omega))).cell 1 rfl; clear hSw; go_simp; try with_reducible rfl)
          case' rest171 => skip
          try simp only [List.getElem_toArray, List.getElem_cons_succ, List.getElem_cons_zero, Act.put, List.setIfInBounds_toArray, List.set_cons_zero, List.set_cons_succ]
          refine wpAnyH_take (i := 13) (v := ?v172) rfl (by kernel_rfl) (by kernel_rfl) (by kernel_rfl) (fun _ _ _ h => h) (Or.inl ⟨by rfl, ?y172⟩) (by assumption) ?rest172
          case y172 => (intro w hSw; have hT0 := (Mem.bl_row hSw r0d (by first | exact Mem.Row.lt r0d | omega | (simp <;> omega))).cell 0 rfl; have hT1 := (Mem.bl_row hSw r0d (by first | exact Mem.Row.lt r0d | omega | (simp <;> omega))).cell 1 rfl; clear hSw; go_simp; try with_reducible rfl)
          case' rest172 => skip
          try simp only [List.getElem_toArray, List.getElem_cons_succ, List.getElem_cons_zero, Act.put, List.setIfInBounds_toArray, List.set_cons_zero, List.set_cons_succ]
          refine wpAnyH_done (by kernel_rfl) ?_ _
          clear hfe hma r0 r0d r1 hmin hHeld
          generalize (if f1 < f0 then (f1 : Int) else (f0 : Int)) = z1
          generalize (if f0 < f1 then (f1 : Int) else (f0 : Int)) = z2
          have hbd := hb.drew
          obtain ⟨g1, hg1⟩ : ∃ g1, w.heap.size + 1 = g1 := ⟨_, rfl⟩
          rw [hg1] at r1d ⊢
          clear hg1 hb
          generalize w2.drew = w3 at *
          have c0 := r1d.cell 0 rfl
          have c1 := r1d.cell 1 rfl
          go_wp2_with fail
          refine (C1.out _).mono ?_
          rintro e w4 ⟨rfl, q4, rfl⟩
          go_wp2_with fail
          have ra := r1d.drewN q4
          have rad := ra.drew
          have hba := below_drewN hbd q4
          clear r1d hbd c0 c1
          generalize w3.drewN q4 = wa at *
          refine wp_region_held_drew (S := Go.RowKit.Below ((wa.drew).heap.size) (wa.drew)) (by kernel_rfl) ?hb201 (fun hHeld => ?rest201)
          case hb201 =>
            exact Go.RowKit.Below.refl _ _
          case' rest201 => skip
          refine wpAnyH_take (i := 0) (v := ?v202) rfl (by kernel_rfl) (by kernel_rfl) (by kernel_rfl) (fun _ _ _ h => h) (Or.inl ⟨by rfl, ?y202⟩) (by assumption) ?rest202
          case y202 => (intro w hSw; have hT0 := (Mem.bl_row hSw rad (by first | exact Mem.Row.lt rad | omega | (simp <;> omega))).cell 0 rfl; have hT1 := (Mem.bl_row hSw rad (by first | exact Mem.Row.lt rad | omega | (simp <;> omega))).cell 1 rfl; clear hSw; go_simp; try with_reducible rfl)
          case' rest202 => skip
          try simp only [List.getElem_toArray, List.getElem_cons_succ, List.getElem_cons_zero, Act.put, List.setIfInBounds_toArray, List.set_cons_zero, List.set_cons_succ]
          refine wpAnyH_take (i := 1) (v := ?v203) rfl (by kernel_rfl) (by kernel_rfl) (by kernel_rfl) (fun _ _ _ h => h) (Or.inl ⟨by rfl, ?y203⟩) (by assumption) ?rest203
          case y203 => (intro w hSw; have hT0 := (Mem.bl_row hSw rad (by first | exact Mem.Row.lt rad | omega | (simp <;> omega))).cell 0 rfl; have hT1 := (Mem.bl_row hSw rad (by first | exact Mem.Row.lt rad | omega | (simp <;> omega))).cell 1 rfl; clear hSw; go_simp; try with_reducible rfl)
          case' rest203 => skip
          try simp only [List.getElem_toArray, List.getElem_cons_succ, List.getElem_cons_zero, Act.put, List.setIfInBounds_toArray, List.set_cons_zero, List.set_cons_succ]
          refine wpAnyH_take (i := 3) (v := ?v204) rfl (by kernel_rfl) (by kernel_rfl) (by kernel_rfl) (fun _ _ _ h => h) (Or.inl ⟨by rfl, ?y204⟩) (by assumption) ?rest204
          case y204 => (intro w hSw; have hT0 := (Mem.bl_row hSw rad (by first | exact Mem.Row.lt rad | omega | (simp <;> omega))).cell 0 rfl; have hT1 := (Mem.bl_row hSw rad (by first | exact Mem.Row.lt rad | omega | (simp <;> omega))).cell 1 rfl; clear hSw; go_simp; try with_reducible rfl)
          case' rest204 => skip
          try simp only [List.getElem_toArray, List.getElem_cons_succ, List.getElem_cons_zero, Act.put, List.setIfInBounds_toArray, List.set_cons_zero, List.set_cons_succ]
          refine wpAnyH_take (i := 4) (v := ?v205) rfl (by kernel_rfl) (by kernel_rfl) (by kernel_rfl) (fun _ _ _ h => h) (Or.inl ⟨by rfl, ?y205⟩) (by assumption) ?rest205
          case y205 => (intro w hSw; have hT0 := (Mem.bl_row hSw rad (by first | exact Mem.Row.lt rad | omega | (simp <;> omega))).cell 0 rfl; have hT1 := (Mem.bl_row hSw rad (by first | exact Mem.Row.lt rad | omega | (simp <;> omega))).cell 1 rfl; clear hSw; go_simp; try with_reducible rfl)
          case' rest205 => skip
          try simp only [List.getElem_toArray, List.getElem_cons_succ, List.getElem_cons_zero, Act.put, List.setIfInBounds_toArray, List.set_cons_zero, List.set_cons_succ]
          refine wpAnyH_ready (rs := [2]) (by kernel_rfl) (by simp) ?_
          refine AllReadyH.cons rfl (fun K hK => ?_) AllReadyH.nil
          go_simp
          (refine (C4.out _).mono ?_; rintro e wx ⟨rfl, hbl⟩)
          try go_wp2_with fail
          have hSnew := Mem.bl_step hHeld hbl (by first | exact Nat.le_refl _ | omega | (simp <;> omega))
          refine hK.out _ _ ?_ (fun hHeld2 => ?_)
          · exact hSnew
          clear hbl
          clear hK K hHeld hSnew
          have hHeld := hHeld2
          clear hHeld2
          try simp only [List.getElem_toArray, List.getElem_cons_succ, List.getElem_cons_zero, Act.put, List.setIfInBounds_toArray, List.set_cons_zero, List.set_cons_succ]
          refine wpAnyH_ready (rs := [5]) (by kernel_rfl) (by simp) ?_
          refine AllReadyH.cons rfl (fun K hK => ?_) AllReadyH.nil
          go_simp
          (refine (C5.out _).mono ?_; rintro e wx ⟨rfl, hbl⟩)
          try go_wp2_with fail
          have hSnew := Mem.bl_step hHeld hbl (by first | exact Nat.le_refl _ | omega | (simp <;> omega))
          refine hK.out _ _ ?_ (fun hHeld2 => ?_)
          · exact hSnew
          clear hbl
          clear hK K hHeld hSnew
          have hHeld := hHeld2
          clear hHeld2
          try simp only [List.getElem_toArray, List.getElem_cons_succ, List.getElem_cons_zero, Act.put, List.setIfInBounds_toArray, List.set_cons_zero, List.set_cons_succ]
          refine wpAnyH_take (i := 6) (v := ?v206) rfl (by kernel_rfl) (by kernel_rfl) (by kernel_rfl) (fun _ _ _ h => h) (Or.inl ⟨by rfl, ?y206⟩) (by assumption) ?rest206
          case y206 => (intro w hSw; have hT0 := (Mem.bl_row hSw rad (by first | exact Mem.Row.lt rad | omega | (simp <;> omega))).cell 0 rfl; have hT1 := (Mem.bl_row hSw rad (by first | exact Mem.Row.lt rad | omega | (simp <;> omega))).cell 1 rfl; clear hSw; go_simp; try with_reducible rfl)
          case' rest206 => skip
          try simp only [List.getElem_toArray, List.getElem_cons_succ, List.getElem_cons_zero, Act.put, List.setIfInBounds_toArray, List.set_cons_zero, List.set_cons_succ]
          refine wpAnyH_take (i := 7) (v := ?v207) rfl (by kernel_rfl) (by kernel_rfl) (by kernel_rfl) (fun _ _ _ h => h) (Or.inl ⟨by rfl, ?y207⟩) (by assumption) ?rest207
          case y207 => (intro w hSw; have hT0 := (Mem.bl_row hSw rad (by first | exact Mem.Row.lt rad | omega | (simp <;> omega))).cell 0 rfl; have hT1 := (Mem.bl_row hSw rad (by first | exact Mem.Row.lt rad | omega | (simp <;> omega))).cell 1 rfl; clear hSw; go_simp; try with_reducible rfl)
          case' rest207 => skip
          try simp only [List.getElem_toArray, List.getElem_cons_succ, List.getElem_cons_zero, Act.put, List.setIfInBounds_toArray, List.set_cons_zero, List.set_cons_succ]
          refine wpAnyH_done (by kernel_rfl) ?_ _
          have hsa := hba.size
          rename_i wz
          have rz := rad.below hHeld
          have hbz := hba.drew.trans (hHeld.mono hsa)
          clear ra rad hba hsa hHeld
          have c0 := rz.cell 0 rfl
          have c1 := rz.cell 1 rfl
          go_wp2_with fail
          refine (C6.out _).mono ?_
          rintro e w6 ⟨rfl, rfl⟩
          go_wp2_with fail
          refine (C7.out _).mono ?_
          rintro e w7 ⟨rfl, rfl⟩
          go_wp2_with fail
          refine (C2.out _).mono ?_
          rintro e w8 ⟨rfl, q8, rfl⟩
          go_wp2_with fail
          refine (C6.out _).mono ?_
          rintro e w10 ⟨rfl, rfl⟩
          go_wp2_with fail
          refine (works6_any _).mono ?_
          rintro e w12 ⟨rfl, hb12⟩
          go_wp2
          go_ret
          exact ⟨rfl, by first | exact hbz.trans (hb12.mono hbz.size) | exact (below_drewN hbz _).trans (hb12.mono (below_drewN hbz _).size)⟩
    · cases W1 with
      | true =>
        have h2 := hW rfl
        subst h2
        clear hW hV
        go_enter Try.func12, Try.ntmps12
        go_wp2_with fail
        generalize (w.alloc (.cells #[.int .u8 f0, .int .u8 f1] 49)).alloc (.cells #[.int .u64 b0, .int .u64 b1] 50) = w2 at *
        have r0d := r0.drew
        have hfe : IntKind.i64.wrap (if f1 < f0 then (f1 : Int) else (f0 : Int)) = (fe : Int) := by rw [IntKind.wrap_i64]; split <;> omega
        have hma : IntKind.i64.wrap (if f0 < f1 then (f1 : Int) else (f0 : Int)) = (ma : Int) := by rw [IntKind.wrap_i64]; split <;> omega
        have r1d := r1.drew
        refine wp_region_held_drew (S := Go.RowKit.Below ((w2.drew).heap.size) (w2.drew)) (by kernel_rfl) ?hb209 (fun hHeld => ?rest209)
        case hb209 =>
          exact Go.RowKit.Below.refl _ _
        case' rest209 => skip
        refine wpAnyH_take (i := 0) (v := ?v210) rfl (by kernel_rfl) (by kernel_rfl) (by kernel_rfl) (fun _ _ _ h => h) (Or.inl ⟨by rfl, ?y210⟩) (by assumption) ?rest210
        case y210 => (intro w hSw; have hT0 := (Mem.bl_row hSw r0d (by first | exact Mem.Row.lt r0d | omega | (simp <;> omega))).cell 0 rfl; have hT1 := (Mem.bl_row hSw r0d (by first | exact Mem.Row.lt r0d | omega | (simp <;> omega))).cell 1 rfl; clear hSw; go_simp; try with_reducible rfl)
        case' rest210 => skip
        try simp only [List.getElem_toArray, List.getElem_cons_succ, List.getElem_cons_zero, Act.put, List.setIfInBounds_toArray, List.set_cons_zero, List.set_cons_succ]
        refine wpAnyH_take (i := 1) (v := ?v211) rfl (by kernel_rfl) (by kernel_rfl) (by kernel_rfl) (fun _ _ _ h => h) (Or.inl ⟨by rfl, ?y211⟩) (by assumption) ?rest211
        case y211 => (intro w hSw; have hT0 := (Mem.bl_row hSw r0d (by first | exact Mem.Row.lt r0d | omega | (simp <;> omega))).cell 0 rfl; have hT1 := (Mem.bl_row hSw r0d (by first | exact Mem.Row.lt r0d | omega | (simp <;> omega))).cell 1 rfl; clear hSw; go_simp; try with_reducible rfl)
        case' rest211 => skip
        try simp only [List.getElem_toArray, List.getElem_cons_succ, List.getElem_cons_zero, Act.put, List.setIfInBounds_toArray, List.set_cons_zero, List.set_cons_succ]
        refine wpAnyH_take (i := 2) (v := ?v212) rfl (by kernel_rfl) (by kernel_rfl) (by kernel_rfl) (fun _ _ _ h => h) (Or.inl ⟨by rfl, ?y212⟩) (by assumption) ?rest212
        case y212 => (intro w hSw; have hT0 := (Mem.bl_row hSw r0d (by first | exact Mem.Row.lt r0d | omega | (simp <;> omega))).cell 0 rfl; have hT1 := (Mem.bl_row hSw r0d (by first | exact Mem.Row.lt r0d | omega | (simp <;> omega))).cell 1 rfl; clear hSw; go_simp; try with_reducible rfl)
        case' rest212 => skip
        try simp only [List.getElem_toArray, List.getElem_cons_succ, List.getElem_cons_zero, Act.put, List.setIfInBounds_toArray, List.set_cons_zero, List.set_cons_succ]
        refine wpAnyH_take (i := 3) (v := ?v213) rfl (by kernel_rfl) (by kernel_rfl) (by kernel_rfl) (fun _ _ _ h => h) (Or.inl ⟨by rfl, ?y213⟩) (by assumption) ?rest213
        case y213 => (intro w hSw; have hT0 := (Mem.bl_row hSw r0d (by first | exact Mem.Row.lt r0d | omega | (simp <;> omega))).cell 0 rfl; have hT1 := (Mem.bl_row hSw r0d (by first | exact Mem.Row.lt r0d | omega | (simp <;> omega))).cell 1 rfl; clear hSw; go_simp; try with_reducible rfl)
        case' rest213 => skip
        try simp only [List.getElem_toArray, List.getElem_cons_succ, List.getElem_cons_zero, Act.put, List.setIfInBounds_toArray, List.set_cons_zero, List.set_cons_succ]
        refine wpAnyH_take (i := 4) (v := ?v214) rfl (by kernel_rfl) (by kernel_rfl) (by kernel_rfl) (fun _ _ _ h => h) (Or.inl ⟨by rfl, ?y214⟩) (by assumption) ?rest214
        case y214 => (intro w hSw; have hT0 := (Mem.bl_row hSw r0d (by first | exact Mem.Row.lt r0d | omega | (simp <;> omega))).cell 0 rfl; have hT1 := (Mem.bl_row hSw r0d (by first | exact Mem.Row.lt r0d | omega | (simp <;> omega))).cell 1 rfl; clear hSw; go_simp; try with_reducible rfl)
        case' rest214 => skip
        try simp only [List.getElem_toArray, List.getElem_cons_succ, List.getElem_cons_zero, Act.put, List.setIfInBounds_toArray, List.set_cons_zero, List.set_cons_succ]
        refine wpAnyH_take (i := 5) (v := ?v215) rfl (by kernel_rfl) (by kernel_rfl) (by kernel_rfl) (fun _ _ _ h => h) (Or.inl ⟨by rfl, ?y215⟩) (by assumption) ?rest215
        case y215 => (intro w hSw; have hT0 := (Mem.bl_row hSw r0d (by first | exact Mem.Row.lt r0d | omega | (simp <;> omega))).cell 0 rfl; have hT1 := (Mem.bl_row hSw r0d (by first | exact Mem.Row.lt r0d | omega | (simp <;> omega))).cell 1 rfl; clear hSw; go_simp; try with_reducible rfl)
        case' rest215 => skip
        try simp only [List.getElem_toArray, List.getElem_cons_succ, List.getElem_cons_zero, Act.put, List.setIfInBounds_toArray, List.set_cons_zero, List.set_cons_succ]
        refine wpAnyH_take (i := 6) (v := ?v216) rfl (by kernel_rfl) (by kernel_rfl) (by kernel_rfl) (fun _ _ _ h => h) (Or.inl ⟨by rfl, ?y216⟩) (by assumption) ?rest216
        case y216 => (intro w hSw; have hT0 := (Mem.bl_row hSw r0d (by first | exact Mem.Row.lt r0d | omega | (simp <;> omega))).cell 0 rfl; have hT1 := (Mem.bl_row hSw r0d (by first | exact Mem.Row.lt r0d | omega | (simp <;> omega))).cell 1 rfl; clear hSw; go_simp; try with_reducible rfl)
        case' rest216 => skip
        try simp only [List.getElem_toArray, List.getElem_cons_succ, List.getElem_cons_zero, Act.put, List.setIfInBounds_toArray, List.set_cons_zero, List.set_cons_succ]
        refine wpAnyH_take (i := 7) (v := ?v217) rfl (by kernel_rfl) (by kernel_rfl) (by kernel_rfl) (fun _ _ _ h => h) (Or.inl ⟨by rfl, ?y217⟩) (by assumption) ?rest217
        case y217 => (intro w hSw; have hT0 := (Mem.bl_row hSw r0d (by first | exact Mem.Row.lt r0d | omega | (simp <;> omega))).cell 0 rfl; have hT1 := (Mem.bl_row hSw r0d (by first | exact Mem.Row.lt r0d | omega | (simp <;> omega))).cell 1 rfl; clear hSw; go_simp; try with_reducible rfl)
        case' rest217 => skip
        try simp only [List.getElem_toArray, List.getElem_cons_succ, List.getElem_cons_zero, Act.put, List.setIfInBounds_toArray, List.set_cons_zero, List.set_cons_succ]
        refine wpAnyH_take (i := 8) (v := ?v218) rfl (by kernel_rfl) (by kernel_rfl) (by kernel_rfl) (fun _ _ _ h => h) (Or.inl ⟨by rfl, ?y218⟩) (by assumption) ?rest218
        case y218 => (intro w hSw; have hT0 := (Mem.bl_row hSw r0d (by first | exact Mem.Row.lt r0d | omega | (simp <;> omega))).cell 0 rfl; have hT1 := (Mem.bl_row hSw r0d (by first | exact Mem.Row.lt r0d | omega | (simp <;> omega))).cell 1 rfl; clear hSw; go_simp; try with_reducible rfl)
        case' rest218 => skip
        try simp only [List.getElem_toArray, List.getElem_cons_succ, List.getElem_cons_zero, Act.put, List.setIfInBounds_toArray, List.set_cons_zero, List.set_cons_succ]
        refine wpAnyH_take (i := 9) (v := ?v219) rfl (by kernel_rfl) (by kernel_rfl) (by kernel_rfl) (fun _ _ _ h => h) (Or.inl ⟨by rfl, ?y219⟩) (by assumption) ?rest219
        case y219 => (intro w hSw; have hT0 := (Mem.bl_row hSw r0d (by first | exact Mem.Row.lt r0d | omega | (simp <;> omega))).cell 0 rfl; have hT1 := (Mem.bl_row hSw r0d (by first | exact Mem.Row.lt r0d | omega | (simp <;> omega))).cell 1 rfl; clear hSw; go_simp; try with_reducible rfl)
        case' rest219 => skip
        try simp only [List.getElem_toArray, List.getElem_cons_succ, List.getElem_cons_zero, Act.put, List.setIfInBounds_toArray, List.set_cons_zero, List.set_cons_succ]
        refine wpAnyH_take (i := 10) (v := ?v220) rfl (by kernel_rfl) (by kernel_rfl) (by kernel_rfl) (fun _ _ _ h => h) (Or.inl ⟨by rfl, ?y220⟩) (by assumption) ?rest220
        case y220 => (intro w hSw; have hT0 := (Mem.bl_row hSw r0d (by first | exact Mem.Row.lt r0d | omega | (simp <;> omega))).cell 0 rfl; have hT1 := (Mem.bl_row hSw r0d (by first | exact Mem.Row.lt r0d | omega | (simp <;> omega))).cell 1 rfl; clear hSw; go_simp; try with_reducible rfl)
        case' rest220 => skip
        try simp only [List.getElem_toArray, List.getElem_cons_succ, List.getElem_cons_zero, Act.put, List.setIfInBounds_toArray, List.set_cons_zero, List.set_cons_succ]
        refine wpAnyH_take (i := 11) (v := ?v221) rfl (by kernel_rfl) (by kernel_rfl) (by kernel_rfl) (fun _ _ _ h => h) (Or.inl ⟨by rfl, ?y221⟩) (by assumption) ?rest221
        case y221 => (intro w hSw; have hT0 := (Mem.bl_row hSw r0d (by first | exact Mem.Row.lt r0d | omega | (simp <;> omega))).cell 0 rfl; have hT1 := (Mem.bl_row hSw r0d (by first | exact Mem.Row.lt r0d | omega | (simp <;> omega))).cell 1 rfl; clear hSw; go_simp; try with_reducible rfl)
        case' rest221 => skip
        try simp only [List.getElem_toArray, List.getElem_cons_succ, List.getElem_cons_zero, Act.put, List.setIfInBounds_toArray, List.set_cons_zero, List.set_cons_succ]
        refine wpAnyH_take (i := 12) (v := ?v222) rfl (by kernel_rfl) (by kernel_rfl) (by kernel_rfl) (fun _ _ _ h => h) (Or.inl ⟨by rfl, ?y222⟩) (by assumption) ?rest222
        case y222 => (intro w hSw; have hT0 := (Mem.bl_row hSw r0d (by first | exact Mem.Row.lt r0d | omega | (simp <;> omega))).cell 0 rfl; have hT1 := (Mem.bl_row hSw r0d (by first | exact Mem.Row.lt r0d | omega | (simp <;> omega))).cell 1 rfl; clear hSw; go_simp; try with_reducible rfl)
        case' rest222 => skip
        try simp only [List.getElem_toArray, List.getElem_cons_succ, List.getElem_cons_zero, Act.put, List.setIfInBounds_toArray, List.set_cons_zero, List.set_cons_succ]
        refine wpAnyH_take (i := 13) (v := ?v223) rfl (by kernel_rfl) (by kernel_rfl) (by kernel_rfl) (fun _ _ _ h => h) (Or.inl ⟨by rfl, ?y223⟩) (by assumption) ?rest223
        case y223 => (intro w hSw; have hT0 := (Mem.bl_row hSw r0d (by first | exact Mem.Row.lt r0d | omega | (simp <;> omega))).cell 0 rfl; have hT1 := (Mem.bl_row hSw r0d (by first | exact Mem.Row.lt r0d | omega | (simp <;> omega))).cell 1 rfl; clear hSw; go_simp; try with_reducible rfl)
        case' rest223 => skip
        try simp only [List.getElem_toArray, List.getElem_cons_succ, List.getElem_cons_zero, Act.put, List.setIfInBounds_toArray, List.set_cons_zero, List.set_cons_succ]
        refine wpAnyH_done (by kernel_rfl) ?_ _
        clear hfe hma r0 r0d r1 hmin hHeld
        generalize (if f1 < f0 then (f1 : Int) else (f0 : Int)) = z1
        generalize (if f0 < f1 then (f1 : Int) else (f0 : Int)) = z2
        have hbd := hb.drew
        obtain ⟨g1, hg1⟩ : ∃ g1, w.heap.size + 1 = g1 := ⟨_, rfl⟩
        rw [hg1] at r1d ⊢
        clear hg1 hb
        generalize w2.drew = w3 at *
        have c0 := r1d.cell 0 rfl
        have c1 := r1d.cell 1 rfl
        go_wp2_with fail
        refine (C1.out _).mono ?_
        rintro e w4 ⟨rfl, q4, rfl⟩
        go_wp2_with fail
        refine (C2.out _).mono ?_
        rintro e w5 ⟨rfl, q5, rfl⟩
        go_wp2_with fail
        have ra := r1d.drewN (q4 + q5)
        have rad := ra.drew
        have hba := below_drewN hbd (q4 + q5)
        clear r1d hbd c0 c1
        generalize w3.drewN (q4 + q5) = wa at *
        refine wp_region_held_drew (S := Go.RowKit.Below ((wa.drew).heap.size) (wa.drew)) (by kernel_rfl) ?hb249 (fun hHeld => ?rest249)
        case hb249 =>
          exact Go.RowKit.Below.refl _ _
        case' rest249 => skip
        refine wpAnyH_take (i := 0) (v := ?v250) rfl (by kernel_rfl) (by kernel_rfl) (by kernel_rfl) (fun _ _ _ h => h) (Or.inl ⟨by rfl, ?y250⟩) (by assumption) ?rest250
        case y250 => (intro w hSw; have hT0 := (Mem.bl_row hSw rad (by first | exact Mem.Row.lt rad | omega | (simp <;> omega))).cell 0 rfl; have hT1 := (Mem.bl_row hSw rad (by first | exact Mem.Row.lt rad | omega | (simp <;> omega))).cell 1 rfl; clear hSw; go_simp; try with_reducible rfl)
        case' rest250 => skip
        try simp only [List.getElem_toArray, List.getElem_cons_succ, List.getElem_cons_zero, Act.put, List.setIfInBounds_toArray, List.set_cons_zero, List.set_cons_succ]
        refine wpAnyH_take (i := 1) (v := ?v251) rfl (by kernel_rfl) (by kernel_rfl) (by kernel_rfl) (fun _ _ _ h => h) (Or.inl ⟨by rfl, ?y251⟩) (by assumption) ?rest251
        case y251 => (intro w hSw; have hT0 := (Mem.bl_row hSw rad (by first | exact Mem.Row.lt rad | omega | (simp <;> omega))).cell 0 rfl; have hT1 := (Mem.bl_row hSw rad (by first | exact Mem.Row.lt rad | omega | (simp <;> omega))).cell 1 rfl; clear hSw; go_simp; try with_reducible rfl)
        case' rest251 => skip
        try simp only [List.getElem_toArray, List.getElem_cons_succ, List.getElem_cons_zero, Act.put, List.setIfInBounds_toArray, List.set_cons_zero, List.set_cons_succ]
        refine wpAnyH_take (i := 3) (v := ?v252) rfl (by kernel_rfl) (by kernel_rfl) (by kernel_rfl) (fun _ _ _ h => h) (Or.inl ⟨by rfl, ?y252⟩) (by assumption) ?rest252
        case y252 => (intro w hSw; have hT0 := (Mem.bl_row hSw rad (by first | exact Mem.Row.lt rad | omega | (simp <;> omega))).cell 0 rfl; have hT1 := (Mem.bl_row hSw rad (by first | exact Mem.Row.lt rad | omega | (simp <;> omega))).cell 1 rfl; clear hSw; go_simp; try with_reducible rfl)
        case' rest252 => skip
        try simp only [List.getElem_toArray, List.getElem_cons_succ, List.getElem_cons_zero, Act.put, List.setIfInBounds_toArray, List.set_cons_zero, List.set_cons_succ]
        refine wpAnyH_take (i := 4) (v := ?v253) rfl (by kernel_rfl) (by kernel_rfl) (by kernel_rfl) (fun _ _ _ h => h) (Or.inl ⟨by rfl, ?y253⟩) (by assumption) ?rest253
        case y253 => (intro w hSw; have hT0 := (Mem.bl_row hSw rad (by first | exact Mem.Row.lt rad | omega | (simp <;> omega))).cell 0 rfl; have hT1 := (Mem.bl_row hSw rad (by first | exact Mem.Row.lt rad | omega | (simp <;> omega))).cell 1 rfl; clear hSw; go_simp; try with_reducible rfl)
        case' rest253 => skip
        try simp only [List.getElem_toArray, List.getElem_cons_succ, List.getElem_cons_zero, Act.put, List.setIfInBounds_toArray, List.set_cons_zero, List.set_cons_succ]
        refine wpAnyH_ready (rs := [2]) (by kernel_rfl) (by simp) ?_
        refine AllReadyH.cons rfl (fun K hK => ?_) AllReadyH.nil
        go_simp
        (refine (C4.out _).mono ?_; rintro e wx ⟨rfl, hbl⟩)
        try go_wp2_with fail
        have hSnew := Mem.bl_step hHeld hbl (by first | exact Nat.le_refl _ | omega | (simp <;> omega))
        refine hK.out _ _ ?_ (fun hHeld2 => ?_)
        · exact hSnew
        clear hbl
        clear hK K hHeld hSnew
        have hHeld := hHeld2
        clear hHeld2
        try simp only [List.getElem_toArray, List.getElem_cons_succ, List.getElem_cons_zero, Act.put, List.setIfInBounds_toArray, List.set_cons_zero, List.set_cons_succ]
        refine wpAnyH_ready (rs := [5]) (by kernel_rfl) (by simp) ?_
        refine AllReadyH.cons rfl (fun K hK => ?_) AllReadyH.nil
        go_simp
        (refine (C5.out _).mono ?_; rintro e wx ⟨rfl, hbl⟩)
        try go_wp2_with fail
        have hSnew := Mem.bl_step hHeld hbl (by first | exact Nat.le_refl _ | omega | (simp <;> omega))
        refine hK.out _ _ ?_ (fun hHeld2 => ?_)
        · exact hSnew
        clear hbl
        clear hK K hHeld hSnew
        have hHeld := hHeld2
        clear hHeld2
        try simp only [List.getElem_toArray, List.getElem_cons_succ, List.getElem_cons_zero, Act.put, List.setIfInBounds_toArray, List.set_cons_zero, List.set_cons_succ]
        refine wpAnyH_take (i := 6) (v := ?v254) rfl (by kernel_rfl) (by kernel_rfl) (by kernel_rfl) (fun _ _ _ h => h) (Or.inl ⟨by rfl, ?y254⟩) (by assumption) ?rest254
        case y254 => (intro w hSw; have hT0 := (Mem.bl_row hSw rad (by first | exact Mem.Row.lt rad | omega | (simp <;> omega))).cell 0 rfl; have hT1 := (Mem.bl_row hSw rad (by first | exact Mem.Row.lt rad | omega | (simp <;> omega))).cell 1 rfl; clear hSw; go_simp; try with_reducible rfl)
        case' rest254 => skip
        try simp only [List.getElem_toArray, List.getElem_cons_succ, List.getElem_cons_zero, Act.put, List.setIfInBounds_toArray, List.set_cons_zero, List.set_cons_succ]
        refine wpAnyH_take (i := 7) (v := ?v255) rfl (by kernel_rfl) (by kernel_rfl) (by kernel_rfl) (fun _ _ _ h => h) (Or.inl ⟨by rfl, ?y255⟩) (by assumption) ?rest255
        case y255 => (intro w hSw; have hT0 := (Mem.bl_row hSw rad (by first | exact Mem.Row.lt rad | omega | (simp <;> omega))).cell 0 rfl; have hT1 := (Mem.bl_row hSw rad (by first | exact Mem.Row.lt rad | omega | (simp <;> omega))).cell 1 rfl; clear hSw; go_simp; try with_reducible rfl)
        case' rest255 => skip
        try simp only [List.getElem_toArray, List.getElem_cons_succ, List.getElem_cons_zero, Act.put, List.setIfInBounds_toArray, List.set_cons_zero, List.set_cons_succ]
        refine wpAnyH_done (by kernel_rfl) ?_ _
        have hsa := hba.size
        rename_i wz
        have rz := rad.below hHeld
        have hbz := hba.drew.trans (hHeld.mono hsa)
        clear ra rad hba hsa hHeld
        have c0 := rz.cell 0 rfl
        have c1 := rz.cell 1 rfl
        go_wp2_with fail
        refine (C6.out _).mono ?_
        rintro e w6 ⟨rfl, rfl⟩
        go_wp2_with fail
        refine (C7.out _).mono ?_
        rintro e w7 ⟨rfl, rfl⟩
        go_wp2_with fail
        refine (C6.out _).mono ?_
        rintro e w10 ⟨rfl, rfl⟩
        go_wp2_with fail
        refine (works6_any _).mono ?_
        rintro e w12 ⟨rfl, hb12⟩
        go_wp2
        go_ret
        exact ⟨rfl, by first | exact hbz.trans (hb12.mono hbz.size) | exact (below_drewN hbz _).trans (hb12.mono (below_drewN hbz _).size)⟩
      | false =>
        clear hW hV
        go_enter Try.func12, Try.ntmps12
        go_wp2_with fail
        generalize (w.alloc (.cells #[.int .u8 f0, .int .u8 f1] 49)).alloc (.cells #[.int .u64 b0, .int .u64 b1] 50) = w2 at *
        have r0d := r0.drew
        have hfe : IntKind.i64.wrap (if f1 < f0 then (f1 : Int) else (f0 : Int)) = (fe : Int) := by rw [IntKind.wrap_i64]; split <;> omega
        have hma : IntKind.i64.wrap (if f0 < f1 then (f1 : Int) else (f0 : Int)) = (ma : Int) := by rw [IntKind.wrap_i64]; split <;> omega
        have r1d := r1.drew
        refine wp_region_held_drew (S := Go.RowKit.Below ((w2.drew).heap.size) (w2.drew)) (by kernel_rfl) ?hb257 (fun hHeld => ?rest257)
        case hb257 =>
          exact Go.RowKit.Below.refl _ _
        case' rest257 => skip
        refine wpAnyH_take (i := 0) (v := ?v258) rfl (by kernel_rfl) (by kernel_rfl) (by kernel_rfl) (fun _ _ _ h => h) (Or.inl ⟨by rfl, ?y258⟩) (by assumption) ?rest258
        case y258 => (intro w hSw; have hT0 := (Mem.bl_row hSw r0d (by first | exact Mem.Row.lt r0d | omega | (simp <;> omega))).cell 0 rfl; have hT1 := (Mem.bl_row hSw r0d (by first | exact Mem.Row.lt r0d | omega | (simp <;> omega))).cell 1 rfl; clear hSw; go_simp; try with_reducible rfl)
        case' rest258 => skip
        try simp only [List.getElem_toArray, List.getElem_cons_succ, List.getElem_cons_zero, Act.put, List.setIfInBounds_toArray, List.set_cons_zero, List.set_cons_succ]
        refine wpAnyH_take (i := 1) (v := ?v259) rfl (by kernel_rfl) (by kernel_rfl) (by kernel_rfl) (fun _ _ _ h => h) (Or.inl ⟨by rfl, ?y259⟩) (by assumption) ?rest259
        case y259 => (intro w hSw; have hT0 := (Mem.bl_row hSw r0d (by first | exact Mem.Row.lt r0d | omega | (simp <;> omega))).cell 0 rfl; have hT1 := (Mem.bl_row hSw r0d (by first | exact Mem.Row.lt r0d | omega | (simp <;> omega))).cell 1 rfl; clear hSw; go_simp; try with_reducible rfl)
        case' rest259 => skip
        try simp only [List.getElem_toArray, List.getElem_cons_succ, List.getElem_cons_zero, Act.put, List.setIfInBounds_toArray, List.set_cons_zero, List.set_cons_succ]
        refine wpAnyH_take (i := 2) (v := ?v260) rfl (by kernel_rfl) (by kernel_rfl) (by kernel_rfl) (fun _ _ _ h => h) (Or.inl ⟨by rfl, ?y260⟩) (by assumption) ?rest260
        case y260 => (intro w hSw; have hT0 := (Mem.bl_row hSw r0d (by first | exact Mem.Row.lt r0d | omega | (simp <;> omega))).cell 0 rfl; have hT1 := (Mem.bl_row hSw r0d (by first | exact Mem.Row.lt r0d | omega | (simp <;> omega))).cell 1 rfl; clear hSw; go_simp; try with_reducible rfl)
        case' rest260 => skip
        try simp only [List.getElem_toArray, List.getElem_cons_succ, List.getElem_cons_zero, Act.put, List.setIfInBounds_toArray, List.set_cons_zero, List.set_cons_succ]
        refine wpAnyH_take (i := 3) (v := ?v261) rfl (by kernel_rfl) (by kernel_rfl) (by kernel_rfl) (fun _ _ _ h => h) (Or.inl ⟨by rfl, ?y261⟩) (by assumption) ?rest261
        case y261 => (intro w hSw; have hT0 := (Mem.bl_row hSw r0d (by first | exact Mem.Row.lt r0d | omega | (simp <;> omega))).cell 0 rfl; have hT1 := (Mem.bl_row hSw r0d (by first | exact Mem.Row.lt r0d | omega | (simp <;> omega))).cell 1 rfl; clear hSw; go_simp; try with_reducible rfl)
        case' rest261 => skip
        try simp only [List.getElem_toArray, List.getElem_cons_succ, List.getElem_cons_zero, Act.put, List.setIfInBounds_toArray, List.set_cons_zero, List.set_cons_succ]
        refine wpAnyH_take (i := 4) (v := ?v262) rfl (by kernel_rfl) (by kernel_rfl) (by kernel_rfl) (fun _ _ _ h => h) (Or.inl ⟨by rfl, ?y262⟩) (by assumption) ?rest262
        case y262 => (intro w hSw; have hT0 := (Mem.bl_row hSw r0d (by first | exact Mem.Row.lt r0d | omega | (simp <;> omega))).cell 0 rfl; have hT1 := (Mem.bl_row hSw r0d (by first | exact Mem.Row.lt r0d | omega | (simp <;> omega))).cell 1 rfl; clear hSw; go_simp; try with_reducible rfl)
        case' rest262 => skip
        try simp only [List.getElem_toArray, List.getElem_cons_succ, List.getElem_cons_zero, Act.put, List.setIfInBounds_toArray, List.set_cons_zero, List.set_cons_succ]
        refine wpAnyH_take (i := 5) (v := ?v263) rfl (by kernel_rfl) (by kernel_rfl) (by kernel_rfl) (fun _ _ _ h => h) (Or.inl ⟨by rfl, ?y263⟩) (by assumption) ?rest263
        case y263 => (intro w hSw; have hT0 := (Mem.bl_row hSw r0d (by first | exact Mem.Row.lt r0d | omega | (simp <;> omega))).cell 0 rfl; have hT1 := (Mem.bl_row hSw r0d (by first | exact Mem.Row.lt r0d | omega | (simp <;> omega))).cell 1 rfl; clear hSw; go_simp; try with_reducible rfl)
        case' rest263 => skip
        try simp only [List.getElem_toArray, List.getElem_cons_succ, List.getElem_cons_zero, Act.put, List.setIfInBounds_toArray, List.set_cons_zero, List.set_cons_succ]
        refine wpAnyH_take (i := 6) (v := ?v264) rfl (by kernel_rfl) (by kernel_rfl) (by kernel_rfl) (fun _ _ _ h => h) (Or.inl ⟨by rfl, ?y264⟩) (by assumption) ?rest264
        case y264 => (intro w hSw; have hT0 := (Mem.bl_row hSw r0d (by first | exact Mem.Row.lt r0d | omega | (simp <;> omega))).cell 0 rfl; have hT1 := (Mem.bl_row hSw r0d (by first | exact Mem.Row.lt r0d | omega | (simp <;> omega))).cell 1 rfl; clear hSw; go_simp; try with_reducible rfl)
        case' rest264 => skip
        try simp only [List.getElem_toArray, List.getElem_cons_succ, List.getElem_cons_zero, Act.put, List.setIfInBounds_toArray, List.set_cons_zero, List.set_cons_succ]
        refine wpAnyH_take (i := 7) (v := ?v265) rfl (by kernel_rfl) (by kernel_rfl) (by kernel_rfl) (fun _ _ _ h => h) (Or.inl ⟨by rfl, ?y265⟩) (by assumption) ?rest265
        case y265 => (intro w hSw; have hT0 := (Mem.bl_row hSw r0d (by first | exact Mem.Row.lt r0d | omega | (simp <;> omega))).cell 0 rfl; have hT1 := (Mem.bl_row hSw r0d (by first | exact Mem.Row.lt r0d | omega | (simp <;> omega))).cell 1 rfl; clear hSw; go_simp; try with_reducible rfl)
        case' rest265 => skip
        try simp only [List.getElem_toArray, List.getElem_cons_succ, List.getElem_cons_zero, Act.put, List.setIfInBounds_toArray, List.set_cons_zero, List.set_cons_succ]
        refine wpAnyH_take (i := 8) (v := ?v266) rfl (by kernel_rfl) (by kernel_rfl) (by kernel_rfl) (fun _ _ _ h => h) (Or.inl ⟨by rfl, ?y266⟩) (by assumption) ?rest266
        case y266 => (intro w hSw; have hT0 := (Mem.bl_row hSw r0d (by first | exact Mem.Row.lt r0d | omega | (simp <;> omega))).cell 0 rfl; have hT1 := (Mem.bl_row hSw r0d (by first | exact Mem.Row.lt r0d | omega | (simp <;> omega))).cell 1 rfl; clear hSw; go_simp; try with_reducible rfl)
        case' rest266 => skip
        try simp only [List.getElem_toArray, List.getElem_cons_succ, List.getElem_cons_zero, Act.put, List.setIfInBounds_toArray, List.set_cons_zero, List.set_cons_succ]
        refine wpAnyH_take (i := 9) (v := ?v267) rfl (by kernel_rfl) (by kernel_rfl) (by kernel_rfl) (fun _ _ _ h => h) (Or.inl ⟨by rfl, ?y267⟩) (by assumption) ?rest267
        case y267 => (intro w hSw; have hT0 := (Mem.bl_row hSw r0d (by first | exact Mem.Row.lt r0d | omega | (simp <;> omega))).cell 0 rfl; have hT1 := (Mem.bl_row hSw r0d (by first | exact Mem.Row.lt r0d | omega | (simp <;> omega))).cell 1 rfl; clear hSw; go_simp; try with_reducible rfl)
        case' rest267 => skip
        try simp only [List.getElem_toArray, List.getElem_cons_succ, List.getElem_cons_zero, Act.put, List.setIfInBounds_toArray, List.set_cons_zero, List.set_cons_succ]
        refine wpAnyH_take (i := 10) (v := ?v268) rfl (by kernel_rfl) (by kernel_rfl) (by kernel_rfl) (fun _ _ _ h => h) (Or.inl ⟨by rfl, ?y268⟩) (by assumption) ?rest268
        case y268 => (intro w hSw; have hT0 := (Mem.bl_row hSw r0d (by first | exact Mem.Row.lt r0d | omega | (simp <;> omega))).cell 0 rfl; have hT1 := (Mem.bl_row hSw r0d (by first | exact Mem.Row.lt r0d | omega | (simp <;> omega))).cell 1 rfl; clear hSw; go_simp; try with_reducible rfl)
        case' rest268 => skip
        try simp only [List.getElem_toArray, List.getElem_cons_succ, List.getElem_cons_zero, Act.put, List.setIfInBounds_toArray, List.set_cons_zero, List.set_cons_succ]
        refine wpAnyH_take (i := 11) (v := ?v269) rfl (by kernel_rfl) (by kernel_rfl) (by kernel_rfl) (fun _ _ _ h => h) (Or.inl ⟨by rfl, ?y269⟩) (by assumption) ?rest269
        case y269 => (intro w hSw; have hT0 := (Mem.bl_row hSw r0d (by first | exact Mem.Row.lt r0d | omega | (simp <;> omega))).cell 0 rfl; have hT1 := (Mem.bl_row hSw r0d (by first | exact Mem.Row.lt r0d | omega | (simp <;> omega))).cell 1 rfl; clear hSw; go_simp; try with_reducible rfl)
        case' rest269 => skip
        try simp only [List.getElem_toArray, List.getElem_cons_succ, List.getElem_cons_zero, Act.put, List.setIfInBounds_toArray, List.set_cons_zero, List.set_cons_succ]
        refine wpAnyH_take (i := 12) (v := ?v270) rfl (by kernel_rfl) (by kernel_rfl) (by kernel_rfl) (fun _ _ _ h => h) (Or.inl ⟨by rfl, ?y270⟩) (by assumption) ?rest270
        case y270 => (intro w hSw; have hT0 := (Mem.bl_row hSw r0d (by first | exact Mem.Row.lt r0d | omega | (simp <;> omega))).cell 0 rfl; have hT1 := (Mem.bl_row hSw r0d (by first | exact Mem.Row.lt r0d | omega | (simp <;> omega))).cell 1 rfl; clear hSw; go_simp; try with_reducible rfl)
        case' rest270 => skip
        try simp only [List.getElem_toArray, List.getElem_cons_succ, List.getElem_cons_zero, Act.put, List.setIfInBounds_toArray, List.set_cons_zero, List.set_cons_succ]
        refine wpAnyH_take (i := 13) (v := ?v271) rfl (by kernel_rfl) (by kernel_rfl) (by kernel_rfl) (fun _ _ _ h => h) (Or.inl ⟨by rfl, ?y271⟩) (by assumption) ?rest271
        case y271 => (intro w hSw; have hT0 := (Mem.bl_row hSw r0d (by first | exact Mem.Row.lt r0d | omega | (simp <;> omega))).cell 0 rfl; have hT1 := (Mem.bl_row hSw r0d (by first | exact Mem.Row.lt r0d | omega | (simp <;> omega))).cell 1 rfl; clear hSw; go_simp; try with_reducible rfl)
        case' rest271 => skip
        try simp only [List.getElem_toArray, List.getElem_cons_succ, List.getElem_cons_zero, Act.put, List.setIfInBounds_toArray, List.set_cons_zero, List.set_cons_succ]
        refine wpAnyH_done (by kernel_rfl) ?_ _
        clear hfe hma r0 r0d r1 hmin hHeld
        generalize (if f1 < f0 then (f1 : Int) else (f0 : Int)) = z1
        generalize (if f0 < f1 then (f1 : Int) else (f0 : Int)) = z2
        have hbd := hb.drew
        obtain ⟨g1, hg1⟩ : ∃ g1, w.heap.size + 1 = g1 := ⟨_, rfl⟩
        rw [hg1] at r1d ⊢
        clear hg1 hb
        generalize w2.drew = w3 at *
        have c0 := r1d.cell 0 rfl
        have c1 := r1d.cell 1 rfl
        go_wp2_with fail
        refine (C1.out _).mono ?_
        rintro e w4 ⟨rfl, q4, rfl⟩
        go_wp2_with fail
        have ra := r1d.drewN q4
        have rad := ra.drew
        have hba := below_drewN hbd q4
        clear r1d hbd c0 c1
        generalize w3.drewN q4 = wa at *
        refine wp_region_held_drew (S := Go.RowKit.Below ((wa.drew).heap.size) (wa.drew)) (by kernel_rfl) ?hb297 (fun hHeld => ?rest297)
        case hb297 =>
          exact Go.RowKit.Below.refl _ _
        case' rest297 => skip
        refine wpAnyH_take (i := 0) (v := ?v298) rfl (by kernel_rfl) (by kernel_rfl) (by kernel_rfl) (fun _ _ _ h => h) (Or.inl ⟨by rfl, ?y298⟩) (by assumption) ?rest298
        case y298 => (intro w hSw; have hT0 := (Mem.bl_row hSw rad (by first | exact Mem.Row.lt rad | omega | (simp <;> omega))).cell 0 rfl; have hT1 := (Mem.bl_row hSw rad (by first | exact Mem.Row.lt rad | omega | (simp <;> omega))).cell 1 rfl; clear hSw; go_simp; try with_reducible rfl)
        case' rest298 => skip
        try simp only [List.getElem_toArray, List.getElem_cons_succ, List.getElem_cons_zero, Act.put, List.setIfInBounds_toArray, List.set_cons_zero, List.set_cons_succ]
        refine wpAnyH_take (i := 1) (v := ?v299) rfl (by kernel_rfl) (by kernel_rfl) (by kernel_rfl) (fun _ _ _ h => h) (Or.inl ⟨by rfl, ?y299⟩) (by assumption) ?rest299
        case y299 => (intro w hSw; have hT0 := (Mem.bl_row hSw rad (by first | exact Mem.Row.lt rad | omega | (simp <;> omega))).cell 0 rfl; have hT1 := (Mem.bl_row hSw rad (by first | exact Mem.Row.lt rad | omega | (simp <;> omega))).cell 1 rfl; clear hSw; go_simp; try with_reducible rfl)
        case' rest299 => skip
        try simp only [List.getElem_toArray, List.getElem_cons_succ, List.getElem_cons_zero, Act.put, List.setIfInBounds_toArray, List.set_cons_zero, List.set_cons_succ]
        refine wpAnyH_take (i := 3) (v := ?v300) rfl (by kernel_rfl) (by kernel_rfl) (by kernel_rfl) (fun _ _ _ h => h) (Or.inl ⟨by rfl, ?y300⟩) (by assumption) ?rest300
        case y300 => (intro w hSw; have hT0 := (Mem.bl_row hSw rad (by first | exact Mem.Row.lt rad | omega | (simp <;> omega))).cell 0 rfl; have hT1 := (Mem.bl_row hSw rad (by first | exact Mem.Row.lt rad | omega | (simp <;> omega))).cell 1 rfl; clear hSw; go_simp; try with_reducible rfl)
        case' rest300 => skip
        try simp only [List.getElem_toArray, List.getElem_cons_succ, List.getElem_cons_zero, Act.put, List.setIfInBounds_toArray, List.set_cons_zero, List.set_cons_succ]
        refine wpAnyH_take (i := 4) (v := ?v301) rfl (by kernel_rfl) (by kernel_rfl) (by kernel_rfl) (fun _ _ _ h => h) (Or.inl ⟨by rfl, ?y301⟩) (by assumption) ?rest301
        case y301 => (intro w hSw; have hT0 := (Mem.bl_row hSw rad (by first | exact Mem.Row.lt rad | omega | (simp <;> omega))).cell 0 rfl; have hT1 := (Mem.bl_row hSw rad (by first | exact Mem.Row.lt rad | omega | (simp <;> omega))).cell 1 rfl; clear hSw; go_simp; try with_reducible rfl)
        case' rest301 => skip
        try simp only [List.getElem_toArray, List.getElem_cons_succ, List.getElem_cons_zero, Act.put, List.setIfInBounds_toArray, List.set_cons_zero, List.set_cons_succ]
        refine wpAnyH_ready (rs := [2]) (by kernel_rfl) (by simp) ?_
        refine AllReadyH.cons rfl (fun K hK => ?_) AllReadyH.nil
        go_simp
        (refine (C4.out _).mono ?_; rintro e wx ⟨rfl, hbl⟩)
        try go_wp2_with fail
        have hSnew := Mem.bl_step hHeld hbl (by first | exact Nat.le_refl _ | omega | (simp <;> omega))
        refine hK.out _ _ ?_ (fun hHeld2 => ?_)
        · exact hSnew
        clear hbl
        clear hK K hHeld hSnew
        have hHeld := hHeld2
        clear hHeld2
        try simp only [List.getElem_toArray, List.getElem_cons_succ, List.getElem_cons_zero, Act.put, List.setIfInBounds_toArray, List.set_cons_zero, List.set_cons_succ]
        refine wpAnyH_ready (rs := [5]) (by kernel_rfl) (by simp) ?_
        refine AllReadyH.cons rfl (fun K hK => ?_) AllReadyH.nil
        go_simp
        (refine (C5.out _).mono ?_; rintro e wx ⟨rfl, hbl⟩)
        try go_wp2_with fail
        have hSnew := Mem.bl_step hHeld hbl (by first | exact Nat.le_refl _ | omega | (simp <;> omega))
        refine hK.out _ _ ?_ (fun hHeld2 => ?_)
        · exact hSnew
        clear hbl
        clear hK K hHeld hSnew
        have hHeld := hHeld2
        clear hHeld2
        try simp only [List.getElem_toArray, List.getElem_cons_succ, List.getElem_cons_zero, Act.put, List.setIfInBounds_toArray, List.set_cons_zero, List.set_cons_succ]
        refine wpAnyH_take (i := 6) (v := ?v302) rfl (by kernel_rfl) (by kernel_rfl) (by kernel_rfl) (fun _ _ _ h => h) (Or.inl ⟨by rfl, ?y302⟩) (by assumption) ?rest302
        case y302 => (intro w hSw; have hT0 := (Mem.bl_row hSw rad (by first | exact Mem.Row.lt rad | omega | (simp <;> omega))).cell 0 rfl; have hT1 := (Mem.bl_row hSw rad (by first | exact Mem.Row.lt rad | omega | (simp <;> omega))).cell 1 rfl; clear hSw; go_simp; try with_reducible rfl)
        case' rest302 => skip
        try simp only [List.getElem_toArray, List.getElem_cons_succ, List.getElem_cons_zero, Act.put, List.setIfInBounds_toArray, List.set_cons_zero, List.set_cons_succ]
        refine wpAnyH_take (i := 7) (v := ?v303) rfl (by kernel_rfl) (by kernel_rfl) (by kernel_rfl) (fun _ _ _ h => h) (Or.inl ⟨by rfl, ?y303⟩) (by assumption) ?rest303
        case y303 => (intro w hSw; have hT0 := (Mem.bl_row hSw rad (by first | exact Mem.Row.lt rad | omega | (simp <;> omega))).cell 0 rfl; have hT1 := (Mem.bl_row hSw rad (by first | exact Mem.Row.lt rad | omega | (simp <;> omega))).cell 1 rfl; clear hSw; go_simp; try with_reducible rfl)
        case' rest303 => skip
        try simp only [List.getElem_toArray, List.getElem_cons_succ, List.getElem_cons_zero, Act.put, List.setIfInBounds_toArray, List.set_cons_zero, List.set_cons_succ]
        refine wpAnyH_done (by kernel_rfl) ?_ _
        have hsa := hba.size
        rename_i wz
        have rz := rad.below hHeld
        have hbz := hba.drew.trans (hHeld.mono hsa)
        clear ra rad hba hsa hHeld
        have c0 := rz.cell 0 rfl
        have c1 := rz.cell 1 rfl
        go_wp2_with fail
        refine (C6.out _).mono ?_
        rintro e w6 ⟨rfl, rfl⟩
        go_wp2_with fail
        refine (C7.out _).mono ?_
        rintro e w7 ⟨rfl, rfl⟩
        go_wp2_with fail
        refine (C6.out _).mono ?_
        rintro e w10 ⟨rfl, rfl⟩
        go_wp2_with fail
        refine (works6_any _).mono ?_
        rintro e w12 ⟨rfl, hb12⟩
        go_wp2
        go_ret
        exact ⟨rfl, by first | exact hbz.trans (hb12.mono hbz.size) | exact (below_drewN hbz _).trans (hb12.mono (below_drewN hbz _).size)⟩
end Go.Proofs.Ythgncnpemnlodaa.Fl
