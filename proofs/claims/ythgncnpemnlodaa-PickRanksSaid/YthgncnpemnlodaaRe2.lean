/- Ratio, Greatest, and the examples of the page. No statement is proved here. -/
import Derived.Test.YthgncnpemnlodaaRe
import Derived.Test.YthgncnpemnlodaaMem
namespace Go.Proofs.Ythgncnpemnlodaa.Fl
open Go.RowKit
set_option linter.unusedVariables false
set_option linter.unusedSimpArgs false
/-- What is laid where there is no answer. -/
def nb (x y : Nat) (w : World) : Nat := Question.cut (.nanBits .f64 x y) (w.tape w.drawn (.nanBits .f64 x y))
theorem nb_nan (x y : Nat) (w : World) : nan (nb x y w) = true := by
  unfold nb nan Question.cut rung inf
  simp only
  generalize w.tape w.drawn (.nanBits .f64 x y) = t
  rw [decide_eq_true_eq]
  have h1 : t / 2 % (2 ^ 52 - 1) < 2 ^ 52 - 1 := Nat.mod_lt _ (by decide)
  generalize t / 2 % (2 ^ 52 - 1) = f at *
  rcases Nat.mod_two_eq_zero_or_one t with h | h <;> rw [h] <;> omega
theorem nb_lt (x y : Nat) (w : World) : nb x y w < 18446744073709551616 := by
  unfold nb Question.cut
  simp only
  generalize w.tape w.drawn (.nanBits .f64 x y) = t
  omega
theorem run_nan {P : Program} (op : BinOp) (t : TypeId) (x y : Nat) (ho : op = .quo ∨ op = .sub) (h : floatBits op .f64 x y = none) (w : World) : (binOp op t (F x) (F y)).run P w = .ok (F (nb x y w)) w.drew := by
  unfold floatBits at h
  rcases ho with rfl | rfl <;> simp only at h <;> simp [binOp, Op.floatArith, h, choose, Sem.run, Question.forced, nb]
theorem ratio_none (n m : Int) (h : floatBits .quo .f64 (floatOfInt .f64 n) (floatOfInt .f64 m) = none) (w : World) :
    Calls Try.prog 22 #[.int .i64 n, .int .i64 m] w fun e w' => ∃ r, e = .returned (F r) ∧ r < 18446744073709551616 ∧ nan r = true ∧ w' = w.drew := by
  have hq := fun t w => run_nan (P := Try.prog) .quo t _ _ (.inl rfl) h w
  go_enter Try.func22, Try.ntmps22
  go_wp2
  go_ret
  exact ⟨_, rfl, nb_lt _ _ _, nb_nan _ _ _, rfl⟩
theorem ratio_some (n m : Int) (r : Nat) (h : floatBits .quo .f64 (floatOfInt .f64 n) (floatOfInt .f64 m) = some r) (w : World) :
    Calls Try.prog 22 #[.int .i64 n, .int .i64 m] w fun e w' => e = .returned (F r) ∧ w' = w := by
  have hq := fun t w => run_float_arith (P := Try.prog) w .quo t .f64 _ _ _ h
  go_enter Try.func22, Try.ntmps22
  go_wp2
  go_ret
  exact ⟨rfl, rfl⟩
/-- The first one that none stands ahead of. -/
def Gr (l : List Nat) (i : Nat) : Prop := (∀ (k : Nat) (h : k < l.length) (hi : i < l.length), ord l[k] l[i] ≤ 0) ∧ (∀ (k : Nat) (h : k < i) (hi : i < l.length), ord (l[k]'(by omega)) l[i] < 0)
def GrTo (l : List Nat) (m i : Nat) : Prop := (∀ (k : Nat) (h : k < l.length) (hi : i < l.length), k < m → ord l[k] l[i] ≤ 0) ∧ (∀ (k : Nat) (h : k < i) (hi : i < l.length), ord (l[k]'(by omega)) l[i] < 0)
theorem gr_next {l : List Nat} {m i : Nat} (h : GrTo l m i) (hm : m < l.length) (hi : i < l.length) (him : i ≤ m) (ho : 0 < ord l[m] l[i]) : GrTo l (m + 1) m := by
  have ho' := ord_back l[m] l[i]
  refine ⟨fun k hk _ hkm => ?_, fun k hk _ => ?_⟩
  · by_cases e : k = m
    · subst e; rw [ord_self]; omega
    · exact ord_trans (h.1 k hk hi (by omega)) (by omega)
  · have h1 := h.1 k (by omega) hi hk
    exact ord_lt1 h1 (by omega)
theorem gr_stay {l : List Nat} {m i : Nat} (h : GrTo l m i) (hm : m < l.length) (hi : i < l.length) (ho : ¬ 0 < ord l[m] l[i]) : GrTo l (m + 1) i :=
  ⟨fun k hk _ hkm => by
    by_cases e : k = m
    · subst e; omega
    · exact h.1 k hk hi (by omega), h.2⟩
theorem greatest_any (A : Option Addr) (n c : Nat) (l : List Nat) (w : World) (hx : Open.Sl w F A n l) (hs : ∀ x ∈ l, x < 18446744073709551616) :
    Calls Try.prog 15 #[.slice A n c] w fun e w' => ∃ i : Nat, e = .returned (.tuple #[.int .i64 i, .bool (decide (0 < n))]) ∧ Gr l i ∧ (i = 0 ∨ i < n) ∧ w' = w := by
  have hn := hx.1
  have hm := hx.2.1
  go_enter Try.func15, Try.ntmps15
  go_wp2
  go_loopw [4, 9] (fun a i wr => ∃ m k : Nat, k ≤ n ∧ a = .int .i64 m ∧ i = .int .i64 k ∧ (m = 0 ∨ m < k) ∧ GrTo l k m ∧ w = wr) (fun _ i _ => n - (intOf i).toNat)
  case atStart => exact ⟨0, 0, by omega, rfl, rfl, .inl rfl, ⟨fun k _ _ h => by omega, fun k h => by omega⟩, rfl⟩
  case round =>
    obtain ⟨m, k, hk, rfl, rfl, hmk, hg, rfl⟩ := hrel
    have HG := Lib.hid hg
    clear hg
    by_cases hlt : k < n
    · have hkx : k < l.length := by omega
      have hmx : m < l.length := by omega
      obtain ⟨ad, rfl, hadb, hcell⟩ := hx.at_ hkx
      obtain ⟨ad', e', hadb', hcell'⟩ := hx.at_ hmx
      injection e' with e'
      subst e'
      have C := Lib.hid (order_any l[k] l[m] (hs _ (List.getElem_mem _)) (hs _ (List.getElem_mem _)) w)
      have HN := Lib.hid (gr_next HG.out hkx hmx (by omega))
      have HS := Lib.hid (gr_stay HG.out hkx hmx)
      generalize l[k] = x at *
      generalize l[m] = y at *
      generalize ord x y = o at *
      by_cases ho : 0 < o
      · go_wp2_with fail
        refine C.out.mono ?_
        rintro e w1 ⟨rfl, rfl⟩
        go_wp2
        go_roundw
        case rel => exact ⟨k, k + 1, by omega, rfl, by go_num, by omega, HN.out ho, trivial⟩
        case measure => simp [intOf]; omega
      · go_wp2_with fail
        refine C.out.mono ?_
        rintro e w1 ⟨rfl, rfl⟩
        go_wp2
        go_roundw
        case rel => exact ⟨m, k + 1, by omega, rfl, by go_num, by omega, HS.out ho, trivial⟩
        case measure => simp [intOf]; omega
    · have HL := Lib.hid (show Gr l m ∧ (m = 0 ∨ m < n) from ⟨⟨fun k' h' hi => HG.out.1 k' h' hi (by omega), HG.out.2⟩, by omega⟩)
      have hkn : k = n := by omega
      subst hkn
      go_wp2
      go_ret2
      exact ⟨m, by simp, HL.out.1, HL.out.2, rfl⟩
theorem kd_nan {x : Nat} (h : nan x = true) : kd x = 0 := by unfold kd; rw [h]; rfl
theorem gr_works {r i : Nat} (hr : nan r = true) (h : Gr [r, 13830554455654793216, 9223372036854775808] i) (hi : i = 0 ∨ i < 3) : i = 2 := by
  have h2 := h.1 2 (by simp) (by simp; omega)
  have e2 : tk 9223372036854775808 = -1 := by decide
  have e1 : tk 13830554455654793216 = -4607182418800017409 := by decide
  have e0 : tk r = -36893488147419103232 := by unfold tk; rw [hr]; rfl
  have hi : i = 0 ∨ i = 1 ∨ i = 2 := by omega
  rcases hi with rfl | rfl | rfl
  · simp only [ord, List.getElem_cons_zero, List.getElem_cons_succ, e0, e1, e2] at h2
    simp at h2
  · simp only [ord, List.getElem_cons_zero, List.getElem_cons_succ, e0, e1, e2] at h2
    simp at h2
  · rfl
theorem no_ratio : floatBits .quo .f64 (floatOfInt .f64 0) (floatOfInt .f64 0) = none := by decide +kernel
theorem minus_ratio : floatBits .quo .f64 (floatOfInt .f64 (-3)) (floatOfInt .f64 0) = some 18442240474082181120 := by decide +kernel
theorem works_any (w : World) :
    Calls Try.prog 14 #[] w fun e w' => e = .returned (.bool true) ∧ Below w.heap.size w w' := by
  have C1 := Lib.hid (fun w => ratio_none 0 0 no_ratio w)
  have C2 := Lib.hid (fun w => ratio_some (-3) 0 _ minus_ratio w)
  have C3 := Lib.hid (fun w => from_any 9223372036854775808 w)
  have C4 := Lib.hid (fun w => order_any 9223372036854775808 0 (by decide) (by decide) w)
  have C5 := Lib.hid (fun w => kind_any 18442240474082181120 (by decide) w)
  have e4 : ord 9223372036854775808 0 = -1 := by decide
  have e5 : kd 18442240474082181120 = 1 := by decide
  rw [e4] at C4
  rw [e5] at C5
  clear e4 e5
  go_enter Try.func14, Try.ntmps14
  go_wp2_with fail
  refine (C3.out _).mono ?_
  rintro e w1 ⟨rfl, rfl⟩
  go_wp2_with fail
  refine (C1.out _).mono ?_
  rintro e w1 ⟨r, rfl, hr, hrn, rfl⟩
  go_wp2_with fail
  have hsl : Open.Sl (w1.alloc (.cells #[F r, .float .f64 13830554455654793216, F 9223372036854775808] 28)).drew F (some ⟨w1.heap.size, 0, none⟩) 3 [r, 13830554455654793216, 9223372036854775808] :=
    (Mem.sl_block (heap_alloc_new w1 _) rfl (by simp)).drew
  refine (greatest_any _ 3 3 [r, 13830554455654793216, 9223372036854775808] _ hsl (by
    intro x hx
    simp at hx
    rcases hx with rfl | rfl | rfl <;> omega)).mono ?_
  rintro e w2 ⟨i, rfl, hg, hi, rfl⟩
  obtain rfl := gr_works hrn hg hi
  have hb := (Below.refl w1.heap.size w1).alloc (Nat.le_refl _) (.cells #[F r, .float .f64 13830554455654793216, F 9223372036854775808] 28)
  have hb2 := hb.drew
  clear hg hi hsl
  generalize (w1.alloc (.cells #[F r, .float .f64 13830554455654793216, F 9223372036854775808] 28)).drew = w3 at *
  go_wp2_with fail
  refine (C4.out _).mono ?_
  rintro e w4 ⟨rfl, rfl⟩
  go_wp2_with fail
  refine (C1.out _).mono ?_
  rintro e w4 ⟨r2, rfl, hr2, hrn2, rfl⟩
  go_wp2_with fail
  refine (kind_any r2 hr2 _).mono ?_
  rw [kd_nan hrn2]
  rintro e w4 ⟨rfl, rfl⟩
  go_wp2_with fail
  refine (C2.out _).mono ?_
  rintro e w4 ⟨rfl, rfl⟩
  go_wp2_with fail
  refine (C5.out _).mono ?_
  rintro e w4 ⟨rfl, rfl⟩
  go_wp2
  go_ret
  exact ⟨rfl, hb2.drew⟩
end Go.Proofs.Ythgncnpemnlodaa.Fl
