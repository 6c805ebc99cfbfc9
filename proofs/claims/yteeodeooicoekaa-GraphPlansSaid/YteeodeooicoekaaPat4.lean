/- Patches, on: whether two meet, are the same; the document's Lay, Cut, In, Meet, Was, Same. -/
import Derived.Test.YteeodeooicoekaaPat3
namespace Go.Proofs.Yteeodeooicoekaa.Pat
open Go.RowKit Go.Proofs.Yteeodeooicoekaa.Mem Go.Proofs.Yteeodeooicoekaa.Open Go.Proofs.Yteeodeooicoekaa.Kind Go.Proofs.Yteeodeooicoekaa.Blk Go.Proofs.Yteeodeooicoekaa.App
set_option linter.unusedVariables false
set_option linter.unusedSimpArgs false
theorem two_rows (w : World) (T T2 : TypeId) (p q : Array Value) :
    Row ((w.alloc (.cells p T)).alloc (.cells q T2)) w.heap.size T p ∧ Row ((w.alloc (.cells p T)).alloc (.cells q T2)) (w.heap.size + 1) T2 q ∧ Below w.heap.size w ((w.alloc (.cells p T)).alloc (.cells q T2)) := by
  have h1 : Row (w.alloc (.cells p T)) w.heap.size T p := Row.new _ _ _
  have h2 : Row ((w.alloc (.cells p T)).alloc (.cells q T2)) (w.alloc (.cells p T)).heap.size T2 q := Row.new _ _ _
  have e1 : (w.alloc (.cells p T)).heap.size = w.heap.size + 1 := by simp
  rw [e1] at h2
  exact ⟨h1.alloc _, h2, ((Below.refl _ _).alloc (Nat.le_refl _) _).alloc (by simp) _⟩
/-! ### patch.Meet -/
set_option maxHeartbeats 1000000 in
theorem meet_any (a : Int) (A : Option Addr) (n c : Nat) (b : Int) (A2 : Option Addr) (m c2 : Nat) (w : World) (hn : n ≤ M63) (hm : m ≤ M63) :
    Calls Try.prog 81 #[patV a A n c, patV b A2 m c2] w fun e w' => e = .returned (.bool (meetB a n b m)) ∧ Below w.heap.size w w' := by
  obtain ⟨hp, hq, hbel⟩ := two_rows w 60 60 #[.int .i64 a, .slice A n c] #[.int .i64 b, .slice A2 m c2]
  cases h : rightN a n with
  | false =>
    have HM : Hid (meetB a n b m = false) := by unfold meetB; rw [h]; rfl
    have HC := Lib.hid (fun w' => check_no a A n c w' hn h)
    clear h
    go_enter Try.func81, Try.ntmps81
    go_wp2_with fail
    generalize (w.alloc (.cells #[.int .i64 a, .slice A n c] 60)).alloc (.cells #[.int .i64 b, .slice A2 m c2] 60) = w1 at *
    refine (HC.out _).mono ?_
    rintro e w2 ⟨rfl, hbel2⟩
    have hbel3 := hbel.trans (hbel2.mono hbel.size)
    clear hp hq hbel hbel2
    go_wp2
    go_ret
    exact ⟨ret_bool HM.out.symm, hbel3⟩
  | true =>
    have HC := Lib.hid (fun w' => check_yes a A n c w' h)
    cases h2 : rightN b m with
    | false =>
      have HM : Hid (meetB a n b m = false) := by unfold meetB; rw [h, h2]; rfl
      have HC2 := Lib.hid (fun w' => check_no b A2 m c2 w' hm h2)
      clear h h2
      go_enter Try.func81, Try.ntmps81
      go_wp2_with fail
      generalize (w.alloc (.cells #[.int .i64 a, .slice A n c] 60)).alloc (.cells #[.int .i64 b, .slice A2 m c2] 60) = w1 at *
      refine (HC.out _).mono ?_
      rintro e w2 ⟨rfl, hbel2⟩
      have hq2 := hq.below hbel2
      have c0 := hq2.cell 0 rfl
      have c1 := hq2.cell 1 rfl
      have hbel3 := hbel.trans (hbel2.mono hbel.size)
      clear hp hq hbel hbel2
      go_wp2_with fail
      refine (HC2.out _).mono ?_
      rintro e w3 ⟨rfl, hbel2⟩
      have hbel4 := hbel3.trans (hbel2.mono hbel3.size)
      clear hbel3 hbel2 c0 c1
      go_wp2
      go_ret
      exact ⟨ret_bool HM.out.symm, hbel4⟩
    | true =>
      have HC2 := Lib.hid (fun w' => check_yes b A2 m c2 w' h2)
      obtain ⟨r1, r2, r3, r4⟩ := (right_iff _ _).1 h
      obtain ⟨s1, s2, s3, s4⟩ := (right_iff _ _).1 h2
      have HM : Hid (meetB a n b m = decide (a < b + m ∧ b < a + n)) := by unfold meetB; rw [h, h2]; rfl
      clear h h2
      by_cases g1 : a < b + m
      · by_cases g2 : b < a + n
        · have HV : Hid (meetB a n b m = true) := by rw [HM.out]; exact decide_eq_true ⟨g1, g2⟩
          go_enter Try.func81, Try.ntmps81
          go_wp2_with fail
          generalize (w.alloc (.cells #[.int .i64 a, .slice A n c] 60)).alloc (.cells #[.int .i64 b, .slice A2 m c2] 60) = w1 at *
          refine (HC.out _).mono ?_
          rintro e w2 ⟨rfl, hbel2⟩
          have hp2 := hp.below hbel2
          have hq2 := hq.below hbel2
          have c0 := hq2.cell 0 rfl
          have c1 := hq2.cell 1 rfl
          have hbel3 := hbel.trans (hbel2.mono hbel.size)
          clear hp hq hbel hbel2
          go_wp2_with fail
          refine (HC2.out _).mono ?_
          rintro e w3 ⟨rfl, hbel2⟩
          have hbel4 := hbel3.trans (hbel2.mono hbel3.size)
          have d0 := (hp2.below hbel2).cell 0 rfl
          have d1 := (hp2.below hbel2).cell 1 rfl
          have e0 := (hq2.below hbel2).cell 0 rfl
          have e1 := (hq2.below hbel2).cell 1 rfl
          clear hbel3 hbel2 c0 c1 hp2 hq2
          go_wp2
          go_ret
          exact ⟨ret_bool HV.out.symm, hbel4⟩
        · have HV : Hid (meetB a n b m = false) := by rw [HM.out]; exact decide_eq_false (fun h => g2 h.2)
          have hg2 : decide (b < a + (n : Int)) = false := decide_eq_false g2
          go_enter Try.func81, Try.ntmps81
          go_wp2_with fail
          generalize (w.alloc (.cells #[.int .i64 a, .slice A n c] 60)).alloc (.cells #[.int .i64 b, .slice A2 m c2] 60) = w1 at *
          refine (HC.out _).mono ?_
          rintro e w2 ⟨rfl, hbel2⟩
          have hp2 := hp.below hbel2
          have hq2 := hq.below hbel2
          have c0 := hq2.cell 0 rfl
          have c1 := hq2.cell 1 rfl
          have hbel3 := hbel.trans (hbel2.mono hbel.size)
          clear hp hq hbel hbel2
          go_wp2_with fail
          refine (HC2.out _).mono ?_
          rintro e w3 ⟨rfl, hbel2⟩
          have hbel4 := hbel3.trans (hbel2.mono hbel3.size)
          have d0 := (hp2.below hbel2).cell 0 rfl
          have d1 := (hp2.below hbel2).cell 1 rfl
          have e0 := (hq2.below hbel2).cell 0 rfl
          have e1 := (hq2.below hbel2).cell 1 rfl
          clear hbel3 hbel2 c0 c1 hp2 hq2
          go_wp2
          go_ret
          exact ⟨ret_bool HV.out.symm, hbel4⟩
      · have HV : Hid (meetB a n b m = false) := by rw [HM.out]; exact decide_eq_false (fun h => g1 h.1)
        go_enter Try.func81, Try.ntmps81
        go_wp2_with fail
        generalize (w.alloc (.cells #[.int .i64 a, .slice A n c] 60)).alloc (.cells #[.int .i64 b, .slice A2 m c2] 60) = w1 at *
        refine (HC.out _).mono ?_
        rintro e w2 ⟨rfl, hbel2⟩
        have hp2 := hp.below hbel2
        have hq2 := hq.below hbel2
        have c0 := hq2.cell 0 rfl
        have c1 := hq2.cell 1 rfl
        have hbel3 := hbel.trans (hbel2.mono hbel.size)
        clear hp hq hbel hbel2
        go_wp2_with fail
        refine (HC2.out _).mono ?_
        rintro e w3 ⟨rfl, hbel2⟩
        have hbel4 := hbel3.trans (hbel2.mono hbel3.size)
        have d0 := (hp2.below hbel2).cell 0 rfl
        have e0 := (hq2.below hbel2).cell 0 rfl
        have e1 := (hq2.below hbel2).cell 1 rfl
        clear hbel3 hbel2 c0 c1 hp2 hq2
        go_wp2
        go_ret
        exact ⟨ret_bool HV.out.symm, hbel4⟩
/-! ### patch.Same -/
/-- Are patches the same? -/
def psameB (a : Int) (d : List Nat) (b : Int) (f : List Nat) : Bool := decide (a = b ∧ d = f)
theorem ne_at {x y : List Nat} {k : Nat} (hk : k < x.length) (hk' : k < y.length) (h : x[k] ≠ y[k]) : x ≠ y := by
  rintro rfl; exact h rfl
/-! ### the document's Lay, Cut -/
set_option maxHeartbeats 1000000 in
set_option maxRecDepth 100000 in
theorem rlay1_any (A : Option Addr) (c : Nat) (b : List Nat) (a : Nat) (A2 : Option Addr) (c2 : Nat) (d : List Nat) (w : World) (hb : By w A b) (hd : By w A2 d) (hb2 : b.length ≤ 100000) (ha : a ≤ 100000) :
    Calls Try.prog 83 #[.slice A b.length c, .int .i64 (a : Int), .slice A2 d.length c2] w fun e w' => ∃ A' c', e = .returned (.slice A' b.length c') ∧ b.length ≤ c' ∧ c' ≤ M63 ∧ (A' = none → c' = 0) ∧ ByF w' w.heap.size A' (layR b a d) ∧ Below w.heap.size w w' := by
  have hdl := hd.2.1
  unfold M63 at hdl
  have hbb := hb.lt_byte
  have hdb := hd.lt_byte
  have hb1 := hb.sl_byte
  have hd1 := hd.sl_byte
  have hR := layR_length b a d
  obtain ⟨R, hRe⟩ : ∃ R, layR b a d = R := ⟨_, rfl⟩
  have HG : Hid (∀ k, (hk : k < b.length) → R[k]? = some (if a ≤ k ∧ k - a < d.length then d.getD (k - a) 0 else b.getD k 0)) := fun k hk => by rw [← hRe]; exact layR_get b a d k hk
  have HB : Hid (∀ x ∈ R, x < 256) := by
    intro x hx
    obtain ⟨k, hk, rfl⟩ := List.mem_iff_getElem.1 hx
    have := HG.out k (by rw [← hR, hRe]; exact hk)
    rw [List.getElem?_eq_getElem hk] at this
    rw [Option.some.inj this]
    split
    · rename_i h; rw [getD_at _ _ h.2]; exact hdb _ (List.getElem_mem _)
    · rw [getD_at _ _ (by rw [← hR, hRe]; exact hk)]; exact hbb _ (List.getElem_mem _)
  rw [hRe] at hR ⊢
  clear hRe hb hd
  go_enter Try.func83, Try.ntmps83
  go_wp2
  go_loopw [7, 8] (fun v i wr => ∃ (u : Value) (k : Nat), u = v ∧ k ≤ b.length ∧ i = .int .i64 k ∧ Own wr w.heap.size 5 V8 u (R.take k) ∧ Below w.heap.size w wr) (fun _ i _ => b.length - (intOf i).toNat)
  case atStart => exact ⟨_, 0, rfl, by omega, rfl, Own.nil _ _ _ _, Below.refl _ _⟩
  case round =>
    obtain ⟨u, k, rfl, hk, rfl, hown, hbel⟩ := hrel
    have hB := hbel.size
    by_cases hlt : k < b.length
    · obtain ⟨ad, rfl, hadb, hcell⟩ := (hb1.below hbel).at_ hlt
      have hx := HG.out k hlt
      have htl : (R.take k).length ≤ k := by rw [List.length_take]; omega
      unfold V8 at hcell
      by_cases hak : a ≤ k
      · obtain ⟨q, rfl⟩ : ∃ q, k = a + q := ⟨k - a, by omega⟩
        rw [show a + q - a = q from by omega] at hx
        have hsub : ((a + q : Nat) : Int) - (a : Int) = (q : Int) := by omega
        have hge : decide ((a : Int) ≤ ((a + q : Nat) : Int)) = true := decide_eq_true (by omega)
        by_cases hq : q < d.length
        · obtain ⟨ad2, rfl, hadb2, hcell2⟩ := (hd1.below hbel).at_ hq
          rw [if_pos ⟨hak, hq⟩, getD_at _ _ hq] at hx
          have HT := Lib.hid (take_succ' R _ _ hx)
          unfold V8 at hcell2
          generalize d[q] = y at *
          clear hx
          have hc1 : (wr.alloc (.cells #[.int .u8 (y : Int)] 5)).cell? ⟨wr.heap.size, 0, none⟩ = some (V8 y) := by
            rw [cell_of_row _ _ _ _ _ _ (heap_alloc_new wr _)]; rfl
          go_wp2_with (at_builtin; refine wpList_app1 rfl _ _ 34 rfl w.heap.size 5 (V8 0) 1 V8 Try.underlying34 u8Info rfl u (R.take (a + q)) y rfl _ wr.heap.size rfl (hown.alloc _) hc1 rfl (by omega) (by omega) (by simp; omega) ?_; intro v1 w2 hown2 hbel2 hg2)
          go_roundw
          case rel => exact ⟨_, a + q + 1, rfl, by omega, by go_num, by rw [HT.out]; exact hown2, (hbel.alloc hB _).trans hbel2⟩
          case measure => simp [intOf]; omega
        · rw [if_neg (fun h => hq h.2), getD_at _ _ hlt] at hx
          have HT := Lib.hid (take_succ' R _ _ hx)
          generalize b[a + q] = y at *
          clear hx
          have hc1 : (wr.alloc (.cells #[.int .u8 (y : Int)] 5)).cell? ⟨wr.heap.size, 0, none⟩ = some (V8 y) := by
            rw [cell_of_row _ _ _ _ _ _ (heap_alloc_new wr _)]; rfl
          go_wp2_with (at_builtin; refine wpList_app1 rfl _ _ 34 rfl w.heap.size 5 (V8 0) 1 V8 Try.underlying34 u8Info rfl u (R.take (a + q)) y rfl _ wr.heap.size rfl (hown.alloc _) hc1 rfl (by omega) (by omega) (by simp; omega) ?_; intro v1 w2 hown2 hbel2 hg2)
          go_roundw
          case rel => exact ⟨_, a + q + 1, rfl, by omega, by go_num, by rw [HT.out]; exact hown2, (hbel.alloc hB _).trans hbel2⟩
          case measure => simp [intOf]; omega
      · rw [if_neg (fun h => hak h.1), getD_at _ _ hlt] at hx
        have hge : decide ((a : Int) ≤ (k : Int)) = false := decide_eq_false (by omega)
        have HT := Lib.hid (take_succ' R _ _ hx)
        generalize b[k] = y at *
        clear hx
        have hc1 : (wr.alloc (.cells #[.int .u8 (y : Int)] 5)).cell? ⟨wr.heap.size, 0, none⟩ = some (V8 y) := by
          rw [cell_of_row _ _ _ _ _ _ (heap_alloc_new wr _)]; rfl
        go_wp2_with (at_builtin; refine wpList_app1 rfl _ _ 34 rfl w.heap.size 5 (V8 0) 1 V8 Try.underlying34 u8Info rfl u (R.take k) y rfl _ wr.heap.size rfl (hown.alloc _) hc1 rfl (by omega) (by omega) (by simp; omega) ?_; intro v1 w2 hown2 hbel2 hg2)
        go_roundw
        case rel => exact ⟨_, k + 1, rfl, by omega, by go_num, by rw [HT.out]; exact hown2, (hbel.alloc hB _).trans hbel2⟩
        case measure => simp [intOf]; omega
    · have HT : Hid (R.take k = R) := List.take_of_length_le (by omega)
      rw [HT.out] at hown
      obtain ⟨A', c', rfl, q1, q2, q3, q4⟩ := own_byF hown HB.out
      rw [hR] at q1 ⊢
      go_wp2
      go_ret
      exact ⟨A', c', rfl, q1, q2, q3, q4, hbel⟩
end Go.Proofs.Yteeodeooicoekaa.Pat
