/- Rounds, and the example of the page. No statement is proved here. -/
import Derived.Test.YtbamhiegabeicaaGreatTa
namespace Go.Proofs.YtbamhiegabeicaaGreat.Cb
open Go.RowKit Go.Proofs.YtbamhiegabeicaaGreat.Mem Go.Proofs.YtbamhiegabeicaaGreat.Open Go.Proofs.YtbamhiegabeicaaGreat.Kind Go.Proofs.YtbamhiegabeicaaGreat.Blk Go.Proofs.YtbamhiegabeicaaGreat.App Go.Proofs.YtbamhiegabeicaaGreat.Pat Go.Proofs.YtbamhiegabeicaaGreat.Rd
open Go.Proofs.YtbamhiegabeicaaGreat.Db (Dv Dev Asd Bks)
set_option linter.unusedVariables false
set_option linter.unusedSimpArgs false
theorem rdG_inv : ∀ (l : List Int) {s : St} (hi : Inv s), Inv (rdG l s).1
  | [], s, hi => hi
  | n :: r, s, hi => by
    unfold rdG
    split
    · exact rdG_inv r (flS_inv hi n)
    · exact flS_inv hi n
theorem rdS_inv {s : St} (hi : Inv s) : Inv (rdS s) := rdG_inv _ hi
def roG : Nat → Nat → St → Nat × St × Int
  | 0, n, s => (n, s, 0)
  | f + 1, n, s => if dty s = [] then (n, s, 0) else if rdE s = 0 then roG f (n + 1) (rdS s) else (n, rdS s, rdE s)
section
variable {c d g b : Nat} {N : Nat → Prop} {v : Value} {s : St} {w : World} {fm fc : Nat} {most : Nat}
theorem more_full (n : Nat) (hn : n ≤ 1000) (hm : most ≤ 1000) (hl : most ≤ n) (h : Ca w c d g b N v s) (k1 : w.cell? ⟨fm, 0, none⟩ = some (.int .i64 most)) (k2 : w.cell? ⟨fc, 0, none⟩ = some (.pointer (some ⟨c, 0, none⟩))) :
    Calls Tryz.prog 40 #[.int .i64 n, .pointer (some ⟨fm, 0, none⟩), .pointer (some ⟨fc, 0, none⟩)] w fun e w' => e = .returned (.tuple #[.bool false, .int .i64 0]) ∧ Ca w' c d g b N v s ∧ Tn N c d g b w w' := by
  have hl2 : (most : Int) ≤ n := by omega
  have HC := Lib.hid h
  clear h
  go_enter Tryz.func40, Tryz.ntmps40
  go_wp2
  refine bodyPost_ret (results_tmp2 rfl _ _ _) rfl ?_
  exact ⟨rfl, HC.out, Tn.refl _ _ _ _ _ _⟩
theorem more_none (n : Nat) (hn : n ≤ 1000) (hm : most ≤ 1000) (hl : n < most) (h : Ca w c d g b N v s) (hi : Inv s) (hd : dty s = []) (k1 : w.cell? ⟨fm, 0, none⟩ = some (.int .i64 most)) (k2 : w.cell? ⟨fc, 0, none⟩ = some (.pointer (some ⟨c, 0, none⟩))) :
    Calls Tryz.prog 40 #[.int .i64 n, .pointer (some ⟨fm, 0, none⟩), .pointer (some ⟨fc, 0, none⟩)] w fun e w' => e = .returned (.tuple #[.bool false, .int .i64 0]) ∧ Ca w' c d g b N v s ∧ Tn N c d g b w w' := by
  have hl2 : ¬ (most : Int) ≤ n := by omega
  have CD := Dirty_any c d g b N v s w h hi
  change Calls _ _ _ _ fun e w' => ∃ v2, e = .returned v2 ∧ Ns w' w.heap.size v2 (dty s) ∧ Below w.heap.size w w' at CD
  rw [hd] at CD
  have HCD := Lib.hid CD
  have HC := Lib.hid h
  clear h CD
  go_enter Tryz.func40, Tryz.ntmps40
  go_wp2_with fail
  refine HCD.out.mono ?_
  rintro e w1 ⟨v1, rfl, ho1, hb1⟩
  obtain ⟨A1, c1, rfl, -, -, -, x1⟩ := own_is ho1 (fun x hx => (by cases hx))
  have HC1 := Lib.hid (HC.out.below hb1)
  have HT1 := Lib.hid (HC.out.tn hb1)
  clear ho1 hb1 HCD x1
  go_wp2
  refine bodyPost_ret (results_tmp2 rfl _ _ _) rfl ?_
  exact ⟨rfl, HC1.out, HT1.out⟩
theorem more_some (n : Nat) (hn : n ≤ 1000) (hm : most ≤ 1000) (hl : n < most) (h : Ca w c d g b N v s) (hi : Inv s) (hd : dty s ≠ []) (k1 : w.cell? ⟨fm, 0, none⟩ = some (.int .i64 most)) (k2 : w.cell? ⟨fc, 0, none⟩ = some (.pointer (some ⟨c, 0, none⟩))) :
    Calls Tryz.prog 40 #[.int .i64 n, .pointer (some ⟨fm, 0, none⟩), .pointer (some ⟨fc, 0, none⟩)] w fun e w' => ∃ v', e = .returned (.tuple #[.bool true, .int .i64 (rdE s)]) ∧ Ca w' c d g b N v' (rdS s) ∧ Tn N c d g b w w' := by
  have hl2 : ¬ (most : Int) ≤ n := by omega
  have CD := Dirty_any c d g b N v s w h hi
  have HW := dirty_wf hi
  change Calls _ _ _ _ fun e w' => ∃ v2, e = .returned v2 ∧ Ns w' w.heap.size v2 (dty s) ∧ Below w.heap.size w w' at CD
  change ∀ n ∈ dty s, WfI n at HW
  have HCD := Lib.hid CD
  have HC := Lib.hid h
  have HR := Lib.hid (fun w' h' => Round_any c d g b N v s w' h' hi)
  have hz : (((dty s).length : Int) == 0) = false := by
    rw [beq_eq_false_iff_ne]
    intro e
    exact hd (List.eq_nil_of_length_eq_zero (by omega))
  have hfc := World.block_lt_of_cell? _ _ k2
  generalize dty s = L at *
  generalize rdE s = E at *
  generalize rdS s = S2 at *
  clear h CD hi
  go_enter Tryz.func40, Tryz.ntmps40
  go_wp2_with fail
  refine HCD.out.mono ?_
  rintro e w1 ⟨v1, rfl, ho1, hb1⟩
  obtain ⟨A1, c1, rfl, hl1, hm1, -, x1⟩ := own_is ho1 HW
  have hl9 : L.length ≤ 9223372036854775807 := by have hm63 : M63 = 9223372036854775807 := rfl; omega
  have HT1 := Lib.hid (HC.out.tn hb1)
  have HR1 := Lib.hid (HR.out w1 (HC.out.below hb1))
  have k3 := (hb1.cell (p := ⟨fc, 0, none⟩) hfc).trans k2
  clear ho1 hb1 HCD x1 k1 k2
  go_wp2_with fail
  refine HR1.out.mono ?_
  rintro e w2 ⟨v2, rfl, hc2, ht2⟩
  have HC2 := Lib.hid hc2
  have HT2 := Lib.hid (HT1.out.trans ht2)
  clear hc2 ht2 HR1 k3
  go_wp2
  refine bodyPost_ret (results_tmp2 rfl _ _ _) rfl ?_
  exact ⟨v2, rfl, HC2.out, HT2.out⟩
end
set_option maxHeartbeats 1000000 in
theorem till_any (c d g b : Nat) (N : Nat → Prop) (v : Value) (s : St) (fm fc most : Nat) (w : World) (h : Ca w c d g b N v s) (hi : Inv s) (hm : most ≤ 1000) (hF1 : Far N c d g b fm) (hF2 : Far N c d g b fc) (k1 : w.cell? ⟨fm, 0, none⟩ = some (.int .i64 most)) (k2 : w.cell? ⟨fc, 0, none⟩ = some (.pointer (some ⟨c, 0, none⟩))) :
    Calls Tryz.prog 34 #[.func (.func 40) #[] #[.pointer (some ⟨fm, 0, none⟩), .pointer (some ⟨fc, 0, none⟩)]] w fun e w' => ∃ v', e = .returned (.tuple #[.int .i64 (roG most 0 s).1, .int .i64 (roG most 0 s).2.2]) ∧ Ca w' c d g b N v' (roG most 0 s).2.1 ∧ Tn N c d g b w w' := by
  have HU : Hid (roG (most - 0) 0 s = ((roG most 0 s).1, (roG most 0 s).2.1, (roG most 0 s).2.2)) := Lib.hid rfl
  generalize (roG most 0 s).1 = R1 at *
  generalize (roG most 0 s).2.1 = R2 at *
  generalize (roG most 0 s).2.2 = R3 at *
  have HC := Lib.hid h
  have HI := Lib.hid hi
  clear h hi
  go_enter Tryz.func34, Tryz.ntmps34
  go_wp2
  go_loopw [4] (fun i wr => ∃ (n : Nat) (v' : Value) (S : St), n ≤ most ∧ i = .int .i64 n ∧ Ca wr c d g b N v' S ∧ Hid (Inv S) ∧ Tn N c d g b w wr ∧ Hid (roG (most - n) n S = (R1, R2, R3))) (fun i _ => most - (intOf i).toNat)
  case atStart => exact ⟨0, v, s, by omega, rfl, HC.out, HI, Tn.refl _ _ _ _ _ _, HU⟩
  case round =>
    obtain ⟨n, v', S, hn, rfl, hc, HIS, ht, hu⟩ := hrel
    have q1 := Tn.cl ht hF1 k1
    have q2 := Tn.cl ht hF2 k2
    by_cases hl : n < most
    · have hu := hu.out
      obtain ⟨f, hf⟩ : ∃ f, most - n = f + 1 := ⟨most - n - 1, by omega⟩
      rw [hf, roG] at hu
      by_cases hd : dty S = []
      · rw [if_pos hd] at hu
        have HU2 : Hid (n = R1 ∧ S = R2 ∧ (0 : Int) = R3) := Lib.hid (by injection hu with a b; injection b with b c; exact ⟨a, b, c⟩)
        have C := Lib.hid (more_none n (by omega) hm hl hc HIS.out hd q1 q2)
        have HT := Lib.hid ht
        clear hu hc ht q1 q2
        go_wp2_with fail
        refine C.out.mono ?_
        rintro e w2 ⟨rfl, hc2, ht2⟩
        have HC2 := Lib.hid hc2
        have HT2 := Lib.hid (HT.out.trans ht2)
        clear hc2 ht2 C
        go_wp2
        refine bodyPost_ret (results_tmp2 rfl _ _ _) rfl ?_
        exact ⟨v', by rw [← HU2.out.1, ← HU2.out.2.2]; rfl, by rw [← HU2.out.2.1]; exact HC2.out, HT2.out⟩
      · rw [if_neg hd] at hu
        have C := Lib.hid (more_some n (by omega) hm hl hc HIS.out hd q1 q2)
        have HI2 := Lib.hid (rdS_inv HIS.out)
        have HT := Lib.hid ht
        clear hc ht q1 q2 hd
        by_cases hE : rdE S = 0
        · rw [if_pos hE] at hu
          rw [hE] at C
          have HU2 : Hid (roG (most - (n + 1)) (n + 1) (rdS S) = (R1, R2, R3)) := Lib.hid (by rw [show most - (n + 1) = f from by omega]; exact hu)
          clear hu hE
          generalize rdS S = S2 at *
          go_wp2_with fail
          refine C.out.mono ?_
          rintro e w2 ⟨v2, rfl, hc2, ht2⟩
          have HC2 := Lib.hid hc2
          have HT2 := Lib.hid (HT.out.trans ht2)
          clear hc2 ht2 C
          go_wp2
          go_roundw
          case rel => exact ⟨n + 1, v2, S2, by omega, by go_num, HC2.out, HI2, HT2.out, HU2⟩
          case measure => simp [intOf]; omega
        · have hEb : (rdE S == 0) = false := by rw [beq_eq_false_iff_ne]; exact hE
          rw [if_neg hE] at hu
          have HU2 : Hid (n = R1 ∧ rdS S = R2 ∧ rdE S = R3) := Lib.hid (by injection hu with a b; injection b with b c; exact ⟨a, b, c⟩)
          clear hu hE
          generalize rdS S = S2 at *
          generalize rdE S = E2 at *
          go_wp2_with fail
          refine C.out.mono ?_
          rintro e w2 ⟨v2, rfl, hc2, ht2⟩
          have HC2 := Lib.hid hc2
          have HT2 := Lib.hid (HT.out.trans ht2)
          clear hc2 ht2 C
          go_wp2
          refine bodyPost_ret (results_tmp2 rfl _ _ _) rfl ?_
          exact ⟨v2, by rw [← HU2.out.1, ← HU2.out.2.2]; rfl, by rw [← HU2.out.2.1]; exact HC2.out, HT2.out⟩
    · have hu := hu.out
      rw [show most - n = 0 from by omega, roG] at hu
      have HU2 : Hid (n = R1 ∧ S = R2 ∧ (0 : Int) = R3) := Lib.hid (by injection hu with a b; injection b with b c; exact ⟨a, b, c⟩)
      have C := Lib.hid (more_full n (by omega) hm (by omega) hc q1 q2)
      have HT := Lib.hid ht
      clear hu hc ht q1 q2
      go_wp2_with fail
      refine C.out.mono ?_
      rintro e w2 ⟨rfl, hc2, ht2⟩
      have HC2 := Lib.hid hc2
      have HT2 := Lib.hid (HT.out.trans ht2)
      clear hc2 ht2 C
      go_wp2
      refine bodyPost_ret (results_tmp2 rfl _ _ _) rfl ?_
      exact ⟨v', by rw [← HU2.out.1, ← HU2.out.2.2]; rfl, by rw [← HU2.out.2.1]; exact HC2.out, HT2.out⟩
set_option maxHeartbeats 1000000 in
theorem Rounds_any (most : Nat) (hm : most ≤ 1000) (c d g b : Nat) (N : Nat → Prop) (v : Value) (s : St) (w : World) (h : Ca w c d g b N v s) (hi : Inv s) :
    Calls Tryz.prog 15 #[.pointer (some ⟨c, 0, none⟩), .int .i64 most] w fun e w' => ∃ v', e = .returned (.tuple #[.int .i64 (roG most 0 s).1, .int .i64 (roG most 0 s).2.2]) ∧ Ca w' c d g b N v' (roG most 0 s).2.1 ∧ Tn N c d g b w w' := by
  have hmk := hmf
  obtain ⟨w2, hw2⟩ : ∃ w2, w2 = (w.alloc (.cells #[.pointer (some ⟨c, 0, none⟩)] 26)).alloc (.cells #[.int .i64 most] 3) := ⟨_, rfl⟩
  have r1 : Row w2 w.heap.size 26 #[.pointer (some ⟨c, 0, none⟩)] := by rw [hw2]; exact (Row.new w _ _).alloc _
  have r2 : Row w2 (w.heap.size + 1) 3 #[.int .i64 most] := by
    rw [hw2]
    have := Row.new (w.alloc (.cells #[.pointer (some ⟨c, 0, none⟩)] 26)) 3 #[.int .i64 most]
    rwa [show (w.alloc (.cells #[.pointer (some ⟨c, 0, none⟩)] 26)).heap.size = w.heap.size + 1 from by simp] at this
  have hb : Below w.heap.size w w2 := by rw [hw2]; exact ((Below.refl _ _).alloc (Nat.le_refl _) _).alloc (by simp) _
  have hc2 := h.grow hb
  have HT1 := Lib.hid (h.tn hb)
  have HC := Lib.hid h
  obtain ⟨N1, hN1⟩ : ∃ N1 : Nat → Prop, N1 = fun j => N j ∨ (w.heap.size ≤ j ∧ j < w2.heap.size) := ⟨_, rfl⟩
  rw [← hN1] at hc2
  have hsub : ∀ j, N j → N1 j := fun j hj => by rw [hN1]; exact .inl hj
  have FF : ∀ k, w.heap.size ≤ k → k < w2.heap.size → Far N1 c d g b k := fun k h1 h2 => ⟨by rw [hN1]; exact .inr ⟨h1, h2⟩, by have := h.row.lt; omega, by have := h.dev.1.lt; omega, by have := h.dev.2.1.2.2; omega, by have := h.map.lt; omega⟩
  have k1 : w2.cell? ⟨w.heap.size, 0, none⟩ = some (.pointer (some ⟨c, 0, none⟩)) := r1.cell 0 rfl
  have k2 : w2.cell? ⟨w.heap.size + 1, 0, none⟩ = some (.int .i64 most) := r2.cell 0 rfl
  have C := Lib.hid (till_any c d g b N1 v s (w.heap.size + 1) w.heap.size most w2 hc2 hi hm (FF _ (by omega) r2.lt) (FF _ (Nat.le_refl _) r1.lt) k2 k1)
  have HW2 := Lib.hid hw2
  rw [hw2] at k1
  generalize (roG most 0 s).1 = R1 at *
  generalize (roG most 0 s).2.1 = R2 at *
  generalize (roG most 0 s).2.2 = R3 at *
  clear h hi hc2 hb hN1 FF r1 r2 hw2 k2
  go_enter Tryz.func15, Tryz.ntmps15
  go_wp2_with fail
  rw [← HW2.out]
  refine C.out.mono ?_
  rintro e w3 ⟨v3, rfl, hc3, ht3⟩
  have HC3 := Lib.hid (hc3.weak hsub HC.out.Nc HC.out.Nd HC.out.Ng HC.out.Nb)
  have HT3 := Lib.hid (HT1.out.trans (ht3.weak hsub))
  clear hc3 ht3 C k1
  go_wp2
  refine bodyPost_ret (results_tmp2 rfl _ _ _) rfl ?_
  exact ⟨v3, rfl, HC3.out, HT3.out⟩
theorem roG_inv : ∀ (f n : Nat) {s : St} (hi : Inv s), Inv (roG f n s).2.1
  | 0, n, s, hi => hi
  | f + 1, n, s, hi => by
    unfold roG
    split
    · exact hi
    · split
      · exact roG_inv f (n + 1) (rdS_inv hi)
      · exact rdS_inv hi
theorem st_none {s : St} (h : dty s = []) (x : Nat) : stN s x = -1 ∧ stE s x = 0 ∧ stS s x = s := by
  have h0 : atS s x < 0 := by
    unfold atS
    rw [h]
    show Fl.at_ 0 x < 0
    rw [show Fl.at_ 0 x = -1 from if_pos (by decide)]
    decide
  unfold stN stE stS
  exact ⟨if_pos h0, if_pos h0, if_pos h0⟩
theorem t2_d : dpS t2 = 2 := by kernel_rfl
theorem t2_r1 : (roG 9 0 t2).1 = 1 := by kernel_rfl
theorem t2_r3 : (roG 9 0 t2).2.2 = 0 := by kernel_rfl
theorem t2_rd : dty (roG 9 0 t2).2.1 = [] := by kernel_rfl
set_option maxHeartbeats 1000000 in
theorem works13 (w : World) :
    Calls Tryz.prog 5 #[] w fun e w' => e = .returned (.bool true) ∧ Below w.heap.size w w' := by
  go_enter Tryz.func5, Tryz.ntmps5
  go_wp2_with fail
  refine (Db.new_any 16 16 (.inl ⟨by omega, rfl⟩) w).mono ?_
  rintro e w1 ⟨d, rfl, g, hd, hd1, hg1, hb1⟩
  go_wp2_with fail
  refine (New_any d g _ w1 hd).mono ?_
  rintro e w2 ⟨c, b, rfl, hc2, hc1, hb2, hbn⟩
  obtain ⟨w3, hw3⟩ : ∃ w3, w3 = (w2.alloc (.cells #[.int .u8 9] 5)).alloc (.cells #[.int .i64 0, .slice (some ⟨w2.heap.size, 0, none⟩) 1 1] 52) := ⟨_, rfl⟩
  have b3 : Below w2.heap.size w2 w3 := by rw [hw3]; exact ((Below.refl _ _).alloc (Nat.le_refl _) _).alloc (by simp) _
  have s3 : w3.heap.size = w2.heap.size + 1 + 1 := by rw [hw3]; simp
  have hc3 := hc2.grow b3
  have RD : Row w3 w2.heap.size 5 (blk [9]) := by rw [hw3]; exact (Row.new w2 5 (blk [9])).alloc _
  have RP : Row w3 (w2.heap.size + 1) 52 #[.int .i64 0, .slice (some ⟨w2.heap.size, 0, none⟩) 1 1] := by
    rw [hw3]
    have := Row.new (w2.alloc (.cells #[.int .u8 9] 5)) 52 #[.int .i64 0, .slice (some ⟨w2.heap.size, 0, none⟩) 1 1]
    rwa [show (w2.alloc (.cells #[.int .u8 9] 5)).heap.size = w2.heap.size + 1 from by simp] at this
  have hbd : Bd w.heap.size c d g b (fun j => j < w2.heap.size ∨ (w2.heap.size ≤ j ∧ j < w3.heap.size)) := ⟨Nat.le_trans hb1.size hc1, hd1, hg1, Nat.le_trans hb1.size hb2, fun k hk => .inl (by have := hb1.size; have := hbn.size; omega)⟩
  have HB3 := Lib.hid ((hb1.trans (hbn.mono hb1.size)).trans (b3.mono (Nat.le_trans hb1.size hbn.size)))
  obtain ⟨N, hN⟩ : ∃ N : Nat → Prop, N = fun j => j < w2.heap.size ∨ (w2.heap.size ≤ j ∧ j < w3.heap.size) := ⟨_, rfl⟩
  rw [← hN] at hc3 hbd
  have HBD := Lib.hid hbd
  have hlc := hc2.row.lt
  have hld := hc2.dev.1.lt
  have hlg := hc2.dev.2.1.2.2
  have hlb := hc2.map.lt
  obtain ⟨kd, hkd⟩ : ∃ kd, w2.heap.size = kd := ⟨_, rfl⟩
  have FD : Far N c d g b kd := ⟨by rw [hN]; exact .inr ⟨by omega, by omega⟩, by omega, by omega, by omega, by omega⟩
  have FP : Far N c d g b (kd + 1) := ⟨by rw [hN]; exact .inr ⟨by omega, by omega⟩, by omega, by omega, by omega, by omega⟩
  rw [hkd] at RD RP hw3
  have HW3 := Lib.hid hw3
  have P1 := Put_row 3 rfl kd [9] by9 (by simp) none 0 [] c d g b N _ t0 w3 hc3 i0 RD FD is_nil (by simp)
  rw [t1_n, t1_e] at P1
  have HP1 := Lib.hid P1
  have k0 := RP.cell 0 rfl
  clear hd hc2 hd1 hg1 hb1 hc1 hb2 hbn hN hc3 hlc hld hlg hlb b3 s3 P1 hw3 k0 hbd
  go_wp2_with fail
  rw [← HW3.out]
  refine HP1.out.mono ?_
  rintro e w4 ⟨v4, rfl, hc4, ht4⟩
  have HB4 := Lib.hid (Tn.bel HB3.out ht4 HBD.out)
  replace hc4 : Ca w4 c d g b N v4 t1 := hc4
  have RD4 := ht4.row FD RD
  have RP4 := ht4.row FP RP
  have k0 : w4.cell? ⟨kd + 1, 0, none⟩ = some (.int .i64 0) := RP4.cell 0 rfl
  have k1 : w4.cell? ⟨kd + 1, 0 + 1, none⟩ = some (.slice (some ⟨kd, 0, none⟩) 1 1) := RP4.cell 1 rfl
  have P2 := Put_row 4 rfl kd [9] by9 (by simp) (some ⟨w4.heap.size, 0, none⟩) 1 [1] c d g b N v4 t1 (w4.alloc (.cells #[.int .i64 1] 3)) (hc4.below (bb0 _ _)) i1 (RD4.alloc _) FD (is_row (T := 3) (Row.new w4 3 (nums [1])) (by intro x hx; simp at hx; subst hx; rfl) (by decide)) (by simp)
  rw [t2_n, t2_e] at P2
  have HP2 := Lib.hid P2
  have HT4 := Lib.hid (hc4.tn (bb0 w4 (.cells #[.int .i64 1] 3)))
  clear hc4 ht4 P2 HP1 RD RP RP4 RD4
  go_wp2_with fail
  refine HP2.out.mono ?_
  rintro e w5 ⟨v5, rfl, hc5, ht5⟩
  have HB5 := Lib.hid (Tn.bel HB4.out (HT4.out.trans ht5) HBD.out)
  replace hc5 : Ca w5 c d g b N v5 t2 := hc5
  have CDp := Deep_any c d g b N v5 t2 w5 hc5 i2
  rw [t2_d] at CDp
  have HDp := Lib.hid CDp
  have HC5 := Lib.hid hc5
  clear hc5 ht5 HP2 k0 k1 HT4 CDp
  go_wp2_with fail
  refine HDp.out.mono ?_
  rintro e w6 ⟨rfl, hb6⟩
  have HB6 := Lib.hid (HB5.out.trans (hb6.mono HB5.out.size))
  have CR := Rounds_any 9 (by omega) c d g b N v5 t2 w6 (HC5.out.below hb6) i2
  rw [t2_r1, t2_r3] at CR
  have HI := Lib.hid (roG_inv 9 0 i2)
  obtain ⟨z1, z2, z3⟩ := st_none t2_rd 4602678819172646912
  have HZ3 := Lib.hid z3
  have HR := Lib.hid CR
  clear hb6 HDp CR HC5 z3
  generalize (roG 9 0 t2).2.1 = u at *
  go_wp2_with fail
  refine HR.out.mono ?_
  rintro e w7 ⟨v7, rfl, hc7, ht7⟩
  have HB7 := Lib.hid (Tn.bel HB6.out ht7 HBD.out)
  have CS := Step_any 4602678819172646912 (by decide) c d g b N v7 u w7 hc7 HI.out
  rw [z1, z2] at CS
  have HS := Lib.hid CS
  clear hc7 ht7 HR CS z1 z2
  go_wp2_with fail
  refine HS.out.mono ?_
  rintro e w8 ⟨v8, rfl, hc8, ht8⟩
  have HB8 := Lib.hid (Tn.bel HB7.out ht8 HBD.out)
  clear hc8 ht8 HS
  go_wp2
  go_ret
  exact ⟨rfl, HB8.out⟩
end Go.Proofs.YtbamhiegabeicaaGreat.Cb

