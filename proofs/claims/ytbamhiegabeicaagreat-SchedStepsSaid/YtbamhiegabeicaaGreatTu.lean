/- Several weights at once: a contract. No statement is proved here. -/
import Derived.Test.YtbamhiegabeicaaGreatTc
namespace Go.Proofs.YtbamhiegabeicaaGreat.Cb
open Go.RowKit Go.Proofs.YtbamhiegabeicaaGreat.Mem Go.Proofs.YtbamhiegabeicaaGreat.Open Go.Proofs.YtbamhiegabeicaaGreat.Kind Go.Proofs.YtbamhiegabeicaaGreat.Blk Go.Proofs.YtbamhiegabeicaaGreat.App Go.Proofs.YtbamhiegabeicaaGreat.Pat Go.Proofs.YtbamhiegabeicaaGreat.Rd
open Go.Proofs.YtbamhiegabeicaaGreat.Db (Dv Dev Asd Bks)
set_option linter.unusedVariables false
set_option linter.unusedSimpArgs false
theorem u64_at {w : World} {S : Nat → Prop} {A : Option Addr} {n : Nat} {ws : List Int} (h : Rw (kInt .u64) w S A n ws) (k : Nat) (hk : k < ws.length) : ∃ (g o x : Nat), A = some ⟨g, o, none⟩ ∧ S g ∧ g < w.heap.size ∧ x < 18446744073709551616 ∧ ws[k] = (x : Int) ∧ w.cell? ⟨g, o + k, none⟩ = some (.int .u64 (x : Int)) := by
  obtain ⟨g, o, cs, hA, hS, hg, ⟨hcs, hwf⟩, hc⟩ := h.at_ hk
  have hb : 0 ≤ ws[k] ∧ ws[k] < 18446744073709551616 := by
    have := hwf
    simp [Lit.wf, IntKind.min, IntKind.max, IntKind.signed, IntKind.bits] at this
    omega
  have h0 := hc 0 _ (by rw [hcs]; rfl)
  rw [show o + k * (kInt .u64).sz + 0 = o + k from by show o + k * 1 + 0 = _; omega] at h0
  refine ⟨g, o, ws[k].toNat, hA, hS, hg, by omega, by omega, ?_⟩
  rw [Int.toNat_of_nonneg hb.1]
  exact h0
def rnG : List Int → Nat → St → Nat × St × Int
  | [], n, s => (n, s, 0)
  | x :: r, n, s => if stE s x.toNat = 0 then rnG r (n + 1) (stS s x.toNat) else (n, stS s x.toNat, stE s x.toNat)
theorem stS_inv {s : St} (hi : Inv s) (x : Nat) : Inv (stS s x) := by
  unfold stS
  split
  · exact hi
  · exact flS_inv hi _
section
variable {c d g b : Nat} {N : Nat → Prop} {v : Value} {s : St} {w : World} {fm fc : Nat} {m cap : Nat} {A : Option Addr}
theorem run_full (n : Nat) (hn : n ≤ 1000) (hm : m ≤ 1000) (hl : m ≤ n) (h : Ca w c d g b N v s) (k1 : w.cell? ⟨fm, 0, none⟩ = some (.slice A m cap)) (k2 : w.cell? ⟨fc, 0, none⟩ = some (.pointer (some ⟨c, 0, none⟩))) :
    Calls Tryz.prog 35 #[.int .i64 n, .pointer (some ⟨fm, 0, none⟩), .pointer (some ⟨fc, 0, none⟩)] w fun e w' => e = .returned (.tuple #[.bool false, .int .i64 0]) ∧ Ca w' c d g b N v s ∧ Tn N c d g b w w' := by
  have hl2 : (m : Int) ≤ n := by omega
  have HC := Lib.hid h
  clear h
  go_enter Tryz.func35, Tryz.ntmps35
  go_wp2
  refine bodyPost_ret (results_tmp2 rfl _ _ _) rfl ?_
  exact ⟨rfl, HC.out, Tn.refl _ _ _ _ _ _⟩
theorem run_some (n x : Nat) (hn : n ≤ 1000) (hm : m ≤ 1000) (hl : n < m) (hx : x < 18446744073709551616) (h : Ca w c d g b N v s) (hi : Inv s) {gx ox : Nat} (hA : A = some ⟨gx, ox, none⟩) (F1 : Far N c d g b fm) (F2 : Far N c d g b fc) (F3 : Far N c d g b gx) (k1 : w.cell? ⟨fm, 0, none⟩ = some (.slice A m cap)) (k2 : w.cell? ⟨fc, 0, none⟩ = some (.pointer (some ⟨c, 0, none⟩))) (k3 : w.cell? ⟨gx, ox + n, none⟩ = some (.int .u64 (x : Int))) :
    Calls Tryz.prog 35 #[.int .i64 n, .pointer (some ⟨fm, 0, none⟩), .pointer (some ⟨fc, 0, none⟩)] w fun e w' => ∃ v', e = .returned (.tuple #[.bool true, .int .i64 (stE s x)]) ∧ Ca w' c d g b N v' (stS s x) ∧ Tn N c d g b w w' := by
  subst hA
  have hl2 : ¬ (m : Int) ≤ n := by omega
  have CS := Lib.hid (Step_any x hx c d g b N v s w.drew (h.below (Below.refl _ _).drew) hi)
  have HTD := Lib.hid (h.tn (Below.refl w.heap.size w).drew)
  have k1d : w.drew.cell? ⟨fm, 0, none⟩ = _ := k1
  have k2d : w.drew.cell? ⟨fc, 0, none⟩ = _ := k2
  have k3d : w.drew.cell? ⟨gx, ox + n, none⟩ = _ := k3
  generalize stE s x = E at *
  generalize stS s x = S2 at *
  generalize stN s x = M at *
  clear h hi k2 k3
  go_enter Tryz.func35, Tryz.ntmps35
  go_wp2_with fail
  clear k1
  refine wp_region_held_drew (S := fun w' => Cb.Tn N c d g b (w.drew) w') (by kernel_rfl) ?hb6 (fun hHeld => ?rest6)
  case hb6 =>
    exact Cb.Tn.refl _ _ _ _ _ _
  case' rest6 => skip
  have hCl := fun (wS : World) (hSw : Cb.Tn N c d g b (w.drew) wS) => And.intro (Cb.Tn.cl hSw F1 k1d) <| And.intro (Cb.Tn.cl hSw F2 k2d) <| Cb.Tn.cl hSw F3 k3d
  replace hCl := Go.Lib.hid hCl
  refine Mem.tkV 0 ?v7 ?y7 ?r7
  case y7 => (intro w hSw; obtain ⟨hT0, hT1, hT2⟩ := hCl.out w hSw; clear hSw; go_simp; try with_reducible rfl)
  refine Mem.tkV 1 ?v8 ?y8 ?r8
  case y8 => (intro w hSw; obtain ⟨hT0, hT1, hT2⟩ := hCl.out w hSw; clear hSw; go_simp; try with_reducible rfl)
  refine Mem.tkV 2 ?v9 ?y9 ?r9
  case y9 => (intro w hSw; clear hSw; go_simp; try with_reducible rfl)
  try simp only [Mem.pa, Mem.pb, Mem.pc, Act.put, Mem.pd, Mem.pe, Mem.pf]
  refine Mem.tkV 3 ?v10 ?y10 ?r10
  case y10 => (intro w hSw; clear hSw; go_simp; try with_reducible rfl)
  refine Mem.tkV 4 ?v11 ?y11 ?r11
  case y11 => (intro w hSw; obtain ⟨hT0, hT1, hT2⟩ := hCl.out w hSw; clear hSw; go_simp; try with_reducible rfl)
  try simp only [Mem.pa, Mem.pb, Mem.pc, Act.put, Mem.pd, Mem.pe, Mem.pf]
  refine wpAnyH_ready (rs := [5]) (by kernel_rfl) (by simp) ?_
  refine AllReadyH.cons rfl (fun K hK => ?_) AllReadyH.nil
  go_simp
  (refine CS.out.mono ?_; rintro e wf ⟨v', rfl, hc', ht'⟩; have hSnew := hHeld.trans ht'; have HC' := Lib.hid hc'; clear hc' ht')
  try go_wp2_with fail
  refine hK.out _ _ ?_ (fun hHeld2 => ?_)
  · exact hSnew
  clear hK K hHeld hSnew
  have hHeld := hHeld2
  clear hHeld2
  try simp only [Mem.pa, Mem.pb, Mem.pc, Act.put, Mem.pd, Mem.pe, Mem.pf]
  refine Mem.tkV 6 ?v12 ?y12 ?r12
  case y12 => (intro w hSw; clear hSw; go_simp; try with_reducible rfl)
  refine Mem.tkV 7 ?v13 ?y13 ?r13
  case y13 => (intro w hSw; clear hSw; go_simp; try with_reducible rfl)
  refine Mem.tkV 8 ?v14 ?y14 ?r14
  case y14 => (intro w hSw; clear hSw; go_simp; try with_reducible rfl)
  try simp only [Mem.pa, Mem.pb, Mem.pc, Act.put, Mem.pd, Mem.pe, Mem.pf]
  refine Mem.tkV 9 ?v15 ?y15 ?r15
  case y15 => (intro w hSw; clear hSw; go_simp; try with_reducible rfl)
  refine Mem.tkV 10 ?v16 ?y16 ?r16
  case y16 => (intro w hSw; clear hSw; go_simp; try with_reducible rfl)
  try simp only [Mem.pa, Mem.pb, Mem.pc, Act.put, Mem.pd, Mem.pe, Mem.pf]
  refine wpAnyH_done (by kernel_rfl) ?_ _
  clear hCl
  go_wp2_with fail
  refine bodyPost_ret (results_tmp2 rfl _ _ _) rfl ?_
  exact ⟨v', rfl, HC'.out, HTD.out.trans hHeld⟩
end
set_option maxHeartbeats 1000000 in
theorem tillR_any (c d g b : Nat) (N : Nat → Prop) (v : Value) (s : St) (fm fc cap : Nat) (A : Option Addr) (ws : List Int) (w : World) (h : Ca w c d g b N v s) (hi : Inv s) (hm : ws.length ≤ 1000) (hx : Rw (kInt .u64) w (Far N c d g b) A ws.length ws) (hF1 : Far N c d g b fm) (hF2 : Far N c d g b fc) (k1 : w.cell? ⟨fm, 0, none⟩ = some (.slice A ws.length cap)) (k2 : w.cell? ⟨fc, 0, none⟩ = some (.pointer (some ⟨c, 0, none⟩))) :
    Calls Tryz.prog 34 #[.func (.func 35) #[] #[.pointer (some ⟨fm, 0, none⟩), .pointer (some ⟨fc, 0, none⟩)]] w fun e w' => ∃ v', e = .returned (.tuple #[.int .i64 (rnG ws 0 s).1, .int .i64 (rnG ws 0 s).2.2]) ∧ Ca w' c d g b N v' (rnG ws 0 s).2.1 ∧ Tn N c d g b w w' := by
  have HU : Hid (rnG (ws.drop 0) 0 s = ((rnG ws 0 s).1, (rnG ws 0 s).2.1, (rnG ws 0 s).2.2)) := Lib.hid rfl
  generalize (rnG ws 0 s).1 = R1 at *
  generalize (rnG ws 0 s).2.1 = R2 at *
  generalize (rnG ws 0 s).2.2 = R3 at *
  have HC := Lib.hid h
  have HI := Lib.hid hi
  have HX := Lib.hid hx
  clear h hi hx
  go_enter Tryz.func34, Tryz.ntmps34
  go_wp2
  go_loopw [4] (fun i wr => ∃ (n : Nat) (v' : Value) (S : St), n ≤ ws.length ∧ i = .int .i64 n ∧ Ca wr c d g b N v' S ∧ Hid (Inv S) ∧ Tn N c d g b w wr ∧ Hid (rnG (ws.drop n) n S = (R1, R2, R3))) (fun i _ => ws.length - (intOf i).toNat)
  case atStart => exact ⟨0, v, s, by omega, rfl, HC.out, HI, Tn.refl _ _ _ _ _ _, HU⟩
  case round =>
    obtain ⟨n, v', S, hn, rfl, hc, HIS, ht, hu⟩ := hrel
    have q1 := Tn.cl ht hF1 k1
    have q2 := Tn.cl ht hF2 k2
    by_cases hl : n < ws.length
    · have hu := hu.out
      obtain ⟨gx, ox, x, hA, F3, -, hx64, hwx, k3⟩ := u64_at HX.out n hl
      have q3 := Tn.cl ht F3 k3
      rw [List.drop_eq_getElem_cons hl, rnG, hwx, Int.toNat_natCast] at hu
      have C := Lib.hid (run_some n x (by omega) hm hl hx64 hc HIS.out hA hF1 hF2 F3 q1 q2 q3)
      have HI2 := Lib.hid (stS_inv HIS.out x)
      have HT := Lib.hid ht
      clear hc ht q1 q2 q3 hwx k3 F3
      by_cases hE : stE S x = 0
      · rw [if_pos hE] at hu
        rw [hE] at C
        have HU2 := Lib.hid hu
        clear hu hE
        generalize stS S x = S2 at *
        go_wp2_with fail
        refine C.out.mono ?_
        rintro e w2 ⟨v2, rfl, hc2, ht2⟩
        have HC2 := Lib.hid hc2
        have HT2 := Lib.hid (HT.out.trans ht2)
        clear hc2 ht2 C
        go_wp2
        go_roundw
        case rel => exact ⟨n + 1, v2, S2, by omega, by go_num, HC2.out, HI2, HT2.out, HU2⟩
        case measure => simp [intOf]; omega
      · have hEb : (stE S x == 0) = false := by rw [beq_eq_false_iff_ne]; exact hE
        rw [if_neg hE] at hu
        have HU2 : Hid (n = R1 ∧ stS S x = R2 ∧ stE S x = R3) := Lib.hid (by injection hu with a b; injection b with b c; exact ⟨a, b, c⟩)
        clear hu hE
        generalize stS S x = S2 at *
        generalize stE S x = E2 at *
        go_wp2_with fail
        refine C.out.mono ?_
        rintro e w2 ⟨v2, rfl, hc2, ht2⟩
        have HC2 := Lib.hid hc2
        have HT2 := Lib.hid (HT.out.trans ht2)
        clear hc2 ht2 C
        go_wp2
        refine bodyPost_ret (results_tmp2 rfl _ _ _) rfl ?_
        exact ⟨v2, by rw [← HU2.out.1, ← HU2.out.2.2]; rfl, by rw [← HU2.out.2.1]; exact HC2.out, HT2.out⟩
    · have hu := hu.out
      rw [List.drop_eq_nil_of_le (by omega), rnG] at hu
      have HU2 : Hid (n = R1 ∧ S = R2 ∧ (0 : Int) = R3) := Lib.hid (by injection hu with a b; injection b with b c; exact ⟨a, b, c⟩)
      have C := Lib.hid (run_full n (by omega) hm (by omega) hc q1 q2)
      have HT := Lib.hid ht
      clear hu hc ht q1 q2
      go_wp2_with fail
      refine C.out.mono ?_
      rintro e w2 ⟨rfl, hc2, ht2⟩
      have HC2 := Lib.hid hc2
      have HT2 := Lib.hid (HT.out.trans ht2)
      clear hc2 ht2 C
      go_wp2
      refine bodyPost_ret (results_tmp2 rfl _ _ _) rfl ?_
      exact ⟨v', by rw [← HU2.out.1, ← HU2.out.2.2]; rfl, by rw [← HU2.out.2.1]; exact HC2.out, HT2.out⟩
set_option maxHeartbeats 1000000 in
theorem Run_any (A : Option Addr) (cap : Nat) (ws : List Int) (hm : ws.length ≤ 1000) (c d g b : Nat) (N : Nat → Prop) (v : Value) (s : St) (w : World) (h : Ca w c d g b N v s) (hi : Inv s) (hx : Rw (kInt .u64) w (Far N c d g b) A ws.length ws) :
    Calls Tryz.prog 10 #[.pointer (some ⟨c, 0, none⟩), .slice A ws.length cap] w fun e w' => ∃ v', e = .returned (.tuple #[.int .i64 (rnG ws 0 s).1, .int .i64 (rnG ws 0 s).2.2]) ∧ Ca w' c d g b N v' (rnG ws 0 s).2.1 ∧ Tn N c d g b w w' := by
  have hmk := hmf
  obtain ⟨w2, hw2⟩ : ∃ w2, w2 = (w.alloc (.cells #[.pointer (some ⟨c, 0, none⟩)] 26)).alloc (.cells #[.slice A ws.length cap] 23) := ⟨_, rfl⟩
  have r1 : Row w2 w.heap.size 26 #[.pointer (some ⟨c, 0, none⟩)] := by rw [hw2]; exact (Row.new w _ _).alloc _
  have r2 : Row w2 (w.heap.size + 1) 23 #[.slice A ws.length cap] := by
    rw [hw2]
    have := Row.new (w.alloc (.cells #[.pointer (some ⟨c, 0, none⟩)] 26)) 23 #[.slice A ws.length cap]
    rwa [show (w.alloc (.cells #[.pointer (some ⟨c, 0, none⟩)] 26)).heap.size = w.heap.size + 1 from by simp] at this
  have hb : Below w.heap.size w w2 := by rw [hw2]; exact ((Below.refl _ _).alloc (Nat.le_refl _) _).alloc (by simp) _
  have hc2 := h.grow hb
  have HT1 := Lib.hid (h.tn hb)
  have HC := Lib.hid h
  obtain ⟨N1, hN1⟩ : ∃ N1 : Nat → Prop, N1 = fun j => N j ∨ (w.heap.size ≤ j ∧ j < w2.heap.size) := ⟨_, rfl⟩
  rw [← hN1] at hc2
  have hsub : ∀ j, N j → N1 j := fun j hj => by rw [hN1]; exact .inl hj
  have FF : ∀ k, w.heap.size ≤ k → k < w2.heap.size → Far N1 c d g b k := fun k h1 h2 => ⟨by rw [hN1]; exact .inr ⟨h1, h2⟩, by have := h.row.lt; omega, by have := h.dev.1.lt; omega, by have := h.dev.2.1.2.2; omega, by have := h.map.lt; omega⟩
  have hx2 : Rw (kInt .u64) w2 (Far N1 c d g b) A ws.length ws := (Rw.stay (w := w) (fun k hk => HT1.out.block k hk) hx).mono (fun k hk => ⟨hsub k hk.n, hk.c, hk.d, hk.g, hk.b⟩)
  have k1 : w2.cell? ⟨w.heap.size, 0, none⟩ = some (.pointer (some ⟨c, 0, none⟩)) := r1.cell 0 rfl
  have k2 : w2.cell? ⟨w.heap.size + 1, 0, none⟩ = some (.slice A ws.length cap) := r2.cell 0 rfl
  have C := Lib.hid (tillR_any c d g b N1 v s (w.heap.size + 1) w.heap.size cap A ws w2 hc2 hi hm hx2 (FF _ (by omega) r2.lt) (FF _ (Nat.le_refl _) r1.lt) k2 k1)
  have HW2 := Lib.hid hw2
  rw [hw2] at k1
  generalize (rnG ws 0 s).1 = R1 at *
  generalize (rnG ws 0 s).2.1 = R2 at *
  generalize (rnG ws 0 s).2.2 = R3 at *
  clear h hi hc2 hb hN1 FF r1 r2 hw2 k2 hx hx2
  go_enter Tryz.func10, Tryz.ntmps10
  go_wp2_with fail
  rw [← HW2.out]
  refine C.out.mono ?_
  rintro e w3 ⟨v3, rfl, hc3, ht3⟩
  have HC3 := Lib.hid (hc3.weak hsub HC.out.Nc HC.out.Nd HC.out.Ng HC.out.Nb)
  have HT3 := Lib.hid (HT1.out.trans (ht3.weak hsub))
  clear hc3 ht3 C k1
  go_wp2
  refine bodyPost_ret (results_tmp2 rfl _ _ _) rfl ?_
  exact ⟨v3, rfl, HC3.out, HT3.out⟩
end Go.Proofs.YtbamhiegabeicaaGreat.Cb

