/- Steps and rounds of writing: contracts. No statement is proved here. -/
import Derived.Test.YtbamhiegabeicaaGreatTb
import Derived.Test.YtbamhiegabeicaaGreatAt2
import Derived.Test.YtbamhiegabeicaaGreatGe
namespace Go.Proofs.YtbamhiegabeicaaGreat.Cb
open Go.RowKit Go.Proofs.YtbamhiegabeicaaGreat.Mem Go.Proofs.YtbamhiegabeicaaGreat.Open Go.Proofs.YtbamhiegabeicaaGreat.Kind Go.Proofs.YtbamhiegabeicaaGreat.Blk Go.Proofs.YtbamhiegabeicaaGreat.App Go.Proofs.YtbamhiegabeicaaGreat.Pat Go.Proofs.YtbamhiegabeicaaGreat.Rd
open Go.Proofs.YtbamhiegabeicaaGreat.Db (Dv Dev Asd Bks)
set_option linter.unusedVariables false
set_option linter.unusedSimpArgs false
theorem Tn.cl {w w' : World} {c d g b : Nat} {N : Nat → Prop} (h : Tn N c d g b w w') {a : Addr} {u : Value} (hf : Far N c d g b a.block) (hc : w.cell? a = some u) : w'.cell? a = some u := by
  have e := h.block a.block hf
  simp only [World.cell?, e] at hc ⊢
  exact hc
def dty (s : St) : List Int := blkP s.xs []
def atS (s : St) (x : Nat) : Int := Fl.at_ (dty s).length x
def stN (s : St) (x : Nat) : Int := if atS s x < 0 then -1 else (dty s).getD (atS s x).toNat 0
def stE (s : St) (x : Nat) : Int := if atS s x < 0 then 0 else flE s (stN s x)
def stS (s : St) (x : Nat) : St := if atS s x < 0 then s else flS s (stN s x)
theorem at_lt (n x : Nat) : Fl.at_ n x = -1 ∨ 0 ≤ Fl.at_ n x ∧ Fl.at_ n x < n := by
  unfold Fl.at_
  by_cases h1 : (n : Int) < 1
  · rw [if_pos h1]; exact .inl rfl
  rw [if_neg h1]
  by_cases h2 : Fl.ord x 0 ≤ 0
  · rw [if_pos h2]; exact .inr ⟨by omega, by omega⟩
  rw [if_neg h2]
  by_cases h3 : 0 ≤ Fl.ord x Fl.one
  · rw [if_pos h3]; exact .inr ⟨by omega, by omega⟩
  rw [if_neg h3]
  exact .inr ⟨by omega, by omega⟩
set_option maxHeartbeats 1000000 in
theorem Step_any (x : Nat) (hx : x < 18446744073709551616) (c d g b : Nat) (N : Nat → Prop) (v : Value) (s : St) (w : World) (h : Ca w c d g b N v s) (hi : Inv s) :
    Calls Tryz.prog 8 #[.pointer (some ⟨c, 0, none⟩), .int .u64 x] w fun e w' => ∃ v', e = .returned (.tuple #[.int .i64 (stN s x), .int .i64 (stE s x)]) ∧ Ca w' c d g b N v' (stS s x) ∧ Tn N c d g b w w' := by
  have CD := Lib.hid (Dirty_any c d g b N v s w h hi)
  have HW := dirty_wf hi
  have HC := Lib.hid h
  have HI := Lib.hid hi
  have HN : Hid (stN s x = if atS s x < 0 then -1 else (dty s).getD (atS s x).toNat 0) := Lib.hid rfl
  have HE : Hid (stE s x = if atS s x < 0 then 0 else flE s (stN s x)) := Lib.hid rfl
  have HS : Hid (stS s x = if atS s x < 0 then s else flS s (stN s x)) := Lib.hid rfl
  have HA : Hid (atS s x = Fl.at_ (dty s).length x) := Lib.hid rfl
  have HLT := at_lt (dty s).length x
  have CF := Lib.hid (fun w' => Fl.from_any x w')
  clear h hi
  change Hid (Calls _ _ _ _ fun e w' => ∃ v2, e = .returned v2 ∧ Ns w' w.heap.size v2 (dty s) ∧ Below w.heap.size w w') at CD
  change ∀ n ∈ dty s, WfI n at HW
  generalize atS s x = at0 at *
  generalize stE s x = E at *
  generalize stS s x = S2 at *
  generalize stN s x = M at *
  generalize dty s = L at *
  go_enter Tryz.func8, Tryz.ntmps8
  go_wp2_with fail
  refine CD.out.mono ?_
  rintro e w1 ⟨v1, rfl, ho1, hb1⟩
  have hlo := ho1.lt
  obtain ⟨A1, c1, rfl, hl1, hm1, -, x1⟩ := own_is ho1 HW
  have hm63 : M63 = 9223372036854775807 := rfl
  have hwn : WfI (L.length : Int) := (wf_iff _).2 ⟨by omega, by omega⟩
  have CA := Lib.hid (fun w' => Fl.at_any _ x hx hwn w')
  rw [← HA.out] at HLT CA
  have hc1 := HC.out.grow hb1
  have HT1 := Lib.hid (HC.out.tn hb1)
  obtain ⟨N1, hN1⟩ : ∃ N1 : Nat → Prop, N1 = fun j => N j ∨ (w.heap.size ≤ j ∧ j < w1.heap.size) := ⟨_, rfl⟩
  rw [← hN1] at hc1
  have hsub : ∀ j, N j → N1 j := fun j hj => by rw [hN1]; exact .inl hj
  have FF : ∀ k, w.heap.size ≤ k → k < w1.heap.size → Far N1 c d g b k := fun k h1 h2 => ⟨by rw [hN1]; exact .inr ⟨h1, h2⟩, by have := HC.out.row.lt; omega, by have := HC.out.dev.1.lt; omega, by have := HC.out.dev.2.1.2.2; omega, by have := HC.out.map.lt; omega⟩
  have HC1 := Lib.hid hc1
  have X1 := Lib.hid x1
  clear ho1 hb1 hc1 hN1 CD x1
  go_wp2_with fail
  refine (CF.out _).mono ?_
  rintro e w2 ⟨rfl, rfl⟩
  go_wp2_with fail
  refine (CA.out _).mono ?_
  rintro e w3 ⟨rfl, rfl⟩
  by_cases q : at0 < 0
  · have HN2 := Lib.hid (HN.out.trans (if_pos q))
    have HE2 := Lib.hid (HE.out.trans (if_pos q))
    have HS2 := Lib.hid (HS.out.trans (if_pos q))
    clear HN HE HS CA CF hlo FF
    go_wp2
    refine bodyPost_ret (results_tmp2 rfl _ _ _) rfl ?_
    exact ⟨v, by rw [HN2.out, HE2.out]; rfl, by rw [HS2.out]; exact HC1.out.weak hsub HC.out.Nc HC.out.Nd HC.out.Ng HC.out.Nb, HT1.out⟩
  · obtain ⟨k, rfl⟩ : ∃ k : Nat, at0 = (k : Int) := ⟨at0.toNat, by omega⟩
    have hk : k < L.length := by omega
    have hg0 : L.getD k 0 = L[k] := by rw [List.getD_eq_getElem?_getD, List.getElem?_eq_getElem hk]; rfl
    have HN2 : Hid (M = L[k]) := Lib.hid ((HN.out.trans (if_neg q)).trans (by rw [Int.toNat_natCast]; exact hg0))
    have HE2 := Lib.hid (HE.out.trans (if_neg q))
    have HS2 := Lib.hid (HS.out.trans (if_neg q))
    obtain ⟨gl, ol, rfl, hgl, hcl⟩ := is_at X1.out k hk
    have FL : Far N1 c d g b gl := FF gl (hlo gl rfl).1 (hlo gl rfl).2
    have hwM := HW _ (List.getElem_mem hk)
    rw [← HN2.out] at hcl hwM
    have hcd : w3.drew.cell? ⟨gl, ol + k, none⟩ = some (.int .i64 M) := hcl
    have CFl := Lib.hid (Flush_any M hwM c d g b N1 v s w3.drew (HC1.out.below (Below.refl _ _).drew) HI.out)
    have HTD := Lib.hid (HT1.out.trans ((HC1.out.weak hsub HC.out.Nc HC.out.Nd HC.out.Ng HC.out.Nb).tn (Below.refl _ _).drew))
    rw [← HE2.out, ← HS2.out] at CFl
    clear HN HE HS CA CF hlo FF hg0 hcl HLT HE2 HN2 HS2 HT1
    go_wp2_with fail
    refine wp_region_held_drew (S := fun w' => Cb.Tn N1 c d g b (w3.drew) w') (by kernel_rfl) ?hb6 (fun hHeld => ?rest6)
    case hb6 =>
      exact Cb.Tn.refl _ _ _ _ _ _
    case' rest6 => skip
    have hCl := fun (wS : World) (hSw : Cb.Tn N1 c d g b (w3.drew) wS) =>  Cb.Tn.cl hSw FL hcd
    replace hCl := Go.Lib.hid hCl
    refine Mem.tkV 0 ?v7 ?y7 ?r7
    case y7 => (intro w hSw; clear hSw; go_simp; try with_reducible rfl)
    refine Mem.tkV 1 ?v8 ?y8 ?r8
    case y8 => (intro w hSw; clear hSw; go_simp; try with_reducible rfl)
    refine Mem.tkV 2 ?v9 ?y9 ?r9
    case y9 => (intro w hSw; clear hSw; go_simp; try with_reducible rfl)
    try simp only [Mem.pa, Mem.pb, Mem.pc, Act.put, Mem.pd, Mem.pe, Mem.pf]
    refine Mem.tkV 3 ?v10 ?y10 ?r10
    case y10 => (intro w hSw; have hT0 := hCl.out w hSw; clear hSw; go_simp; try with_reducible rfl)
    refine Mem.tkV 4 ?v11 ?y11 ?r11
    case y11 => (intro w hSw; clear hSw; go_simp; try with_reducible rfl)
    refine Mem.tkV 5 ?v12 ?y12 ?r12
    case y12 => (intro w hSw; clear hSw; go_simp; try with_reducible rfl)
    try simp only [Mem.pa, Mem.pb, Mem.pc, Act.put, Mem.pd, Mem.pe, Mem.pf]
    refine Mem.tkV 6 ?v13 ?y13 ?r13
    case y13 => (intro w hSw; clear hSw; go_simp; try with_reducible rfl)
    refine Mem.tkV 7 ?v14 ?y14 ?r14
    case y14 => (intro w hSw; clear hSw; go_simp; try with_reducible rfl)
    refine Mem.tkV 8 ?v15 ?y15 ?r15
    case y15 => (intro w hSw; have hT0 := hCl.out w hSw; clear hSw; go_simp; try with_reducible rfl)
    try simp only [Mem.pa, Mem.pb, Mem.pc, Act.put, Mem.pd, Mem.pe, Mem.pf]
    refine wpAnyH_ready (rs := [9]) (by kernel_rfl) (by simp) ?_
    refine AllReadyH.cons rfl (fun K hK => ?_) AllReadyH.nil
    go_simp
    (refine CFl.out.mono ?_; rintro e wf ⟨v', rfl, hc', ht'⟩; have hSnew := hHeld.trans ht'; have HC' := Lib.hid hc'; clear hc' ht')
    try go_wp2_with fail
    refine hK.out _ _ ?_ (fun hHeld2 => ?_)
    · exact hSnew
    clear hK K hHeld hSnew
    have hHeld := hHeld2
    clear hHeld2
    try simp only [Mem.pa, Mem.pb, Mem.pc, Act.put, Mem.pd, Mem.pe, Mem.pf]
    refine Mem.tkV 10 ?v16 ?y16 ?r16
    case y16 => (intro w hSw; clear hSw; go_simp; try with_reducible rfl)
    refine Mem.tkV 11 ?v17 ?y17 ?r17
    case y17 => (intro w hSw; clear hSw; go_simp; try with_reducible rfl)
    try simp only [Mem.pa, Mem.pb, Mem.pc, Act.put, Mem.pd, Mem.pe, Mem.pf]
    refine wpAnyH_done (by kernel_rfl) ?_ _
    clear hCl
    go_wp2_with fail
    refine bodyPost_ret (results_tmp2 rfl _ _ _) rfl ?_
    exact ⟨v', rfl, HC'.out.weak hsub HC.out.Nc HC.out.Nd HC.out.Ng HC.out.Nb, HTD.out.trans (hHeld.weak hsub)⟩
/-- A round: all of some blocks, up to an error. -/
def rdG : List Int → St → St × Int
  | [], s => (s, 0)
  | n :: r, s => if flE s n = 0 then rdG r (flS s n) else (flS s n, flE s n)
def rdS (s : St) : St := (rdG (dty s) s).1
def rdE (s : St) : Int := (rdG (dty s) s).2
set_option maxHeartbeats 1000000 in
theorem Round_any (c d g b : Nat) (N : Nat → Prop) (v : Value) (s : St) (w : World) (h : Ca w c d g b N v s) (hi : Inv s) :
    Calls Tryz.prog 41 #[.pointer (some ⟨c, 0, none⟩)] w fun e w' => ∃ v', e = .returned (.int .i64 (rdE s)) ∧ Ca w' c d g b N v' (rdS s) ∧ Tn N c d g b w w' := by
  have CD := Lib.hid (Dirty_any c d g b N v s w h hi)
  have HW := dirty_wf hi
  have HC := Lib.hid h
  have HI := Lib.hid hi
  have HU : Hid (rdG (dty s) s = (rdS s, rdE s)) := Lib.hid rfl
  clear h hi
  change Hid (Calls _ _ _ _ fun e w' => ∃ v2, e = .returned v2 ∧ Ns w' w.heap.size v2 (dty s) ∧ Below w.heap.size w w') at CD
  change ∀ n ∈ dty s, WfI n at HW
  generalize rdS s = US at *
  generalize rdE s = UE at *
  generalize dty s = L at *
  go_enter Tryz.func41, Tryz.ntmps41
  go_wp2_with fail
  refine CD.out.mono ?_
  rintro e w1 ⟨v1, rfl, ho1, hb1⟩
  have hlo := ho1.lt
  obtain ⟨A1, c1, rfl, hl1, hm1, -, x1⟩ := own_is ho1 HW
  have hl9 : L.length ≤ 9223372036854775807 := by have hm63 : M63 = 9223372036854775807 := rfl; omega
  have hc1 := HC.out.grow hb1
  have HT1 := Lib.hid (HC.out.tn hb1)
  obtain ⟨N1, hN1⟩ : ∃ N1 : Nat → Prop, N1 = fun j => N j ∨ (w.heap.size ≤ j ∧ j < w1.heap.size) := ⟨_, rfl⟩
  rw [← hN1] at hc1
  have hsub : ∀ j, N j → N1 j := fun j hj => by rw [hN1]; exact .inl hj
  have FF : ∀ k, w.heap.size ≤ k → k < w1.heap.size → Far N1 c d g b k := fun k h1 h2 => ⟨by rw [hN1]; exact .inr ⟨h1, h2⟩, by have := HC.out.row.lt; omega, by have := HC.out.dev.1.lt; omega, by have := HC.out.dev.2.1.2.2; omega, by have := HC.out.map.lt; omega⟩
  have HC1 := Lib.hid hc1
  have X1 := Lib.hid x1
  clear ho1 hb1 hc1 hN1 CD x1
  go_wp2_with fail
  go_loopw [11] (fun i wr => ∃ (k : Nat) (v' : Value) (S : St), k ≤ L.length ∧ i = .int .i64 k ∧ Ca wr c d g b N1 v' S ∧ Hid (Inv S) ∧ Tn N1 c d g b w1 wr ∧ Hid (rdG (L.drop k) S = (US, UE))) (fun i _ => L.length - (intOf i).toNat)
  case atStart => exact ⟨0, v, s, by omega, rfl, HC1.out, HI, Tn.refl _ _ _ _ _ _, HU⟩
  case round =>
    obtain ⟨k, v', S, hk, rfl, hc, HIS, ht, hu⟩ := hrel
    by_cases hlt : k < L.length
    · obtain ⟨gl, ol, rfl, hgl, hcl⟩ := is_at X1.out k hlt
      have FL : Far N1 c d g b gl := FF gl (hlo gl rfl).1 (hlo gl rfl).2
      have hcr := Tn.cl ht FL hcl
      have hwM := HW _ (List.getElem_mem hlt)
      have hu := hu.out
      rw [List.drop_eq_getElem_cons hlt, rdG] at hu
      generalize L[k] = M at *
      have CFl := Lib.hid (Flush_any M hwM c d g b N1 v' S wr hc HIS.out)
      have HI2 := Lib.hid (flS_inv HIS.out M)
      have HT := Lib.hid ht
      clear hc ht hcl
      by_cases hE : flE S M = 0
      · rw [if_pos hE] at hu
        have HU2 := Lib.hid hu
        rw [hE] at CFl
        clear hu hE
        generalize flS S M = S2 at *
        go_wp2_with fail
        refine CFl.out.mono ?_
        rintro e w2 ⟨v2, rfl, hc2, ht2⟩
        have HC2 := Lib.hid hc2
        have HT2 := Lib.hid (HT.out.trans ht2)
        clear hc2 ht2 CFl hcr
        go_wp2
        go_roundw
        case rel => exact ⟨k + 1, v2, S2, by omega, by go_num, HC2.out, HI2, HT2.out, HU2⟩
        case measure => simp [intOf]; omega
      · have hEb : (flE S M == 0) = false := by rw [beq_eq_false_iff_ne]; exact hE
        rw [if_neg hE] at hu
        have HU2 : Hid (flS S M = US ∧ flE S M = UE) := Lib.hid (by injection hu with a b; exact ⟨a, b⟩)
        clear hu hE
        generalize flS S M = S2 at *
        generalize flE S M = E2 at *
        go_wp2_with fail
        refine CFl.out.mono ?_
        rintro e w2 ⟨v2, rfl, hc2, ht2⟩
        have HC2 := Lib.hid (hc2.weak hsub HC.out.Nc HC.out.Nd HC.out.Ng HC.out.Nb)
        have HT2 := Lib.hid (HT1.out.trans ((HT.out.trans ht2).weak hsub))
        clear hc2 ht2 CFl hcr
        go_wp2
        go_ret
        exact ⟨v2, by rw [← HU2.out.2]; rfl, by rw [← HU2.out.1]; exact HC2.out, HT2.out⟩
    · obtain rfl : k = L.length := by omega
      have hu := hu.out
      rw [List.drop_length, rdG] at hu
      have HU2 : Hid (S = US ∧ (0 : Int) = UE) := Lib.hid (by injection hu with a b; exact ⟨a, b⟩)
      have HC2 := Lib.hid (hc.weak hsub HC.out.Nc HC.out.Nd HC.out.Ng HC.out.Nb)
      have HT2 := Lib.hid (HT1.out.trans (ht.weak hsub))
      clear hc ht hu
      go_wp2
      go_ret
      exact ⟨v', by rw [← HU2.out.2]; rfl, by rw [← HU2.out.1]; exact HC2.out, HT2.out⟩
/-- How deep what is left is. -/
def mxD (xs : List Chg) : List Chg → Int → Int
  | [], m => m
  | x :: r, m => mxD xs r (max m (depS xs x.id))
def dpS (s : St) : Int := mxD s.xs s.xs 0
set_option maxHeartbeats 1000000 in
theorem Deep_any (c d g b : Nat) (N : Nat → Prop) (v : Value) (s : St) (w : World) (h : Ca w c d g b N v s) (hi : Inv s) :
    Calls Tryz.prog 14 #[.pointer (some ⟨c, 0, none⟩)] w fun e w' => e = .returned (.int .i64 (dpS s)) ∧ Below w.heap.size w w' := by
  have CL := Lib.hid (Left_any c d g b N v s w h hi)
  have HU : Hid (mxD s.xs (s.xs.drop 0) 0 = dpS s) := Lib.hid rfl
  have hn := hi.xl
  have hsm := hi.small
  clear h hi
  generalize dpS s = U at *
  generalize s.xs = xs at *
  go_enter Tryz.func14, Tryz.ntmps14
  go_wp2_with fail
  refine CL.out.mono ?_
  rintro e w1 ⟨v1, rfl, ho1, hb1⟩
  obtain ⟨A1, c1, rfl, hl1, hm1, -, x1⟩ := OwnK.rw_ ho1
  have HX1 : Hid (Chs w1 A1 xs) := Lib.hid x1
  have HB1 := Lib.hid hb1
  clear ho1 hb1 CL x1
  go_wp2
  go_loopw [4, 11] (fun mo i wr => ∃ (k : Nat) (m : Int), k ≤ xs.length ∧ i = .int .i64 k ∧ mo = .int .i64 m ∧ 0 ≤ m ∧ m ≤ 1000 ∧ Below w1.heap.size w1 wr ∧ Hid (mxD xs (xs.drop k) m = U)) (fun _ i _ => xs.length - (intOf i).toNat)
  case atStart => exact ⟨0, 0, by omega, rfl, rfl, by omega, by omega, Below.refl _ _, HU⟩
  case round =>
    obtain ⟨k, m, hk, rfl, rfl, hm0, hm1', hbr, hu⟩ := hrel
    by_cases hlt : k < xs.length
    · obtain ⟨g0, o, rfl, hg⟩ := ch_form HX1.out (by omega)
      obtain ⟨B1, d1, B2, d2, hat0⟩ := ch_at HX1.out k hlt
      have hat := hat0.below hbr
      have e0 := hat.v0
      have e1 := hat.v1
      have e2 := hat.v2
      have e3 : wr.cell? ⟨g0, o + k * 5 + 3, none⟩ = _ := hat.v3
      have e4 := hat.v4
      have hid := hat.ok.1
      have hu := hu.out
      rw [drop_at hlt, mxD] at hu
      have hde := depS_le xs xs[k].id
      have hal := all_len xs xs[k].id
      clear hat0 hat
      generalize xs[k] = x at *
      obtain ⟨⟨b1, b2, b3⟩⟩ : Nonempty (_ ∧ _ ∧ _) := ⟨boxed wr 90 chZ (chC x B1 d1 B2 d2)⟩
      have R0 : Row (wr.alloc (.cells chZ 90)) wr.heap.size 90 chZ := Row.new _ _ _
      have k1 : World.cell? _ ⟨wr.heap.size, 0, none⟩ = some (.int .i64 x.id) := b1.cell 0 rfl
      have HB := Lib.hid (hbr.trans (b2.mono hbr.size))
      have CDp := Lib.hid (Depth_any (some ⟨g0, o, none⟩) c1 xs x.id hid _ (HX1.out.below HB.out) hl1 hm1 hn hsm)
      generalize depS xs x.id = D at *
      have HU2 := Lib.hid hu
      have hmx : (if m < D then D else m) = max m D := by split <;> omega
      clear b1 b2 b3 hbr hu
      go_wp2_with (first
        | (with_reducible refine wpList_allocA rfl 90 rfl _ chZero ?_)
        | (with_reducible refine wpList_storeRow rfl 90 _ _ rfl wr.heap.size rfl (chC x B1 d1 B2 d2) rfl chZ 90 5 chSize rfl rfl (chC_one _ _ _ _ _) R0 ?_))
      refine CDp.out.mono ?_
      rintro e w2 ⟨rfl, hb2⟩
      have HB2 := Lib.hid (HB.out.trans (hb2.mono HB.out.size))
      clear hb2 CDp k1 R0
      go_wp2
      go_roundw
      case rel => exact ⟨k + 1, max m D, by omega, by go_num, by first | rfl | rw [← hmx], by omega, by omega, HB2.out, HU2⟩
      case measure => simp [intOf]; omega
    · obtain rfl : k = xs.length := by omega
      have HU2 : Hid (m = U) := Lib.hid (by have := hu.out; rw [List.drop_length, mxD] at this; exact this)
      have HB2 := Lib.hid (HB1.out.trans (hbr.mono HB1.out.size))
      clear hbr hu
      go_wp2
      go_ret
      exact ⟨by rw [← HU2.out]; rfl, HB2.out⟩
end Go.Proofs.YtbamhiegabeicaaGreat.Cb

