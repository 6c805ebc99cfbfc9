/- The statement OpPlains. -/
import Derived.Test.YtgcmgohknocfnaaOp7
namespace Go.Proofs.Ytgcmgohknocfnaa.Opk
open Go.RowKit Go.Proofs.Ytgcmgohknocfnaa.Mem Go.Proofs.Ytgcmgohknocfnaa.Open Go.Proofs.Ytgcmgohknocfnaa.Kind Go.Proofs.Ytgcmgohknocfnaa.Blk Go.Proofs.Ytgcmgohknocfnaa.App
set_option linter.unusedVariables false
set_option linter.unusedSimpArgs false
theorem plA_twice (d : Int) (a : ByteArray) : plA d (plA d a) = plA d a := by unfold plA; split <;> rfl
theorem plB_twice (d : Int) (b : ByteArray) : plB d (plB d b) = plB d b := by unfold plB; split <;> rfl
theorem plO_twice (d o : Int) : plO d (plO d o) = plO d o := by unfold plO; split <;> rfl
theorem plN_twice (d n : Int) : plN d (plN d n) = plN d n := by unfold plN; split <;> rfl
theorem plD_twice (d : Int) (l : List Nat) : plD d (plD d l) = plD d l := by unfold plD; split <;> rfl
theorem plD_len (d : Int) (l : List Nat) : (plD d l).length ≤ l.length := by unfold plD; split <;> simp
theorem opB_plain {d : Int} {l : List Nat} (h : opB d l.length = true) : opB d (plD d l).length = true := by
  unfold opB at h ⊢
  have := plD_len d l
  simp at h ⊢
  exact ⟨h.1, by omega⟩
theorem names_apart : ∀ j ∈ List.range 14, ∀ k ∈ List.range 14, 1 ≤ j → 1 ≤ k → nameT (j : Int) = nameT (k : Int) → j = k := by decide +kernel
theorem names_there : ∀ k ∈ List.range 14, 1 ≤ k → (nameT (k : Int)).size ≠ 0 := by decide +kernel
theorem name_back {d r : Int} (h1 : 1 ≤ d) (h2 : d ≤ 13) (h : IsDo (nameT d) r) : r = d := by
  obtain ⟨k, rfl⟩ := Int.eq_ofNat_of_zero_le (show 0 ≤ d by omega)
  rcases h with ⟨rfl, h⟩ | ⟨h3, h4, h5, h6⟩
  · exact absurd rfl (h _ h1 h2)
  · obtain ⟨j, rfl⟩ := Int.eq_ofNat_of_zero_le (show 0 ≤ r by omega)
    have := names_apart j (by rw [List.mem_range]; omega) k (by rw [List.mem_range]; omega) (by omega) (by omega) h5
    rw [this]
theorem name_full {d : Int} (h1 : 1 ≤ d) (h2 : d ≤ 13) : ((nameT d).toList == []) = false := by
  obtain ⟨k, rfl⟩ := Int.eq_ofNat_of_zero_le (show 0 ≤ d by omega)
  have := names_there k (by rw [List.mem_range]; omega) (by omega)
  rw [beq_eq_false_iff_ne]
  intro e
  rw [ByteArray.toList_eq] at e
  apply this
  have := congrArg List.length e
  simpa using this
theorem name_none {d : Int} (h : ¬ (1 ≤ d ∧ d ≤ 13)) : nameT d = ⟨#[]⟩ := by
  by_cases h0 : d < 0
  · exact nameT_lo h0
  by_cases h1 : 14 ≤ d
  · exact nameT_hi h1
  obtain rfl : d = 0 := by omega
  rfl
theorem check_bel (d : Int) (a b : ByteArray) (o n : Int) (A : Option Addr) (m c : Nat) (w : World) (hm : m ≤ M63) :
    Calls Try.prog 40 #[opV d a b o n A m c] w fun e w' => e = .returned (.int .i64 (opE d m)) ∧ Below w.heap.size w w' := by
  refine (check_any d a b o n A m c w hm).mono ?_
  rintro e w' ⟨rfl, rfl⟩
  exact ⟨rfl, (Below.refl _ _).alloc (Nat.le_refl _) _⟩
set_option maxHeartbeats 2000000 in
set_option maxRecDepth 100000 in
theorem plains_walk (d : Int) (a b : ByteArray) (o n : Int) (A : Option Addr) (c : Nat) (l : List Nat) (w : World) (ha : a.size ≤ M63) (hb : b.size ≤ M63) (hd : By w A l) (hc : A = none → c = 0) :
    Calls Try.prog 10 #[opV d a b o n A l.length c] w fun e w' => e = .returned (.bool true) ∧ Below w.heap.size w w' := by
  have r1 := Row.new w 63 #[.int .i64 d, .string a, .string b, .int .i64 o, .int .i64 n, .slice A l.length c]
  have bb := (Below.refl w.heap.size w).alloc (Nat.le_refl _) (.cells #[.int .i64 d, .string a, .string b, .int .i64 o, .int .i64 n, .slice A l.length c] 63)
  by_cases h2 : 2000 < l.length
  · go_enter Try.func10, Try.ntmps10
    go_wp2_with (go_at_call 36; refine (works_any _).mono ?_; rintro e w' ⟨rfl, hbel2⟩)
    go_ret
    exact ⟨rfl, bb.trans (hbel2.mono bb.size)⟩
  by_cases h3 : 1000 < wrap64 ((a.size : Int) + (b.size : Int))
  · go_enter Try.func10, Try.ntmps10
    go_wp2_with (go_at_call 36; refine (works_any _).mono ?_; rintro e w' ⟨rfl, hbel2⟩)
    go_ret
    exact ⟨rfl, bb.trans (hbel2.mono bb.size)⟩
  have h3' : wrap64 ((a.size : Int) + (b.size : Int)) ≤ 1000 := by omega
  have hn : l.length ≤ 100000 := by omega
  go_enter Try.func10, Try.ntmps10
  go_wp2_with fail
  generalize w.alloc (.cells #[.int .i64 d, .string a, .string b, .int .i64 o, .int .i64 n, .slice A l.length c] 63) = w0 at *
  refine (to_any d a b o n A c l _ (hd.below bb) hc hn).mono ?_
  rintro e w1 ⟨A1, c1, rfl, k1, k2, k3, k4, hb1⟩
  go_wp2_with fail
  refine (plain_any d a b o n A1 c1 l _ k4.by_ k3 hn).mono ?_
  rintro e w2 ⟨A2, c2, rfl, m1, m2, m3, m4, hb2'⟩
  have bb1 := bb.trans (hb1.mono bb.size)
  have bb2 := bb1.trans (hb2'.mono bb1.size)
  have ro : Row w2 w.heap.size 63 #[.int .i64 d, .string a, .string b, .int .i64 o, .int .i64 n, .slice A l.length c] := (r1.below hb1).below hb2'
  have hlD := plD_len d l
  have HX := Lib.hid (And.intro (plA_twice d a) (And.intro (plB_twice d b) (And.intro (plO_twice d o) (And.intro (plN_twice d n) (plD_twice d l)))))
  have HB := Lib.hid (fun h => opB_plain (d := d) (l := l) h)
  generalize plA d a = a2 at *
  generalize plB d b = b2 at *
  generalize plO d o = o2 at *
  generalize plN d n = n2 at *
  generalize plD d l = l2 at *
  have rx : Row (w2.alloc (.cells #[.int .i64 d, .string a2, .string b2, .int .i64 o2, .int .i64 n2, .slice A2 l2.length c2] 64)) w2.heap.size 64 #[.int .i64 d, .string a2, .string b2, .int .i64 o2, .int .i64 n2, .slice A2 l2.length c2] := Row.new _ _ _
  have bal := (Below.refl w2.heap.size w2).alloc (Nat.le_refl _) (.cells #[.int .i64 d, .string a2, .string b2, .int .i64 o2, .int .i64 n2, .slice A2 l2.length c2] 64)
  go_wp2_with fail
  obtain ⟨gx, hgx⟩ : ∃ gx, w2.heap.size = gx := ⟨_, rfl⟩
  rw [hgx] at rx ⊢
  have ro3 := ro.below bal
  have bb3 := bb2.trans (bal.mono bb2.size)
  have hd3 := hd.below bb3
  have hx3 := m4.by_.below bal
  generalize w2.alloc (.cells #[.int .i64 d, .string a2, .string b2, .int .i64 o2, .int .i64 n2, .slice A2 l2.length c2] 64) = w3 at *
  clear r1 ro bb bb1 bb2 bal hb1 hb2' k1 k2 k3 k4 m4 hgx hd
  have rxd := rx.drew
  have rod := ro3.drew
  have hd4 := hd3.drew
  have hx4 := hx3.drew
  have hl2 : l2.length ≤ 100000 := by omega
  have CP := Lib.hid (fun w' h => plain_any d a2 b2 o2 n2 A2 c2 l2 w' h m3 hl2)
  rw [HX.out.1, HX.out.2.1, HX.out.2.2.1, HX.out.2.2.2.1, HX.out.2.2.2.2] at CP
  have CA := Lib.hid (fun A' c' w' h1 h2 => alike_yes d a2 b2 o2 n2 A' A2 c' c2 l2 w' h1 h2)
  have CC1 := Lib.hid (fun A' c' w' => check_bel d a b o n A' l.length c' w' hd3.2.1)
  have CC2 := Lib.hid (fun w' => check_bel d a2 b2 o2 n2 A2 l2.length c2 w' hx3.2.1)
  clear HX
  cases hop : opB d l.length with
  | true =>
    rw [opE_yes hop] at CC1
    rw [opE_yes (HB.out hop)] at CC2
    clear HB hop
    refine wp_region_held_drew (S := Go.RowKit.Below ((w3.drew).heap.size) (w3.drew)) (by kernel_rfl) ?hb7 (fun hHeld => ?rest7)
    case hb7 =>
      exact Go.RowKit.Below.refl _ _
    case' rest7 => skip
    refine wpAnyH_take (i := 0) (v := ?v8) rfl (by kernel_rfl) (by kernel_rfl) (by kernel_rfl) (fun _ _ _ h => h) (Or.inl ⟨by rfl, ?y8⟩) (by assumption) ?rest8
    case y8 => (intro w hSw; have hT0 := (Mem.bl_row hSw rxd (by first | exact Mem.Row.lt rxd | omega | (simp <;> omega))).cell 0 rfl; have hT1 := (Mem.bl_row hSw rxd (by first | exact Mem.Row.lt rxd | omega | (simp <;> omega))).cell 1 rfl; have hT2 := (Mem.bl_row hSw rxd (by first | exact Mem.Row.lt rxd | omega | (simp <;> omega))).cell 2 rfl; have hT3 := (Mem.bl_row hSw rxd (by first | exact Mem.Row.lt rxd | omega | (simp <;> omega))).cell 3 rfl; have hT4 := (Mem.bl_row hSw rxd (by first | exact Mem.Row.lt rxd | omega | (simp <;> omega))).cell 4 rfl; have hT5 := (Mem.bl_row hSw rxd (by first | exact Mem.Row.lt rxd | omega | (simp <;> omega))).cell 5 rfl; have hT6 := (Mem.bl_row hSw rod (by first | exact Mem.Row.lt rod | omega | (simp <;> omega))).cell 0 rfl; have hT7 := (Mem.bl_row hSw rod (by first | exact Mem.Row.lt rod | omega | (simp <;> omega))).cell 1 rfl; have hT8 := (Mem.bl_row hSw rod (by first | exact Mem.Row.lt rod | omega | (simp <;> omega))).cell 2 rfl; have hT9 := (Mem.bl_row hSw rod (by first | exact Mem.Row.lt rod | omega | (simp <;> omega))).cell 3 rfl; have hT10 := (Mem.bl_row hSw rod (by first | exact Mem.Row.lt rod | omega | (simp <;> omega))).cell 4 rfl; have hT11 := (Mem.bl_row hSw rod (by first | exact Mem.Row.lt rod | omega | (simp <;> omega))).cell 5 rfl; clear hSw; go_simp; try with_reducible rfl)
    case' rest8 => skip
    try simp only [List.getElem_toArray, List.getElem_cons_succ, List.getElem_cons_zero, Act.put, List.setIfInBounds_toArray, List.set_cons_zero, List.set_cons_succ]
    refine wpAnyH_take (i := 2) (v := ?v9) rfl (by kernel_rfl) (by kernel_rfl) (by kernel_rfl) (fun _ _ _ h => h) (Or.inl ⟨by rfl, ?y9⟩) (by assumption) ?rest9
    case y9 => (intro w hSw; have hT0 := (Mem.bl_row hSw rxd (by first | exact Mem.Row.lt rxd | omega | (simp <;> omega))).cell 0 rfl; have hT1 := (Mem.bl_row hSw rxd (by first | exact Mem.Row.lt rxd | omega | (simp <;> omega))).cell 1 rfl; have hT2 := (Mem.bl_row hSw rxd (by first | exact Mem.Row.lt rxd | omega | (simp <;> omega))).cell 2 rfl; have hT3 := (Mem.bl_row hSw rxd (by first | exact Mem.Row.lt rxd | omega | (simp <;> omega))).cell 3 rfl; have hT4 := (Mem.bl_row hSw rxd (by first | exact Mem.Row.lt rxd | omega | (simp <;> omega))).cell 4 rfl; have hT5 := (Mem.bl_row hSw rxd (by first | exact Mem.Row.lt rxd | omega | (simp <;> omega))).cell 5 rfl; have hT6 := (Mem.bl_row hSw rod (by first | exact Mem.Row.lt rod | omega | (simp <;> omega))).cell 0 rfl; have hT7 := (Mem.bl_row hSw rod (by first | exact Mem.Row.lt rod | omega | (simp <;> omega))).cell 1 rfl; have hT8 := (Mem.bl_row hSw rod (by first | exact Mem.Row.lt rod | omega | (simp <;> omega))).cell 2 rfl; have hT9 := (Mem.bl_row hSw rod (by first | exact Mem.Row.lt rod | omega | (simp <;> omega))).cell 3 rfl; have hT10 := (Mem.bl_row hSw rod (by first | exact Mem.Row.lt rod | omega | (simp <;> omega))).cell 4 rfl; have hT11 := (Mem.bl_row hSw rod (by first | exact Mem.Row.lt rod | omega | (simp <;> omega))).cell 5 rfl; clear hSw; go_simp; try with_reducible rfl)
    case' rest9 => skip
    try simp only [List.getElem_toArray, List.getElem_cons_succ, List.getElem_cons_zero, Act.put, List.setIfInBounds_toArray, List.set_cons_zero, List.set_cons_succ]
    refine wpAnyH_ready (rs := [1]) (by kernel_rfl) (by simp) ?_
    refine AllReadyH.cons rfl (fun K hK => ?_) AllReadyH.nil
    go_simp
    (refine (CP.out _ (hx4.below hHeld)).mono ?_; rintro e w4 ⟨A4, c4, rfl, q1, q2, q3, q4, hbl⟩; have ht := q4.by_)
    try go_wp2_with fail
    have hSnew := Mem.bl_step hHeld hbl (by first | exact Nat.le_refl _ | omega | (simp <;> omega))
    refine hK.out _ _ ?_ (fun hHeld2 => ?_)
    · exact hSnew
    try replace ht := ht.below hbl
    clear hbl
    clear hK K hHeld hSnew
    have hHeld := hHeld2
    clear hHeld2
    try simp only [List.getElem_toArray, List.getElem_cons_succ, List.getElem_cons_zero, Act.put, List.setIfInBounds_toArray, List.set_cons_zero, List.set_cons_succ]
    refine wpAnyH_ready (rs := [3]) (by kernel_rfl) (by simp) ?_
    refine AllReadyH.cons rfl (fun K hK => ?_) AllReadyH.nil
    go_simp
    (refine (CA.out A4 c4 _ ht (hx4.below hHeld)).mono ?_; rintro e w5 ⟨rfl, hbl⟩; clear ht)
    try go_wp2_with fail
    have hSnew := Mem.bl_step hHeld hbl (by first | exact Nat.le_refl _ | omega | (simp <;> omega))
    refine hK.out _ _ ?_ (fun hHeld2 => ?_)
    · exact hSnew
    try replace ht := ht.below hbl
    clear hbl
    clear hK K hHeld hSnew
    have hHeld := hHeld2
    clear hHeld2
    try simp only [List.getElem_toArray, List.getElem_cons_succ, List.getElem_cons_zero, Act.put, List.setIfInBounds_toArray, List.set_cons_zero, List.set_cons_succ]
    refine wpAnyH_take (i := 4) (v := ?v10) rfl (by kernel_rfl) (by kernel_rfl) (by kernel_rfl) (fun _ _ _ h => h) (Or.inl ⟨by rfl, ?y10⟩) (by assumption) ?rest10
    case y10 => (intro w hSw; have hT0 := (Mem.bl_row hSw rxd (by first | exact Mem.Row.lt rxd | omega | (simp <;> omega))).cell 0 rfl; have hT1 := (Mem.bl_row hSw rxd (by first | exact Mem.Row.lt rxd | omega | (simp <;> omega))).cell 1 rfl; have hT2 := (Mem.bl_row hSw rxd (by first | exact Mem.Row.lt rxd | omega | (simp <;> omega))).cell 2 rfl; have hT3 := (Mem.bl_row hSw rxd (by first | exact Mem.Row.lt rxd | omega | (simp <;> omega))).cell 3 rfl; have hT4 := (Mem.bl_row hSw rxd (by first | exact Mem.Row.lt rxd | omega | (simp <;> omega))).cell 4 rfl; have hT5 := (Mem.bl_row hSw rxd (by first | exact Mem.Row.lt rxd | omega | (simp <;> omega))).cell 5 rfl; have hT6 := (Mem.bl_row hSw rod (by first | exact Mem.Row.lt rod | omega | (simp <;> omega))).cell 0 rfl; have hT7 := (Mem.bl_row hSw rod (by first | exact Mem.Row.lt rod | omega | (simp <;> omega))).cell 1 rfl; have hT8 := (Mem.bl_row hSw rod (by first | exact Mem.Row.lt rod | omega | (simp <;> omega))).cell 2 rfl; have hT9 := (Mem.bl_row hSw rod (by first | exact Mem.Row.lt rod | omega | (simp <;> omega))).cell 3 rfl; have hT10 := (Mem.bl_row hSw rod (by first | exact Mem.Row.lt rod | omega | (simp <;> omega))).cell 4 rfl; have hT11 := (Mem.bl_row hSw rod (by first | exact Mem.Row.lt rod | omega | (simp <;> omega))).cell 5 rfl; clear hSw; go_simp; try with_reducible rfl)
    case' rest10 => skip
    try simp only [List.getElem_toArray, List.getElem_cons_succ, List.getElem_cons_zero, Act.put, List.setIfInBounds_toArray, List.set_cons_zero, List.set_cons_succ]
    refine wpAnyH_take (i := 5) (v := ?v11) rfl (by kernel_rfl) (by kernel_rfl) (by kernel_rfl) (fun _ _ _ h => h) (Or.inl ⟨by rfl, ?y11⟩) (by assumption) ?rest11
    case y11 => (intro w hSw; have hT0 := (Mem.bl_row hSw rxd (by first | exact Mem.Row.lt rxd | omega | (simp <;> omega))).cell 0 rfl; have hT1 := (Mem.bl_row hSw rxd (by first | exact Mem.Row.lt rxd | omega | (simp <;> omega))).cell 1 rfl; have hT2 := (Mem.bl_row hSw rxd (by first | exact Mem.Row.lt rxd | omega | (simp <;> omega))).cell 2 rfl; have hT3 := (Mem.bl_row hSw rxd (by first | exact Mem.Row.lt rxd | omega | (simp <;> omega))).cell 3 rfl; have hT4 := (Mem.bl_row hSw rxd (by first | exact Mem.Row.lt rxd | omega | (simp <;> omega))).cell 4 rfl; have hT5 := (Mem.bl_row hSw rxd (by first | exact Mem.Row.lt rxd | omega | (simp <;> omega))).cell 5 rfl; have hT6 := (Mem.bl_row hSw rod (by first | exact Mem.Row.lt rod | omega | (simp <;> omega))).cell 0 rfl; have hT7 := (Mem.bl_row hSw rod (by first | exact Mem.Row.lt rod | omega | (simp <;> omega))).cell 1 rfl; have hT8 := (Mem.bl_row hSw rod (by first | exact Mem.Row.lt rod | omega | (simp <;> omega))).cell 2 rfl; have hT9 := (Mem.bl_row hSw rod (by first | exact Mem.Row.lt rod | omega | (simp <;> omega))).cell 3 rfl; have hT10 := (Mem.bl_row hSw rod (by first | exact Mem.Row.lt rod | omega | (simp <;> omega))).cell 4 rfl; have hT11 := (Mem.bl_row hSw rod (by first | exact Mem.Row.lt rod | omega | (simp <;> omega))).cell 5 rfl; clear hSw; go_simp; try with_reducible rfl)
    case' rest11 => skip
    try simp only [List.getElem_toArray, List.getElem_cons_succ, List.getElem_cons_zero, Act.put, List.setIfInBounds_toArray, List.set_cons_zero, List.set_cons_succ]
    first
      | refine wpAnyH_take (i := 6) (v := undef) rfl (by kernel_rfl) (by kernel_rfl) (by kernel_rfl) (fun _ _ _ h => h) (Or.inr ⟨by rfl, rfl⟩) (by assumption) ?rest12
      | (refine wpAnyH_take (i := 6) (v := ?v12) rfl (by kernel_rfl) (by kernel_rfl) (by kernel_rfl) (fun _ _ _ h => h) (Or.inl ⟨by rfl, ?y12⟩) (by assumption) ?rest12; case y12 => (intro w hSw; have hT0 := (Mem.bl_row hSw rxd (by first | exact Mem.Row.lt rxd | omega | (simp <;> omega))).cell 0 rfl; have hT1 := (Mem.bl_row hSw rxd (by first | exact Mem.Row.lt rxd | omega | (simp <;> omega))).cell 1 rfl; have hT2 := (Mem.bl_row hSw rxd (by first | exact Mem.Row.lt rxd | omega | (simp <;> omega))).cell 2 rfl; have hT3 := (Mem.bl_row hSw rxd (by first | exact Mem.Row.lt rxd | omega | (simp <;> omega))).cell 3 rfl; have hT4 := (Mem.bl_row hSw rxd (by first | exact Mem.Row.lt rxd | omega | (simp <;> omega))).cell 4 rfl; have hT5 := (Mem.bl_row hSw rxd (by first | exact Mem.Row.lt rxd | omega | (simp <;> omega))).cell 5 rfl; have hT6 := (Mem.bl_row hSw rod (by first | exact Mem.Row.lt rod | omega | (simp <;> omega))).cell 0 rfl; have hT7 := (Mem.bl_row hSw rod (by first | exact Mem.Row.lt rod | omega | (simp <;> omega))).cell 1 rfl; have hT8 := (Mem.bl_row hSw rod (by first | exact Mem.Row.lt rod | omega | (simp <;> omega))).cell 2 rfl; have hT9 := (Mem.bl_row hSw rod (by first | exact Mem.Row.lt rod | omega | (simp <;> omega))).cell 3 rfl; have hT10 := (Mem.bl_row hSw rod (by first | exact Mem.Row.lt rod | omega | (simp <;> omega))).cell 4 rfl; have hT11 := (Mem.bl_row hSw rod (by first | exact Mem.Row.lt rod | omega | (simp <;> omega))).cell 5 rfl; clear hSw; go_simp; try with_reducible rfl))
    case' rest12 => skip
    try simp only [List.getElem_toArray, List.getElem_cons_succ, List.getElem_cons_zero, Act.put, List.setIfInBounds_toArray, List.set_cons_zero, List.set_cons_succ]
    refine wpAnyH_ready (rs := [7]) (by kernel_rfl) (by simp) ?_
    refine AllReadyH.cons rfl (fun K hK => ?_) AllReadyH.nil
    go_simp
    (refine (to_any d a b o n A c l _ (hd4.below hHeld) hc hn).mono ?_; rintro e w6 ⟨A6, c6, rfl, q5, q6, q7, q8, hbl⟩)
    try go_wp2_with fail
    have hSnew := Mem.bl_step hHeld hbl (by first | exact Nat.le_refl _ | omega | (simp <;> omega))
    refine hK.out _ _ ?_ (fun hHeld2 => ?_)
    · exact hSnew
    try replace ht := ht.below hbl
    clear hbl
    clear hK K hHeld hSnew
    have hHeld := hHeld2
    clear hHeld2
    try simp only [List.getElem_toArray, List.getElem_cons_succ, List.getElem_cons_zero, Act.put, List.setIfInBounds_toArray, List.set_cons_zero, List.set_cons_succ]
    refine wpAnyH_ready (rs := [8]) (by kernel_rfl) (by simp) ?_
    refine AllReadyH.cons rfl (fun K hK => ?_) AllReadyH.nil
    go_simp
    (refine (CC1.out A6 c6 _).mono ?_; rintro e w7 ⟨rfl, hbl⟩)
    try go_wp2_with fail
    have hSnew := Mem.bl_step hHeld hbl (by first | exact Nat.le_refl _ | omega | (simp <;> omega))
    refine hK.out _ _ ?_ (fun hHeld2 => ?_)
    · exact hSnew
    try replace ht := ht.below hbl
    clear hbl
    clear hK K hHeld hSnew
    have hHeld := hHeld2
    clear hHeld2
    try simp only [List.getElem_toArray, List.getElem_cons_succ, List.getElem_cons_zero, Act.put, List.setIfInBounds_toArray, List.set_cons_zero, List.set_cons_succ]
    first
      | refine wpAnyH_take (i := 9) (v := undef) rfl (by kernel_rfl) (by kernel_rfl) (by kernel_rfl) (fun _ _ _ h => h) (Or.inr ⟨by rfl, rfl⟩) (by assumption) ?rest13
      | (refine wpAnyH_take (i := 9) (v := ?v13) rfl (by kernel_rfl) (by kernel_rfl) (by kernel_rfl) (fun _ _ _ h => h) (Or.inl ⟨by rfl, ?y13⟩) (by assumption) ?rest13; case y13 => (intro w hSw; have hT0 := (Mem.bl_row hSw rxd (by first | exact Mem.Row.lt rxd | omega | (simp <;> omega))).cell 0 rfl; have hT1 := (Mem.bl_row hSw rxd (by first | exact Mem.Row.lt rxd | omega | (simp <;> omega))).cell 1 rfl; have hT2 := (Mem.bl_row hSw rxd (by first | exact Mem.Row.lt rxd | omega | (simp <;> omega))).cell 2 rfl; have hT3 := (Mem.bl_row hSw rxd (by first | exact Mem.Row.lt rxd | omega | (simp <;> omega))).cell 3 rfl; have hT4 := (Mem.bl_row hSw rxd (by first | exact Mem.Row.lt rxd | omega | (simp <;> omega))).cell 4 rfl; have hT5 := (Mem.bl_row hSw rxd (by first | exact Mem.Row.lt rxd | omega | (simp <;> omega))).cell 5 rfl; have hT6 := (Mem.bl_row hSw rod (by first | exact Mem.Row.lt rod | omega | (simp <;> omega))).cell 0 rfl; have hT7 := (Mem.bl_row hSw rod (by first | exact Mem.Row.lt rod | omega | (simp <;> omega))).cell 1 rfl; have hT8 := (Mem.bl_row hSw rod (by first | exact Mem.Row.lt rod | omega | (simp <;> omega))).cell 2 rfl; have hT9 := (Mem.bl_row hSw rod (by first | exact Mem.Row.lt rod | omega | (simp <;> omega))).cell 3 rfl; have hT10 := (Mem.bl_row hSw rod (by first | exact Mem.Row.lt rod | omega | (simp <;> omega))).cell 4 rfl; have hT11 := (Mem.bl_row hSw rod (by first | exact Mem.Row.lt rod | omega | (simp <;> omega))).cell 5 rfl; clear hSw; go_simp; try with_reducible rfl))
    case' rest13 => skip
    try simp only [List.getElem_toArray, List.getElem_cons_succ, List.getElem_cons_zero, Act.put, List.setIfInBounds_toArray, List.set_cons_zero, List.set_cons_succ]
    first
      | refine wpAnyH_take (i := 10) (v := undef) rfl (by kernel_rfl) (by kernel_rfl) (by kernel_rfl) (fun _ _ _ h => h) (Or.inr ⟨by rfl, rfl⟩) (by assumption) ?rest14
      | (refine wpAnyH_take (i := 10) (v := ?v14) rfl (by kernel_rfl) (by kernel_rfl) (by kernel_rfl) (fun _ _ _ h => h) (Or.inl ⟨by rfl, ?y14⟩) (by assumption) ?rest14; case y14 => (intro w hSw; have hT0 := (Mem.bl_row hSw rxd (by first | exact Mem.Row.lt rxd | omega | (simp <;> omega))).cell 0 rfl; have hT1 := (Mem.bl_row hSw rxd (by first | exact Mem.Row.lt rxd | omega | (simp <;> omega))).cell 1 rfl; have hT2 := (Mem.bl_row hSw rxd (by first | exact Mem.Row.lt rxd | omega | (simp <;> omega))).cell 2 rfl; have hT3 := (Mem.bl_row hSw rxd (by first | exact Mem.Row.lt rxd | omega | (simp <;> omega))).cell 3 rfl; have hT4 := (Mem.bl_row hSw rxd (by first | exact Mem.Row.lt rxd | omega | (simp <;> omega))).cell 4 rfl; have hT5 := (Mem.bl_row hSw rxd (by first | exact Mem.Row.lt rxd | omega | (simp <;> omega))).cell 5 rfl; have hT6 := (Mem.bl_row hSw rod (by first | exact Mem.Row.lt rod | omega | (simp <;> omega))).cell 0 rfl; have hT7 := (Mem.bl_row hSw rod (by first | exact Mem.Row.lt rod | omega | (simp <;> omega))).cell 1 rfl; have hT8 := (Mem.bl_row hSw rod (by first | exact Mem.Row.lt rod | omega | (simp <;> omega))).cell 2 rfl; have hT9 := (Mem.bl_row hSw rod (by first | exact Mem.Row.lt rod | omega | (simp <;> omega))).cell 3 rfl; have hT10 := (Mem.bl_row hSw rod (by first | exact Mem.Row.lt rod | omega | (simp <;> omega))).cell 4 rfl; have hT11 := (Mem.bl_row hSw rod (by first | exact Mem.Row.lt rod | omega | (simp <;> omega))).cell 5 rfl; clear hSw; go_simp; try with_reducible rfl))
    case' rest14 => skip
    try simp only [List.getElem_toArray, List.getElem_cons_succ, List.getElem_cons_zero, Act.put, List.setIfInBounds_toArray, List.set_cons_zero, List.set_cons_succ]
    first
      | refine wpAnyH_take (i := 11) (v := undef) rfl (by kernel_rfl) (by kernel_rfl) (by kernel_rfl) (fun _ _ _ h => h) (Or.inr ⟨by rfl, rfl⟩) (by assumption) ?rest15
      | (refine wpAnyH_take (i := 11) (v := ?v15) rfl (by kernel_rfl) (by kernel_rfl) (by kernel_rfl) (fun _ _ _ h => h) (Or.inl ⟨by rfl, ?y15⟩) (by assumption) ?rest15; case y15 => (intro w hSw; have hT0 := (Mem.bl_row hSw rxd (by first | exact Mem.Row.lt rxd | omega | (simp <;> omega))).cell 0 rfl; have hT1 := (Mem.bl_row hSw rxd (by first | exact Mem.Row.lt rxd | omega | (simp <;> omega))).cell 1 rfl; have hT2 := (Mem.bl_row hSw rxd (by first | exact Mem.Row.lt rxd | omega | (simp <;> omega))).cell 2 rfl; have hT3 := (Mem.bl_row hSw rxd (by first | exact Mem.Row.lt rxd | omega | (simp <;> omega))).cell 3 rfl; have hT4 := (Mem.bl_row hSw rxd (by first | exact Mem.Row.lt rxd | omega | (simp <;> omega))).cell 4 rfl; have hT5 := (Mem.bl_row hSw rxd (by first | exact Mem.Row.lt rxd | omega | (simp <;> omega))).cell 5 rfl; have hT6 := (Mem.bl_row hSw rod (by first | exact Mem.Row.lt rod | omega | (simp <;> omega))).cell 0 rfl; have hT7 := (Mem.bl_row hSw rod (by first | exact Mem.Row.lt rod | omega | (simp <;> omega))).cell 1 rfl; have hT8 := (Mem.bl_row hSw rod (by first | exact Mem.Row.lt rod | omega | (simp <;> omega))).cell 2 rfl; have hT9 := (Mem.bl_row hSw rod (by first | exact Mem.Row.lt rod | omega | (simp <;> omega))).cell 3 rfl; have hT10 := (Mem.bl_row hSw rod (by first | exact Mem.Row.lt rod | omega | (simp <;> omega))).cell 4 rfl; have hT11 := (Mem.bl_row hSw rod (by first | exact Mem.Row.lt rod | omega | (simp <;> omega))).cell 5 rfl; clear hSw; go_simp; try with_reducible rfl))
    case' rest15 => skip
    try simp only [List.getElem_toArray, List.getElem_cons_succ, List.getElem_cons_zero, Act.put, List.setIfInBounds_toArray, List.set_cons_zero, List.set_cons_succ]
    refine wpAnyH_ready (rs := [12]) (by kernel_rfl) (by simp) ?_
    refine AllReadyH.cons rfl (fun K hK => ?_) AllReadyH.nil
    go_simp
    (refine (CC2.out _).mono ?_; rintro e wz ⟨rfl, hbl⟩)
    try go_wp2_with fail
    have hSnew := Mem.bl_step hHeld hbl (by first | exact Nat.le_refl _ | omega | (simp <;> omega))
    refine hK.out _ _ ?_ (fun hHeld2 => ?_)
    · exact hSnew
    try replace ht := ht.below hbl
    clear hbl
    clear hK K hHeld hSnew
    have hHeld := hHeld2
    clear hHeld2
    try simp only [List.getElem_toArray, List.getElem_cons_succ, List.getElem_cons_zero, Act.put, List.setIfInBounds_toArray, List.set_cons_zero, List.set_cons_succ]
    first
      | refine wpAnyH_take (i := 13) (v := undef) rfl (by kernel_rfl) (by kernel_rfl) (by kernel_rfl) (fun _ _ _ h => h) (Or.inr ⟨by rfl, rfl⟩) (by assumption) ?rest16
      | (refine wpAnyH_take (i := 13) (v := ?v16) rfl (by kernel_rfl) (by kernel_rfl) (by kernel_rfl) (fun _ _ _ h => h) (Or.inl ⟨by rfl, ?y16⟩) (by assumption) ?rest16; case y16 => (intro w hSw; have hT0 := (Mem.bl_row hSw rxd (by first | exact Mem.Row.lt rxd | omega | (simp <;> omega))).cell 0 rfl; have hT1 := (Mem.bl_row hSw rxd (by first | exact Mem.Row.lt rxd | omega | (simp <;> omega))).cell 1 rfl; have hT2 := (Mem.bl_row hSw rxd (by first | exact Mem.Row.lt rxd | omega | (simp <;> omega))).cell 2 rfl; have hT3 := (Mem.bl_row hSw rxd (by first | exact Mem.Row.lt rxd | omega | (simp <;> omega))).cell 3 rfl; have hT4 := (Mem.bl_row hSw rxd (by first | exact Mem.Row.lt rxd | omega | (simp <;> omega))).cell 4 rfl; have hT5 := (Mem.bl_row hSw rxd (by first | exact Mem.Row.lt rxd | omega | (simp <;> omega))).cell 5 rfl; have hT6 := (Mem.bl_row hSw rod (by first | exact Mem.Row.lt rod | omega | (simp <;> omega))).cell 0 rfl; have hT7 := (Mem.bl_row hSw rod (by first | exact Mem.Row.lt rod | omega | (simp <;> omega))).cell 1 rfl; have hT8 := (Mem.bl_row hSw rod (by first | exact Mem.Row.lt rod | omega | (simp <;> omega))).cell 2 rfl; have hT9 := (Mem.bl_row hSw rod (by first | exact Mem.Row.lt rod | omega | (simp <;> omega))).cell 3 rfl; have hT10 := (Mem.bl_row hSw rod (by first | exact Mem.Row.lt rod | omega | (simp <;> omega))).cell 4 rfl; have hT11 := (Mem.bl_row hSw rod (by first | exact Mem.Row.lt rod | omega | (simp <;> omega))).cell 5 rfl; clear hSw; go_simp; try with_reducible rfl))
    case' rest16 => skip
    try simp only [List.getElem_toArray, List.getElem_cons_succ, List.getElem_cons_zero, Act.put, List.setIfInBounds_toArray, List.set_cons_zero, List.set_cons_succ]
    first
      | refine wpAnyH_take (i := 14) (v := undef) rfl (by kernel_rfl) (by kernel_rfl) (by kernel_rfl) (fun _ _ _ h => h) (Or.inr ⟨by rfl, rfl⟩) (by assumption) ?rest17
      | (refine wpAnyH_take (i := 14) (v := ?v17) rfl (by kernel_rfl) (by kernel_rfl) (by kernel_rfl) (fun _ _ _ h => h) (Or.inl ⟨by rfl, ?y17⟩) (by assumption) ?rest17; case y17 => (intro w hSw; have hT0 := (Mem.bl_row hSw rxd (by first | exact Mem.Row.lt rxd | omega | (simp <;> omega))).cell 0 rfl; have hT1 := (Mem.bl_row hSw rxd (by first | exact Mem.Row.lt rxd | omega | (simp <;> omega))).cell 1 rfl; have hT2 := (Mem.bl_row hSw rxd (by first | exact Mem.Row.lt rxd | omega | (simp <;> omega))).cell 2 rfl; have hT3 := (Mem.bl_row hSw rxd (by first | exact Mem.Row.lt rxd | omega | (simp <;> omega))).cell 3 rfl; have hT4 := (Mem.bl_row hSw rxd (by first | exact Mem.Row.lt rxd | omega | (simp <;> omega))).cell 4 rfl; have hT5 := (Mem.bl_row hSw rxd (by first | exact Mem.Row.lt rxd | omega | (simp <;> omega))).cell 5 rfl; have hT6 := (Mem.bl_row hSw rod (by first | exact Mem.Row.lt rod | omega | (simp <;> omega))).cell 0 rfl; have hT7 := (Mem.bl_row hSw rod (by first | exact Mem.Row.lt rod | omega | (simp <;> omega))).cell 1 rfl; have hT8 := (Mem.bl_row hSw rod (by first | exact Mem.Row.lt rod | omega | (simp <;> omega))).cell 2 rfl; have hT9 := (Mem.bl_row hSw rod (by first | exact Mem.Row.lt rod | omega | (simp <;> omega))).cell 3 rfl; have hT10 := (Mem.bl_row hSw rod (by first | exact Mem.Row.lt rod | omega | (simp <;> omega))).cell 4 rfl; have hT11 := (Mem.bl_row hSw rod (by first | exact Mem.Row.lt rod | omega | (simp <;> omega))).cell 5 rfl; clear hSw; go_simp; try with_reducible rfl))
    case' rest17 => skip
    try simp only [List.getElem_toArray, List.getElem_cons_succ, List.getElem_cons_zero, Act.put, List.setIfInBounds_toArray, List.set_cons_zero, List.set_cons_succ]
    refine wpAnyH_take (i := 15) (v := ?v18) rfl (by kernel_rfl) (by kernel_rfl) (by kernel_rfl) (fun _ _ _ h => h) (Or.inl ⟨by rfl, ?y18⟩) (by assumption) ?rest18
    case y18 => (intro w hSw; have hT0 := (Mem.bl_row hSw rxd (by first | exact Mem.Row.lt rxd | omega | (simp <;> omega))).cell 0 rfl; have hT1 := (Mem.bl_row hSw rxd (by first | exact Mem.Row.lt rxd | omega | (simp <;> omega))).cell 1 rfl; have hT2 := (Mem.bl_row hSw rxd (by first | exact Mem.Row.lt rxd | omega | (simp <;> omega))).cell 2 rfl; have hT3 := (Mem.bl_row hSw rxd (by first | exact Mem.Row.lt rxd | omega | (simp <;> omega))).cell 3 rfl; have hT4 := (Mem.bl_row hSw rxd (by first | exact Mem.Row.lt rxd | omega | (simp <;> omega))).cell 4 rfl; have hT5 := (Mem.bl_row hSw rxd (by first | exact Mem.Row.lt rxd | omega | (simp <;> omega))).cell 5 rfl; have hT6 := (Mem.bl_row hSw rod (by first | exact Mem.Row.lt rod | omega | (simp <;> omega))).cell 0 rfl; have hT7 := (Mem.bl_row hSw rod (by first | exact Mem.Row.lt rod | omega | (simp <;> omega))).cell 1 rfl; have hT8 := (Mem.bl_row hSw rod (by first | exact Mem.Row.lt rod | omega | (simp <;> omega))).cell 2 rfl; have hT9 := (Mem.bl_row hSw rod (by first | exact Mem.Row.lt rod | omega | (simp <;> omega))).cell 3 rfl; have hT10 := (Mem.bl_row hSw rod (by first | exact Mem.Row.lt rod | omega | (simp <;> omega))).cell 4 rfl; have hT11 := (Mem.bl_row hSw rod (by first | exact Mem.Row.lt rod | omega | (simp <;> omega))).cell 5 rfl; clear hSw; go_simp; try with_reducible rfl)
    case' rest18 => skip
    try simp only [List.getElem_toArray, List.getElem_cons_succ, List.getElem_cons_zero, Act.put, List.setIfInBounds_toArray, List.set_cons_zero, List.set_cons_succ]
    refine wpAnyH_done (by kernel_rfl) ?_ _
    have bz0 := (Below.refl w3.heap.size w3).drew.trans hHeld
    have bz := bb3.trans (bz0.mono bb3.size)
    have rz := (ro3.below bz0).drew
    clear hHeld bz0 rxd rod hd4 hx4 CP CA CC1 CC2 rx ro3 hd3 hx3 bb3
    have CN := Lib.hid (fun w' => name_any d w')
    by_cases hr : 1 ≤ d ∧ d ≤ 13
    · have CD := Lib.hid (fun w' => do_any (nameT d) w')
      have HR := Lib.hid (fun r h => name_back hr.1 hr.2 (r := r) h)
      have hem : ((nameT d).toList == []) = false := name_full hr.1 hr.2
      generalize nameT d = t at *
      go_wp2_with fail
      refine wp_region_held_drew (S := Go.RowKit.Below ((wz.drew).heap.size) (wz.drew)) (by kernel_rfl) ?hb27 (fun hHeld => ?rest27)
      case hb27 =>
        exact Go.RowKit.Below.refl _ _
      case' rest27 => skip
      refine wpAnyH_take (i := 0) (v := ?v28) rfl (by kernel_rfl) (by kernel_rfl) (by kernel_rfl) (fun _ _ _ h => h) (Or.inl ⟨by rfl, ?y28⟩) (by assumption) ?rest28
      case y28 => (intro w hSw; have hT0 := (Mem.bl_row hSw rz (by first | exact Mem.Row.lt rz | omega | (simp <;> omega))).cell 0 rfl; clear hSw; go_simp; try with_reducible rfl)
      case' rest28 => skip
      try simp only [List.getElem_toArray, List.getElem_cons_succ, List.getElem_cons_zero, Act.put, List.setIfInBounds_toArray, List.set_cons_zero, List.set_cons_succ]
      refine wpAnyH_take (i := 1) (v := ?v29) rfl (by kernel_rfl) (by kernel_rfl) (by kernel_rfl) (fun _ _ _ h => h) (Or.inl ⟨by rfl, ?y29⟩) (by assumption) ?rest29
      case y29 => (intro w hSw; have hT0 := (Mem.bl_row hSw rz (by first | exact Mem.Row.lt rz | omega | (simp <;> omega))).cell 0 rfl; clear hSw; go_simp; try with_reducible rfl)
      case' rest29 => skip
      try simp only [List.getElem_toArray, List.getElem_cons_succ, List.getElem_cons_zero, Act.put, List.setIfInBounds_toArray, List.set_cons_zero, List.set_cons_succ]
      refine wpAnyH_ready (rs := [2]) (by kernel_rfl) (by simp) ?_
      refine AllReadyH.cons rfl (fun K hK => ?_) AllReadyH.nil
      go_simp
      (refine (CN.out _).mono ?_; rintro e v1 ⟨rfl, hbl⟩)
      try go_wp2_with fail
      have hSnew := Mem.bl_step hHeld hbl (by first | exact Nat.le_refl _ | omega | (simp <;> omega))
      refine hK.out _ _ ?_ (fun hHeld2 => ?_)
      · exact hSnew
      clear hbl
      clear hK K hHeld hSnew
      have hHeld := hHeld2
      clear hHeld2
      try simp only [List.getElem_toArray, List.getElem_cons_succ, List.getElem_cons_zero, Act.put, List.setIfInBounds_toArray, List.set_cons_zero, List.set_cons_succ]
      refine wpAnyH_take (i := 3) (v := ?v30) rfl (by kernel_rfl) (by kernel_rfl) (by kernel_rfl) (fun _ _ _ h => h) (Or.inl ⟨by rfl, ?y30⟩) (by assumption) ?rest30
      case y30 => (intro w hSw; have hT0 := (Mem.bl_row hSw rz (by first | exact Mem.Row.lt rz | omega | (simp <;> omega))).cell 0 rfl; clear hSw; go_simp; try with_reducible rfl)
      case' rest30 => skip
      try simp only [List.getElem_toArray, List.getElem_cons_succ, List.getElem_cons_zero, Act.put, List.setIfInBounds_toArray, List.set_cons_zero, List.set_cons_succ]
      refine wpAnyH_take (i := 4) (v := ?v31) rfl (by kernel_rfl) (by kernel_rfl) (by kernel_rfl) (fun _ _ _ h => h) (Or.inl ⟨by rfl, ?y31⟩) (by assumption) ?rest31
      case y31 => (intro w hSw; have hT0 := (Mem.bl_row hSw rz (by first | exact Mem.Row.lt rz | omega | (simp <;> omega))).cell 0 rfl; clear hSw; go_simp; try with_reducible rfl)
      case' rest31 => skip
      try simp only [List.getElem_toArray, List.getElem_cons_succ, List.getElem_cons_zero, Act.put, List.setIfInBounds_toArray, List.set_cons_zero, List.set_cons_succ]
      first
        | refine wpAnyH_take (i := 5) (v := undef) rfl (by kernel_rfl) (by kernel_rfl) (by kernel_rfl) (fun _ _ _ h => h) (Or.inr ⟨by rfl, rfl⟩) (by assumption) ?rest32
        | (refine wpAnyH_take (i := 5) (v := ?v32) rfl (by kernel_rfl) (by kernel_rfl) (by kernel_rfl) (fun _ _ _ h => h) (Or.inl ⟨by rfl, ?y32⟩) (by assumption) ?rest32; case y32 => (intro w hSw; have hT0 := (Mem.bl_row hSw rz (by first | exact Mem.Row.lt rz | omega | (simp <;> omega))).cell 0 rfl; clear hSw; go_simp; try with_reducible rfl))
      case' rest32 => skip
      try simp only [List.getElem_toArray, List.getElem_cons_succ, List.getElem_cons_zero, Act.put, List.setIfInBounds_toArray, List.set_cons_zero, List.set_cons_succ]
      first
        | refine wpAnyH_take (i := 6) (v := undef) rfl (by kernel_rfl) (by kernel_rfl) (by kernel_rfl) (fun _ _ _ h => h) (Or.inr ⟨by rfl, rfl⟩) (by assumption) ?rest33
        | (refine wpAnyH_take (i := 6) (v := ?v33) rfl (by kernel_rfl) (by kernel_rfl) (by kernel_rfl) (fun _ _ _ h => h) (Or.inl ⟨by rfl, ?y33⟩) (by assumption) ?rest33; case y33 => (intro w hSw; have hT0 := (Mem.bl_row hSw rz (by first | exact Mem.Row.lt rz | omega | (simp <;> omega))).cell 0 rfl; clear hSw; go_simp; try with_reducible rfl))
      case' rest33 => skip
      try simp only [List.getElem_toArray, List.getElem_cons_succ, List.getElem_cons_zero, Act.put, List.setIfInBounds_toArray, List.set_cons_zero, List.set_cons_succ]
      first
        | refine wpAnyH_take (i := 9) (v := undef) rfl (by kernel_rfl) (by kernel_rfl) (by kernel_rfl) (fun _ _ _ h => h) (Or.inr ⟨by rfl, rfl⟩) (by assumption) ?rest34
        | (refine wpAnyH_take (i := 9) (v := ?v34) rfl (by kernel_rfl) (by kernel_rfl) (by kernel_rfl) (fun _ _ _ h => h) (Or.inl ⟨by rfl, ?y34⟩) (by assumption) ?rest34; case y34 => (intro w hSw; have hT0 := (Mem.bl_row hSw rz (by first | exact Mem.Row.lt rz | omega | (simp <;> omega))).cell 0 rfl; clear hSw; go_simp; try with_reducible rfl))
      case' rest34 => skip
      try simp only [List.getElem_toArray, List.getElem_cons_succ, List.getElem_cons_zero, Act.put, List.setIfInBounds_toArray, List.set_cons_zero, List.set_cons_succ]
      first
        | refine wpAnyH_take (i := 10) (v := undef) rfl (by kernel_rfl) (by kernel_rfl) (by kernel_rfl) (fun _ _ _ h => h) (Or.inr ⟨by rfl, rfl⟩) (by assumption) ?rest35
        | (refine wpAnyH_take (i := 10) (v := ?v35) rfl (by kernel_rfl) (by kernel_rfl) (by kernel_rfl) (fun _ _ _ h => h) (Or.inl ⟨by rfl, ?y35⟩) (by assumption) ?rest35; case y35 => (intro w hSw; have hT0 := (Mem.bl_row hSw rz (by first | exact Mem.Row.lt rz | omega | (simp <;> omega))).cell 0 rfl; clear hSw; go_simp; try with_reducible rfl))
      case' rest35 => skip
      try simp only [List.getElem_toArray, List.getElem_cons_succ, List.getElem_cons_zero, Act.put, List.setIfInBounds_toArray, List.set_cons_zero, List.set_cons_succ]
      refine wpAnyH_ready (rs := [7]) (by kernel_rfl) (by simp) ?_
      refine AllReadyH.cons rfl (fun K hK => ?_) AllReadyH.nil
      go_simp
      (refine (CN.out _).mono ?_; rintro e v2 ⟨rfl, hbl⟩)
      try go_wp2_with fail
      have hSnew := Mem.bl_step hHeld hbl (by first | exact Nat.le_refl _ | omega | (simp <;> omega))
      refine hK.out _ _ ?_ (fun hHeld2 => ?_)
      · exact hSnew
      clear hbl
      clear hK K hHeld hSnew
      have hHeld := hHeld2
      clear hHeld2
      try simp only [List.getElem_toArray, List.getElem_cons_succ, List.getElem_cons_zero, Act.put, List.setIfInBounds_toArray, List.set_cons_zero, List.set_cons_succ]
      refine wpAnyH_ready (rs := [8]) (by kernel_rfl) (by simp) ?_
      refine AllReadyH.cons rfl (fun K hK => ?_) AllReadyH.nil
      go_simp
      (refine (CD.out _).mono ?_; rintro e v3 ⟨r, rfl, hi, hbl⟩; have he := HR.out r hi; subst he)
      try go_wp2_with fail
      have hSnew := Mem.bl_step hHeld hbl (by first | exact Nat.le_refl _ | omega | (simp <;> omega))
      refine hK.out _ _ ?_ (fun hHeld2 => ?_)
      · exact hSnew
      clear hbl
      clear hK K hHeld hSnew
      have hHeld := hHeld2
      clear hHeld2
      try simp only [List.getElem_toArray, List.getElem_cons_succ, List.getElem_cons_zero, Act.put, List.setIfInBounds_toArray, List.set_cons_zero, List.set_cons_succ]
      first
        | refine wpAnyH_take (i := 11) (v := undef) rfl (by kernel_rfl) (by kernel_rfl) (by kernel_rfl) (fun _ _ _ h => h) (Or.inr ⟨by rfl, rfl⟩) (by assumption) ?rest36
        | (refine wpAnyH_take (i := 11) (v := ?v36) rfl (by kernel_rfl) (by kernel_rfl) (by kernel_rfl) (fun _ _ _ h => h) (Or.inl ⟨by rfl, ?y36⟩) (by assumption) ?rest36; case y36 => (intro w hSw; have hT0 := (Mem.bl_row hSw rz (by first | exact Mem.Row.lt rz | omega | (simp <;> omega))).cell 0 rfl; clear hSw; go_simp; try with_reducible rfl))
      case' rest36 => skip
      try simp only [List.getElem_toArray, List.getElem_cons_succ, List.getElem_cons_zero, Act.put, List.setIfInBounds_toArray, List.set_cons_zero, List.set_cons_succ]
      refine wpAnyH_take (i := 12) (v := ?v37) rfl (by kernel_rfl) (by kernel_rfl) (by kernel_rfl) (fun _ _ _ h => h) (Or.inl ⟨by rfl, ?y37⟩) (by assumption) ?rest37
      case y37 => (intro w hSw; have hT0 := (Mem.bl_row hSw rz (by first | exact Mem.Row.lt rz | omega | (simp <;> omega))).cell 0 rfl; clear hSw; go_simp; try with_reducible rfl)
      case' rest37 => skip
      try simp only [List.getElem_toArray, List.getElem_cons_succ, List.getElem_cons_zero, Act.put, List.setIfInBounds_toArray, List.set_cons_zero, List.set_cons_succ]
      refine wpAnyH_take (i := 13) (v := ?v38) rfl (by kernel_rfl) (by kernel_rfl) (by kernel_rfl) (fun _ _ _ h => h) (Or.inl ⟨by rfl, ?y38⟩) (by assumption) ?rest38
      case y38 => (intro w hSw; have hT0 := (Mem.bl_row hSw rz (by first | exact Mem.Row.lt rz | omega | (simp <;> omega))).cell 0 rfl; clear hSw; go_simp; try with_reducible rfl)
      case' rest38 => skip
      try simp only [List.getElem_toArray, List.getElem_cons_succ, List.getElem_cons_zero, Act.put, List.setIfInBounds_toArray, List.set_cons_zero, List.set_cons_succ]
      refine wpAnyH_ready (rs := [14]) (by kernel_rfl) (by simp) ?_
      refine AllReadyH.cons rfl (fun K hK => ?_) AllReadyH.nil
      go_simp
      (refine (works_any _).mono ?_; rintro e v4 ⟨rfl, hbl⟩)
      try go_wp2_with fail
      have hSnew := Mem.bl_step hHeld hbl (by first | exact Nat.le_refl _ | omega | (simp <;> omega))
      refine hK.out _ _ ?_ (fun hHeld2 => ?_)
      · exact hSnew
      clear hbl
      clear hK K hHeld hSnew
      have hHeld := hHeld2
      clear hHeld2
      try simp only [List.getElem_toArray, List.getElem_cons_succ, List.getElem_cons_zero, Act.put, List.setIfInBounds_toArray, List.set_cons_zero, List.set_cons_succ]
      refine wpAnyH_take (i := 15) (v := ?v39) rfl (by kernel_rfl) (by kernel_rfl) (by kernel_rfl) (fun _ _ _ h => h) (Or.inl ⟨by rfl, ?y39⟩) (by assumption) ?rest39
      case y39 => (intro w hSw; have hT0 := (Mem.bl_row hSw rz (by first | exact Mem.Row.lt rz | omega | (simp <;> omega))).cell 0 rfl; clear hSw; go_simp; try with_reducible rfl)
      case' rest39 => skip
      try simp only [List.getElem_toArray, List.getElem_cons_succ, List.getElem_cons_zero, Act.put, List.setIfInBounds_toArray, List.set_cons_zero, List.set_cons_succ]
      refine wpAnyH_take (i := 16) (v := ?v40) rfl (by kernel_rfl) (by kernel_rfl) (by kernel_rfl) (fun _ _ _ h => h) (Or.inl ⟨by rfl, ?y40⟩) (by assumption) ?rest40
      case y40 => (intro w hSw; have hT0 := (Mem.bl_row hSw rz (by first | exact Mem.Row.lt rz | omega | (simp <;> omega))).cell 0 rfl; clear hSw; go_simp; try with_reducible rfl)
      case' rest40 => skip
      try simp only [List.getElem_toArray, List.getElem_cons_succ, List.getElem_cons_zero, Act.put, List.setIfInBounds_toArray, List.set_cons_zero, List.set_cons_succ]
      refine wpAnyH_done (by kernel_rfl) ?_ _
      go_wp2
      go_ret
      exact ⟨rfl, bz.trans (((Below.refl _ _).drew.trans hHeld).mono bz.size)⟩
    · rw [name_none hr] at CN
      go_wp2_with fail
      refine wp_region_held_drew (S := Go.RowKit.Below ((wz.drew).heap.size) (wz.drew)) (by kernel_rfl) ?hb47 (fun hHeld => ?rest47)
      case hb47 =>
        exact Go.RowKit.Below.refl _ _
      case' rest47 => skip
      refine wpAnyH_take (i := 0) (v := ?v48) rfl (by kernel_rfl) (by kernel_rfl) (by kernel_rfl) (fun _ _ _ h => h) (Or.inl ⟨by rfl, ?y48⟩) (by assumption) ?rest48
      case y48 => (intro w hSw; have hT0 := (Mem.bl_row hSw rz (by first | exact Mem.Row.lt rz | omega | (simp <;> omega))).cell 0 rfl; clear hSw; go_simp; try with_reducible rfl)
      case' rest48 => skip
      try simp only [List.getElem_toArray, List.getElem_cons_succ, List.getElem_cons_zero, Act.put, List.setIfInBounds_toArray, List.set_cons_zero, List.set_cons_succ]
      refine wpAnyH_take (i := 1) (v := ?v49) rfl (by kernel_rfl) (by kernel_rfl) (by kernel_rfl) (fun _ _ _ h => h) (Or.inl ⟨by rfl, ?y49⟩) (by assumption) ?rest49
      case y49 => (intro w hSw; have hT0 := (Mem.bl_row hSw rz (by first | exact Mem.Row.lt rz | omega | (simp <;> omega))).cell 0 rfl; clear hSw; go_simp; try with_reducible rfl)
      case' rest49 => skip
      try simp only [List.getElem_toArray, List.getElem_cons_succ, List.getElem_cons_zero, Act.put, List.setIfInBounds_toArray, List.set_cons_zero, List.set_cons_succ]
      refine wpAnyH_ready (rs := [2]) (by kernel_rfl) (by simp) ?_
      refine AllReadyH.cons rfl (fun K hK => ?_) AllReadyH.nil
      go_simp
      (refine (CN.out _).mono ?_; rintro e v1 ⟨rfl, hbl⟩)
      try go_wp2_with fail
      have hSnew := Mem.bl_step hHeld hbl (by first | exact Nat.le_refl _ | omega | (simp <;> omega))
      refine hK.out _ _ ?_ (fun hHeld2 => ?_)
      · exact hSnew
      clear hbl
      clear hK K hHeld hSnew
      have hHeld := hHeld2
      clear hHeld2
      try simp only [List.getElem_toArray, List.getElem_cons_succ, List.getElem_cons_zero, Act.put, List.setIfInBounds_toArray, List.set_cons_zero, List.set_cons_succ]
      refine wpAnyH_take (i := 3) (v := ?v50) rfl (by kernel_rfl) (by kernel_rfl) (by kernel_rfl) (fun _ _ _ h => h) (Or.inl ⟨by rfl, ?y50⟩) (by assumption) ?rest50
      case y50 => (intro w hSw; have hT0 := (Mem.bl_row hSw rz (by first | exact Mem.Row.lt rz | omega | (simp <;> omega))).cell 0 rfl; clear hSw; go_simp; try with_reducible rfl)
      case' rest50 => skip
      try simp only [List.getElem_toArray, List.getElem_cons_succ, List.getElem_cons_zero, Act.put, List.setIfInBounds_toArray, List.set_cons_zero, List.set_cons_succ]
      refine wpAnyH_take (i := 4) (v := ?v51) rfl (by kernel_rfl) (by kernel_rfl) (by kernel_rfl) (fun _ _ _ h => h) (Or.inl ⟨by rfl, ?y51⟩) (by assumption) ?rest51
      case y51 => (intro w hSw; have hT0 := (Mem.bl_row hSw rz (by first | exact Mem.Row.lt rz | omega | (simp <;> omega))).cell 0 rfl; clear hSw; go_simp; try with_reducible rfl)
      case' rest51 => skip
      try simp only [List.getElem_toArray, List.getElem_cons_succ, List.getElem_cons_zero, Act.put, List.setIfInBounds_toArray, List.set_cons_zero, List.set_cons_succ]
      first
        | refine wpAnyH_take (i := 5) (v := undef) rfl (by kernel_rfl) (by kernel_rfl) (by kernel_rfl) (fun _ _ _ h => h) (Or.inr ⟨by rfl, rfl⟩) (by assumption) ?rest52
        | (refine wpAnyH_take (i := 5) (v := ?v52) rfl (by kernel_rfl) (by kernel_rfl) (by kernel_rfl) (fun _ _ _ h => h) (Or.inl ⟨by rfl, ?y52⟩) (by assumption) ?rest52; case y52 => (intro w hSw; have hT0 := (Mem.bl_row hSw rz (by first | exact Mem.Row.lt rz | omega | (simp <;> omega))).cell 0 rfl; clear hSw; go_simp; try with_reducible rfl))
      case' rest52 => skip
      try simp only [List.getElem_toArray, List.getElem_cons_succ, List.getElem_cons_zero, Act.put, List.setIfInBounds_toArray, List.set_cons_zero, List.set_cons_succ]
      first
        | refine wpAnyH_take (i := 6) (v := undef) rfl (by kernel_rfl) (by kernel_rfl) (by kernel_rfl) (fun _ _ _ h => h) (Or.inr ⟨by rfl, rfl⟩) (by assumption) ?rest53
        | (refine wpAnyH_take (i := 6) (v := ?v53) rfl (by kernel_rfl) (by kernel_rfl) (by kernel_rfl) (fun _ _ _ h => h) (Or.inl ⟨by rfl, ?y53⟩) (by assumption) ?rest53; case y53 => (intro w hSw; have hT0 := (Mem.bl_row hSw rz (by first | exact Mem.Row.lt rz | omega | (simp <;> omega))).cell 0 rfl; clear hSw; go_simp; try with_reducible rfl))
      case' rest53 => skip
      try simp only [List.getElem_toArray, List.getElem_cons_succ, List.getElem_cons_zero, Act.put, List.setIfInBounds_toArray, List.set_cons_zero, List.set_cons_succ]
      first
        | refine wpAnyH_take (i := 7) (v := undef) rfl (by kernel_rfl) (by kernel_rfl) (by kernel_rfl) (fun _ _ _ h => h) (Or.inr ⟨by rfl, rfl⟩) (by assumption) ?rest54
        | (refine wpAnyH_take (i := 7) (v := ?v54) rfl (by kernel_rfl) (by kernel_rfl) (by kernel_rfl) (fun _ _ _ h => h) (Or.inl ⟨by rfl, ?y54⟩) (by assumption) ?rest54; case y54 => (intro w hSw; have hT0 := (Mem.bl_row hSw rz (by first | exact Mem.Row.lt rz | omega | (simp <;> omega))).cell 0 rfl; clear hSw; go_simp; try with_reducible rfl))
      case' rest54 => skip
      try simp only [List.getElem_toArray, List.getElem_cons_succ, List.getElem_cons_zero, Act.put, List.setIfInBounds_toArray, List.set_cons_zero, List.set_cons_succ]
      first
        | refine wpAnyH_take (i := 8) (v := undef) rfl (by kernel_rfl) (by kernel_rfl) (by kernel_rfl) (fun _ _ _ h => h) (Or.inr ⟨by rfl, rfl⟩) (by assumption) ?rest55
        | (refine wpAnyH_take (i := 8) (v := ?v55) rfl (by kernel_rfl) (by kernel_rfl) (by kernel_rfl) (fun _ _ _ h => h) (Or.inl ⟨by rfl, ?y55⟩) (by assumption) ?rest55; case y55 => (intro w hSw; have hT0 := (Mem.bl_row hSw rz (by first | exact Mem.Row.lt rz | omega | (simp <;> omega))).cell 0 rfl; clear hSw; go_simp; try with_reducible rfl))
      case' rest55 => skip
      try simp only [List.getElem_toArray, List.getElem_cons_succ, List.getElem_cons_zero, Act.put, List.setIfInBounds_toArray, List.set_cons_zero, List.set_cons_succ]
      first
        | refine wpAnyH_take (i := 9) (v := undef) rfl (by kernel_rfl) (by kernel_rfl) (by kernel_rfl) (fun _ _ _ h => h) (Or.inr ⟨by rfl, rfl⟩) (by assumption) ?rest56
        | (refine wpAnyH_take (i := 9) (v := ?v56) rfl (by kernel_rfl) (by kernel_rfl) (by kernel_rfl) (fun _ _ _ h => h) (Or.inl ⟨by rfl, ?y56⟩) (by assumption) ?rest56; case y56 => (intro w hSw; have hT0 := (Mem.bl_row hSw rz (by first | exact Mem.Row.lt rz | omega | (simp <;> omega))).cell 0 rfl; clear hSw; go_simp; try with_reducible rfl))
      case' rest56 => skip
      try simp only [List.getElem_toArray, List.getElem_cons_succ, List.getElem_cons_zero, Act.put, List.setIfInBounds_toArray, List.set_cons_zero, List.set_cons_succ]
      first
        | refine wpAnyH_take (i := 10) (v := undef) rfl (by kernel_rfl) (by kernel_rfl) (by kernel_rfl) (fun _ _ _ h => h) (Or.inr ⟨by rfl, rfl⟩) (by assumption) ?rest57
        | (refine wpAnyH_take (i := 10) (v := ?v57) rfl (by kernel_rfl) (by kernel_rfl) (by kernel_rfl) (fun _ _ _ h => h) (Or.inl ⟨by rfl, ?y57⟩) (by assumption) ?rest57; case y57 => (intro w hSw; have hT0 := (Mem.bl_row hSw rz (by first | exact Mem.Row.lt rz | omega | (simp <;> omega))).cell 0 rfl; clear hSw; go_simp; try with_reducible rfl))
      case' rest57 => skip
      try simp only [List.getElem_toArray, List.getElem_cons_succ, List.getElem_cons_zero, Act.put, List.setIfInBounds_toArray, List.set_cons_zero, List.set_cons_succ]
      first
        | refine wpAnyH_take (i := 11) (v := undef) rfl (by kernel_rfl) (by kernel_rfl) (by kernel_rfl) (fun _ _ _ h => h) (Or.inr ⟨by rfl, rfl⟩) (by assumption) ?rest58
        | (refine wpAnyH_take (i := 11) (v := ?v58) rfl (by kernel_rfl) (by kernel_rfl) (by kernel_rfl) (fun _ _ _ h => h) (Or.inl ⟨by rfl, ?y58⟩) (by assumption) ?rest58; case y58 => (intro w hSw; have hT0 := (Mem.bl_row hSw rz (by first | exact Mem.Row.lt rz | omega | (simp <;> omega))).cell 0 rfl; clear hSw; go_simp; try with_reducible rfl))
      case' rest58 => skip
      try simp only [List.getElem_toArray, List.getElem_cons_succ, List.getElem_cons_zero, Act.put, List.setIfInBounds_toArray, List.set_cons_zero, List.set_cons_succ]
      refine wpAnyH_take (i := 12) (v := ?v59) rfl (by kernel_rfl) (by kernel_rfl) (by kernel_rfl) (fun _ _ _ h => h) (Or.inl ⟨by rfl, ?y59⟩) (by assumption) ?rest59
      case y59 => (intro w hSw; have hT0 := (Mem.bl_row hSw rz (by first | exact Mem.Row.lt rz | omega | (simp <;> omega))).cell 0 rfl; clear hSw; go_simp; try with_reducible rfl)
      case' rest59 => skip
      try simp only [List.getElem_toArray, List.getElem_cons_succ, List.getElem_cons_zero, Act.put, List.setIfInBounds_toArray, List.set_cons_zero, List.set_cons_succ]
      refine wpAnyH_take (i := 13) (v := ?v60) rfl (by kernel_rfl) (by kernel_rfl) (by kernel_rfl) (fun _ _ _ h => h) (Or.inl ⟨by rfl, ?y60⟩) (by assumption) ?rest60
      case y60 => (intro w hSw; have hT0 := (Mem.bl_row hSw rz (by first | exact Mem.Row.lt rz | omega | (simp <;> omega))).cell 0 rfl; clear hSw; go_simp; try with_reducible rfl)
      case' rest60 => skip
      try simp only [List.getElem_toArray, List.getElem_cons_succ, List.getElem_cons_zero, Act.put, List.setIfInBounds_toArray, List.set_cons_zero, List.set_cons_succ]
      refine wpAnyH_ready (rs := [14]) (by kernel_rfl) (by simp) ?_
      refine AllReadyH.cons rfl (fun K hK => ?_) AllReadyH.nil
      go_simp
      (refine (works_any _).mono ?_; rintro e v4 ⟨rfl, hbl⟩)
      try go_wp2_with fail
      have hSnew := Mem.bl_step hHeld hbl (by first | exact Nat.le_refl _ | omega | (simp <;> omega))
      refine hK.out _ _ ?_ (fun hHeld2 => ?_)
      · exact hSnew
      clear hbl
      clear hK K hHeld hSnew
      have hHeld := hHeld2
      clear hHeld2
      try simp only [List.getElem_toArray, List.getElem_cons_succ, List.getElem_cons_zero, Act.put, List.setIfInBounds_toArray, List.set_cons_zero, List.set_cons_succ]
      refine wpAnyH_take (i := 15) (v := ?v61) rfl (by kernel_rfl) (by kernel_rfl) (by kernel_rfl) (fun _ _ _ h => h) (Or.inl ⟨by rfl, ?y61⟩) (by assumption) ?rest61
      case y61 => (intro w hSw; have hT0 := (Mem.bl_row hSw rz (by first | exact Mem.Row.lt rz | omega | (simp <;> omega))).cell 0 rfl; clear hSw; go_simp; try with_reducible rfl)
      case' rest61 => skip
      try simp only [List.getElem_toArray, List.getElem_cons_succ, List.getElem_cons_zero, Act.put, List.setIfInBounds_toArray, List.set_cons_zero, List.set_cons_succ]
      refine wpAnyH_take (i := 16) (v := ?v62) rfl (by kernel_rfl) (by kernel_rfl) (by kernel_rfl) (fun _ _ _ h => h) (Or.inl ⟨by rfl, ?y62⟩) (by assumption) ?rest62
      case y62 => (intro w hSw; have hT0 := (Mem.bl_row hSw rz (by first | exact Mem.Row.lt rz | omega | (simp <;> omega))).cell 0 rfl; clear hSw; go_simp; try with_reducible rfl)
      case' rest62 => skip
      try simp only [List.getElem_toArray, List.getElem_cons_succ, List.getElem_cons_zero, Act.put, List.setIfInBounds_toArray, List.set_cons_zero, List.set_cons_succ]
      refine wpAnyH_done (by kernel_rfl) ?_ _
      go_wp2
      go_ret
      exact ⟨rfl, bz.trans (((Below.refl _ _).drew.trans hHeld).mono bz.size)⟩
  | false =>
    rw [opE_no hop] at CC1
    clear HB hop
    refine wp_region_held_drew (S := Go.RowKit.Below ((w3.drew).heap.size) (w3.drew)) (by kernel_rfl) ?hb68 (fun hHeld => ?rest68)
    case hb68 =>
      exact Go.RowKit.Below.refl _ _
    case' rest68 => skip
    refine wpAnyH_take (i := 0) (v := ?v69) rfl (by kernel_rfl) (by kernel_rfl) (by kernel_rfl) (fun _ _ _ h => h) (Or.inl ⟨by rfl, ?y69⟩) (by assumption) ?rest69
    case y69 => (intro w hSw; have hT0 := (Mem.bl_row hSw rxd (by first | exact Mem.Row.lt rxd | omega | (simp <;> omega))).cell 0 rfl; have hT1 := (Mem.bl_row hSw rxd (by first | exact Mem.Row.lt rxd | omega | (simp <;> omega))).cell 1 rfl; have hT2 := (Mem.bl_row hSw rxd (by first | exact Mem.Row.lt rxd | omega | (simp <;> omega))).cell 2 rfl; have hT3 := (Mem.bl_row hSw rxd (by first | exact Mem.Row.lt rxd | omega | (simp <;> omega))).cell 3 rfl; have hT4 := (Mem.bl_row hSw rxd (by first | exact Mem.Row.lt rxd | omega | (simp <;> omega))).cell 4 rfl; have hT5 := (Mem.bl_row hSw rxd (by first | exact Mem.Row.lt rxd | omega | (simp <;> omega))).cell 5 rfl; have hT6 := (Mem.bl_row hSw rod (by first | exact Mem.Row.lt rod | omega | (simp <;> omega))).cell 0 rfl; have hT7 := (Mem.bl_row hSw rod (by first | exact Mem.Row.lt rod | omega | (simp <;> omega))).cell 1 rfl; have hT8 := (Mem.bl_row hSw rod (by first | exact Mem.Row.lt rod | omega | (simp <;> omega))).cell 2 rfl; have hT9 := (Mem.bl_row hSw rod (by first | exact Mem.Row.lt rod | omega | (simp <;> omega))).cell 3 rfl; have hT10 := (Mem.bl_row hSw rod (by first | exact Mem.Row.lt rod | omega | (simp <;> omega))).cell 4 rfl; have hT11 := (Mem.bl_row hSw rod (by first | exact Mem.Row.lt rod | omega | (simp <;> omega))).cell 5 rfl; clear hSw; go_simp; try with_reducible rfl)
    case' rest69 => skip
    try simp only [List.getElem_toArray, List.getElem_cons_succ, List.getElem_cons_zero, Act.put, List.setIfInBounds_toArray, List.set_cons_zero, List.set_cons_succ]
    refine wpAnyH_take (i := 2) (v := ?v70) rfl (by kernel_rfl) (by kernel_rfl) (by kernel_rfl) (fun _ _ _ h => h) (Or.inl ⟨by rfl, ?y70⟩) (by assumption) ?rest70
    case y70 => (intro w hSw; have hT0 := (Mem.bl_row hSw rxd (by first | exact Mem.Row.lt rxd | omega | (simp <;> omega))).cell 0 rfl; have hT1 := (Mem.bl_row hSw rxd (by first | exact Mem.Row.lt rxd | omega | (simp <;> omega))).cell 1 rfl; have hT2 := (Mem.bl_row hSw rxd (by first | exact Mem.Row.lt rxd | omega | (simp <;> omega))).cell 2 rfl; have hT3 := (Mem.bl_row hSw rxd (by first | exact Mem.Row.lt rxd | omega | (simp <;> omega))).cell 3 rfl; have hT4 := (Mem.bl_row hSw rxd (by first | exact Mem.Row.lt rxd | omega | (simp <;> omega))).cell 4 rfl; have hT5 := (Mem.bl_row hSw rxd (by first | exact Mem.Row.lt rxd | omega | (simp <;> omega))).cell 5 rfl; have hT6 := (Mem.bl_row hSw rod (by first | exact Mem.Row.lt rod | omega | (simp <;> omega))).cell 0 rfl; have hT7 := (Mem.bl_row hSw rod (by first | exact Mem.Row.lt rod | omega | (simp <;> omega))).cell 1 rfl; have hT8 := (Mem.bl_row hSw rod (by first | exact Mem.Row.lt rod | omega | (simp <;> omega))).cell 2 rfl; have hT9 := (Mem.bl_row hSw rod (by first | exact Mem.Row.lt rod | omega | (simp <;> omega))).cell 3 rfl; have hT10 := (Mem.bl_row hSw rod (by first | exact Mem.Row.lt rod | omega | (simp <;> omega))).cell 4 rfl; have hT11 := (Mem.bl_row hSw rod (by first | exact Mem.Row.lt rod | omega | (simp <;> omega))).cell 5 rfl; clear hSw; go_simp; try with_reducible rfl)
    case' rest70 => skip
    try simp only [List.getElem_toArray, List.getElem_cons_succ, List.getElem_cons_zero, Act.put, List.setIfInBounds_toArray, List.set_cons_zero, List.set_cons_succ]
    refine wpAnyH_ready (rs := [1]) (by kernel_rfl) (by simp) ?_
    refine AllReadyH.cons rfl (fun K hK => ?_) AllReadyH.nil
    go_simp
    (refine (CP.out _ (hx4.below hHeld)).mono ?_; rintro e w4 ⟨A4, c4, rfl, q1, q2, q3, q4, hbl⟩; have ht := q4.by_)
    try go_wp2_with fail
    have hSnew := Mem.bl_step hHeld hbl (by first | exact Nat.le_refl _ | omega | (simp <;> omega))
    refine hK.out _ _ ?_ (fun hHeld2 => ?_)
    · exact hSnew
    try replace ht := ht.below hbl
    clear hbl
    clear hK K hHeld hSnew
    have hHeld := hHeld2
    clear hHeld2
    try simp only [List.getElem_toArray, List.getElem_cons_succ, List.getElem_cons_zero, Act.put, List.setIfInBounds_toArray, List.set_cons_zero, List.set_cons_succ]
    refine wpAnyH_ready (rs := [3]) (by kernel_rfl) (by simp) ?_
    refine AllReadyH.cons rfl (fun K hK => ?_) AllReadyH.nil
    go_simp
    (refine (CA.out A4 c4 _ ht (hx4.below hHeld)).mono ?_; rintro e w5 ⟨rfl, hbl⟩; clear ht)
    try go_wp2_with fail
    have hSnew := Mem.bl_step hHeld hbl (by first | exact Nat.le_refl _ | omega | (simp <;> omega))
    refine hK.out _ _ ?_ (fun hHeld2 => ?_)
    · exact hSnew
    try replace ht := ht.below hbl
    clear hbl
    clear hK K hHeld hSnew
    have hHeld := hHeld2
    clear hHeld2
    try simp only [List.getElem_toArray, List.getElem_cons_succ, List.getElem_cons_zero, Act.put, List.setIfInBounds_toArray, List.set_cons_zero, List.set_cons_succ]
    refine wpAnyH_take (i := 4) (v := ?v71) rfl (by kernel_rfl) (by kernel_rfl) (by kernel_rfl) (fun _ _ _ h => h) (Or.inl ⟨by rfl, ?y71⟩) (by assumption) ?rest71
    case y71 => (intro w hSw; have hT0 := (Mem.bl_row hSw rxd (by first | exact Mem.Row.lt rxd | omega | (simp <;> omega))).cell 0 rfl; have hT1 := (Mem.bl_row hSw rxd (by first | exact Mem.Row.lt rxd | omega | (simp <;> omega))).cell 1 rfl; have hT2 := (Mem.bl_row hSw rxd (by first | exact Mem.Row.lt rxd | omega | (simp <;> omega))).cell 2 rfl; have hT3 := (Mem.bl_row hSw rxd (by first | exact Mem.Row.lt rxd | omega | (simp <;> omega))).cell 3 rfl; have hT4 := (Mem.bl_row hSw rxd (by first | exact Mem.Row.lt rxd | omega | (simp <;> omega))).cell 4 rfl; have hT5 := (Mem.bl_row hSw rxd (by first | exact Mem.Row.lt rxd | omega | (simp <;> omega))).cell 5 rfl; have hT6 := (Mem.bl_row hSw rod (by first | exact Mem.Row.lt rod | omega | (simp <;> omega))).cell 0 rfl; have hT7 := (Mem.bl_row hSw rod (by first | exact Mem.Row.lt rod | omega | (simp <;> omega))).cell 1 rfl; have hT8 := (Mem.bl_row hSw rod (by first | exact Mem.Row.lt rod | omega | (simp <;> omega))).cell 2 rfl; have hT9 := (Mem.bl_row hSw rod (by first | exact Mem.Row.lt rod | omega | (simp <;> omega))).cell 3 rfl; have hT10 := (Mem.bl_row hSw rod (by first | exact Mem.Row.lt rod | omega | (simp <;> omega))).cell 4 rfl; have hT11 := (Mem.bl_row hSw rod (by first | exact Mem.Row.lt rod | omega | (simp <;> omega))).cell 5 rfl; clear hSw; go_simp; try with_reducible rfl)
    case' rest71 => skip
    try simp only [List.getElem_toArray, List.getElem_cons_succ, List.getElem_cons_zero, Act.put, List.setIfInBounds_toArray, List.set_cons_zero, List.set_cons_succ]
    refine wpAnyH_take (i := 5) (v := ?v72) rfl (by kernel_rfl) (by kernel_rfl) (by kernel_rfl) (fun _ _ _ h => h) (Or.inl ⟨by rfl, ?y72⟩) (by assumption) ?rest72
    case y72 => (intro w hSw; have hT0 := (Mem.bl_row hSw rxd (by first | exact Mem.Row.lt rxd | omega | (simp <;> omega))).cell 0 rfl; have hT1 := (Mem.bl_row hSw rxd (by first | exact Mem.Row.lt rxd | omega | (simp <;> omega))).cell 1 rfl; have hT2 := (Mem.bl_row hSw rxd (by first | exact Mem.Row.lt rxd | omega | (simp <;> omega))).cell 2 rfl; have hT3 := (Mem.bl_row hSw rxd (by first | exact Mem.Row.lt rxd | omega | (simp <;> omega))).cell 3 rfl; have hT4 := (Mem.bl_row hSw rxd (by first | exact Mem.Row.lt rxd | omega | (simp <;> omega))).cell 4 rfl; have hT5 := (Mem.bl_row hSw rxd (by first | exact Mem.Row.lt rxd | omega | (simp <;> omega))).cell 5 rfl; have hT6 := (Mem.bl_row hSw rod (by first | exact Mem.Row.lt rod | omega | (simp <;> omega))).cell 0 rfl; have hT7 := (Mem.bl_row hSw rod (by first | exact Mem.Row.lt rod | omega | (simp <;> omega))).cell 1 rfl; have hT8 := (Mem.bl_row hSw rod (by first | exact Mem.Row.lt rod | omega | (simp <;> omega))).cell 2 rfl; have hT9 := (Mem.bl_row hSw rod (by first | exact Mem.Row.lt rod | omega | (simp <;> omega))).cell 3 rfl; have hT10 := (Mem.bl_row hSw rod (by first | exact Mem.Row.lt rod | omega | (simp <;> omega))).cell 4 rfl; have hT11 := (Mem.bl_row hSw rod (by first | exact Mem.Row.lt rod | omega | (simp <;> omega))).cell 5 rfl; clear hSw; go_simp; try with_reducible rfl)
    case' rest72 => skip
    try simp only [List.getElem_toArray, List.getElem_cons_succ, List.getElem_cons_zero, Act.put, List.setIfInBounds_toArray, List.set_cons_zero, List.set_cons_succ]
    first
      | refine wpAnyH_take (i := 6) (v := undef) rfl (by kernel_rfl) (by kernel_rfl) (by kernel_rfl) (fun _ _ _ h => h) (Or.inr ⟨by rfl, rfl⟩) (by assumption) ?rest73
      | (refine wpAnyH_take (i := 6) (v := ?v73) rfl (by kernel_rfl) (by kernel_rfl) (by kernel_rfl) (fun _ _ _ h => h) (Or.inl ⟨by rfl, ?y73⟩) (by assumption) ?rest73; case y73 => (intro w hSw; have hT0 := (Mem.bl_row hSw rxd (by first | exact Mem.Row.lt rxd | omega | (simp <;> omega))).cell 0 rfl; have hT1 := (Mem.bl_row hSw rxd (by first | exact Mem.Row.lt rxd | omega | (simp <;> omega))).cell 1 rfl; have hT2 := (Mem.bl_row hSw rxd (by first | exact Mem.Row.lt rxd | omega | (simp <;> omega))).cell 2 rfl; have hT3 := (Mem.bl_row hSw rxd (by first | exact Mem.Row.lt rxd | omega | (simp <;> omega))).cell 3 rfl; have hT4 := (Mem.bl_row hSw rxd (by first | exact Mem.Row.lt rxd | omega | (simp <;> omega))).cell 4 rfl; have hT5 := (Mem.bl_row hSw rxd (by first | exact Mem.Row.lt rxd | omega | (simp <;> omega))).cell 5 rfl; have hT6 := (Mem.bl_row hSw rod (by first | exact Mem.Row.lt rod | omega | (simp <;> omega))).cell 0 rfl; have hT7 := (Mem.bl_row hSw rod (by first | exact Mem.Row.lt rod | omega | (simp <;> omega))).cell 1 rfl; have hT8 := (Mem.bl_row hSw rod (by first | exact Mem.Row.lt rod | omega | (simp <;> omega))).cell 2 rfl; have hT9 := (Mem.bl_row hSw rod (by first | exact Mem.Row.lt rod | omega | (simp <;> omega))).cell 3 rfl; have hT10 := (Mem.bl_row hSw rod (by first | exact Mem.Row.lt rod | omega | (simp <;> omega))).cell 4 rfl; have hT11 := (Mem.bl_row hSw rod (by first | exact Mem.Row.lt rod | omega | (simp <;> omega))).cell 5 rfl; clear hSw; go_simp; try with_reducible rfl))
    case' rest73 => skip
    try simp only [List.getElem_toArray, List.getElem_cons_succ, List.getElem_cons_zero, Act.put, List.setIfInBounds_toArray, List.set_cons_zero, List.set_cons_succ]
    refine wpAnyH_ready (rs := [7]) (by kernel_rfl) (by simp) ?_
    refine AllReadyH.cons rfl (fun K hK => ?_) AllReadyH.nil
    go_simp
    (refine (to_any d a b o n A c l _ (hd4.below hHeld) hc hn).mono ?_; rintro e w6 ⟨A6, c6, rfl, q5, q6, q7, q8, hbl⟩)
    try go_wp2_with fail
    have hSnew := Mem.bl_step hHeld hbl (by first | exact Nat.le_refl _ | omega | (simp <;> omega))
    refine hK.out _ _ ?_ (fun hHeld2 => ?_)
    · exact hSnew
    try replace ht := ht.below hbl
    clear hbl
    clear hK K hHeld hSnew
    have hHeld := hHeld2
    clear hHeld2
    try simp only [List.getElem_toArray, List.getElem_cons_succ, List.getElem_cons_zero, Act.put, List.setIfInBounds_toArray, List.set_cons_zero, List.set_cons_succ]
    refine wpAnyH_ready (rs := [8]) (by kernel_rfl) (by simp) ?_
    refine AllReadyH.cons rfl (fun K hK => ?_) AllReadyH.nil
    go_simp
    (refine (CC1.out A6 c6 _).mono ?_; rintro e wz ⟨rfl, hbl⟩)
    try go_wp2_with fail
    have hSnew := Mem.bl_step hHeld hbl (by first | exact Nat.le_refl _ | omega | (simp <;> omega))
    refine hK.out _ _ ?_ (fun hHeld2 => ?_)
    · exact hSnew
    try replace ht := ht.below hbl
    clear hbl
    clear hK K hHeld hSnew
    have hHeld := hHeld2
    clear hHeld2
    try simp only [List.getElem_toArray, List.getElem_cons_succ, List.getElem_cons_zero, Act.put, List.setIfInBounds_toArray, List.set_cons_zero, List.set_cons_succ]
    first
      | refine wpAnyH_take (i := 9) (v := undef) rfl (by kernel_rfl) (by kernel_rfl) (by kernel_rfl) (fun _ _ _ h => h) (Or.inr ⟨by rfl, rfl⟩) (by assumption) ?rest74
      | (refine wpAnyH_take (i := 9) (v := ?v74) rfl (by kernel_rfl) (by kernel_rfl) (by kernel_rfl) (fun _ _ _ h => h) (Or.inl ⟨by rfl, ?y74⟩) (by assumption) ?rest74; case y74 => (intro w hSw; have hT0 := (Mem.bl_row hSw rxd (by first | exact Mem.Row.lt rxd | omega | (simp <;> omega))).cell 0 rfl; have hT1 := (Mem.bl_row hSw rxd (by first | exact Mem.Row.lt rxd | omega | (simp <;> omega))).cell 1 rfl; have hT2 := (Mem.bl_row hSw rxd (by first | exact Mem.Row.lt rxd | omega | (simp <;> omega))).cell 2 rfl; have hT3 := (Mem.bl_row hSw rxd (by first | exact Mem.Row.lt rxd | omega | (simp <;> omega))).cell 3 rfl; have hT4 := (Mem.bl_row hSw rxd (by first | exact Mem.Row.lt rxd | omega | (simp <;> omega))).cell 4 rfl; have hT5 := (Mem.bl_row hSw rxd (by first | exact Mem.Row.lt rxd | omega | (simp <;> omega))).cell 5 rfl; have hT6 := (Mem.bl_row hSw rod (by first | exact Mem.Row.lt rod | omega | (simp <;> omega))).cell 0 rfl; have hT7 := (Mem.bl_row hSw rod (by first | exact Mem.Row.lt rod | omega | (simp <;> omega))).cell 1 rfl; have hT8 := (Mem.bl_row hSw rod (by first | exact Mem.Row.lt rod | omega | (simp <;> omega))).cell 2 rfl; have hT9 := (Mem.bl_row hSw rod (by first | exact Mem.Row.lt rod | omega | (simp <;> omega))).cell 3 rfl; have hT10 := (Mem.bl_row hSw rod (by first | exact Mem.Row.lt rod | omega | (simp <;> omega))).cell 4 rfl; have hT11 := (Mem.bl_row hSw rod (by first | exact Mem.Row.lt rod | omega | (simp <;> omega))).cell 5 rfl; clear hSw; go_simp; try with_reducible rfl))
    case' rest74 => skip
    try simp only [List.getElem_toArray, List.getElem_cons_succ, List.getElem_cons_zero, Act.put, List.setIfInBounds_toArray, List.set_cons_zero, List.set_cons_succ]
    first
      | refine wpAnyH_take (i := 10) (v := undef) rfl (by kernel_rfl) (by kernel_rfl) (by kernel_rfl) (fun _ _ _ h => h) (Or.inr ⟨by rfl, rfl⟩) (by assumption) ?rest75
      | (refine wpAnyH_take (i := 10) (v := ?v75) rfl (by kernel_rfl) (by kernel_rfl) (by kernel_rfl) (fun _ _ _ h => h) (Or.inl ⟨by rfl, ?y75⟩) (by assumption) ?rest75; case y75 => (intro w hSw; have hT0 := (Mem.bl_row hSw rxd (by first | exact Mem.Row.lt rxd | omega | (simp <;> omega))).cell 0 rfl; have hT1 := (Mem.bl_row hSw rxd (by first | exact Mem.Row.lt rxd | omega | (simp <;> omega))).cell 1 rfl; have hT2 := (Mem.bl_row hSw rxd (by first | exact Mem.Row.lt rxd | omega | (simp <;> omega))).cell 2 rfl; have hT3 := (Mem.bl_row hSw rxd (by first | exact Mem.Row.lt rxd | omega | (simp <;> omega))).cell 3 rfl; have hT4 := (Mem.bl_row hSw rxd (by first | exact Mem.Row.lt rxd | omega | (simp <;> omega))).cell 4 rfl; have hT5 := (Mem.bl_row hSw rxd (by first | exact Mem.Row.lt rxd | omega | (simp <;> omega))).cell 5 rfl; have hT6 := (Mem.bl_row hSw rod (by first | exact Mem.Row.lt rod | omega | (simp <;> omega))).cell 0 rfl; have hT7 := (Mem.bl_row hSw rod (by first | exact Mem.Row.lt rod | omega | (simp <;> omega))).cell 1 rfl; have hT8 := (Mem.bl_row hSw rod (by first | exact Mem.Row.lt rod | omega | (simp <;> omega))).cell 2 rfl; have hT9 := (Mem.bl_row hSw rod (by first | exact Mem.Row.lt rod | omega | (simp <;> omega))).cell 3 rfl; have hT10 := (Mem.bl_row hSw rod (by first | exact Mem.Row.lt rod | omega | (simp <;> omega))).cell 4 rfl; have hT11 := (Mem.bl_row hSw rod (by first | exact Mem.Row.lt rod | omega | (simp <;> omega))).cell 5 rfl; clear hSw; go_simp; try with_reducible rfl))
    case' rest75 => skip
    try simp only [List.getElem_toArray, List.getElem_cons_succ, List.getElem_cons_zero, Act.put, List.setIfInBounds_toArray, List.set_cons_zero, List.set_cons_succ]
    first
      | refine wpAnyH_take (i := 11) (v := undef) rfl (by kernel_rfl) (by kernel_rfl) (by kernel_rfl) (fun _ _ _ h => h) (Or.inr ⟨by rfl, rfl⟩) (by assumption) ?rest76
      | (refine wpAnyH_take (i := 11) (v := ?v76) rfl (by kernel_rfl) (by kernel_rfl) (by kernel_rfl) (fun _ _ _ h => h) (Or.inl ⟨by rfl, ?y76⟩) (by assumption) ?rest76; case y76 => (intro w hSw; have hT0 := (Mem.bl_row hSw rxd (by first | exact Mem.Row.lt rxd | omega | (simp <;> omega))).cell 0 rfl; have hT1 := (Mem.bl_row hSw rxd (by first | exact Mem.Row.lt rxd | omega | (simp <;> omega))).cell 1 rfl; have hT2 := (Mem.bl_row hSw rxd (by first | exact Mem.Row.lt rxd | omega | (simp <;> omega))).cell 2 rfl; have hT3 := (Mem.bl_row hSw rxd (by first | exact Mem.Row.lt rxd | omega | (simp <;> omega))).cell 3 rfl; have hT4 := (Mem.bl_row hSw rxd (by first | exact Mem.Row.lt rxd | omega | (simp <;> omega))).cell 4 rfl; have hT5 := (Mem.bl_row hSw rxd (by first | exact Mem.Row.lt rxd | omega | (simp <;> omega))).cell 5 rfl; have hT6 := (Mem.bl_row hSw rod (by first | exact Mem.Row.lt rod | omega | (simp <;> omega))).cell 0 rfl; have hT7 := (Mem.bl_row hSw rod (by first | exact Mem.Row.lt rod | omega | (simp <;> omega))).cell 1 rfl; have hT8 := (Mem.bl_row hSw rod (by first | exact Mem.Row.lt rod | omega | (simp <;> omega))).cell 2 rfl; have hT9 := (Mem.bl_row hSw rod (by first | exact Mem.Row.lt rod | omega | (simp <;> omega))).cell 3 rfl; have hT10 := (Mem.bl_row hSw rod (by first | exact Mem.Row.lt rod | omega | (simp <;> omega))).cell 4 rfl; have hT11 := (Mem.bl_row hSw rod (by first | exact Mem.Row.lt rod | omega | (simp <;> omega))).cell 5 rfl; clear hSw; go_simp; try with_reducible rfl))
    case' rest76 => skip
    try simp only [List.getElem_toArray, List.getElem_cons_succ, List.getElem_cons_zero, Act.put, List.setIfInBounds_toArray, List.set_cons_zero, List.set_cons_succ]
    first
      | refine wpAnyH_take (i := 12) (v := undef) rfl (by kernel_rfl) (by kernel_rfl) (by kernel_rfl) (fun _ _ _ h => h) (Or.inr ⟨by rfl, rfl⟩) (by assumption) ?rest77
      | (refine wpAnyH_take (i := 12) (v := ?v77) rfl (by kernel_rfl) (by kernel_rfl) (by kernel_rfl) (fun _ _ _ h => h) (Or.inl ⟨by rfl, ?y77⟩) (by assumption) ?rest77; case y77 => (intro w hSw; have hT0 := (Mem.bl_row hSw rxd (by first | exact Mem.Row.lt rxd | omega | (simp <;> omega))).cell 0 rfl; have hT1 := (Mem.bl_row hSw rxd (by first | exact Mem.Row.lt rxd | omega | (simp <;> omega))).cell 1 rfl; have hT2 := (Mem.bl_row hSw rxd (by first | exact Mem.Row.lt rxd | omega | (simp <;> omega))).cell 2 rfl; have hT3 := (Mem.bl_row hSw rxd (by first | exact Mem.Row.lt rxd | omega | (simp <;> omega))).cell 3 rfl; have hT4 := (Mem.bl_row hSw rxd (by first | exact Mem.Row.lt rxd | omega | (simp <;> omega))).cell 4 rfl; have hT5 := (Mem.bl_row hSw rxd (by first | exact Mem.Row.lt rxd | omega | (simp <;> omega))).cell 5 rfl; have hT6 := (Mem.bl_row hSw rod (by first | exact Mem.Row.lt rod | omega | (simp <;> omega))).cell 0 rfl; have hT7 := (Mem.bl_row hSw rod (by first | exact Mem.Row.lt rod | omega | (simp <;> omega))).cell 1 rfl; have hT8 := (Mem.bl_row hSw rod (by first | exact Mem.Row.lt rod | omega | (simp <;> omega))).cell 2 rfl; have hT9 := (Mem.bl_row hSw rod (by first | exact Mem.Row.lt rod | omega | (simp <;> omega))).cell 3 rfl; have hT10 := (Mem.bl_row hSw rod (by first | exact Mem.Row.lt rod | omega | (simp <;> omega))).cell 4 rfl; have hT11 := (Mem.bl_row hSw rod (by first | exact Mem.Row.lt rod | omega | (simp <;> omega))).cell 5 rfl; clear hSw; go_simp; try with_reducible rfl))
    case' rest77 => skip
    try simp only [List.getElem_toArray, List.getElem_cons_succ, List.getElem_cons_zero, Act.put, List.setIfInBounds_toArray, List.set_cons_zero, List.set_cons_succ]
    first
      | refine wpAnyH_take (i := 13) (v := undef) rfl (by kernel_rfl) (by kernel_rfl) (by kernel_rfl) (fun _ _ _ h => h) (Or.inr ⟨by rfl, rfl⟩) (by assumption) ?rest78
      | (refine wpAnyH_take (i := 13) (v := ?v78) rfl (by kernel_rfl) (by kernel_rfl) (by kernel_rfl) (fun _ _ _ h => h) (Or.inl ⟨by rfl, ?y78⟩) (by assumption) ?rest78; case y78 => (intro w hSw; have hT0 := (Mem.bl_row hSw rxd (by first | exact Mem.Row.lt rxd | omega | (simp <;> omega))).cell 0 rfl; have hT1 := (Mem.bl_row hSw rxd (by first | exact Mem.Row.lt rxd | omega | (simp <;> omega))).cell 1 rfl; have hT2 := (Mem.bl_row hSw rxd (by first | exact Mem.Row.lt rxd | omega | (simp <;> omega))).cell 2 rfl; have hT3 := (Mem.bl_row hSw rxd (by first | exact Mem.Row.lt rxd | omega | (simp <;> omega))).cell 3 rfl; have hT4 := (Mem.bl_row hSw rxd (by first | exact Mem.Row.lt rxd | omega | (simp <;> omega))).cell 4 rfl; have hT5 := (Mem.bl_row hSw rxd (by first | exact Mem.Row.lt rxd | omega | (simp <;> omega))).cell 5 rfl; have hT6 := (Mem.bl_row hSw rod (by first | exact Mem.Row.lt rod | omega | (simp <;> omega))).cell 0 rfl; have hT7 := (Mem.bl_row hSw rod (by first | exact Mem.Row.lt rod | omega | (simp <;> omega))).cell 1 rfl; have hT8 := (Mem.bl_row hSw rod (by first | exact Mem.Row.lt rod | omega | (simp <;> omega))).cell 2 rfl; have hT9 := (Mem.bl_row hSw rod (by first | exact Mem.Row.lt rod | omega | (simp <;> omega))).cell 3 rfl; have hT10 := (Mem.bl_row hSw rod (by first | exact Mem.Row.lt rod | omega | (simp <;> omega))).cell 4 rfl; have hT11 := (Mem.bl_row hSw rod (by first | exact Mem.Row.lt rod | omega | (simp <;> omega))).cell 5 rfl; clear hSw; go_simp; try with_reducible rfl))
    case' rest78 => skip
    try simp only [List.getElem_toArray, List.getElem_cons_succ, List.getElem_cons_zero, Act.put, List.setIfInBounds_toArray, List.set_cons_zero, List.set_cons_succ]
    first
      | refine wpAnyH_take (i := 14) (v := undef) rfl (by kernel_rfl) (by kernel_rfl) (by kernel_rfl) (fun _ _ _ h => h) (Or.inr ⟨by rfl, rfl⟩) (by assumption) ?rest79
      | (refine wpAnyH_take (i := 14) (v := ?v79) rfl (by kernel_rfl) (by kernel_rfl) (by kernel_rfl) (fun _ _ _ h => h) (Or.inl ⟨by rfl, ?y79⟩) (by assumption) ?rest79; case y79 => (intro w hSw; have hT0 := (Mem.bl_row hSw rxd (by first | exact Mem.Row.lt rxd | omega | (simp <;> omega))).cell 0 rfl; have hT1 := (Mem.bl_row hSw rxd (by first | exact Mem.Row.lt rxd | omega | (simp <;> omega))).cell 1 rfl; have hT2 := (Mem.bl_row hSw rxd (by first | exact Mem.Row.lt rxd | omega | (simp <;> omega))).cell 2 rfl; have hT3 := (Mem.bl_row hSw rxd (by first | exact Mem.Row.lt rxd | omega | (simp <;> omega))).cell 3 rfl; have hT4 := (Mem.bl_row hSw rxd (by first | exact Mem.Row.lt rxd | omega | (simp <;> omega))).cell 4 rfl; have hT5 := (Mem.bl_row hSw rxd (by first | exact Mem.Row.lt rxd | omega | (simp <;> omega))).cell 5 rfl; have hT6 := (Mem.bl_row hSw rod (by first | exact Mem.Row.lt rod | omega | (simp <;> omega))).cell 0 rfl; have hT7 := (Mem.bl_row hSw rod (by first | exact Mem.Row.lt rod | omega | (simp <;> omega))).cell 1 rfl; have hT8 := (Mem.bl_row hSw rod (by first | exact Mem.Row.lt rod | omega | (simp <;> omega))).cell 2 rfl; have hT9 := (Mem.bl_row hSw rod (by first | exact Mem.Row.lt rod | omega | (simp <;> omega))).cell 3 rfl; have hT10 := (Mem.bl_row hSw rod (by first | exact Mem.Row.lt rod | omega | (simp <;> omega))).cell 4 rfl; have hT11 := (Mem.bl_row hSw rod (by first | exact Mem.Row.lt rod | omega | (simp <;> omega))).cell 5 rfl; clear hSw; go_simp; try with_reducible rfl))
    case' rest79 => skip
    try simp only [List.getElem_toArray, List.getElem_cons_succ, List.getElem_cons_zero, Act.put, List.setIfInBounds_toArray, List.set_cons_zero, List.set_cons_succ]
    refine wpAnyH_take (i := 15) (v := ?v80) rfl (by kernel_rfl) (by kernel_rfl) (by kernel_rfl) (fun _ _ _ h => h) (Or.inl ⟨by rfl, ?y80⟩) (by assumption) ?rest80
    case y80 => (intro w hSw; have hT0 := (Mem.bl_row hSw rxd (by first | exact Mem.Row.lt rxd | omega | (simp <;> omega))).cell 0 rfl; have hT1 := (Mem.bl_row hSw rxd (by first | exact Mem.Row.lt rxd | omega | (simp <;> omega))).cell 1 rfl; have hT2 := (Mem.bl_row hSw rxd (by first | exact Mem.Row.lt rxd | omega | (simp <;> omega))).cell 2 rfl; have hT3 := (Mem.bl_row hSw rxd (by first | exact Mem.Row.lt rxd | omega | (simp <;> omega))).cell 3 rfl; have hT4 := (Mem.bl_row hSw rxd (by first | exact Mem.Row.lt rxd | omega | (simp <;> omega))).cell 4 rfl; have hT5 := (Mem.bl_row hSw rxd (by first | exact Mem.Row.lt rxd | omega | (simp <;> omega))).cell 5 rfl; have hT6 := (Mem.bl_row hSw rod (by first | exact Mem.Row.lt rod | omega | (simp <;> omega))).cell 0 rfl; have hT7 := (Mem.bl_row hSw rod (by first | exact Mem.Row.lt rod | omega | (simp <;> omega))).cell 1 rfl; have hT8 := (Mem.bl_row hSw rod (by first | exact Mem.Row.lt rod | omega | (simp <;> omega))).cell 2 rfl; have hT9 := (Mem.bl_row hSw rod (by first | exact Mem.Row.lt rod | omega | (simp <;> omega))).cell 3 rfl; have hT10 := (Mem.bl_row hSw rod (by first | exact Mem.Row.lt rod | omega | (simp <;> omega))).cell 4 rfl; have hT11 := (Mem.bl_row hSw rod (by first | exact Mem.Row.lt rod | omega | (simp <;> omega))).cell 5 rfl; clear hSw; go_simp; try with_reducible rfl)
    case' rest80 => skip
    try simp only [List.getElem_toArray, List.getElem_cons_succ, List.getElem_cons_zero, Act.put, List.setIfInBounds_toArray, List.set_cons_zero, List.set_cons_succ]
    refine wpAnyH_done (by kernel_rfl) ?_ _
    have bz0 := (Below.refl w3.heap.size w3).drew.trans hHeld
    have bz := bb3.trans (bz0.mono bb3.size)
    have rz := (ro3.below bz0).drew
    clear hHeld bz0 rxd rod hd4 hx4 CP CA CC1 CC2 rx ro3 hd3 hx3 bb3
    have CN := Lib.hid (fun w' => name_any d w')
    by_cases hr : 1 ≤ d ∧ d ≤ 13
    · have CD := Lib.hid (fun w' => do_any (nameT d) w')
      have HR := Lib.hid (fun r h => name_back hr.1 hr.2 (r := r) h)
      have hem : ((nameT d).toList == []) = false := name_full hr.1 hr.2
      generalize nameT d = t at *
      go_wp2_with fail
      refine wp_region_held_drew (S := Go.RowKit.Below ((wz.drew).heap.size) (wz.drew)) (by kernel_rfl) ?hb89 (fun hHeld => ?rest89)
      case hb89 =>
        exact Go.RowKit.Below.refl _ _
      case' rest89 => skip
      refine wpAnyH_take (i := 0) (v := ?v90) rfl (by kernel_rfl) (by kernel_rfl) (by kernel_rfl) (fun _ _ _ h => h) (Or.inl ⟨by rfl, ?y90⟩) (by assumption) ?rest90
      case y90 => (intro w hSw; have hT0 := (Mem.bl_row hSw rz (by first | exact Mem.Row.lt rz | omega | (simp <;> omega))).cell 0 rfl; clear hSw; go_simp; try with_reducible rfl)
      case' rest90 => skip
      try simp only [List.getElem_toArray, List.getElem_cons_succ, List.getElem_cons_zero, Act.put, List.setIfInBounds_toArray, List.set_cons_zero, List.set_cons_succ]
      refine wpAnyH_take (i := 1) (v := ?v91) rfl (by kernel_rfl) (by kernel_rfl) (by kernel_rfl) (fun _ _ _ h => h) (Or.inl ⟨by rfl, ?y91⟩) (by assumption) ?rest91
      case y91 => (intro w hSw; have hT0 := (Mem.bl_row hSw rz (by first | exact Mem.Row.lt rz | omega | (simp <;> omega))).cell 0 rfl; clear hSw; go_simp; try with_reducible rfl)
      case' rest91 => skip
      try simp only [List.getElem_toArray, List.getElem_cons_succ, List.getElem_cons_zero, Act.put, List.setIfInBounds_toArray, List.set_cons_zero, List.set_cons_succ]
      refine wpAnyH_ready (rs := [2]) (by kernel_rfl) (by simp) ?_
      refine AllReadyH.cons rfl (fun K hK => ?_) AllReadyH.nil
      go_simp
      (refine (CN.out _).mono ?_; rintro e v1 ⟨rfl, hbl⟩)
      try go_wp2_with fail
      have hSnew := Mem.bl_step hHeld hbl (by first | exact Nat.le_refl _ | omega | (simp <;> omega))
      refine hK.out _ _ ?_ (fun hHeld2 => ?_)
      · exact hSnew
      clear hbl
      clear hK K hHeld hSnew
      have hHeld := hHeld2
      clear hHeld2
      try simp only [List.getElem_toArray, List.getElem_cons_succ, List.getElem_cons_zero, Act.put, List.setIfInBounds_toArray, List.set_cons_zero, List.set_cons_succ]
      refine wpAnyH_take (i := 3) (v := ?v92) rfl (by kernel_rfl) (by kernel_rfl) (by kernel_rfl) (fun _ _ _ h => h) (Or.inl ⟨by rfl, ?y92⟩) (by assumption) ?rest92
      case y92 => (intro w hSw; have hT0 := (Mem.bl_row hSw rz (by first | exact Mem.Row.lt rz | omega | (simp <;> omega))).cell 0 rfl; clear hSw; go_simp; try with_reducible rfl)
      case' rest92 => skip
      try simp only [List.getElem_toArray, List.getElem_cons_succ, List.getElem_cons_zero, Act.put, List.setIfInBounds_toArray, List.set_cons_zero, List.set_cons_succ]
      refine wpAnyH_take (i := 4) (v := ?v93) rfl (by kernel_rfl) (by kernel_rfl) (by kernel_rfl) (fun _ _ _ h => h) (Or.inl ⟨by rfl, ?y93⟩) (by assumption) ?rest93
      case y93 => (intro w hSw; have hT0 := (Mem.bl_row hSw rz (by first | exact Mem.Row.lt rz | omega | (simp <;> omega))).cell 0 rfl; clear hSw; go_simp; try with_reducible rfl)
      case' rest93 => skip
      try simp only [List.getElem_toArray, List.getElem_cons_succ, List.getElem_cons_zero, Act.put, List.setIfInBounds_toArray, List.set_cons_zero, List.set_cons_succ]
      first
        | refine wpAnyH_take (i := 5) (v := undef) rfl (by kernel_rfl) (by kernel_rfl) (by kernel_rfl) (fun _ _ _ h => h) (Or.inr ⟨by rfl, rfl⟩) (by assumption) ?rest94
        | (refine wpAnyH_take (i := 5) (v := ?v94) rfl (by kernel_rfl) (by kernel_rfl) (by kernel_rfl) (fun _ _ _ h => h) (Or.inl ⟨by rfl, ?y94⟩) (by assumption) ?rest94; case y94 => (intro w hSw; have hT0 := (Mem.bl_row hSw rz (by first | exact Mem.Row.lt rz | omega | (simp <;> omega))).cell 0 rfl; clear hSw; go_simp; try with_reducible rfl))
      case' rest94 => skip
      try simp only [List.getElem_toArray, List.getElem_cons_succ, List.getElem_cons_zero, Act.put, List.setIfInBounds_toArray, List.set_cons_zero, List.set_cons_succ]
      first
        | refine wpAnyH_take (i := 6) (v := undef) rfl (by kernel_rfl) (by kernel_rfl) (by kernel_rfl) (fun _ _ _ h => h) (Or.inr ⟨by rfl, rfl⟩) (by assumption) ?rest95
        | (refine wpAnyH_take (i := 6) (v := ?v95) rfl (by kernel_rfl) (by kernel_rfl) (by kernel_rfl) (fun _ _ _ h => h) (Or.inl ⟨by rfl, ?y95⟩) (by assumption) ?rest95; case y95 => (intro w hSw; have hT0 := (Mem.bl_row hSw rz (by first | exact Mem.Row.lt rz | omega | (simp <;> omega))).cell 0 rfl; clear hSw; go_simp; try with_reducible rfl))
      case' rest95 => skip
      try simp only [List.getElem_toArray, List.getElem_cons_succ, List.getElem_cons_zero, Act.put, List.setIfInBounds_toArray, List.set_cons_zero, List.set_cons_succ]
      first
        | refine wpAnyH_take (i := 9) (v := undef) rfl (by kernel_rfl) (by kernel_rfl) (by kernel_rfl) (fun _ _ _ h => h) (Or.inr ⟨by rfl, rfl⟩) (by assumption) ?rest96
        | (refine wpAnyH_take (i := 9) (v := ?v96) rfl (by kernel_rfl) (by kernel_rfl) (by kernel_rfl) (fun _ _ _ h => h) (Or.inl ⟨by rfl, ?y96⟩) (by assumption) ?rest96; case y96 => (intro w hSw; have hT0 := (Mem.bl_row hSw rz (by first | exact Mem.Row.lt rz | omega | (simp <;> omega))).cell 0 rfl; clear hSw; go_simp; try with_reducible rfl))
      case' rest96 => skip
      try simp only [List.getElem_toArray, List.getElem_cons_succ, List.getElem_cons_zero, Act.put, List.setIfInBounds_toArray, List.set_cons_zero, List.set_cons_succ]
      first
        | refine wpAnyH_take (i := 10) (v := undef) rfl (by kernel_rfl) (by kernel_rfl) (by kernel_rfl) (fun _ _ _ h => h) (Or.inr ⟨by rfl, rfl⟩) (by assumption) ?rest97
        | (refine wpAnyH_take (i := 10) (v := ?v97) rfl (by kernel_rfl) (by kernel_rfl) (by kernel_rfl) (fun _ _ _ h => h) (Or.inl ⟨by rfl, ?y97⟩) (by assumption) ?rest97; case y97 => (intro w hSw; have hT0 := (Mem.bl_row hSw rz (by first | exact Mem.Row.lt rz | omega | (simp <;> omega))).cell 0 rfl; clear hSw; go_simp; try with_reducible rfl))
      case' rest97 => skip
      try simp only [List.getElem_toArray, List.getElem_cons_succ, List.getElem_cons_zero, Act.put, List.setIfInBounds_toArray, List.set_cons_zero, List.set_cons_succ]
      refine wpAnyH_ready (rs := [7]) (by kernel_rfl) (by simp) ?_
      refine AllReadyH.cons rfl (fun K hK => ?_) AllReadyH.nil
      go_simp
      (refine (CN.out _).mono ?_; rintro e v2 ⟨rfl, hbl⟩)
      try go_wp2_with fail
      have hSnew := Mem.bl_step hHeld hbl (by first | exact Nat.le_refl _ | omega | (simp <;> omega))
      refine hK.out _ _ ?_ (fun hHeld2 => ?_)
      · exact hSnew
      clear hbl
      clear hK K hHeld hSnew
      have hHeld := hHeld2
      clear hHeld2
      try simp only [List.getElem_toArray, List.getElem_cons_succ, List.getElem_cons_zero, Act.put, List.setIfInBounds_toArray, List.set_cons_zero, List.set_cons_succ]
      refine wpAnyH_ready (rs := [8]) (by kernel_rfl) (by simp) ?_
      refine AllReadyH.cons rfl (fun K hK => ?_) AllReadyH.nil
      go_simp
      (refine (CD.out _).mono ?_; rintro e v3 ⟨r, rfl, hi, hbl⟩; have he := HR.out r hi; subst he)
      try go_wp2_with fail
      have hSnew := Mem.bl_step hHeld hbl (by first | exact Nat.le_refl _ | omega | (simp <;> omega))
      refine hK.out _ _ ?_ (fun hHeld2 => ?_)
      · exact hSnew
      clear hbl
      clear hK K hHeld hSnew
      have hHeld := hHeld2
      clear hHeld2
      try simp only [List.getElem_toArray, List.getElem_cons_succ, List.getElem_cons_zero, Act.put, List.setIfInBounds_toArray, List.set_cons_zero, List.set_cons_succ]
      first
        | refine wpAnyH_take (i := 11) (v := undef) rfl (by kernel_rfl) (by kernel_rfl) (by kernel_rfl) (fun _ _ _ h => h) (Or.inr ⟨by rfl, rfl⟩) (by assumption) ?rest98
        | (refine wpAnyH_take (i := 11) (v := ?v98) rfl (by kernel_rfl) (by kernel_rfl) (by kernel_rfl) (fun _ _ _ h => h) (Or.inl ⟨by rfl, ?y98⟩) (by assumption) ?rest98; case y98 => (intro w hSw; have hT0 := (Mem.bl_row hSw rz (by first | exact Mem.Row.lt rz | omega | (simp <;> omega))).cell 0 rfl; clear hSw; go_simp; try with_reducible rfl))
      case' rest98 => skip
      try simp only [List.getElem_toArray, List.getElem_cons_succ, List.getElem_cons_zero, Act.put, List.setIfInBounds_toArray, List.set_cons_zero, List.set_cons_succ]
      refine wpAnyH_take (i := 12) (v := ?v99) rfl (by kernel_rfl) (by kernel_rfl) (by kernel_rfl) (fun _ _ _ h => h) (Or.inl ⟨by rfl, ?y99⟩) (by assumption) ?rest99
      case y99 => (intro w hSw; have hT0 := (Mem.bl_row hSw rz (by first | exact Mem.Row.lt rz | omega | (simp <;> omega))).cell 0 rfl; clear hSw; go_simp; try with_reducible rfl)
      case' rest99 => skip
      try simp only [List.getElem_toArray, List.getElem_cons_succ, List.getElem_cons_zero, Act.put, List.setIfInBounds_toArray, List.set_cons_zero, List.set_cons_succ]
      refine wpAnyH_take (i := 13) (v := ?v100) rfl (by kernel_rfl) (by kernel_rfl) (by kernel_rfl) (fun _ _ _ h => h) (Or.inl ⟨by rfl, ?y100⟩) (by assumption) ?rest100
      case y100 => (intro w hSw; have hT0 := (Mem.bl_row hSw rz (by first | exact Mem.Row.lt rz | omega | (simp <;> omega))).cell 0 rfl; clear hSw; go_simp; try with_reducible rfl)
      case' rest100 => skip
      try simp only [List.getElem_toArray, List.getElem_cons_succ, List.getElem_cons_zero, Act.put, List.setIfInBounds_toArray, List.set_cons_zero, List.set_cons_succ]
      refine wpAnyH_ready (rs := [14]) (by kernel_rfl) (by simp) ?_
      refine AllReadyH.cons rfl (fun K hK => ?_) AllReadyH.nil
      go_simp
      (refine (works_any _).mono ?_; rintro e v4 ⟨rfl, hbl⟩)
      try go_wp2_with fail
      have hSnew := Mem.bl_step hHeld hbl (by first | exact Nat.le_refl _ | omega | (simp <;> omega))
      refine hK.out _ _ ?_ (fun hHeld2 => ?_)
      · exact hSnew
      clear hbl
      clear hK K hHeld hSnew
      have hHeld := hHeld2
      clear hHeld2
      try simp only [List.getElem_toArray, List.getElem_cons_succ, List.getElem_cons_zero, Act.put, List.setIfInBounds_toArray, List.set_cons_zero, List.set_cons_succ]
      refine wpAnyH_take (i := 15) (v := ?v101) rfl (by kernel_rfl) (by kernel_rfl) (by kernel_rfl) (fun _ _ _ h => h) (Or.inl ⟨by rfl, ?y101⟩) (by assumption) ?rest101
      case y101 => (intro w hSw; have hT0 := (Mem.bl_row hSw rz (by first | exact Mem.Row.lt rz | omega | (simp <;> omega))).cell 0 rfl; clear hSw; go_simp; try with_reducible rfl)
      case' rest101 => skip
      try simp only [List.getElem_toArray, List.getElem_cons_succ, List.getElem_cons_zero, Act.put, List.setIfInBounds_toArray, List.set_cons_zero, List.set_cons_succ]
      refine wpAnyH_take (i := 16) (v := ?v102) rfl (by kernel_rfl) (by kernel_rfl) (by kernel_rfl) (fun _ _ _ h => h) (Or.inl ⟨by rfl, ?y102⟩) (by assumption) ?rest102
      case y102 => (intro w hSw; have hT0 := (Mem.bl_row hSw rz (by first | exact Mem.Row.lt rz | omega | (simp <;> omega))).cell 0 rfl; clear hSw; go_simp; try with_reducible rfl)
      case' rest102 => skip
      try simp only [List.getElem_toArray, List.getElem_cons_succ, List.getElem_cons_zero, Act.put, List.setIfInBounds_toArray, List.set_cons_zero, List.set_cons_succ]
      refine wpAnyH_done (by kernel_rfl) ?_ _
      go_wp2
      go_ret
      exact ⟨rfl, bz.trans (((Below.refl _ _).drew.trans hHeld).mono bz.size)⟩
    · rw [name_none hr] at CN
      go_wp2_with fail
      refine wp_region_held_drew (S := Go.RowKit.Below ((wz.drew).heap.size) (wz.drew)) (by kernel_rfl) ?hb109 (fun hHeld => ?rest109)
      case hb109 =>
        exact Go.RowKit.Below.refl _ _
      case' rest109 => skip
      refine wpAnyH_take (i := 0) (v := ?v110) rfl (by kernel_rfl) (by kernel_rfl) (by kernel_rfl) (fun _ _ _ h => h) (Or.inl ⟨by rfl, ?y110⟩) (by assumption) ?rest110
      case y110 => (intro w hSw; have hT0 := (Mem.bl_row hSw rz (by first | exact Mem.Row.lt rz | omega | (simp <;> omega))).cell 0 rfl; clear hSw; go_simp; try with_reducible rfl)
      case' rest110 => skip
      try simp only [List.getElem_toArray, List.getElem_cons_succ, List.getElem_cons_zero, Act.put, List.setIfInBounds_toArray, List.set_cons_zero, List.set_cons_succ]
      refine wpAnyH_take (i := 1) (v := ?v111) rfl (by kernel_rfl) (by kernel_rfl) (by kernel_rfl) (fun _ _ _ h => h) (Or.inl ⟨by rfl, ?y111⟩) (by assumption) ?rest111
      case y111 => (intro w hSw; have hT0 := (Mem.bl_row hSw rz (by first | exact Mem.Row.lt rz | omega | (simp <;> omega))).cell 0 rfl; clear hSw; go_simp; try with_reducible rfl)
      case' rest111 => skip
      try simp only [List.getElem_toArray, List.getElem_cons_succ, List.getElem_cons_zero, Act.put, List.setIfInBounds_toArray, List.set_cons_zero, List.set_cons_succ]
      refine wpAnyH_ready (rs := [2]) (by kernel_rfl) (by simp) ?_
      refine AllReadyH.cons rfl (fun K hK => ?_) AllReadyH.nil
      go_simp
      (refine (CN.out _).mono ?_; rintro e v1 ⟨rfl, hbl⟩)
      try go_wp2_with fail
      have hSnew := Mem.bl_step hHeld hbl (by first | exact Nat.le_refl _ | omega | (simp <;> omega))
      refine hK.out _ _ ?_ (fun hHeld2 => ?_)
      · exact hSnew
      clear hbl
      clear hK K hHeld hSnew
      have hHeld := hHeld2
      clear hHeld2
      try simp only [List.getElem_toArray, List.getElem_cons_succ, List.getElem_cons_zero, Act.put, List.setIfInBounds_toArray, List.set_cons_zero, List.set_cons_succ]
      refine wpAnyH_take (i := 3) (v := ?v112) rfl (by kernel_rfl) (by kernel_rfl) (by kernel_rfl) (fun _ _ _ h => h) (Or.inl ⟨by rfl, ?y112⟩) (by assumption) ?rest112
      case y112 => (intro w hSw; have hT0 := (Mem.bl_row hSw rz (by first | exact Mem.Row.lt rz | omega | (simp <;> omega))).cell 0 rfl; clear hSw; go_simp; try with_reducible rfl)
      case' rest112 => skip
      try simp only [List.getElem_toArray, List.getElem_cons_succ, List.getElem_cons_zero, Act.put, List.setIfInBounds_toArray, List.set_cons_zero, List.set_cons_succ]
      refine wpAnyH_take (i := 4) (v := ?v113) rfl (by kernel_rfl) (by kernel_rfl) (by kernel_rfl) (fun _ _ _ h => h) (Or.inl ⟨by rfl, ?y113⟩) (by assumption) ?rest113
      case y113 => (intro w hSw; have hT0 := (Mem.bl_row hSw rz (by first | exact Mem.Row.lt rz | omega | (simp <;> omega))).cell 0 rfl; clear hSw; go_simp; try with_reducible rfl)
      case' rest113 => skip
      try simp only [List.getElem_toArray, List.getElem_cons_succ, List.getElem_cons_zero, Act.put, List.setIfInBounds_toArray, List.set_cons_zero, List.set_cons_succ]
      first
        | refine wpAnyH_take (i := 5) (v := undef) rfl (by kernel_rfl) (by kernel_rfl) (by kernel_rfl) (fun _ _ _ h => h) (Or.inr ⟨by rfl, rfl⟩) (by assumption) ?rest114
        | (refine wpAnyH_take (i := 5) (v := ?v114) rfl (by kernel_rfl) (by kernel_rfl) (by kernel_rfl) (fun _ _ _ h => h) (Or.inl ⟨by rfl, ?y114⟩) (by assumption) ?rest114; case y114 => (intro w hSw; have hT0 := (Mem.bl_row hSw rz (by first | exact Mem.Row.lt rz | omega | (simp <;> omega))).cell 0 rfl; clear hSw; go_simp; try with_reducible rfl))
      case' rest114 => skip
      try simp only [List.getElem_toArray, List.getElem_cons_succ, List.getElem_cons_zero, Act.put, List.setIfInBounds_toArray, List.set_cons_zero, List.set_cons_succ]
      first
        | refine wpAnyH_take (i := 6) (v := undef) rfl (by kernel_rfl) (by kernel_rfl) (by kernel_rfl) (fun _ _ _ h => h) (Or.inr ⟨by rfl, rfl⟩) (by assumption) ?rest115
        | (refine wpAnyH_take (i := 6) (v := ?v115) rfl (by kernel_rfl) (by kernel_rfl) (by kernel_rfl) (fun _ _ _ h => h) (Or.inl ⟨by rfl, ?y115⟩) (by assumption) ?rest115; case y115 => (intro w hSw; have hT0 := (Mem.bl_row hSw rz (by first | exact Mem.Row.lt rz | omega | (simp <;> omega))).cell 0 rfl; clear hSw; go_simp; try with_reducible rfl))
      case' rest115 => skip
      try simp only [List.getElem_toArray, List.getElem_cons_succ, List.getElem_cons_zero, Act.put, List.setIfInBounds_toArray, List.set_cons_zero, List.set_cons_succ]
      first
        | refine wpAnyH_take (i := 7) (v := undef) rfl (by kernel_rfl) (by kernel_rfl) (by kernel_rfl) (fun _ _ _ h => h) (Or.inr ⟨by rfl, rfl⟩) (by assumption) ?rest116
        | (refine wpAnyH_take (i := 7) (v := ?v116) rfl (by kernel_rfl) (by kernel_rfl) (by kernel_rfl) (fun _ _ _ h => h) (Or.inl ⟨by rfl, ?y116⟩) (by assumption) ?rest116; case y116 => (intro w hSw; have hT0 := (Mem.bl_row hSw rz (by first | exact Mem.Row.lt rz | omega | (simp <;> omega))).cell 0 rfl; clear hSw; go_simp; try with_reducible rfl))
      case' rest116 => skip
      try simp only [List.getElem_toArray, List.getElem_cons_succ, List.getElem_cons_zero, Act.put, List.setIfInBounds_toArray, List.set_cons_zero, List.set_cons_succ]
      first
        | refine wpAnyH_take (i := 8) (v := undef) rfl (by kernel_rfl) (by kernel_rfl) (by kernel_rfl) (fun _ _ _ h => h) (Or.inr ⟨by rfl, rfl⟩) (by assumption) ?rest117
        | (refine wpAnyH_take (i := 8) (v := ?v117) rfl (by kernel_rfl) (by kernel_rfl) (by kernel_rfl) (fun _ _ _ h => h) (Or.inl ⟨by rfl, ?y117⟩) (by assumption) ?rest117; case y117 => (intro w hSw; have hT0 := (Mem.bl_row hSw rz (by first | exact Mem.Row.lt rz | omega | (simp <;> omega))).cell 0 rfl; clear hSw; go_simp; try with_reducible rfl))
      case' rest117 => skip
      try simp only [List.getElem_toArray, List.getElem_cons_succ, List.getElem_cons_zero, Act.put, List.setIfInBounds_toArray, List.set_cons_zero, List.set_cons_succ]
      first
        | refine wpAnyH_take (i := 9) (v := undef) rfl (by kernel_rfl) (by kernel_rfl) (by kernel_rfl) (fun _ _ _ h => h) (Or.inr ⟨by rfl, rfl⟩) (by assumption) ?rest118
        | (refine wpAnyH_take (i := 9) (v := ?v118) rfl (by kernel_rfl) (by kernel_rfl) (by kernel_rfl) (fun _ _ _ h => h) (Or.inl ⟨by rfl, ?y118⟩) (by assumption) ?rest118; case y118 => (intro w hSw; have hT0 := (Mem.bl_row hSw rz (by first | exact Mem.Row.lt rz | omega | (simp <;> omega))).cell 0 rfl; clear hSw; go_simp; try with_reducible rfl))
      case' rest118 => skip
      try simp only [List.getElem_toArray, List.getElem_cons_succ, List.getElem_cons_zero, Act.put, List.setIfInBounds_toArray, List.set_cons_zero, List.set_cons_succ]
      first
        | refine wpAnyH_take (i := 10) (v := undef) rfl (by kernel_rfl) (by kernel_rfl) (by kernel_rfl) (fun _ _ _ h => h) (Or.inr ⟨by rfl, rfl⟩) (by assumption) ?rest119
        | (refine wpAnyH_take (i := 10) (v := ?v119) rfl (by kernel_rfl) (by kernel_rfl) (by kernel_rfl) (fun _ _ _ h => h) (Or.inl ⟨by rfl, ?y119⟩) (by assumption) ?rest119; case y119 => (intro w hSw; have hT0 := (Mem.bl_row hSw rz (by first | exact Mem.Row.lt rz | omega | (simp <;> omega))).cell 0 rfl; clear hSw; go_simp; try with_reducible rfl))
      case' rest119 => skip
      try simp only [List.getElem_toArray, List.getElem_cons_succ, List.getElem_cons_zero, Act.put, List.setIfInBounds_toArray, List.set_cons_zero, List.set_cons_succ]
      first
        | refine wpAnyH_take (i := 11) (v := undef) rfl (by kernel_rfl) (by kernel_rfl) (by kernel_rfl) (fun _ _ _ h => h) (Or.inr ⟨by rfl, rfl⟩) (by assumption) ?rest120
        | (refine wpAnyH_take (i := 11) (v := ?v120) rfl (by kernel_rfl) (by kernel_rfl) (by kernel_rfl) (fun _ _ _ h => h) (Or.inl ⟨by rfl, ?y120⟩) (by assumption) ?rest120; case y120 => (intro w hSw; have hT0 := (Mem.bl_row hSw rz (by first | exact Mem.Row.lt rz | omega | (simp <;> omega))).cell 0 rfl; clear hSw; go_simp; try with_reducible rfl))
      case' rest120 => skip
      try simp only [List.getElem_toArray, List.getElem_cons_succ, List.getElem_cons_zero, Act.put, List.setIfInBounds_toArray, List.set_cons_zero, List.set_cons_succ]
      refine wpAnyH_take (i := 12) (v := ?v121) rfl (by kernel_rfl) (by kernel_rfl) (by kernel_rfl) (fun _ _ _ h => h) (Or.inl ⟨by rfl, ?y121⟩) (by assumption) ?rest121
      case y121 => (intro w hSw; have hT0 := (Mem.bl_row hSw rz (by first | exact Mem.Row.lt rz | omega | (simp <;> omega))).cell 0 rfl; clear hSw; go_simp; try with_reducible rfl)
      case' rest121 => skip
      try simp only [List.getElem_toArray, List.getElem_cons_succ, List.getElem_cons_zero, Act.put, List.setIfInBounds_toArray, List.set_cons_zero, List.set_cons_succ]
      refine wpAnyH_take (i := 13) (v := ?v122) rfl (by kernel_rfl) (by kernel_rfl) (by kernel_rfl) (fun _ _ _ h => h) (Or.inl ⟨by rfl, ?y122⟩) (by assumption) ?rest122
      case y122 => (intro w hSw; have hT0 := (Mem.bl_row hSw rz (by first | exact Mem.Row.lt rz | omega | (simp <;> omega))).cell 0 rfl; clear hSw; go_simp; try with_reducible rfl)
      case' rest122 => skip
      try simp only [List.getElem_toArray, List.getElem_cons_succ, List.getElem_cons_zero, Act.put, List.setIfInBounds_toArray, List.set_cons_zero, List.set_cons_succ]
      refine wpAnyH_ready (rs := [14]) (by kernel_rfl) (by simp) ?_
      refine AllReadyH.cons rfl (fun K hK => ?_) AllReadyH.nil
      go_simp
      (refine (works_any _).mono ?_; rintro e v4 ⟨rfl, hbl⟩)
      try go_wp2_with fail
      have hSnew := Mem.bl_step hHeld hbl (by first | exact Nat.le_refl _ | omega | (simp <;> omega))
      refine hK.out _ _ ?_ (fun hHeld2 => ?_)
      · exact hSnew
      clear hbl
      clear hK K hHeld hSnew
      have hHeld := hHeld2
      clear hHeld2
      try simp only [List.getElem_toArray, List.getElem_cons_succ, List.getElem_cons_zero, Act.put, List.setIfInBounds_toArray, List.set_cons_zero, List.set_cons_succ]
      refine wpAnyH_take (i := 15) (v := ?v123) rfl (by kernel_rfl) (by kernel_rfl) (by kernel_rfl) (fun _ _ _ h => h) (Or.inl ⟨by rfl, ?y123⟩) (by assumption) ?rest123
      case y123 => (intro w hSw; have hT0 := (Mem.bl_row hSw rz (by first | exact Mem.Row.lt rz | omega | (simp <;> omega))).cell 0 rfl; clear hSw; go_simp; try with_reducible rfl)
      case' rest123 => skip
      try simp only [List.getElem_toArray, List.getElem_cons_succ, List.getElem_cons_zero, Act.put, List.setIfInBounds_toArray, List.set_cons_zero, List.set_cons_succ]
      refine wpAnyH_take (i := 16) (v := ?v124) rfl (by kernel_rfl) (by kernel_rfl) (by kernel_rfl) (fun _ _ _ h => h) (Or.inl ⟨by rfl, ?y124⟩) (by assumption) ?rest124
      case y124 => (intro w hSw; have hT0 := (Mem.bl_row hSw rz (by first | exact Mem.Row.lt rz | omega | (simp <;> omega))).cell 0 rfl; clear hSw; go_simp; try with_reducible rfl)
      case' rest124 => skip
      try simp only [List.getElem_toArray, List.getElem_cons_succ, List.getElem_cons_zero, Act.put, List.setIfInBounds_toArray, List.set_cons_zero, List.set_cons_succ]
      refine wpAnyH_done (by kernel_rfl) ?_ _
      go_wp2
      go_ret
      exact ⟨rfl, bz.trans (((Below.refl _ _).drew.trans hHeld).mono bz.size)⟩
end Go.Proofs.Ytgcmgohknocfnaa.Opk
