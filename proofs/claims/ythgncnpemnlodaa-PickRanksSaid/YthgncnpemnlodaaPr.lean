/- The reference's Ahead. No statement is proved here. -/
import Derived.Test.YthgncnpemnlodaaPo
import Derived.Test.YthgncnpemnlodaaReG
namespace Go.Proofs.Ythgncnpemnlodaa.Fl
open Go.RowKit Go.Proofs.Ythgncnpemnlodaa.Open Go.Proofs.Ythgncnpemnlodaa.Mem
set_option linter.unusedVariables false
set_option linter.unusedSimpArgs false
def ahB (l : List Nat) (i k : Nat) : Bool := decide (0 < ord (wt l i) (wt l k)) || (ord (wt l i) (wt l k) == 0 && decide (i < k))
theorem ahB_iff (l : List Nat) (i k : Nat) : ahB l i k = true ↔ Ah l (i : Int) (k : Int) := by
  unfold ahB Ah
  simp
theorem ahead_any (A : Option Addr) (n c : Nat) (l : List Nat) (i k : Nat) (w : World) (hx : Sl w F A n l) (hs : ∀ x ∈ l, x < 18446744073709551616) (hi : i < n) (hk : k < n) :
    Calls Try.prog 43 #[.slice A n c, .int .i64 i, .int .i64 k] w fun e w' => e = .returned (.bool (ahB l i k)) ∧ Below w.heap.size w w' := by
  have hn := hx.1
  have hn63 := hx.2.1
  have hxd := hx.drew
  obtain ⟨ad, rfl, hadb, c1⟩ := hxd.at_ (show i < l.length by omega)
  obtain ⟨ad', e', hadb', c2⟩ := hxd.at_ (show k < l.length by omega)
  injection e' with e'
  subst e'
  have HB : Hid (ahB l i k = (decide (0 < ord (wt l i) (wt l k)) || (ord (wt l i) (wt l k) == 0 && decide (i < k)))) := Lib.hid rfl
  have C := Lib.hid (order5_bel l[i] l[k] (hs _ (List.getElem_mem _)) (hs _ (List.getElem_mem _)))
  rw [wt_nat l i (by omega), wt_nat l k (by omega)] at HB
  generalize l[i] = x at *
  generalize l[k] = y at *
  generalize ord x y = o at *
  generalize ahB l i k = r at *
  by_cases h1 : 0 < o
  · rw [decide_eq_true h1, Bool.true_or] at HB
    go_enter Try.func43, Try.ntmps43
    go_wp2_with fail
    refine wp_region_held_drew (S := Go.RowKit.Below ((w.drew).heap.size) (w.drew)) (by kernel_rfl) ?hb6 (fun hHeld => ?rest6)
    case hb6 =>
      exact Go.RowKit.Below.refl _ _
    case' rest6 => skip
    refine wpAnyH_take (i := 0) (v := ?v7) rfl (by kernel_rfl) (by kernel_rfl) (by kernel_rfl) (fun _ _ _ h => h) (Or.inl ⟨by rfl, ?y7⟩) (by assumption) ?rest7
    case y7 => (intro w hSw; have hT0 := Mem.bl_cell hSw c1 (by first | omega | exact World.block_lt_of_cell? _ _ c1 | (simp <;> omega)); have hT1 := Mem.bl_cell hSw c2 (by first | omega | exact World.block_lt_of_cell? _ _ c2 | (simp <;> omega)); clear hSw; go_simp; try with_reducible rfl)
    case' rest7 => skip
    try simp only [List.getElem_toArray, List.getElem_cons_succ, List.getElem_cons_zero, Act.put, List.setIfInBounds_toArray, List.set_cons_zero, List.set_cons_succ]
    refine wpAnyH_take (i := 1) (v := ?v8) rfl (by kernel_rfl) (by kernel_rfl) (by kernel_rfl) (fun _ _ _ h => h) (Or.inl ⟨by rfl, ?y8⟩) (by assumption) ?rest8
    case y8 => (intro w hSw; have hT0 := Mem.bl_cell hSw c1 (by first | omega | exact World.block_lt_of_cell? _ _ c1 | (simp <;> omega)); have hT1 := Mem.bl_cell hSw c2 (by first | omega | exact World.block_lt_of_cell? _ _ c2 | (simp <;> omega)); clear hSw; go_simp; try with_reducible rfl)
    case' rest8 => skip
    try simp only [List.getElem_toArray, List.getElem_cons_succ, List.getElem_cons_zero, Act.put, List.setIfInBounds_toArray, List.set_cons_zero, List.set_cons_succ]
    refine wpAnyH_take (i := 2) (v := ?v9) rfl (by kernel_rfl) (by kernel_rfl) (by kernel_rfl) (fun _ _ _ h => h) (Or.inl ⟨by rfl, ?y9⟩) (by assumption) ?rest9
    case y9 => (intro w hSw; have hT0 := Mem.bl_cell hSw c1 (by first | omega | exact World.block_lt_of_cell? _ _ c1 | (simp <;> omega)); have hT1 := Mem.bl_cell hSw c2 (by first | omega | exact World.block_lt_of_cell? _ _ c2 | (simp <;> omega)); clear hSw; go_simp; try with_reducible rfl)
    case' rest9 => skip
    try simp only [List.getElem_toArray, List.getElem_cons_succ, List.getElem_cons_zero, Act.put, List.setIfInBounds_toArray, List.set_cons_zero, List.set_cons_succ]
    refine wpAnyH_take (i := 3) (v := ?v10) rfl (by kernel_rfl) (by kernel_rfl) (by kernel_rfl) (fun _ _ _ h => h) (Or.inl ⟨by rfl, ?y10⟩) (by assumption) ?rest10
    case y10 => (intro w hSw; have hT0 := Mem.bl_cell hSw c1 (by first | omega | exact World.block_lt_of_cell? _ _ c1 | (simp <;> omega)); have hT1 := Mem.bl_cell hSw c2 (by first | omega | exact World.block_lt_of_cell? _ _ c2 | (simp <;> omega)); clear hSw; go_simp; try with_reducible rfl)
    case' rest10 => skip
    try simp only [List.getElem_toArray, List.getElem_cons_succ, List.getElem_cons_zero, Act.put, List.setIfInBounds_toArray, List.set_cons_zero, List.set_cons_succ]
    refine wpAnyH_take (i := 4) (v := ?v11) rfl (by kernel_rfl) (by kernel_rfl) (by kernel_rfl) (fun _ _ _ h => h) (Or.inl ⟨by rfl, ?y11⟩) (by assumption) ?rest11
    case y11 => (intro w hSw; have hT0 := Mem.bl_cell hSw c1 (by first | omega | exact World.block_lt_of_cell? _ _ c1 | (simp <;> omega)); have hT1 := Mem.bl_cell hSw c2 (by first | omega | exact World.block_lt_of_cell? _ _ c2 | (simp <;> omega)); clear hSw; go_simp; try with_reducible rfl)
    case' rest11 => skip
    try simp only [List.getElem_toArray, List.getElem_cons_succ, List.getElem_cons_zero, Act.put, List.setIfInBounds_toArray, List.set_cons_zero, List.set_cons_succ]
    refine wpAnyH_take (i := 5) (v := ?v12) rfl (by kernel_rfl) (by kernel_rfl) (by kernel_rfl) (fun _ _ _ h => h) (Or.inl ⟨by rfl, ?y12⟩) (by assumption) ?rest12
    case y12 => (intro w hSw; have hT0 := Mem.bl_cell hSw c1 (by first | omega | exact World.block_lt_of_cell? _ _ c1 | (simp <;> omega)); have hT1 := Mem.bl_cell hSw c2 (by first | omega | exact World.block_lt_of_cell? _ _ c2 | (simp <;> omega)); clear hSw; go_simp; try with_reducible rfl)
    case' rest12 => skip
    try simp only [List.getElem_toArray, List.getElem_cons_succ, List.getElem_cons_zero, Act.put, List.setIfInBounds_toArray, List.set_cons_zero, List.set_cons_succ]
    refine wpAnyH_take (i := 6) (v := ?v13) rfl (by kernel_rfl) (by kernel_rfl) (by kernel_rfl) (fun _ _ _ h => h) (Or.inl ⟨by rfl, ?y13⟩) (by assumption) ?rest13
    case y13 => (intro w hSw; have hT0 := Mem.bl_cell hSw c1 (by first | omega | exact World.block_lt_of_cell? _ _ c1 | (simp <;> omega)); have hT1 := Mem.bl_cell hSw c2 (by first | omega | exact World.block_lt_of_cell? _ _ c2 | (simp <;> omega)); clear hSw; go_simp; try with_reducible rfl)
    case' rest13 => skip
    try simp only [List.getElem_toArray, List.getElem_cons_succ, List.getElem_cons_zero, Act.put, List.setIfInBounds_toArray, List.set_cons_zero, List.set_cons_succ]
    refine wpAnyH_take (i := 7) (v := ?v14) rfl (by kernel_rfl) (by kernel_rfl) (by kernel_rfl) (fun _ _ _ h => h) (Or.inl ⟨by rfl, ?y14⟩) (by assumption) ?rest14
    case y14 => (intro w hSw; have hT0 := Mem.bl_cell hSw c1 (by first | omega | exact World.block_lt_of_cell? _ _ c1 | (simp <;> omega)); have hT1 := Mem.bl_cell hSw c2 (by first | omega | exact World.block_lt_of_cell? _ _ c2 | (simp <;> omega)); clear hSw; go_simp; try with_reducible rfl)
    case' rest14 => skip
    try simp only [List.getElem_toArray, List.getElem_cons_succ, List.getElem_cons_zero, Act.put, List.setIfInBounds_toArray, List.set_cons_zero, List.set_cons_succ]
    refine wpAnyH_ready (rs := [8]) (by kernel_rfl) (by simp) ?_
    refine AllReadyH.cons rfl (fun K hK => ?_) AllReadyH.nil
    go_simp
    (refine (C.out _).mono ?_; rintro e w4 ⟨rfl, hbl⟩)
    try go_wp2_with fail
    have hSnew := Mem.bl_step hHeld hbl (by first | exact Nat.le_refl _ | omega | (simp <;> omega))
    refine hK.out _ _ ?_ (fun hHeld2 => ?_)
    · exact hSnew
    clear hbl
    clear hK K hHeld hSnew
    have hHeld := hHeld2
    clear hHeld2
    try simp only [List.getElem_toArray, List.getElem_cons_succ, List.getElem_cons_zero, Act.put, List.setIfInBounds_toArray, List.set_cons_zero, List.set_cons_succ]
    refine wpAnyH_take (i := 9) (v := ?v15) rfl (by kernel_rfl) (by kernel_rfl) (by kernel_rfl) (fun _ _ _ h => h) (Or.inl ⟨by rfl, ?y15⟩) (by assumption) ?rest15
    case y15 => (intro w hSw; have hT0 := Mem.bl_cell hSw c1 (by first | omega | exact World.block_lt_of_cell? _ _ c1 | (simp <;> omega)); have hT1 := Mem.bl_cell hSw c2 (by first | omega | exact World.block_lt_of_cell? _ _ c2 | (simp <;> omega)); clear hSw; go_simp; try with_reducible rfl)
    case' rest15 => skip
    try simp only [List.getElem_toArray, List.getElem_cons_succ, List.getElem_cons_zero, Act.put, List.setIfInBounds_toArray, List.set_cons_zero, List.set_cons_succ]
    refine wpAnyH_done (by kernel_rfl) ?_ _
    go_wp2
    go_ret
    exact ⟨ret_bool (by first | exact HB.out.symm | (rw [HB.out]; exact decide_eq_false (by omega))), (Below.refl _ _).drew.trans hHeld⟩
  rw [decide_eq_false h1, Bool.false_or] at HB
  by_cases h2 : o = 0
  · subst h2
    by_cases h3 : i < k
    · rw [decide_eq_true h3] at HB
      replace HB : Hid (r = true) := HB
      go_enter Try.func43, Try.ntmps43
      go_wp2_with fail
      refine wp_region_held_drew (S := Go.RowKit.Below ((w.drew).heap.size) (w.drew)) (by kernel_rfl) ?hb21 (fun hHeld => ?rest21)
      case hb21 =>
        exact Go.RowKit.Below.refl _ _
      case' rest21 => skip
      refine wpAnyH_take (i := 0) (v := ?v22) rfl (by kernel_rfl) (by kernel_rfl) (by kernel_rfl) (fun _ _ _ h => h) (Or.inl ⟨by rfl, ?y22⟩) (by assumption) ?rest22
      case y22 => (intro w hSw; have hT0 := Mem.bl_cell hSw c1 (by first | omega | exact World.block_lt_of_cell? _ _ c1 | (simp <;> omega)); have hT1 := Mem.bl_cell hSw c2 (by first | omega | exact World.block_lt_of_cell? _ _ c2 | (simp <;> omega)); clear hSw; go_simp; try with_reducible rfl)
      case' rest22 => skip
      try simp only [List.getElem_toArray, List.getElem_cons_succ, List.getElem_cons_zero, Act.put, List.setIfInBounds_toArray, List.set_cons_zero, List.set_cons_succ]
      refine wpAnyH_take (i := 1) (v := ?v23) rfl (by kernel_rfl) (by kernel_rfl) (by kernel_rfl) (fun _ _ _ h => h) (Or.inl ⟨by rfl, ?y23⟩) (by assumption) ?rest23
      case y23 => (intro w hSw; have hT0 := Mem.bl_cell hSw c1 (by first | omega | exact World.block_lt_of_cell? _ _ c1 | (simp <;> omega)); have hT1 := Mem.bl_cell hSw c2 (by first | omega | exact World.block_lt_of_cell? _ _ c2 | (simp <;> omega)); clear hSw; go_simp; try with_reducible rfl)
      case' rest23 => skip
      try simp only [List.getElem_toArray, List.getElem_cons_succ, List.getElem_cons_zero, Act.put, List.setIfInBounds_toArray, List.set_cons_zero, List.set_cons_succ]
      refine wpAnyH_take (i := 2) (v := ?v24) rfl (by kernel_rfl) (by kernel_rfl) (by kernel_rfl) (fun _ _ _ h => h) (Or.inl ⟨by rfl, ?y24⟩) (by assumption) ?rest24
      case y24 => (intro w hSw; have hT0 := Mem.bl_cell hSw c1 (by first | omega | exact World.block_lt_of_cell? _ _ c1 | (simp <;> omega)); have hT1 := Mem.bl_cell hSw c2 (by first | omega | exact World.block_lt_of_cell? _ _ c2 | (simp <;> omega)); clear hSw; go_simp; try with_reducible rfl)
      case' rest24 => skip
      try simp only [List.getElem_toArray, List.getElem_cons_succ, List.getElem_cons_zero, Act.put, List.setIfInBounds_toArray, List.set_cons_zero, List.set_cons_succ]
      refine wpAnyH_take (i := 3) (v := ?v25) rfl (by kernel_rfl) (by kernel_rfl) (by kernel_rfl) (fun _ _ _ h => h) (Or.inl ⟨by rfl, ?y25⟩) (by assumption) ?rest25
      case y25 => (intro w hSw; have hT0 := Mem.bl_cell hSw c1 (by first | omega | exact World.block_lt_of_cell? _ _ c1 | (simp <;> omega)); have hT1 := Mem.bl_cell hSw c2 (by first | omega | exact World.block_lt_of_cell? _ _ c2 | (simp <;> omega)); clear hSw; go_simp; try with_reducible rfl)
      case' rest25 => skip
      try simp only [List.getElem_toArray, List.getElem_cons_succ, List.getElem_cons_zero, Act.put, List.setIfInBounds_toArray, List.set_cons_zero, List.set_cons_succ]
      refine wpAnyH_take (i := 4) (v := ?v26) rfl (by kernel_rfl) (by kernel_rfl) (by kernel_rfl) (fun _ _ _ h => h) (Or.inl ⟨by rfl, ?y26⟩) (by assumption) ?rest26
      case y26 => (intro w hSw; have hT0 := Mem.bl_cell hSw c1 (by first | omega | exact World.block_lt_of_cell? _ _ c1 | (simp <;> omega)); have hT1 := Mem.bl_cell hSw c2 (by first | omega | exact World.block_lt_of_cell? _ _ c2 | (simp <;> omega)); clear hSw; go_simp; try with_reducible rfl)
      case' rest26 => skip
      try simp only [List.getElem_toArray, List.getElem_cons_succ, List.getElem_cons_zero, Act.put, List.setIfInBounds_toArray, List.set_cons_zero, List.set_cons_succ]
      refine wpAnyH_take (i := 5) (v := ?v27) rfl (by kernel_rfl) (by kernel_rfl) (by kernel_rfl) (fun _ _ _ h => h) (Or.inl ⟨by rfl, ?y27⟩) (by assumption) ?rest27
      case y27 => (intro w hSw; have hT0 := Mem.bl_cell hSw c1 (by first | omega | exact World.block_lt_of_cell? _ _ c1 | (simp <;> omega)); have hT1 := Mem.bl_cell hSw c2 (by first | omega | exact World.block_lt_of_cell? _ _ c2 | (simp <;> omega)); clear hSw; go_simp; try with_reducible rfl)
      case' rest27 => skip
      try simp only [List.getElem_toArray, List.getElem_cons_succ, List.getElem_cons_zero, Act.put, List.setIfInBounds_toArray, List.set_cons_zero, List.set_cons_succ]
      refine wpAnyH_take (i := 6) (v := ?v28) rfl (by kernel_rfl) (by kernel_rfl) (by kernel_rfl) (fun _ _ _ h => h) (Or.inl ⟨by rfl, ?y28⟩) (by assumption) ?rest28
      case y28 => (intro w hSw; have hT0 := Mem.bl_cell hSw c1 (by first | omega | exact World.block_lt_of_cell? _ _ c1 | (simp <;> omega)); have hT1 := Mem.bl_cell hSw c2 (by first | omega | exact World.block_lt_of_cell? _ _ c2 | (simp <;> omega)); clear hSw; go_simp; try with_reducible rfl)
      case' rest28 => skip
      try simp only [List.getElem_toArray, List.getElem_cons_succ, List.getElem_cons_zero, Act.put, List.setIfInBounds_toArray, List.set_cons_zero, List.set_cons_succ]
      refine wpAnyH_take (i := 7) (v := ?v29) rfl (by kernel_rfl) (by kernel_rfl) (by kernel_rfl) (fun _ _ _ h => h) (Or.inl ⟨by rfl, ?y29⟩) (by assumption) ?rest29
      case y29 => (intro w hSw; have hT0 := Mem.bl_cell hSw c1 (by first | omega | exact World.block_lt_of_cell? _ _ c1 | (simp <;> omega)); have hT1 := Mem.bl_cell hSw c2 (by first | omega | exact World.block_lt_of_cell? _ _ c2 | (simp <;> omega)); clear hSw; go_simp; try with_reducible rfl)
      case' rest29 => skip
      try simp only [List.getElem_toArray, List.getElem_cons_succ, List.getElem_cons_zero, Act.put, List.setIfInBounds_toArray, List.set_cons_zero, List.set_cons_succ]
      refine wpAnyH_ready (rs := [8]) (by kernel_rfl) (by simp) ?_
      refine AllReadyH.cons rfl (fun K hK => ?_) AllReadyH.nil
      go_simp
      (refine (C.out _).mono ?_; rintro e w4 ⟨rfl, hbl⟩)
      try go_wp2_with fail
      have hSnew := Mem.bl_step hHeld hbl (by first | exact Nat.le_refl _ | omega | (simp <;> omega))
      refine hK.out _ _ ?_ (fun hHeld2 => ?_)
      · exact hSnew
      clear hbl
      clear hK K hHeld hSnew
      have hHeld := hHeld2
      clear hHeld2
      try simp only [List.getElem_toArray, List.getElem_cons_succ, List.getElem_cons_zero, Act.put, List.setIfInBounds_toArray, List.set_cons_zero, List.set_cons_succ]
      refine wpAnyH_take (i := 9) (v := ?v30) rfl (by kernel_rfl) (by kernel_rfl) (by kernel_rfl) (fun _ _ _ h => h) (Or.inl ⟨by rfl, ?y30⟩) (by assumption) ?rest30
      case y30 => (intro w hSw; have hT0 := Mem.bl_cell hSw c1 (by first | omega | exact World.block_lt_of_cell? _ _ c1 | (simp <;> omega)); have hT1 := Mem.bl_cell hSw c2 (by first | omega | exact World.block_lt_of_cell? _ _ c2 | (simp <;> omega)); clear hSw; go_simp; try with_reducible rfl)
      case' rest30 => skip
      try simp only [List.getElem_toArray, List.getElem_cons_succ, List.getElem_cons_zero, Act.put, List.setIfInBounds_toArray, List.set_cons_zero, List.set_cons_succ]
      refine wpAnyH_done (by kernel_rfl) ?_ _
      go_wp2
      go_ret
      exact ⟨ret_bool (by first | exact HB.out.symm | (rw [HB.out]; exact decide_eq_false (by omega))), (Below.refl _ _).drew.trans hHeld⟩
    · rw [decide_eq_false h3] at HB
      replace HB : Hid (r = false) := HB
      go_enter Try.func43, Try.ntmps43
      go_wp2_with fail
      refine wp_region_held_drew (S := Go.RowKit.Below ((w.drew).heap.size) (w.drew)) (by kernel_rfl) ?hb36 (fun hHeld => ?rest36)
      case hb36 =>
        exact Go.RowKit.Below.refl _ _
      case' rest36 => skip
      refine wpAnyH_take (i := 0) (v := ?v37) rfl (by kernel_rfl) (by kernel_rfl) (by kernel_rfl) (fun _ _ _ h => h) (Or.inl ⟨by rfl, ?y37⟩) (by assumption) ?rest37
      case y37 => (intro w hSw; have hT0 := Mem.bl_cell hSw c1 (by first | omega | exact World.block_lt_of_cell? _ _ c1 | (simp <;> omega)); have hT1 := Mem.bl_cell hSw c2 (by first | omega | exact World.block_lt_of_cell? _ _ c2 | (simp <;> omega)); clear hSw; go_simp; try with_reducible rfl)
      case' rest37 => skip
      try simp only [List.getElem_toArray, List.getElem_cons_succ, List.getElem_cons_zero, Act.put, List.setIfInBounds_toArray, List.set_cons_zero, List.set_cons_succ]
      refine wpAnyH_take (i := 1) (v := ?v38) rfl (by kernel_rfl) (by kernel_rfl) (by kernel_rfl) (fun _ _ _ h => h) (Or.inl ⟨by rfl, ?y38⟩) (by assumption) ?rest38
      case y38 => (intro w hSw; have hT0 := Mem.bl_cell hSw c1 (by first | omega | exact World.block_lt_of_cell? _ _ c1 | (simp <;> omega)); have hT1 := Mem.bl_cell hSw c2 (by first | omega | exact World.block_lt_of_cell? _ _ c2 | (simp <;> omega)); clear hSw; go_simp; try with_reducible rfl)
      case' rest38 => skip
      try simp only [List.getElem_toArray, List.getElem_cons_succ, List.getElem_cons_zero, Act.put, List.setIfInBounds_toArray, List.set_cons_zero, List.set_cons_succ]
      refine wpAnyH_take (i := 2) (v := ?v39) rfl (by kernel_rfl) (by kernel_rfl) (by kernel_rfl) (fun _ _ _ h => h) (Or.inl ⟨by rfl, ?y39⟩) (by assumption) ?rest39
      case y39 => (intro w hSw; have hT0 := Mem.bl_cell hSw c1 (by first | omega | exact World.block_lt_of_cell? _ _ c1 | (simp <;> omega)); have hT1 := Mem.bl_cell hSw c2 (by first | omega | exact World.block_lt_of_cell? _ _ c2 | (simp <;> omega)); clear hSw; go_simp; try with_reducible rfl)
      case' rest39 => skip
      try simp only [List.getElem_toArray, List.getElem_cons_succ, List.getElem_cons_zero, Act.put, List.setIfInBounds_toArray, List.set_cons_zero, List.set_cons_succ]
      refine wpAnyH_take (i := 3) (v := ?v40) rfl (by kernel_rfl) (by kernel_rfl) (by kernel_rfl) (fun _ _ _ h => h) (Or.inl ⟨by rfl, ?y40⟩) (by assumption) ?rest40
      case y40 => (intro w hSw; have hT0 := Mem.bl_cell hSw c1 (by first | omega | exact World.block_lt_of_cell? _ _ c1 | (simp <;> omega)); have hT1 := Mem.bl_cell hSw c2 (by first | omega | exact World.block_lt_of_cell? _ _ c2 | (simp <;> omega)); clear hSw; go_simp; try with_reducible rfl)
      case' rest40 => skip
      try simp only [List.getElem_toArray, List.getElem_cons_succ, List.getElem_cons_zero, Act.put, List.setIfInBounds_toArray, List.set_cons_zero, List.set_cons_succ]
      refine wpAnyH_take (i := 4) (v := ?v41) rfl (by kernel_rfl) (by kernel_rfl) (by kernel_rfl) (fun _ _ _ h => h) (Or.inl ⟨by rfl, ?y41⟩) (by assumption) ?rest41
      case y41 => (intro w hSw; have hT0 := Mem.bl_cell hSw c1 (by first | omega | exact World.block_lt_of_cell? _ _ c1 | (simp <;> omega)); have hT1 := Mem.bl_cell hSw c2 (by first | omega | exact World.block_lt_of_cell? _ _ c2 | (simp <;> omega)); clear hSw; go_simp; try with_reducible rfl)
      case' rest41 => skip
      try simp only [List.getElem_toArray, List.getElem_cons_succ, List.getElem_cons_zero, Act.put, List.setIfInBounds_toArray, List.set_cons_zero, List.set_cons_succ]
      refine wpAnyH_take (i := 5) (v := ?v42) rfl (by kernel_rfl) (by kernel_rfl) (by kernel_rfl) (fun _ _ _ h => h) (Or.inl ⟨by rfl, ?y42⟩) (by assumption) ?rest42
      case y42 => (intro w hSw; have hT0 := Mem.bl_cell hSw c1 (by first | omega | exact World.block_lt_of_cell? _ _ c1 | (simp <;> omega)); have hT1 := Mem.bl_cell hSw c2 (by first | omega | exact World.block_lt_of_cell? _ _ c2 | (simp <;> omega)); clear hSw; go_simp; try with_reducible rfl)
      case' rest42 => skip
      try simp only [List.getElem_toArray, List.getElem_cons_succ, List.getElem_cons_zero, Act.put, List.setIfInBounds_toArray, List.set_cons_zero, List.set_cons_succ]
      refine wpAnyH_take (i := 6) (v := ?v43) rfl (by kernel_rfl) (by kernel_rfl) (by kernel_rfl) (fun _ _ _ h => h) (Or.inl ⟨by rfl, ?y43⟩) (by assumption) ?rest43
      case y43 => (intro w hSw; have hT0 := Mem.bl_cell hSw c1 (by first | omega | exact World.block_lt_of_cell? _ _ c1 | (simp <;> omega)); have hT1 := Mem.bl_cell hSw c2 (by first | omega | exact World.block_lt_of_cell? _ _ c2 | (simp <;> omega)); clear hSw; go_simp; try with_reducible rfl)
      case' rest43 => skip
      try simp only [List.getElem_toArray, List.getElem_cons_succ, List.getElem_cons_zero, Act.put, List.setIfInBounds_toArray, List.set_cons_zero, List.set_cons_succ]
      refine wpAnyH_take (i := 7) (v := ?v44) rfl (by kernel_rfl) (by kernel_rfl) (by kernel_rfl) (fun _ _ _ h => h) (Or.inl ⟨by rfl, ?y44⟩) (by assumption) ?rest44
      case y44 => (intro w hSw; have hT0 := Mem.bl_cell hSw c1 (by first | omega | exact World.block_lt_of_cell? _ _ c1 | (simp <;> omega)); have hT1 := Mem.bl_cell hSw c2 (by first | omega | exact World.block_lt_of_cell? _ _ c2 | (simp <;> omega)); clear hSw; go_simp; try with_reducible rfl)
      case' rest44 => skip
      try simp only [List.getElem_toArray, List.getElem_cons_succ, List.getElem_cons_zero, Act.put, List.setIfInBounds_toArray, List.set_cons_zero, List.set_cons_succ]
      refine wpAnyH_ready (rs := [8]) (by kernel_rfl) (by simp) ?_
      refine AllReadyH.cons rfl (fun K hK => ?_) AllReadyH.nil
      go_simp
      (refine (C.out _).mono ?_; rintro e w4 ⟨rfl, hbl⟩)
      try go_wp2_with fail
      have hSnew := Mem.bl_step hHeld hbl (by first | exact Nat.le_refl _ | omega | (simp <;> omega))
      refine hK.out _ _ ?_ (fun hHeld2 => ?_)
      · exact hSnew
      clear hbl
      clear hK K hHeld hSnew
      have hHeld := hHeld2
      clear hHeld2
      try simp only [List.getElem_toArray, List.getElem_cons_succ, List.getElem_cons_zero, Act.put, List.setIfInBounds_toArray, List.set_cons_zero, List.set_cons_succ]
      refine wpAnyH_take (i := 9) (v := ?v45) rfl (by kernel_rfl) (by kernel_rfl) (by kernel_rfl) (fun _ _ _ h => h) (Or.inl ⟨by rfl, ?y45⟩) (by assumption) ?rest45
      case y45 => (intro w hSw; have hT0 := Mem.bl_cell hSw c1 (by first | omega | exact World.block_lt_of_cell? _ _ c1 | (simp <;> omega)); have hT1 := Mem.bl_cell hSw c2 (by first | omega | exact World.block_lt_of_cell? _ _ c2 | (simp <;> omega)); clear hSw; go_simp; try with_reducible rfl)
      case' rest45 => skip
      try simp only [List.getElem_toArray, List.getElem_cons_succ, List.getElem_cons_zero, Act.put, List.setIfInBounds_toArray, List.set_cons_zero, List.set_cons_succ]
      refine wpAnyH_done (by kernel_rfl) ?_ _
      go_wp2
      go_ret
      exact ⟨ret_bool (by first | exact HB.out.symm | (rw [HB.out]; exact decide_eq_false (by omega))), (Below.refl _ _).drew.trans hHeld⟩
  · rw [show (o == 0) = false from by rw [beq_eq_false_iff_ne]; exact h2, Bool.false_and] at HB
    go_enter Try.func43, Try.ntmps43
    go_wp2_with fail
    refine wp_region_held_drew (S := Go.RowKit.Below ((w.drew).heap.size) (w.drew)) (by kernel_rfl) ?hb51 (fun hHeld => ?rest51)
    case hb51 =>
      exact Go.RowKit.Below.refl _ _
    case' rest51 => skip
    refine wpAnyH_take (i := 0) (v := ?v52) rfl (by kernel_rfl) (by kernel_rfl) (by kernel_rfl) (fun _ _ _ h => h) (Or.inl ⟨by rfl, ?y52⟩) (by assumption) ?rest52
    case y52 => (intro w hSw; have hT0 := Mem.bl_cell hSw c1 (by first | omega | exact World.block_lt_of_cell? _ _ c1 | (simp <;> omega)); have hT1 := Mem.bl_cell hSw c2 (by first | omega | exact World.block_lt_of_cell? _ _ c2 | (simp <;> omega)); clear hSw; go_simp; try with_reducible rfl)
    case' rest52 => skip
    try simp only [List.getElem_toArray, List.getElem_cons_succ, List.getElem_cons_zero, Act.put, List.setIfInBounds_toArray, List.set_cons_zero, List.set_cons_succ]
    refine wpAnyH_take (i := 1) (v := ?v53) rfl (by kernel_rfl) (by kernel_rfl) (by kernel_rfl) (fun _ _ _ h => h) (Or.inl ⟨by rfl, ?y53⟩) (by assumption) ?rest53
    case y53 => (intro w hSw; have hT0 := Mem.bl_cell hSw c1 (by first | omega | exact World.block_lt_of_cell? _ _ c1 | (simp <;> omega)); have hT1 := Mem.bl_cell hSw c2 (by first | omega | exact World.block_lt_of_cell? _ _ c2 | (simp <;> omega)); clear hSw; go_simp; try with_reducible rfl)
    case' rest53 => skip
    try simp only [List.getElem_toArray, List.getElem_cons_succ, List.getElem_cons_zero, Act.put, List.setIfInBounds_toArray, List.set_cons_zero, List.set_cons_succ]
    refine wpAnyH_take (i := 2) (v := ?v54) rfl (by kernel_rfl) (by kernel_rfl) (by kernel_rfl) (fun _ _ _ h => h) (Or.inl ⟨by rfl, ?y54⟩) (by assumption) ?rest54
    case y54 => (intro w hSw; have hT0 := Mem.bl_cell hSw c1 (by first | omega | exact World.block_lt_of_cell? _ _ c1 | (simp <;> omega)); have hT1 := Mem.bl_cell hSw c2 (by first | omega | exact World.block_lt_of_cell? _ _ c2 | (simp <;> omega)); clear hSw; go_simp; try with_reducible rfl)
    case' rest54 => skip
    try simp only [List.getElem_toArray, List.getElem_cons_succ, List.getElem_cons_zero, Act.put, List.setIfInBounds_toArray, List.set_cons_zero, List.set_cons_succ]
    refine wpAnyH_take (i := 3) (v := ?v55) rfl (by kernel_rfl) (by kernel_rfl) (by kernel_rfl) (fun _ _ _ h => h) (Or.inl ⟨by rfl, ?y55⟩) (by assumption) ?rest55
    case y55 => (intro w hSw; have hT0 := Mem.bl_cell hSw c1 (by first | omega | exact World.block_lt_of_cell? _ _ c1 | (simp <;> omega)); have hT1 := Mem.bl_cell hSw c2 (by first | omega | exact World.block_lt_of_cell? _ _ c2 | (simp <;> omega)); clear hSw; go_simp; try with_reducible rfl)
    case' rest55 => skip
    try simp only [List.getElem_toArray, List.getElem_cons_succ, List.getElem_cons_zero, Act.put, List.setIfInBounds_toArray, List.set_cons_zero, List.set_cons_succ]
    refine wpAnyH_take (i := 4) (v := ?v56) rfl (by kernel_rfl) (by kernel_rfl) (by kernel_rfl) (fun _ _ _ h => h) (Or.inl ⟨by rfl, ?y56⟩) (by assumption) ?rest56
    case y56 => (intro w hSw; have hT0 := Mem.bl_cell hSw c1 (by first | omega | exact World.block_lt_of_cell? _ _ c1 | (simp <;> omega)); have hT1 := Mem.bl_cell hSw c2 (by first | omega | exact World.block_lt_of_cell? _ _ c2 | (simp <;> omega)); clear hSw; go_simp; try with_reducible rfl)
    case' rest56 => skip
    try simp only [List.getElem_toArray, List.getElem_cons_succ, List.getElem_cons_zero, Act.put, List.setIfInBounds_toArray, List.set_cons_zero, List.set_cons_succ]
    refine wpAnyH_take (i := 5) (v := ?v57) rfl (by kernel_rfl) (by kernel_rfl) (by kernel_rfl) (fun _ _ _ h => h) (Or.inl ⟨by rfl, ?y57⟩) (by assumption) ?rest57
    case y57 => (intro w hSw; have hT0 := Mem.bl_cell hSw c1 (by first | omega | exact World.block_lt_of_cell? _ _ c1 | (simp <;> omega)); have hT1 := Mem.bl_cell hSw c2 (by first | omega | exact World.block_lt_of_cell? _ _ c2 | (simp <;> omega)); clear hSw; go_simp; try with_reducible rfl)
    case' rest57 => skip
    try simp only [List.getElem_toArray, List.getElem_cons_succ, List.getElem_cons_zero, Act.put, List.setIfInBounds_toArray, List.set_cons_zero, List.set_cons_succ]
    refine wpAnyH_take (i := 6) (v := ?v58) rfl (by kernel_rfl) (by kernel_rfl) (by kernel_rfl) (fun _ _ _ h => h) (Or.inl ⟨by rfl, ?y58⟩) (by assumption) ?rest58
    case y58 => (intro w hSw; have hT0 := Mem.bl_cell hSw c1 (by first | omega | exact World.block_lt_of_cell? _ _ c1 | (simp <;> omega)); have hT1 := Mem.bl_cell hSw c2 (by first | omega | exact World.block_lt_of_cell? _ _ c2 | (simp <;> omega)); clear hSw; go_simp; try with_reducible rfl)
    case' rest58 => skip
    try simp only [List.getElem_toArray, List.getElem_cons_succ, List.getElem_cons_zero, Act.put, List.setIfInBounds_toArray, List.set_cons_zero, List.set_cons_succ]
    refine wpAnyH_take (i := 7) (v := ?v59) rfl (by kernel_rfl) (by kernel_rfl) (by kernel_rfl) (fun _ _ _ h => h) (Or.inl ⟨by rfl, ?y59⟩) (by assumption) ?rest59
    case y59 => (intro w hSw; have hT0 := Mem.bl_cell hSw c1 (by first | omega | exact World.block_lt_of_cell? _ _ c1 | (simp <;> omega)); have hT1 := Mem.bl_cell hSw c2 (by first | omega | exact World.block_lt_of_cell? _ _ c2 | (simp <;> omega)); clear hSw; go_simp; try with_reducible rfl)
    case' rest59 => skip
    try simp only [List.getElem_toArray, List.getElem_cons_succ, List.getElem_cons_zero, Act.put, List.setIfInBounds_toArray, List.set_cons_zero, List.set_cons_succ]
    refine wpAnyH_ready (rs := [8]) (by kernel_rfl) (by simp) ?_
    refine AllReadyH.cons rfl (fun K hK => ?_) AllReadyH.nil
    go_simp
    (refine (C.out _).mono ?_; rintro e w4 ⟨rfl, hbl⟩)
    try go_wp2_with fail
    have hSnew := Mem.bl_step hHeld hbl (by first | exact Nat.le_refl _ | omega | (simp <;> omega))
    refine hK.out _ _ ?_ (fun hHeld2 => ?_)
    · exact hSnew
    clear hbl
    clear hK K hHeld hSnew
    have hHeld := hHeld2
    clear hHeld2
    try simp only [List.getElem_toArray, List.getElem_cons_succ, List.getElem_cons_zero, Act.put, List.setIfInBounds_toArray, List.set_cons_zero, List.set_cons_succ]
    refine wpAnyH_take (i := 9) (v := ?v60) rfl (by kernel_rfl) (by kernel_rfl) (by kernel_rfl) (fun _ _ _ h => h) (Or.inl ⟨by rfl, ?y60⟩) (by assumption) ?rest60
    case y60 => (intro w hSw; have hT0 := Mem.bl_cell hSw c1 (by first | omega | exact World.block_lt_of_cell? _ _ c1 | (simp <;> omega)); have hT1 := Mem.bl_cell hSw c2 (by first | omega | exact World.block_lt_of_cell? _ _ c2 | (simp <;> omega)); clear hSw; go_simp; try with_reducible rfl)
    case' rest60 => skip
    try simp only [List.getElem_toArray, List.getElem_cons_succ, List.getElem_cons_zero, Act.put, List.setIfInBounds_toArray, List.set_cons_zero, List.set_cons_succ]
    refine wpAnyH_done (by kernel_rfl) ?_ _
    go_wp2
    go_ret
    exact ⟨ret_bool (by first | exact HB.out.symm | (rw [HB.out]; exact decide_eq_false (by omega))), (Below.refl _ _).drew.trans hHeld⟩
end Go.Proofs.Ythgncnpemnlodaa.Fl
