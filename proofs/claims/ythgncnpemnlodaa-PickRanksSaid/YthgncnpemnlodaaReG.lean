/- The statement RealGreatest: the walk. -/
import Derived.Test.YthgncnpemnlodaaReK
import Derived.Test.YthgncnpemnlodaaReg
import Derived.Deep.DeepCutAuto
import Derived.Deep.CutBlock
namespace Go.Proofs.Ythgncnpemnlodaa.Fl
open Go.RowKit Go.Proofs.Ythgncnpemnlodaa.Open
set_option linter.unusedVariables false
set_option linter.unusedSimpArgs false
/-- Do the first ones stand not ahead of it? -/
def mostTo (l : List Nat) (x k : Nat) : Bool := (l.take k).all fun y => decide (ord y x ≤ 0)
theorem order5_bel (x y : Nat) (hx : x < 18446744073709551616) (hy : y < 18446744073709551616) (w : World) :
    Calls Try.prog 25 #[F x, F y] w fun e w' => e = .returned (.int .i64 (ord x y)) ∧ Below w.heap.size w w' := by
  refine (order5_any x y hx hy w).mono ?_
  rintro e w' ⟨rfl, q, rfl⟩
  exact ⟨rfl, bdrewN (Below.refl _ _) q⟩
theorem most_zero (l : List Nat) (x : Nat) : mostTo l x 0 = true := rfl
theorem most_next {l : List Nat} {x k : Nat} (hk : k < l.length) : mostTo l x (k + 1) = (mostTo l x k && decide (ord l[k] x ≤ 0)) := by
  unfold mostTo
  rw [List.take_add_one, List.getElem?_eq_getElem hk, List.all_append]
  simp
theorem most_gr {l : List Nat} {m : Nat} (hg : Gr l m) (hm : m < l.length) : mostTo l l[m] l.length = true := by
  unfold mostTo
  rw [List.take_length, List.all_eq_true]
  intro y hy
  obtain ⟨k, hk, rfl⟩ := List.mem_iff_getElem.1 hy
  exact decide_eq_true (hg.1 k hk hm)
theorem most_no {l : List Nat} {m i : Nat} (hg : Gr l m) (hm : m < l.length) (hi : i < m) : mostTo l (l[i]'(by omega)) l.length = false := by
  unfold mostTo
  rw [List.take_length, ← Bool.not_eq_true, List.all_eq_true]
  intro h
  have h1 := of_decide_eq_true (h l[m] (List.getElem_mem _))
  have h2 := hg.2 i hi hm
  have h3 := ord_back l[m] (l[i]'(by omega))
  omega
set_option maxHeartbeats 1000000 in
set_option maxRecDepth 100000 in
theorem greatest5_any (A : Option Addr) (n c : Nat) (l : List Nat) (w : World) (hx : Sl w F A n l) (hs : ∀ x ∈ l, x < 18446744073709551616) (hn9 : n ≤ 1000) (m : Nat) (hg : Gr l m) (hm : m = 0 ∨ m < n) :
    Calls Try.prog 16 #[.slice A n c] w fun e w' => e = .returned (.tuple #[.int .i64 m, .bool (decide (0 < n))]) ∧ Below w.heap.size w w' := by
  have hn := hx.1
  go_enter Try.func16, Try.ntmps16
  go_wp2
  go_loopw [4] (fun a wr => ∃ i : Nat, i ≤ m ∧ i ≤ n ∧ a = .int .i64 i ∧ Below w.heap.size w wr) (fun a _ => n - (intOf a).toNat)
  case atStart => exact ⟨0, by omega, by omega, rfl, Below.refl _ _⟩
  case round =>
    obtain ⟨i, him, hin, rfl, hbel⟩ := hrel
    by_cases hlt : i < n
    · have hix : i < l.length := by omega
      have hmn : m < l.length := by omega
      go_wp2
      go_loopw [5, 6] (fun b a wq => ∃ k : Nat, k ≤ n ∧ a = .int .i64 k ∧ b = .bool (mostTo l l[i] k) ∧ Below w.heap.size w wq) (fun _ a _ => n - (intOf a).toNat)
      case atStart => exact ⟨0, by omega, rfl, rfl, hbel⟩
      case round =>
        obtain ⟨k, hk, rfl, rfl, hbq⟩ := hrel
        by_cases hlk : k < n
        · have hkx : k < l.length := by omega
          have hxq := (hx.below hbq).drew
          obtain ⟨ad, rfl, hadb, hc1⟩ := hxq.at_ hkx
          obtain ⟨ad', e', hadb', hc2⟩ := hxq.at_ hix
          injection e' with e'
          subst e'
          have C := Lib.hid (order5_bel l[k] l[i] (hs _ (List.getElem_mem _)) (hs _ (List.getElem_mem _)))
          have HN := Lib.hid (most_next (x := l[i]) hkx)
          have hsz := hbq.size
          obtain ⟨b1, hb1⟩ : ∃ b1, mostTo l l[i] k = b1 := ⟨_, rfl⟩
          rw [hb1] at HN ⊢
          clear hb1
          generalize l[k] = x at *
          generalize l[i] = y at *
          generalize ord x y = o at *
          cases b1 with
          | true =>
            have HN2 : Hid (mostTo l y (k + 1) = decide (o ≤ 0)) := Lib.hid (by simpa using HN.out)
            clear HN
            go_wp2_with fail
            refine wp_region_held_drew (S := Go.RowKit.Below ((wr.drew).heap.size) (wr.drew)) (by kernel_rfl) ?hb7 (fun hHeld => ?rest7)
            case hb7 =>
              exact Go.RowKit.Below.refl _ _
            case' rest7 => skip
            refine wpAnyH_take (i := 0) (v := ?v8) rfl (by kernel_rfl) (by kernel_rfl) (by kernel_rfl) (fun _ _ _ h => h) (Or.inl ⟨by rfl, ?y8⟩) (by assumption) ?rest8
            case y8 => (intro w hSw; have hT0 := Mem.bl_cell hSw hc1 (by first | omega | exact World.block_lt_of_cell? _ _ hc1 | (simp <;> omega)); have hT1 := Mem.bl_cell hSw hc2 (by first | omega | exact World.block_lt_of_cell? _ _ hc2 | (simp <;> omega)); clear hSw; go_simp; try with_reducible rfl)
            case' rest8 => skip
            try simp only [List.getElem_toArray, List.getElem_cons_succ, List.getElem_cons_zero, Act.put, List.setIfInBounds_toArray, List.set_cons_zero, List.set_cons_succ]
            refine wpAnyH_take (i := 1) (v := ?v9) rfl (by kernel_rfl) (by kernel_rfl) (by kernel_rfl) (fun _ _ _ h => h) (Or.inl ⟨by rfl, ?y9⟩) (by assumption) ?rest9
            case y9 => (intro w hSw; have hT0 := Mem.bl_cell hSw hc1 (by first | omega | exact World.block_lt_of_cell? _ _ hc1 | (simp <;> omega)); have hT1 := Mem.bl_cell hSw hc2 (by first | omega | exact World.block_lt_of_cell? _ _ hc2 | (simp <;> omega)); clear hSw; go_simp; try with_reducible rfl)
            case' rest9 => skip
            try simp only [List.getElem_toArray, List.getElem_cons_succ, List.getElem_cons_zero, Act.put, List.setIfInBounds_toArray, List.set_cons_zero, List.set_cons_succ]
            first
              | refine wpAnyH_take (i := 2) (v := undef) rfl (by kernel_rfl) (by kernel_rfl) (by kernel_rfl) (fun _ _ _ h => h) (Or.inr ⟨by rfl, rfl⟩) (by assumption) ?rest10
              | (refine wpAnyH_take (i := 2) (v := ?v10) rfl (by kernel_rfl) (by kernel_rfl) (by kernel_rfl) (fun _ _ _ h => h) (Or.inl ⟨by rfl, ?y10⟩) (by assumption) ?rest10; case y10 => (intro w hSw; have hT0 := Mem.bl_cell hSw hc1 (by first | omega | exact World.block_lt_of_cell? _ _ hc1 | (simp <;> omega)); have hT1 := Mem.bl_cell hSw hc2 (by first | omega | exact World.block_lt_of_cell? _ _ hc2 | (simp <;> omega)); clear hSw; go_simp; try with_reducible rfl))
            case' rest10 => skip
            try simp only [List.getElem_toArray, List.getElem_cons_succ, List.getElem_cons_zero, Act.put, List.setIfInBounds_toArray, List.set_cons_zero, List.set_cons_succ]
            first
              | refine wpAnyH_take (i := 3) (v := undef) rfl (by kernel_rfl) (by kernel_rfl) (by kernel_rfl) (fun _ _ _ h => h) (Or.inr ⟨by rfl, rfl⟩) (by assumption) ?rest11
              | (refine wpAnyH_take (i := 3) (v := ?v11) rfl (by kernel_rfl) (by kernel_rfl) (by kernel_rfl) (fun _ _ _ h => h) (Or.inl ⟨by rfl, ?y11⟩) (by assumption) ?rest11; case y11 => (intro w hSw; have hT0 := Mem.bl_cell hSw hc1 (by first | omega | exact World.block_lt_of_cell? _ _ hc1 | (simp <;> omega)); have hT1 := Mem.bl_cell hSw hc2 (by first | omega | exact World.block_lt_of_cell? _ _ hc2 | (simp <;> omega)); clear hSw; go_simp; try with_reducible rfl))
            case' rest11 => skip
            try simp only [List.getElem_toArray, List.getElem_cons_succ, List.getElem_cons_zero, Act.put, List.setIfInBounds_toArray, List.set_cons_zero, List.set_cons_succ]
            first
              | refine wpAnyH_take (i := 4) (v := undef) rfl (by kernel_rfl) (by kernel_rfl) (by kernel_rfl) (fun _ _ _ h => h) (Or.inr ⟨by rfl, rfl⟩) (by assumption) ?rest12
              | (refine wpAnyH_take (i := 4) (v := ?v12) rfl (by kernel_rfl) (by kernel_rfl) (by kernel_rfl) (fun _ _ _ h => h) (Or.inl ⟨by rfl, ?y12⟩) (by assumption) ?rest12; case y12 => (intro w hSw; have hT0 := Mem.bl_cell hSw hc1 (by first | omega | exact World.block_lt_of_cell? _ _ hc1 | (simp <;> omega)); have hT1 := Mem.bl_cell hSw hc2 (by first | omega | exact World.block_lt_of_cell? _ _ hc2 | (simp <;> omega)); clear hSw; go_simp; try with_reducible rfl))
            case' rest12 => skip
            try simp only [List.getElem_toArray, List.getElem_cons_succ, List.getElem_cons_zero, Act.put, List.setIfInBounds_toArray, List.set_cons_zero, List.set_cons_succ]
            first
              | refine wpAnyH_take (i := 5) (v := undef) rfl (by kernel_rfl) (by kernel_rfl) (by kernel_rfl) (fun _ _ _ h => h) (Or.inr ⟨by rfl, rfl⟩) (by assumption) ?rest13
              | (refine wpAnyH_take (i := 5) (v := ?v13) rfl (by kernel_rfl) (by kernel_rfl) (by kernel_rfl) (fun _ _ _ h => h) (Or.inl ⟨by rfl, ?y13⟩) (by assumption) ?rest13; case y13 => (intro w hSw; have hT0 := Mem.bl_cell hSw hc1 (by first | omega | exact World.block_lt_of_cell? _ _ hc1 | (simp <;> omega)); have hT1 := Mem.bl_cell hSw hc2 (by first | omega | exact World.block_lt_of_cell? _ _ hc2 | (simp <;> omega)); clear hSw; go_simp; try with_reducible rfl))
            case' rest13 => skip
            try simp only [List.getElem_toArray, List.getElem_cons_succ, List.getElem_cons_zero, Act.put, List.setIfInBounds_toArray, List.set_cons_zero, List.set_cons_succ]
            first
              | refine wpAnyH_take (i := 6) (v := undef) rfl (by kernel_rfl) (by kernel_rfl) (by kernel_rfl) (fun _ _ _ h => h) (Or.inr ⟨by rfl, rfl⟩) (by assumption) ?rest14
              | (refine wpAnyH_take (i := 6) (v := ?v14) rfl (by kernel_rfl) (by kernel_rfl) (by kernel_rfl) (fun _ _ _ h => h) (Or.inl ⟨by rfl, ?y14⟩) (by assumption) ?rest14; case y14 => (intro w hSw; have hT0 := Mem.bl_cell hSw hc1 (by first | omega | exact World.block_lt_of_cell? _ _ hc1 | (simp <;> omega)); have hT1 := Mem.bl_cell hSw hc2 (by first | omega | exact World.block_lt_of_cell? _ _ hc2 | (simp <;> omega)); clear hSw; go_simp; try with_reducible rfl))
            case' rest14 => skip
            try simp only [List.getElem_toArray, List.getElem_cons_succ, List.getElem_cons_zero, Act.put, List.setIfInBounds_toArray, List.set_cons_zero, List.set_cons_succ]
            first
              | refine wpAnyH_take (i := 7) (v := undef) rfl (by kernel_rfl) (by kernel_rfl) (by kernel_rfl) (fun _ _ _ h => h) (Or.inr ⟨by rfl, rfl⟩) (by assumption) ?rest15
              | (refine wpAnyH_take (i := 7) (v := ?v15) rfl (by kernel_rfl) (by kernel_rfl) (by kernel_rfl) (fun _ _ _ h => h) (Or.inl ⟨by rfl, ?y15⟩) (by assumption) ?rest15; case y15 => (intro w hSw; have hT0 := Mem.bl_cell hSw hc1 (by first | omega | exact World.block_lt_of_cell? _ _ hc1 | (simp <;> omega)); have hT1 := Mem.bl_cell hSw hc2 (by first | omega | exact World.block_lt_of_cell? _ _ hc2 | (simp <;> omega)); clear hSw; go_simp; try with_reducible rfl))
            case' rest15 => skip
            try simp only [List.getElem_toArray, List.getElem_cons_succ, List.getElem_cons_zero, Act.put, List.setIfInBounds_toArray, List.set_cons_zero, List.set_cons_succ]
            first
              | refine wpAnyH_take (i := 8) (v := undef) rfl (by kernel_rfl) (by kernel_rfl) (by kernel_rfl) (fun _ _ _ h => h) (Or.inr ⟨by rfl, rfl⟩) (by assumption) ?rest16
              | (refine wpAnyH_take (i := 8) (v := ?v16) rfl (by kernel_rfl) (by kernel_rfl) (by kernel_rfl) (fun _ _ _ h => h) (Or.inl ⟨by rfl, ?y16⟩) (by assumption) ?rest16; case y16 => (intro w hSw; have hT0 := Mem.bl_cell hSw hc1 (by first | omega | exact World.block_lt_of_cell? _ _ hc1 | (simp <;> omega)); have hT1 := Mem.bl_cell hSw hc2 (by first | omega | exact World.block_lt_of_cell? _ _ hc2 | (simp <;> omega)); clear hSw; go_simp; try with_reducible rfl))
            case' rest16 => skip
            try simp only [List.getElem_toArray, List.getElem_cons_succ, List.getElem_cons_zero, Act.put, List.setIfInBounds_toArray, List.set_cons_zero, List.set_cons_succ]
            first
              | refine wpAnyH_take (i := 9) (v := undef) rfl (by kernel_rfl) (by kernel_rfl) (by kernel_rfl) (fun _ _ _ h => h) (Or.inr ⟨by rfl, rfl⟩) (by assumption) ?rest17
              | (refine wpAnyH_take (i := 9) (v := ?v17) rfl (by kernel_rfl) (by kernel_rfl) (by kernel_rfl) (fun _ _ _ h => h) (Or.inl ⟨by rfl, ?y17⟩) (by assumption) ?rest17; case y17 => (intro w hSw; have hT0 := Mem.bl_cell hSw hc1 (by first | omega | exact World.block_lt_of_cell? _ _ hc1 | (simp <;> omega)); have hT1 := Mem.bl_cell hSw hc2 (by first | omega | exact World.block_lt_of_cell? _ _ hc2 | (simp <;> omega)); clear hSw; go_simp; try with_reducible rfl))
            case' rest17 => skip
            try simp only [List.getElem_toArray, List.getElem_cons_succ, List.getElem_cons_zero, Act.put, List.setIfInBounds_toArray, List.set_cons_zero, List.set_cons_succ]
            refine wpAnyH_ready (rs := [10]) (by kernel_rfl) (by simp) ?_
            refine AllReadyH.cons rfl (fun K hK => ?_) AllReadyH.nil
            go_simp
            (refine (C.out _).mono ?_; rintro e w4 ⟨rfl, hbl⟩)
            try go_wp2_with fail
            have hSnew := Mem.bl_step hHeld hbl (by first | exact Nat.le_refl _ | omega | (simp <;> omega))
            refine hK.out _ _ ?_ (fun hHeld2 => ?_)
            · exact hSnew
            clear hbl
            clear hK K hHeld hSnew
            have hHeld := hHeld2
            clear hHeld2
            try simp only [List.getElem_toArray, List.getElem_cons_succ, List.getElem_cons_zero, Act.put, List.setIfInBounds_toArray, List.set_cons_zero, List.set_cons_succ]
            first
              | refine wpAnyH_take (i := 11) (v := undef) rfl (by kernel_rfl) (by kernel_rfl) (by kernel_rfl) (fun _ _ _ h => h) (Or.inr ⟨by rfl, rfl⟩) (by assumption) ?rest18
              | (refine wpAnyH_take (i := 11) (v := ?v18) rfl (by kernel_rfl) (by kernel_rfl) (by kernel_rfl) (fun _ _ _ h => h) (Or.inl ⟨by rfl, ?y18⟩) (by assumption) ?rest18; case y18 => (intro w hSw; have hT0 := Mem.bl_cell hSw hc1 (by first | omega | exact World.block_lt_of_cell? _ _ hc1 | (simp <;> omega)); have hT1 := Mem.bl_cell hSw hc2 (by first | omega | exact World.block_lt_of_cell? _ _ hc2 | (simp <;> omega)); clear hSw; go_simp; try with_reducible rfl))
            case' rest18 => skip
            try simp only [List.getElem_toArray, List.getElem_cons_succ, List.getElem_cons_zero, Act.put, List.setIfInBounds_toArray, List.set_cons_zero, List.set_cons_succ]
            refine wpAnyH_take (i := 12) (v := ?v19) rfl (by kernel_rfl) (by kernel_rfl) (by kernel_rfl) (fun _ _ _ h => h) (Or.inl ⟨by rfl, ?y19⟩) (by assumption) ?rest19
            case y19 => (intro w hSw; have hT0 := Mem.bl_cell hSw hc1 (by first | omega | exact World.block_lt_of_cell? _ _ hc1 | (simp <;> omega)); have hT1 := Mem.bl_cell hSw hc2 (by first | omega | exact World.block_lt_of_cell? _ _ hc2 | (simp <;> omega)); clear hSw; go_simp; try with_reducible rfl)
            case' rest19 => skip
            try simp only [List.getElem_toArray, List.getElem_cons_succ, List.getElem_cons_zero, Act.put, List.setIfInBounds_toArray, List.set_cons_zero, List.set_cons_succ]
            refine wpAnyH_take (i := 13) (v := ?v20) rfl (by kernel_rfl) (by kernel_rfl) (by kernel_rfl) (fun _ _ _ h => h) (Or.inl ⟨by rfl, ?y20⟩) (by assumption) ?rest20
            case y20 => (intro w hSw; have hT0 := Mem.bl_cell hSw hc1 (by first | omega | exact World.block_lt_of_cell? _ _ hc1 | (simp <;> omega)); have hT1 := Mem.bl_cell hSw hc2 (by first | omega | exact World.block_lt_of_cell? _ _ hc2 | (simp <;> omega)); clear hSw; go_simp; try with_reducible rfl)
            case' rest20 => skip
            try simp only [List.getElem_toArray, List.getElem_cons_succ, List.getElem_cons_zero, Act.put, List.setIfInBounds_toArray, List.set_cons_zero, List.set_cons_succ]
            refine wpAnyH_done (by kernel_rfl) ?_ _
            go_wp2
            go_roundw
            case rel => exact ⟨k + 1, by omega, by go_num, by rw [HN2.out], hbq.trans (((Below.refl _ _).drew.trans hHeld).mono hsz)⟩
            case measure => simp [intOf]; omega
          | false =>
            have HN2 : Hid (mostTo l y (k + 1) = false) := Lib.hid (by simpa using HN.out)
            clear HN
            go_wp2_with fail
            refine wp_region_held_drew (S := Go.RowKit.Below ((wr.drew).heap.size) (wr.drew)) (by kernel_rfl) ?hb26 (fun hHeld => ?rest26)
            case hb26 =>
              exact Go.RowKit.Below.refl _ _
            case' rest26 => skip
            refine wpAnyH_take (i := 0) (v := ?v27) rfl (by kernel_rfl) (by kernel_rfl) (by kernel_rfl) (fun _ _ _ h => h) (Or.inl ⟨by rfl, ?y27⟩) (by assumption) ?rest27
            case y27 => (intro w hSw; have hT0 := Mem.bl_cell hSw hc1 (by first | omega | exact World.block_lt_of_cell? _ _ hc1 | (simp <;> omega)); have hT1 := Mem.bl_cell hSw hc2 (by first | omega | exact World.block_lt_of_cell? _ _ hc2 | (simp <;> omega)); clear hSw; go_simp; try with_reducible rfl)
            case' rest27 => skip
            try simp only [List.getElem_toArray, List.getElem_cons_succ, List.getElem_cons_zero, Act.put, List.setIfInBounds_toArray, List.set_cons_zero, List.set_cons_succ]
            refine wpAnyH_take (i := 1) (v := ?v28) rfl (by kernel_rfl) (by kernel_rfl) (by kernel_rfl) (fun _ _ _ h => h) (Or.inl ⟨by rfl, ?y28⟩) (by assumption) ?rest28
            case y28 => (intro w hSw; have hT0 := Mem.bl_cell hSw hc1 (by first | omega | exact World.block_lt_of_cell? _ _ hc1 | (simp <;> omega)); have hT1 := Mem.bl_cell hSw hc2 (by first | omega | exact World.block_lt_of_cell? _ _ hc2 | (simp <;> omega)); clear hSw; go_simp; try with_reducible rfl)
            case' rest28 => skip
            try simp only [List.getElem_toArray, List.getElem_cons_succ, List.getElem_cons_zero, Act.put, List.setIfInBounds_toArray, List.set_cons_zero, List.set_cons_succ]
            first
              | refine wpAnyH_take (i := 2) (v := undef) rfl (by kernel_rfl) (by kernel_rfl) (by kernel_rfl) (fun _ _ _ h => h) (Or.inr ⟨by rfl, rfl⟩) (by assumption) ?rest29
              | (refine wpAnyH_take (i := 2) (v := ?v29) rfl (by kernel_rfl) (by kernel_rfl) (by kernel_rfl) (fun _ _ _ h => h) (Or.inl ⟨by rfl, ?y29⟩) (by assumption) ?rest29; case y29 => (intro w hSw; have hT0 := Mem.bl_cell hSw hc1 (by first | omega | exact World.block_lt_of_cell? _ _ hc1 | (simp <;> omega)); have hT1 := Mem.bl_cell hSw hc2 (by first | omega | exact World.block_lt_of_cell? _ _ hc2 | (simp <;> omega)); clear hSw; go_simp; try with_reducible rfl))
            case' rest29 => skip
            try simp only [List.getElem_toArray, List.getElem_cons_succ, List.getElem_cons_zero, Act.put, List.setIfInBounds_toArray, List.set_cons_zero, List.set_cons_succ]
            first
              | refine wpAnyH_take (i := 3) (v := undef) rfl (by kernel_rfl) (by kernel_rfl) (by kernel_rfl) (fun _ _ _ h => h) (Or.inr ⟨by rfl, rfl⟩) (by assumption) ?rest30
              | (refine wpAnyH_take (i := 3) (v := ?v30) rfl (by kernel_rfl) (by kernel_rfl) (by kernel_rfl) (fun _ _ _ h => h) (Or.inl ⟨by rfl, ?y30⟩) (by assumption) ?rest30; case y30 => (intro w hSw; have hT0 := Mem.bl_cell hSw hc1 (by first | omega | exact World.block_lt_of_cell? _ _ hc1 | (simp <;> omega)); have hT1 := Mem.bl_cell hSw hc2 (by first | omega | exact World.block_lt_of_cell? _ _ hc2 | (simp <;> omega)); clear hSw; go_simp; try with_reducible rfl))
            case' rest30 => skip
            try simp only [List.getElem_toArray, List.getElem_cons_succ, List.getElem_cons_zero, Act.put, List.setIfInBounds_toArray, List.set_cons_zero, List.set_cons_succ]
            first
              | refine wpAnyH_take (i := 4) (v := undef) rfl (by kernel_rfl) (by kernel_rfl) (by kernel_rfl) (fun _ _ _ h => h) (Or.inr ⟨by rfl, rfl⟩) (by assumption) ?rest31
              | (refine wpAnyH_take (i := 4) (v := ?v31) rfl (by kernel_rfl) (by kernel_rfl) (by kernel_rfl) (fun _ _ _ h => h) (Or.inl ⟨by rfl, ?y31⟩) (by assumption) ?rest31; case y31 => (intro w hSw; have hT0 := Mem.bl_cell hSw hc1 (by first | omega | exact World.block_lt_of_cell? _ _ hc1 | (simp <;> omega)); have hT1 := Mem.bl_cell hSw hc2 (by first | omega | exact World.block_lt_of_cell? _ _ hc2 | (simp <;> omega)); clear hSw; go_simp; try with_reducible rfl))
            case' rest31 => skip
            try simp only [List.getElem_toArray, List.getElem_cons_succ, List.getElem_cons_zero, Act.put, List.setIfInBounds_toArray, List.set_cons_zero, List.set_cons_succ]
            first
              | refine wpAnyH_take (i := 5) (v := undef) rfl (by kernel_rfl) (by kernel_rfl) (by kernel_rfl) (fun _ _ _ h => h) (Or.inr ⟨by rfl, rfl⟩) (by assumption) ?rest32
              | (refine wpAnyH_take (i := 5) (v := ?v32) rfl (by kernel_rfl) (by kernel_rfl) (by kernel_rfl) (fun _ _ _ h => h) (Or.inl ⟨by rfl, ?y32⟩) (by assumption) ?rest32; case y32 => (intro w hSw; have hT0 := Mem.bl_cell hSw hc1 (by first | omega | exact World.block_lt_of_cell? _ _ hc1 | (simp <;> omega)); have hT1 := Mem.bl_cell hSw hc2 (by first | omega | exact World.block_lt_of_cell? _ _ hc2 | (simp <;> omega)); clear hSw; go_simp; try with_reducible rfl))
            case' rest32 => skip
            try simp only [List.getElem_toArray, List.getElem_cons_succ, List.getElem_cons_zero, Act.put, List.setIfInBounds_toArray, List.set_cons_zero, List.set_cons_succ]
            first
              | refine wpAnyH_take (i := 6) (v := undef) rfl (by kernel_rfl) (by kernel_rfl) (by kernel_rfl) (fun _ _ _ h => h) (Or.inr ⟨by rfl, rfl⟩) (by assumption) ?rest33
              | (refine wpAnyH_take (i := 6) (v := ?v33) rfl (by kernel_rfl) (by kernel_rfl) (by kernel_rfl) (fun _ _ _ h => h) (Or.inl ⟨by rfl, ?y33⟩) (by assumption) ?rest33; case y33 => (intro w hSw; have hT0 := Mem.bl_cell hSw hc1 (by first | omega | exact World.block_lt_of_cell? _ _ hc1 | (simp <;> omega)); have hT1 := Mem.bl_cell hSw hc2 (by first | omega | exact World.block_lt_of_cell? _ _ hc2 | (simp <;> omega)); clear hSw; go_simp; try with_reducible rfl))
            case' rest33 => skip
            try simp only [List.getElem_toArray, List.getElem_cons_succ, List.getElem_cons_zero, Act.put, List.setIfInBounds_toArray, List.set_cons_zero, List.set_cons_succ]
            first
              | refine wpAnyH_take (i := 7) (v := undef) rfl (by kernel_rfl) (by kernel_rfl) (by kernel_rfl) (fun _ _ _ h => h) (Or.inr ⟨by rfl, rfl⟩) (by assumption) ?rest34
              | (refine wpAnyH_take (i := 7) (v := ?v34) rfl (by kernel_rfl) (by kernel_rfl) (by kernel_rfl) (fun _ _ _ h => h) (Or.inl ⟨by rfl, ?y34⟩) (by assumption) ?rest34; case y34 => (intro w hSw; have hT0 := Mem.bl_cell hSw hc1 (by first | omega | exact World.block_lt_of_cell? _ _ hc1 | (simp <;> omega)); have hT1 := Mem.bl_cell hSw hc2 (by first | omega | exact World.block_lt_of_cell? _ _ hc2 | (simp <;> omega)); clear hSw; go_simp; try with_reducible rfl))
            case' rest34 => skip
            try simp only [List.getElem_toArray, List.getElem_cons_succ, List.getElem_cons_zero, Act.put, List.setIfInBounds_toArray, List.set_cons_zero, List.set_cons_succ]
            first
              | refine wpAnyH_take (i := 8) (v := undef) rfl (by kernel_rfl) (by kernel_rfl) (by kernel_rfl) (fun _ _ _ h => h) (Or.inr ⟨by rfl, rfl⟩) (by assumption) ?rest35
              | (refine wpAnyH_take (i := 8) (v := ?v35) rfl (by kernel_rfl) (by kernel_rfl) (by kernel_rfl) (fun _ _ _ h => h) (Or.inl ⟨by rfl, ?y35⟩) (by assumption) ?rest35; case y35 => (intro w hSw; have hT0 := Mem.bl_cell hSw hc1 (by first | omega | exact World.block_lt_of_cell? _ _ hc1 | (simp <;> omega)); have hT1 := Mem.bl_cell hSw hc2 (by first | omega | exact World.block_lt_of_cell? _ _ hc2 | (simp <;> omega)); clear hSw; go_simp; try with_reducible rfl))
            case' rest35 => skip
            try simp only [List.getElem_toArray, List.getElem_cons_succ, List.getElem_cons_zero, Act.put, List.setIfInBounds_toArray, List.set_cons_zero, List.set_cons_succ]
            first
              | refine wpAnyH_take (i := 9) (v := undef) rfl (by kernel_rfl) (by kernel_rfl) (by kernel_rfl) (fun _ _ _ h => h) (Or.inr ⟨by rfl, rfl⟩) (by assumption) ?rest36
              | (refine wpAnyH_take (i := 9) (v := ?v36) rfl (by kernel_rfl) (by kernel_rfl) (by kernel_rfl) (fun _ _ _ h => h) (Or.inl ⟨by rfl, ?y36⟩) (by assumption) ?rest36; case y36 => (intro w hSw; have hT0 := Mem.bl_cell hSw hc1 (by first | omega | exact World.block_lt_of_cell? _ _ hc1 | (simp <;> omega)); have hT1 := Mem.bl_cell hSw hc2 (by first | omega | exact World.block_lt_of_cell? _ _ hc2 | (simp <;> omega)); clear hSw; go_simp; try with_reducible rfl))
            case' rest36 => skip
            try simp only [List.getElem_toArray, List.getElem_cons_succ, List.getElem_cons_zero, Act.put, List.setIfInBounds_toArray, List.set_cons_zero, List.set_cons_succ]
            first
              | refine wpAnyH_take (i := 10) (v := undef) rfl (by kernel_rfl) (by kernel_rfl) (by kernel_rfl) (fun _ _ _ h => h) (Or.inr ⟨by rfl, rfl⟩) (by assumption) ?rest37
              | (refine wpAnyH_take (i := 10) (v := ?v37) rfl (by kernel_rfl) (by kernel_rfl) (by kernel_rfl) (fun _ _ _ h => h) (Or.inl ⟨by rfl, ?y37⟩) (by assumption) ?rest37; case y37 => (intro w hSw; have hT0 := Mem.bl_cell hSw hc1 (by first | omega | exact World.block_lt_of_cell? _ _ hc1 | (simp <;> omega)); have hT1 := Mem.bl_cell hSw hc2 (by first | omega | exact World.block_lt_of_cell? _ _ hc2 | (simp <;> omega)); clear hSw; go_simp; try with_reducible rfl))
            case' rest37 => skip
            try simp only [List.getElem_toArray, List.getElem_cons_succ, List.getElem_cons_zero, Act.put, List.setIfInBounds_toArray, List.set_cons_zero, List.set_cons_succ]
            first
              | refine wpAnyH_take (i := 11) (v := undef) rfl (by kernel_rfl) (by kernel_rfl) (by kernel_rfl) (fun _ _ _ h => h) (Or.inr ⟨by rfl, rfl⟩) (by assumption) ?rest38
              | (refine wpAnyH_take (i := 11) (v := ?v38) rfl (by kernel_rfl) (by kernel_rfl) (by kernel_rfl) (fun _ _ _ h => h) (Or.inl ⟨by rfl, ?y38⟩) (by assumption) ?rest38; case y38 => (intro w hSw; have hT0 := Mem.bl_cell hSw hc1 (by first | omega | exact World.block_lt_of_cell? _ _ hc1 | (simp <;> omega)); have hT1 := Mem.bl_cell hSw hc2 (by first | omega | exact World.block_lt_of_cell? _ _ hc2 | (simp <;> omega)); clear hSw; go_simp; try with_reducible rfl))
            case' rest38 => skip
            try simp only [List.getElem_toArray, List.getElem_cons_succ, List.getElem_cons_zero, Act.put, List.setIfInBounds_toArray, List.set_cons_zero, List.set_cons_succ]
            refine wpAnyH_take (i := 12) (v := ?v39) rfl (by kernel_rfl) (by kernel_rfl) (by kernel_rfl) (fun _ _ _ h => h) (Or.inl ⟨by rfl, ?y39⟩) (by assumption) ?rest39
            case y39 => (intro w hSw; have hT0 := Mem.bl_cell hSw hc1 (by first | omega | exact World.block_lt_of_cell? _ _ hc1 | (simp <;> omega)); have hT1 := Mem.bl_cell hSw hc2 (by first | omega | exact World.block_lt_of_cell? _ _ hc2 | (simp <;> omega)); clear hSw; go_simp; try with_reducible rfl)
            case' rest39 => skip
            try simp only [List.getElem_toArray, List.getElem_cons_succ, List.getElem_cons_zero, Act.put, List.setIfInBounds_toArray, List.set_cons_zero, List.set_cons_succ]
            refine wpAnyH_take (i := 13) (v := ?v40) rfl (by kernel_rfl) (by kernel_rfl) (by kernel_rfl) (fun _ _ _ h => h) (Or.inl ⟨by rfl, ?y40⟩) (by assumption) ?rest40
            case y40 => (intro w hSw; have hT0 := Mem.bl_cell hSw hc1 (by first | omega | exact World.block_lt_of_cell? _ _ hc1 | (simp <;> omega)); have hT1 := Mem.bl_cell hSw hc2 (by first | omega | exact World.block_lt_of_cell? _ _ hc2 | (simp <;> omega)); clear hSw; go_simp; try with_reducible rfl)
            case' rest40 => skip
            try simp only [List.getElem_toArray, List.getElem_cons_succ, List.getElem_cons_zero, Act.put, List.setIfInBounds_toArray, List.set_cons_zero, List.set_cons_succ]
            refine wpAnyH_done (by kernel_rfl) ?_ _
            go_wp2
            go_roundw
            case rel => exact ⟨k + 1, by omega, by go_num, by rw [HN2.out], hbq.trans (((Below.refl _ _).drew.trans hHeld).mono hsz)⟩
            case measure => simp [intOf]; omega
        · have hkn : k = l.length := by omega
          subst hkn
          have hie : i = m → mostTo l l[i] l.length = true := by intro e; subst e; exact most_gr hg hmn
          have hin : i ≠ m → mostTo l l[i] l.length = false := fun e => most_no hg hmn (by omega)
          generalize mostTo l l[i] l.length = b1 at *
          have h0 : decide (0 < n) = true := decide_eq_true (by omega)
          cases b1 with
          | true =>
            obtain rfl : i = m := Classical.byContradiction fun e => by have := hin e; cases this
            have H0 := Lib.hid h0
            clear h0 hie hin
            go_wp2
            go_ret2
            exact ⟨by rw [H0.out]; rfl, hbq⟩
          | false =>
            have hne : i ≠ m := fun e => by have := hie e; cases this
            clear h0 hie hin
            go_wp2
            go_roundw
            case rel => exact ⟨i + 1, by omega, by omega, by go_num, hbq⟩
            case measure => simp [intOf]; omega
    · have hm0 : m = 0 := by omega
      have hn0 : n = 0 := by omega
      subst hm0
      subst hn0
      go_wp2
      go_ret2
      exact ⟨rfl, hbel⟩
theorem greatest_walk (A : Option Addr) (n c : Nat) (l : List Nat) (w : World) (hx : Sl w F A n l) (hs : ∀ x ∈ l, x < 18446744073709551616) :
    Calls Try.prog 3 #[.slice A n c] w fun e w' => e = .returned (.bool true) ∧ Below w.heap.size w w' := by
  have hn := hx.2.1
  by_cases h60 : 60 < n
  · go_enter Try.func3, Try.ntmps3
    go_wp2_with fail
    refine (works_any _).mono ?_
    rintro e w1 ⟨rfl, hb⟩
    go_wp2
    go_ret
    exact ⟨rfl, hb⟩
  · have C1 := Lib.hid (greatest_any A n c l w hx hs)
    have C5 := Lib.hid (fun w' (hx' : Sl w' F A n l) m hg hm => greatest5_any A n c l w' hx' hs (by omega) m hg hm)
    generalize decide (0 < n) = b at *
    go_enter Try.func3, Try.ntmps3
    go_wp2_with fail
    refine C1.out.mono ?_
    rintro e w1 ⟨m, rfl, hg, hm, rfl⟩
    go_wp2_with fail
    refine (C5.out w1 hx m hg hm).mono ?_
    rintro e w2 ⟨rfl, hb⟩
    go_wp2_with fail
    refine (works_any _).mono ?_
    rintro e w3 ⟨rfl, hb3⟩
    go_wp2
    go_ret
    exact ⟨rfl, hb.trans (hb3.mono hb.size)⟩
end Go.Proofs.Ythgncnpemnlodaa.Fl
