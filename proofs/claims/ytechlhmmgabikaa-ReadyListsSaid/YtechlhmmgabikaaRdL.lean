/- ReadyLists. -/
import Derived.Test.YtechlhmmgabikaaRh
import Derived.Test.YtechlhmmgabikaaRdT
import Derived.Laws.ResultCell
namespace Go.Proofs.Ytechlhmmgabikaa.Rd
open Go.RowKit Go.Proofs.Ytechlhmmgabikaa.Mem Go.Proofs.Ytechlhmmgabikaa.Open Go.Proofs.Ytechlhmmgabikaa.Kind Go.Proofs.Ytechlhmmgabikaa.Blk Go.Proofs.Ytechlhmmgabikaa.App Go.Proofs.Ytechlhmmgabikaa.Pat Go.Proofs.Ytechlhmmgabikaa.Same
set_option linter.unusedVariables false
set_option linter.unusedSimpArgs false
theorem find_place {n : Int} : ∀ {xs : List Chg} {j : Nat}, (∃ k, ∃ h : k < xs.length, placeF n xs j = ((j + k : Nat) : Int) ∧ findF n xs = some xs[k]) ∨ (placeF n xs j = -1 ∧ findF n xs = none)
  | [], j => .inr ⟨rfl, rfl⟩
  | x :: r, j => by
    by_cases h : x.id = n
    · exact .inl ⟨0, by simp, by simp only [placeF, if_pos h, Nat.add_zero], by simp only [findF, if_pos h]; rfl⟩
    · rcases find_place (n := n) (xs := r) (j := j + 1) with ⟨k, hk, h1, h2⟩ | ⟨h1, h2⟩
      · exact .inl ⟨k + 1, by simp; omega, by simp only [placeF, if_neg h, h1]; congr 1; omega, by simp only [findF, if_neg h, h2]; rfl⟩
      · exact .inr ⟨by simp only [placeF, if_neg h, h1], by simp only [findF, if_neg h, h2]⟩
theorem rchInfo : (Try.prog.info? 69).map (fun i => (i.zero, i.size)) = some (some (.agg chZ), 5) := by kernel_rfl
theorem rchZero : ∀ w, (zeroValue 69).run Try.prog w = .ok (.agg chZ) w := (zero_of_info rchInfo).1
theorem rchSize : (Try.prog.info? 69).map (·.size) = some 5 := (zero_of_info rchInfo).2
theorem chs_one {w : World} {g : Nat} {T : TypeId} {x : Chg} {A : Option Addr} {c : Nat} {A2 : Option Addr} {c2 : Nat} (h : Row w g T (chC x A c A2 c2)) (hx : ChS w x A c A2 c2) : Chs w (some ⟨g, 0, none⟩) [x] :=
  chs_row h (by show 1 ≤ M63; decide) fun i y hi => by
    match i, hi with
    | 0, hi =>
      simp at hi
      subst hi
      exact ⟨_, _, _, _, hx.k, fun j v hv => by rw [Nat.zero_mul, Nat.zero_add]; rw [Array.getElem?_toList] at hv; exact hv⟩
    | n + 1, hi => simp at hi
theorem bl_drewN {w w' : World} {q : Nat} (h : w' = w.drewN q) : Below w.heap.size w w' := by rw [h]; exact bdrewN (Below.refl _ _) q
theorem chNil_S (w : World) : ChS w chNil none 0 none 0 := ⟨⟨rfl, rfl, rfl⟩, Nat.le_refl _, by decide, fun _ => rfl, Rw.nil _ _ _ _, Nat.le_refl _, by decide, fun _ => rfl, Rw.nil _ _ _ _⟩
theorem ofS_len (xs : List Chg) (bl : Int) : (ofS xs bl).length ≤ xs.length := List.length_filter_le _ _
theorem woS_len (xs : List Chg) (ids : List Int) : (woS xs ids).length ≤ xs.length := List.length_filter_le _ _
theorem chZ_one : chZ.all (·.oneCell') = true := by simp [chZ, Value.oneCell']
set_option maxHeartbeats 4000000 in
set_option maxRecDepth 100000 in
theorem lists_walk (A : Option Addr) (c : Nat) (xs : List Chg) (Ai : Option Addr) (ci : Nat) (ids : List Int) (n : Int) (w : World) (hx : Chs w A xs) (hc : A = none → c = 0) (hi : Is w Ai ids) (hn' : (Lit.int .i64 n).wf = true) :
    Calls Try.prog 10 #[.slice A xs.length c, .slice Ai ids.length ci, .int .i64 n] w fun e w' => e = .returned (.bool true) ∧ Below w.heap.size w w' := by
  have CMu := Lib.hid (much_any A c xs 30 w hx (by omega))
  cases hmu : muchC xs 30 with
  | true =>
    rw [hmu] at CMu
    go_enter Try.func10, Try.ntmps10
    go_wp2_with fail
    refine CMu.out.mono ?_
    rintro e w1 ⟨rfl, hb1⟩
    go_wp2_with fail
    refine (works9 w1).mono ?_
    rintro e wB ⟨rfl, hbB⟩
    go_wp2
    go_ret
    exact ⟨rfl, hb1.trans (hbB.mono hb1.size)⟩
  | false =>
    rw [hmu] at CMu
    obtain ⟨hn, hs⟩ := muchC_no hmu
    clear hmu
    by_cases hl : 40 < ids.length
    · have hl1 : (40 : Int) < (ids.length : Int) := by omega
      go_enter Try.func10, Try.ntmps10
      go_wp2_with fail
      refine CMu.out.mono ?_
      rintro e w1 ⟨rfl, hb1⟩
      go_wp2_with fail
      refine (works9 w1).mono ?_
      rintro e wB ⟨rfl, hbB⟩
      go_wp2
      go_ret
      exact ⟨rfl, hb1.trans (hbB.mono hb1.size)⟩
    · have hl1 : ¬ (40 : Int) < (ids.length : Int) := by omega
      have hl2 : ids.length ≤ 40 := by omega
      go_enter Try.func10, Try.ntmps10
      go_wp2_with fail
      refine CMu.out.mono ?_
      rintro e w1 ⟨rfl, hb1⟩
      go_wp2_with fail
      refine (to9_any A c xs w1 (hx.below hb1) hs (by omega)).mono ?_
      rintro e w2 ⟨v2, rfl, hown2, hb2⟩
      obtain ⟨A7, c7, rfl, h71, h72, h73, hx2⟩ := hown2.rw_
      have hb12 := hb1.trans (hb2.mono hb1.size)
      clear hown2 hb1 hb2 CMu
      go_wp2_with fail
      refine (Find_any A7 c7 xs n w2 hx2 hs (by omega)).mono ?_
      rintro e w3 ⟨A3, c3, A4, c4, rfl, hf3, hb3⟩
      obtain ⟨y, hy⟩ : ∃ y, findD n xs = y := ⟨_, rfl⟩
      obtain ⟨ok, hok⟩ : ∃ ok, (findF n xs).isSome = ok := ⟨_, rfl⟩
      rw [hy] at hf3 ⊢
      rw [hok]
      have HY := Lib.hid hy
      have HOK := Lib.hid hok
      have hb13 := hb12.trans (hb3.mono hb12.size)
      obtain ⟨⟨r4, b4, z4⟩⟩ : Nonempty (_ ∧ _ ∧ _) := ⟨boxed w3 72 chZ (chC y A3 c3 A4 c4)⟩
      have R0 : Row (w3.alloc (.cells chZ 72)) w3.heap.size 72 chZ := Row.new _ _ _
      have hs4 := hf3.s.below b4
      have hx4 := (hx2.below hb3).below b4
      have hb14 := hb13.trans (b4.mono hb13.size)
      obtain ⟨g8, hg8⟩ : ∃ g8, g8 = w3.heap.size := ⟨_, rfl⟩
      have HG8 := Lib.hid hg8
      clear hg8
      have HR4 := Lib.hid r4
      have HS4 := Lib.hid hs4
      have HX4 := Lib.hid hx4
      have HB14 := Lib.hid hb14
      have CP := Lib.hid (place_any A c xs n _ (hx.below hb14))
      clear hy hok hb3 hb12 hb13 b4 z4 r4 hs4 hx4 hb14 hf3 hx2
      go_wp2_with (first
        | (with_reducible refine wpList_allocA rfl 72 rfl _ chZero ?_)
        | (with_reducible refine wpList_storeRow rfl 72 _ _ rfl w3.heap.size rfl (chC y A3 c3 A4 c4) rfl chZ 72 5 chSize rfl rfl (chC_one _ _ _ _ _) R0 ?_))
      refine CP.out.mono ?_
      rintro e w5 ⟨rfl, hb5⟩
      have r5 := HR4.out.below hb5
      have hs5 := HS4.out.below hb5
      have hx5 := HX4.out.below hb5
      have hb15 := HB14.out.trans (hb5.mono HB14.out.size)
      rw [← HG8.out] at r5 ⊢
      clear hb5 CP HR4 HS4 HX4 HB14 R0 HG8
      obtain ⟨⟨r6, b6, z6⟩⟩ : Nonempty (_ ∧ _ ∧ _) := ⟨boxed w5 69 chZ chZ⟩
      have R0 : Row (w5.alloc (.cells chZ 69)) w5.heap.size 69 chZ := Row.new _ _ _
      have r8 := r5.below b6
      have hs8 := hs5.below b6
      have hx8 := hx5.below b6
      have hb16 := hb15.trans (b6.mono hb15.size)
      have hne : g8 < w5.heap.size := r5.lt
      rcases find_place (n := n) (xs := xs) (j := 0) with ⟨k, hk, e1, e2⟩ | ⟨e1, e2⟩
      · rw [Nat.zero_add] at e1
        obtain ⟨g, o, rfl, hg⟩ := ch_form hx (by omega)
        obtain ⟨D1, f1, D2, f2, hat0⟩ := ch_at hx k hk
        have hyk : y = xs[k] := by have := HY.out; unfold findD at this; rw [e2] at this; exact this.symm
        have hok : ok = true := by have := HOK.out; rw [e2] at this; exact this.symm
        subst hok
        rw [← hyk] at hat0
        rw [e1]
        have hat := hat0.below hb16
        have l0 := hat.v0
        have l1 := hat.v1
        have l2 := hat.v2
        have l3 := hat.v3
        have l4 := hat.v4
        have R6 := r6
        have b8 := below_setRow b6 (Nat.le_refl _) (chC y D1 f1 D2 f2)
        have r11 := r6.set (chC y D1 f1 D2 f2)
        have r8' := r5.below b8
        have hs8' := hs5.below b8
        have hx8' := hx5.below b8
        have hb8 := hb15.trans (b8.mono hb15.size)
        have ht8 := hat0.s.below hb8
        have hxb := hx.below hb8
        have hi8 := hi.below hb8
        have hkl : (k : Int) < (xs.length : Int) := by omega
        have hk0 : (0 : Int) ≤ (k : Int) := by omega
        clear hat hat0 hyk e1 e2 hx hi b8 r6 r8 hs8 hx8 hb16 r5 hs5 hx5 hb15 b6
        have r8 := r8'
        have hs8 := hs8'
        have hx8 := hx8'
        clear r8' hs8' hx8'
        have d0 : World.cell? _ ⟨g8, 0, none⟩ = some (.int .i64 y.id) := r8.cell 0 rfl
        have d1 : World.cell? _ ⟨g8, 1, none⟩ = some (.int .i64 y.blk) := r8.cell 1 rfl
        have d2 : World.cell? _ ⟨g8, 2, none⟩ = some (.int .i64 y.pa) := r8.cell 2 rfl
        have d3 : World.cell? _ ⟨g8, 2 + 1, none⟩ = some (.slice A3 y.pd.length c3) := r8.cell 3 rfl
        have d4 : World.cell? _ ⟨g8, 4, none⟩ = some (.slice A4 y.needs.length c4) := r8.cell 4 rfl
        have HR11 := Lib.hid r11
        have HS8 := Lib.hid hs8
        have HT8 := Lib.hid ht8
        have HX8 := Lib.hid hx8
        have HI8 := Lib.hid hi8
        have HX := Lib.hid hxb
        have HB8 := Lib.hid hb8
        clear r8 r11 hs8 ht8 hx8 hi8 hxb hb8
        go_wp2_with (first
          | (with_reducible refine wpList_allocA rfl 69 rfl _ rchZero ?_)
          | (with_reducible refine wpList_storeRow rfl 69 _ _ rfl w5.heap.size rfl chZ rfl chZ 69 5 rchSize rfl rfl chZ_one R0 ?_)
          | (with_reducible refine wpList_storeRow rfl 69 _ _ rfl w5.heap.size rfl (chC y D1 f1 D2 f2) rfl chZ 69 5 rchSize rfl rfl (chC_one _ _ _ _ _) R6 ?_)
          | (with_reducible refine wpList_build1 rfl 57 72 _ rfl 5 72 (.agg chZ) (chC y A3 c3 A4 c4) rfl rfl (by decide) (by omega) Try.underlying57 chInfo3 ?_; intro g9 w9 hr9 hb9 hg9))
        refine (lof_any _ 1 [y] w9 (chs_one hr9 (HS8.out.below hb9)) (by simp)).mono ?_
        rintro e wA ⟨vA, rfl, hoA, hbA⟩
        obtain ⟨AA, cA, rfl, -, -, -, hA⟩ := hoA.rw_
        obtain ⟨gA, oA, rfl, hgA⟩ := ch_form hA (by simp)
        obtain ⟨B1, e1, B2, e2, hat0⟩ := ch_at hA 0 (by simp)
        have hbX : Below _ _ wA.drew := (hb9.trans (hbA.mono hb9.size)).drew
        have hat := hat0.below (Below.refl _ _).drew
        have q0 : wA.drew.cell? ⟨gA, oA, none⟩ = some (.int .i64 y.id) := by have := hat.v0; rwa [Nat.zero_mul, Nat.add_zero] at this
        have q1 : wA.drew.cell? ⟨gA, oA + 1, none⟩ = some (.int .i64 y.blk) := by have := hat.v1; rwa [Nat.zero_mul, Nat.add_zero] at this
        have q2 : wA.drew.cell? ⟨gA, oA + 2, none⟩ = some (.int .i64 y.pa) := by have := hat.v2; rwa [Nat.zero_mul, Nat.add_zero] at this
        have q3 : wA.drew.cell? ⟨gA, oA + 2 + 1, none⟩ = some (.slice B1 y.pd.length e1) := by have := hat.v3; rwa [Nat.zero_mul, Nat.add_zero] at this
        have q4 : wA.drew.cell? ⟨gA, oA + 4, none⟩ = some (.slice B2 y.needs.length e2) := by have := hat.v4; rwa [Nat.zero_mul, Nat.add_zero] at this
        have hgA2 : gA < wA.drew.heap.size := hgA
        have hsA := hat.s
        have rX := HR11.out.below hbX
        have u0 : wA.drew.cell? ⟨w5.heap.size, 0, none⟩ = some (.int .i64 y.id) := rX.cell 0 rfl
        have u1 : wA.drew.cell? ⟨w5.heap.size, 1, none⟩ = some (.int .i64 y.blk) := rX.cell 1 rfl
        have u2 : wA.drew.cell? ⟨w5.heap.size, 2, none⟩ = some (.int .i64 y.pa) := rX.cell 2 rfl
        have u3 : wA.drew.cell? ⟨w5.heap.size, 2 + 1, none⟩ = some (.slice D1 y.pd.length f1) := rX.cell 3 rfl
        have u4 : wA.drew.cell? ⟨w5.heap.size, 4, none⟩ = some (.slice D2 y.needs.length f2) := rX.cell 4 rfl
        have hg11 : w5.heap.size < wA.drew.heap.size := rX.lt
        have htA := HT8.out.below hbX
        have hx7 := HX8.out.below hbX
        have hxl := HX.out.below hbX
        have hia := HI8.out.below hbX
        have hbW := HB8.out.trans (hbX.mono HB8.out.size)
        clear HR11 HS8 HT8 HX8 HI8 HX HB8 hat hat0 hA hoA hbA hb9 hr9 rX hbX
        go_wp2_with fail
        refine wp_region_held_drew (S := Go.RowKit.Below ((wA.drew).heap.size) (wA.drew)) (by kernel_rfl) ?hb18 (fun hHeld => ?rest18)
        case hb18 =>
          exact Go.RowKit.Below.refl _ _
        case' rest18 => skip
        have hCl := fun (wS : World) (hSw : Go.RowKit.Below ((wA.drew).heap.size) (wA.drew) wS) => And.intro (Mem.bl_cell hSw q0 (by first | omega | (dsimp only; omega) | exact World.block_lt_of_cell? _ _ q0 | (simp <;> omega))) <| And.intro (Mem.bl_cell hSw q1 (by first | omega | (dsimp only; omega) | exact World.block_lt_of_cell? _ _ q1 | (simp <;> omega))) <| And.intro (Mem.bl_cell hSw q2 (by first | omega | (dsimp only; omega) | exact World.block_lt_of_cell? _ _ q2 | (simp <;> omega))) <| And.intro (Mem.bl_cell hSw q3 (by first | omega | (dsimp only; omega) | exact World.block_lt_of_cell? _ _ q3 | (simp <;> omega))) <| And.intro (Mem.bl_cell hSw q4 (by first | omega | (dsimp only; omega) | exact World.block_lt_of_cell? _ _ q4 | (simp <;> omega))) <| And.intro (Mem.bl_cell hSw u0 (by first | omega | (dsimp only; omega) | exact World.block_lt_of_cell? _ _ u0 | (simp <;> omega))) <| And.intro (Mem.bl_cell hSw u1 (by first | omega | (dsimp only; omega) | exact World.block_lt_of_cell? _ _ u1 | (simp <;> omega))) <| And.intro (Mem.bl_cell hSw u2 (by first | omega | (dsimp only; omega) | exact World.block_lt_of_cell? _ _ u2 | (simp <;> omega))) <| And.intro (Mem.bl_cell hSw u3 (by first | omega | (dsimp only; omega) | exact World.block_lt_of_cell? _ _ u3 | (simp <;> omega))) <| Mem.bl_cell hSw u4 (by first | omega | (dsimp only; omega) | exact World.block_lt_of_cell? _ _ u4 | (simp <;> omega))
        replace hCl := Go.Lib.hid hCl
        refine Mem.tkY 0 ?v19 (hy := Or.inl ⟨by rfl, ?y19⟩) (hS := by assumption) (h := ?r19)
        case y19 => (intro w hSw; clear hSw; go_simp; try with_reducible rfl)
        case' r19 => skip
        refine Mem.tkY 1 ?v20 (hy := Or.inl ⟨by rfl, ?y20⟩) (hS := by assumption) (h := ?r20)
        case y20 => (intro w hSw; clear hSw; go_simp; try with_reducible rfl)
        case' r20 => skip
        refine Mem.tkY 2 ?v21 (hy := Or.inl ⟨by rfl, ?y21⟩) (hS := by assumption) (h := ?r21)
        case y21 => (intro w hSw; clear hSw; go_simp; try with_reducible rfl)
        case' r21 => skip
        try simp only [List.getElem_toArray, List.getElem_cons_succ, List.getElem_cons_zero, Act.put, List.setIfInBounds_toArray, List.set_cons_zero, List.set_cons_succ]
        refine Mem.tkY 3 ?v22 (hy := Or.inl ⟨by rfl, ?y22⟩) (hS := by assumption) (h := ?r22)
        case y22 => (intro w hSw; clear hSw; go_simp; try with_reducible rfl)
        case' r22 => skip
        refine Mem.tkY 4 ?v23 (hy := Or.inl ⟨by rfl, ?y23⟩) (hS := by assumption) (h := ?r23)
        case y23 => (intro w hSw; clear hSw; go_simp; try with_reducible rfl)
        case' r23 => skip
        try simp only [List.getElem_toArray, List.getElem_cons_succ, List.getElem_cons_zero, Act.put, List.setIfInBounds_toArray, List.set_cons_zero, List.set_cons_succ]
        first | refine Mem.tkY 5 undef (hy := Or.inr ⟨by rfl, rfl⟩) (hS := by assumption) (h := ?r24) | (refine Mem.tkY 5 ?v24 (hy := Or.inl ⟨by rfl, ?y24⟩) (hS := by assumption) (h := ?r24); case y24 => (intro w hSw; clear hSw; go_simp; try with_reducible rfl))
        case' r24 => skip
        try simp only [List.getElem_toArray, List.getElem_cons_succ, List.getElem_cons_zero, Act.put, List.setIfInBounds_toArray, List.set_cons_zero, List.set_cons_succ]
        first | refine Mem.tkY 6 undef (hy := Or.inr ⟨by rfl, rfl⟩) (hS := by assumption) (h := ?r25) | (refine Mem.tkY 6 ?v25 (hy := Or.inl ⟨by rfl, ?y25⟩) (hS := by assumption) (h := ?r25); case y25 => (intro w hSw; clear hSw; go_simp; try with_reducible rfl))
        case' r25 => skip
        try simp only [List.getElem_toArray, List.getElem_cons_succ, List.getElem_cons_zero, Act.put, List.setIfInBounds_toArray, List.set_cons_zero, List.set_cons_succ]
        first | refine Mem.tkY 7 undef (hy := Or.inr ⟨by rfl, rfl⟩) (hS := by assumption) (h := ?r26) | (refine Mem.tkY 7 ?v26 (hy := Or.inl ⟨by rfl, ?y26⟩) (hS := by assumption) (h := ?r26); case y26 => (intro w hSw; obtain ⟨hT0, hT1, hT2, hT3, hT4, hT5, hT6, hT7, hT8, hT9⟩ := hCl.out w hSw; clear hSw; go_simp; try with_reducible rfl))
        case' r26 => skip
        try simp only [List.getElem_toArray, List.getElem_cons_succ, List.getElem_cons_zero, Act.put, List.setIfInBounds_toArray, List.set_cons_zero, List.set_cons_succ]
        first | refine Mem.tkY 8 undef (hy := Or.inr ⟨by rfl, rfl⟩) (hS := by assumption) (h := ?r27) | (refine Mem.tkY 8 ?v27 (hy := Or.inl ⟨by rfl, ?y27⟩) (hS := by assumption) (h := ?r27); case y27 => (intro w hSw; obtain ⟨hT0, hT1, hT2, hT3, hT4, hT5, hT6, hT7, hT8, hT9⟩ := hCl.out w hSw; clear hSw; go_simp; try with_reducible rfl))
        case' r27 => skip
        try simp only [List.getElem_toArray, List.getElem_cons_succ, List.getElem_cons_zero, Act.put, List.setIfInBounds_toArray, List.set_cons_zero, List.set_cons_succ]
        refine wpAnyH_ready (rs := [9]) (by kernel_rfl) (by simp) ?_
        refine AllReadyH.cons rfl (fun K hK => ?_) AllReadyH.nil
        go_simp
        (refine (same_yes y B1 e1 B2 e2 D1 f1 D2 f2 _ hsA htA).mono ?_; rintro e wb ⟨rfl, hbl⟩)
        try go_wp2_with fail
        have hSnew := Mem.bl_step hHeld hbl (by first | exact Nat.le_refl _ | omega | (simp <;> omega))
        refine hK.out _ _ ?_ (fun hHeld2 => ?_)
        · exact hSnew
        try replace hsA := hsA.below hbl
        try replace htA := htA.below hbl
        try replace hx7 := hx7.below hbl
        try replace hxl := hxl.below hbl
        try replace hia := hia.below hbl
        try replace v14 := v14.below hbl
        try replace v15 := v15.below hbl
        try replace v18 := v18.below hbl
        try replace v24 := v24.below hbl
        try replace v25 := v25.below hbl
        try replace v28 := v28.below hbl
        try replace v33 := v33.below hbl
        try replace v35 := v35.below hbl
        clear hbl
        clear hK K hHeld hSnew
        have hHeld := hHeld2
        clear hHeld2
        try simp only [List.getElem_toArray, List.getElem_cons_succ, List.getElem_cons_zero, Act.put, List.setIfInBounds_toArray, List.set_cons_zero, List.set_cons_succ]
        refine Mem.tkY 10 ?v28 (hy := Or.inl ⟨by rfl, ?y28⟩) (hS := by assumption) (h := ?r28)
        case y28 => (intro w hSw; clear hSw; go_simp; try with_reducible rfl)
        case' r28 => skip
        refine Mem.tkY 11 ?v29 (hy := Or.inl ⟨by rfl, ?y29⟩) (hS := by assumption) (h := ?r29)
        case y29 => (intro w hSw; clear hSw; go_simp; try with_reducible rfl)
        case' r29 => skip
        try simp only [List.getElem_toArray, List.getElem_cons_succ, List.getElem_cons_zero, Act.put, List.setIfInBounds_toArray, List.set_cons_zero, List.set_cons_succ]
        first | refine Mem.tkY 12 undef (hy := Or.inr ⟨by rfl, rfl⟩) (hS := by assumption) (h := ?r30) | (refine Mem.tkY 12 ?v30 (hy := Or.inl ⟨by rfl, ?y30⟩) (hS := by assumption) (h := ?r30); case y30 => (intro w hSw; clear hSw; go_simp; try with_reducible rfl))
        case' r30 => skip
        try simp only [List.getElem_toArray, List.getElem_cons_succ, List.getElem_cons_zero, Act.put, List.setIfInBounds_toArray, List.set_cons_zero, List.set_cons_succ]
        first | refine Mem.tkY 13 undef (hy := Or.inr ⟨by rfl, rfl⟩) (hS := by assumption) (h := ?r31) | (refine Mem.tkY 13 ?v31 (hy := Or.inl ⟨by rfl, ?y31⟩) (hS := by assumption) (h := ?r31); case y31 => (intro w hSw; clear hSw; go_simp; try with_reducible rfl))
        case' r31 => skip
        try simp only [List.getElem_toArray, List.getElem_cons_succ, List.getElem_cons_zero, Act.put, List.setIfInBounds_toArray, List.set_cons_zero, List.set_cons_succ]
        first | refine Mem.tkY 16 undef (hy := Or.inr ⟨by rfl, rfl⟩) (hS := by assumption) (h := ?r32) | (refine Mem.tkY 16 ?v32 (hy := Or.inl ⟨by rfl, ?y32⟩) (hS := by assumption) (h := ?r32); case y32 => (intro w hSw; clear hSw; go_simp; try with_reducible rfl))
        case' r32 => skip
        try simp only [List.getElem_toArray, List.getElem_cons_succ, List.getElem_cons_zero, Act.put, List.setIfInBounds_toArray, List.set_cons_zero, List.set_cons_succ]
        first | refine Mem.tkY 17 undef (hy := Or.inr ⟨by rfl, rfl⟩) (hS := by assumption) (h := ?r33) | (refine Mem.tkY 17 ?v33 (hy := Or.inl ⟨by rfl, ?y33⟩) (hS := by assumption) (h := ?r33); case y33 => (intro w hSw; clear hSw; go_simp; try with_reducible rfl))
        case' r33 => skip
        try simp only [List.getElem_toArray, List.getElem_cons_succ, List.getElem_cons_zero, Act.put, List.setIfInBounds_toArray, List.set_cons_zero, List.set_cons_succ]
        refine wpAnyH_ready (rs := [14]) (by kernel_rfl) (by simp) ?_
        refine AllReadyH.cons rfl (fun K hK => ?_) AllReadyH.nil
        go_simp
        (refine (Of_any _ c7 xs n _ hx7 hs (by omega)).mono ?_; rintro e wb ⟨z14, rfl, ho14, hbl⟩; obtain ⟨A14, c14, rfl, -, -, -, v14⟩ := ho14.rw_; clear ho14; replace v14 := v14.below (Below.refl _ _))
        try go_wp2_with fail
        have hSnew := Mem.bl_step hHeld hbl (by first | exact Nat.le_refl _ | omega | (simp <;> omega))
        refine hK.out _ _ ?_ (fun hHeld2 => ?_)
        · exact hSnew
        try replace hsA := hsA.below hbl
        try replace htA := htA.below hbl
        try replace hx7 := hx7.below hbl
        try replace hxl := hxl.below hbl
        try replace hia := hia.below hbl
        try replace v14 := v14.below hbl
        try replace v15 := v15.below hbl
        try replace v18 := v18.below hbl
        try replace v24 := v24.below hbl
        try replace v25 := v25.below hbl
        try replace v28 := v28.below hbl
        try replace v33 := v33.below hbl
        try replace v35 := v35.below hbl
        clear hbl
        clear hK K hHeld hSnew
        have hHeld := hHeld2
        clear hHeld2
        try simp only [List.getElem_toArray, List.getElem_cons_succ, List.getElem_cons_zero, Act.put, List.setIfInBounds_toArray, List.set_cons_zero, List.set_cons_succ]
        refine wpAnyH_ready (rs := [15]) (by kernel_rfl) (by simp) ?_
        refine AllReadyH.cons rfl (fun K hK => ?_) AllReadyH.nil
        go_simp
        (refine (lof_any A14 c14 (ofS xs n) _ v14 (Nat.le_trans (ofS_len xs n) (by omega))).mono ?_; rintro e wb ⟨z15, rfl, ho15, hbl⟩; obtain ⟨A15, c15, rfl, -, -, -, v15⟩ := ho15.rw_; clear ho15 v14)
        try go_wp2_with fail
        have hSnew := Mem.bl_step hHeld hbl (by first | exact Nat.le_refl _ | omega | (simp <;> omega))
        refine hK.out _ _ ?_ (fun hHeld2 => ?_)
        · exact hSnew
        try replace hsA := hsA.below hbl
        try replace htA := htA.below hbl
        try replace hx7 := hx7.below hbl
        try replace hxl := hxl.below hbl
        try replace hia := hia.below hbl
        try replace v14 := v14.below hbl
        try replace v15 := v15.below hbl
        try replace v18 := v18.below hbl
        try replace v24 := v24.below hbl
        try replace v25 := v25.below hbl
        try replace v28 := v28.below hbl
        try replace v33 := v33.below hbl
        try replace v35 := v35.below hbl
        clear hbl
        clear hK K hHeld hSnew
        have hHeld := hHeld2
        clear hHeld2
        try simp only [List.getElem_toArray, List.getElem_cons_succ, List.getElem_cons_zero, Act.put, List.setIfInBounds_toArray, List.set_cons_zero, List.set_cons_succ]
        refine wpAnyH_ready (rs := [18]) (by kernel_rfl) (by simp) ?_
        refine AllReadyH.cons rfl (fun K hK => ?_) AllReadyH.nil
        go_simp
        (refine (ROf_any _ c xs n _ hxl (by omega)).mono ?_; rintro e wb ⟨z18, rfl, ho18, hbl⟩; obtain ⟨A18, c18, rfl, -, -, -, v18⟩ := ho18.rw_; clear ho18)
        try go_wp2_with fail
        have hSnew := Mem.bl_step hHeld hbl (by first | exact Nat.le_refl _ | omega | (simp <;> omega))
        refine hK.out _ _ ?_ (fun hHeld2 => ?_)
        · exact hSnew
        try replace hsA := hsA.below hbl
        try replace htA := htA.below hbl
        try replace hx7 := hx7.below hbl
        try replace hxl := hxl.below hbl
        try replace hia := hia.below hbl
        try replace v14 := v14.below hbl
        try replace v15 := v15.below hbl
        try replace v18 := v18.below hbl
        try replace v24 := v24.below hbl
        try replace v25 := v25.below hbl
        try replace v28 := v28.below hbl
        try replace v33 := v33.below hbl
        try replace v35 := v35.below hbl
        clear hbl
        clear hK K hHeld hSnew
        have hHeld := hHeld2
        clear hHeld2
        try simp only [List.getElem_toArray, List.getElem_cons_succ, List.getElem_cons_zero, Act.put, List.setIfInBounds_toArray, List.set_cons_zero, List.set_cons_succ]
        refine wpAnyH_ready (rs := [19]) (by kernel_rfl) (by simp) ?_
        refine AllReadyH.cons rfl (fun K hK => ?_) AllReadyH.nil
        go_simp
        (refine (sameall_yes A15 c15 A18 c18 (ofS xs n) _ v15 v18).mono ?_; rintro e wb ⟨rfl, hbl⟩; clear v15 v18)
        try go_wp2_with fail
        have hSnew := Mem.bl_step hHeld hbl (by first | exact Nat.le_refl _ | omega | (simp <;> omega))
        refine hK.out _ _ ?_ (fun hHeld2 => ?_)
        · exact hSnew
        try replace hsA := hsA.below hbl
        try replace htA := htA.below hbl
        try replace hx7 := hx7.below hbl
        try replace hxl := hxl.below hbl
        try replace hia := hia.below hbl
        try replace v14 := v14.below hbl
        try replace v15 := v15.below hbl
        try replace v18 := v18.below hbl
        try replace v24 := v24.below hbl
        try replace v25 := v25.below hbl
        try replace v28 := v28.below hbl
        try replace v33 := v33.below hbl
        try replace v35 := v35.below hbl
        clear hbl
        clear hK K hHeld hSnew
        have hHeld := hHeld2
        clear hHeld2
        try simp only [List.getElem_toArray, List.getElem_cons_succ, List.getElem_cons_zero, Act.put, List.setIfInBounds_toArray, List.set_cons_zero, List.set_cons_succ]
        refine Mem.tkY 20 ?v34 (hy := Or.inl ⟨by rfl, ?y34⟩) (hS := by assumption) (h := ?r34)
        case y34 => (intro w hSw; clear hSw; go_simp; try with_reducible rfl)
        case' r34 => skip
        refine Mem.tkY 21 ?v35 (hy := Or.inl ⟨by rfl, ?y35⟩) (hS := by assumption) (h := ?r35)
        case y35 => (intro w hSw; clear hSw; go_simp; try with_reducible rfl)
        case' r35 => skip
        try simp only [List.getElem_toArray, List.getElem_cons_succ, List.getElem_cons_zero, Act.put, List.setIfInBounds_toArray, List.set_cons_zero, List.set_cons_succ]
        first | refine Mem.tkY 22 undef (hy := Or.inr ⟨by rfl, rfl⟩) (hS := by assumption) (h := ?r36) | (refine Mem.tkY 22 ?v36 (hy := Or.inl ⟨by rfl, ?y36⟩) (hS := by assumption) (h := ?r36); case y36 => (intro w hSw; clear hSw; go_simp; try with_reducible rfl))
        case' r36 => skip
        try simp only [List.getElem_toArray, List.getElem_cons_succ, List.getElem_cons_zero, Act.put, List.setIfInBounds_toArray, List.set_cons_zero, List.set_cons_succ]
        first | refine Mem.tkY 23 undef (hy := Or.inr ⟨by rfl, rfl⟩) (hS := by assumption) (h := ?r37) | (refine Mem.tkY 23 ?v37 (hy := Or.inl ⟨by rfl, ?y37⟩) (hS := by assumption) (h := ?r37); case y37 => (intro w hSw; clear hSw; go_simp; try with_reducible rfl))
        case' r37 => skip
        try simp only [List.getElem_toArray, List.getElem_cons_succ, List.getElem_cons_zero, Act.put, List.setIfInBounds_toArray, List.set_cons_zero, List.set_cons_succ]
        first | refine Mem.tkY 26 undef (hy := Or.inr ⟨by rfl, rfl⟩) (hS := by assumption) (h := ?r38) | (refine Mem.tkY 26 ?v38 (hy := Or.inl ⟨by rfl, ?y38⟩) (hS := by assumption) (h := ?r38); case y38 => (intro w hSw; clear hSw; go_simp; try with_reducible rfl))
        case' r38 => skip
        try simp only [List.getElem_toArray, List.getElem_cons_succ, List.getElem_cons_zero, Act.put, List.setIfInBounds_toArray, List.set_cons_zero, List.set_cons_succ]
        first | refine Mem.tkY 27 undef (hy := Or.inr ⟨by rfl, rfl⟩) (hS := by assumption) (h := ?r39) | (refine Mem.tkY 27 ?v39 (hy := Or.inl ⟨by rfl, ?y39⟩) (hS := by assumption) (h := ?r39); case y39 => (intro w hSw; clear hSw; go_simp; try with_reducible rfl))
        case' r39 => skip
        try simp only [List.getElem_toArray, List.getElem_cons_succ, List.getElem_cons_zero, Act.put, List.setIfInBounds_toArray, List.set_cons_zero, List.set_cons_succ]
        refine wpAnyH_ready (rs := [24]) (by kernel_rfl) (by simp) ?_
        refine AllReadyH.cons rfl (fun K hK => ?_) AllReadyH.nil
        go_simp
        (refine (Without_any _ c7 xs Ai ci ids _ hx7 hia hs (by omega) (by omega)).mono ?_; rintro e wb ⟨z24, rfl, ho24, hbl⟩; obtain ⟨A24, c24, rfl, -, -, -, v24⟩ := ho24.rw_; clear ho24)
        try go_wp2_with fail
        have hSnew := Mem.bl_step hHeld hbl (by first | exact Nat.le_refl _ | omega | (simp <;> omega))
        refine hK.out _ _ ?_ (fun hHeld2 => ?_)
        · exact hSnew
        try replace hsA := hsA.below hbl
        try replace htA := htA.below hbl
        try replace hx7 := hx7.below hbl
        try replace hxl := hxl.below hbl
        try replace hia := hia.below hbl
        try replace v14 := v14.below hbl
        try replace v15 := v15.below hbl
        try replace v18 := v18.below hbl
        try replace v24 := v24.below hbl
        try replace v25 := v25.below hbl
        try replace v28 := v28.below hbl
        try replace v33 := v33.below hbl
        try replace v35 := v35.below hbl
        clear hbl
        clear hK K hHeld hSnew
        have hHeld := hHeld2
        clear hHeld2
        try simp only [List.getElem_toArray, List.getElem_cons_succ, List.getElem_cons_zero, Act.put, List.setIfInBounds_toArray, List.set_cons_zero, List.set_cons_succ]
        refine wpAnyH_ready (rs := [25]) (by kernel_rfl) (by simp) ?_
        refine AllReadyH.cons rfl (fun K hK => ?_) AllReadyH.nil
        go_simp
        (refine (lof_any A24 c24 (woS xs ids) _ v24 (Nat.le_trans (woS_len xs ids) (by omega))).mono ?_; rintro e wb ⟨z25, rfl, ho25, hbl⟩; obtain ⟨A25, c25, rfl, -, -, -, v25⟩ := ho25.rw_; clear ho25 v24)
        try go_wp2_with fail
        have hSnew := Mem.bl_step hHeld hbl (by first | exact Nat.le_refl _ | omega | (simp <;> omega))
        refine hK.out _ _ ?_ (fun hHeld2 => ?_)
        · exact hSnew
        try replace hsA := hsA.below hbl
        try replace htA := htA.below hbl
        try replace hx7 := hx7.below hbl
        try replace hxl := hxl.below hbl
        try replace hia := hia.below hbl
        try replace v14 := v14.below hbl
        try replace v15 := v15.below hbl
        try replace v18 := v18.below hbl
        try replace v24 := v24.below hbl
        try replace v25 := v25.below hbl
        try replace v28 := v28.below hbl
        try replace v33 := v33.below hbl
        try replace v35 := v35.below hbl
        clear hbl
        clear hK K hHeld hSnew
        have hHeld := hHeld2
        clear hHeld2
        try simp only [List.getElem_toArray, List.getElem_cons_succ, List.getElem_cons_zero, Act.put, List.setIfInBounds_toArray, List.set_cons_zero, List.set_cons_succ]
        refine wpAnyH_ready (rs := [28]) (by kernel_rfl) (by simp) ?_
        refine AllReadyH.cons rfl (fun K hK => ?_) AllReadyH.nil
        go_simp
        (refine (RWithout_any _ c xs Ai ci ids _ hxl hia (by omega)).mono ?_; rintro e wb ⟨z28, rfl, ho28, hbl⟩; obtain ⟨A28, c28, rfl, -, -, -, v28⟩ := ho28.rw_; clear ho28)
        try go_wp2_with fail
        have hSnew := Mem.bl_step hHeld hbl (by first | exact Nat.le_refl _ | omega | (simp <;> omega))
        refine hK.out _ _ ?_ (fun hHeld2 => ?_)
        · exact hSnew
        try replace hsA := hsA.below hbl
        try replace htA := htA.below hbl
        try replace hx7 := hx7.below hbl
        try replace hxl := hxl.below hbl
        try replace hia := hia.below hbl
        try replace v14 := v14.below hbl
        try replace v15 := v15.below hbl
        try replace v18 := v18.below hbl
        try replace v24 := v24.below hbl
        try replace v25 := v25.below hbl
        try replace v28 := v28.below hbl
        try replace v33 := v33.below hbl
        try replace v35 := v35.below hbl
        clear hbl
        clear hK K hHeld hSnew
        have hHeld := hHeld2
        clear hHeld2
        try simp only [List.getElem_toArray, List.getElem_cons_succ, List.getElem_cons_zero, Act.put, List.setIfInBounds_toArray, List.set_cons_zero, List.set_cons_succ]
        refine wpAnyH_ready (rs := [29]) (by kernel_rfl) (by simp) ?_
        refine AllReadyH.cons rfl (fun K hK => ?_) AllReadyH.nil
        go_simp
        (refine (sameall_yes A25 c25 A28 c28 (woS xs ids) _ v25 v28).mono ?_; rintro e wb ⟨rfl, hbl⟩; clear v25 v28)
        try go_wp2_with fail
        have hSnew := Mem.bl_step hHeld hbl (by first | exact Nat.le_refl _ | omega | (simp <;> omega))
        refine hK.out _ _ ?_ (fun hHeld2 => ?_)
        · exact hSnew
        try replace hsA := hsA.below hbl
        try replace htA := htA.below hbl
        try replace hx7 := hx7.below hbl
        try replace hxl := hxl.below hbl
        try replace hia := hia.below hbl
        try replace v14 := v14.below hbl
        try replace v15 := v15.below hbl
        try replace v18 := v18.below hbl
        try replace v24 := v24.below hbl
        try replace v25 := v25.below hbl
        try replace v28 := v28.below hbl
        try replace v33 := v33.below hbl
        try replace v35 := v35.below hbl
        clear hbl
        clear hK K hHeld hSnew
        have hHeld := hHeld2
        clear hHeld2
        try simp only [List.getElem_toArray, List.getElem_cons_succ, List.getElem_cons_zero, Act.put, List.setIfInBounds_toArray, List.set_cons_zero, List.set_cons_succ]
        refine Mem.tkY 30 ?v40 (hy := Or.inl ⟨by rfl, ?y40⟩) (hS := by assumption) (h := ?r40)
        case y40 => (intro w hSw; clear hSw; go_simp; try with_reducible rfl)
        case' r40 => skip
        refine Mem.tkY 31 ?v41 (hy := Or.inl ⟨by rfl, ?y41⟩) (hS := by assumption) (h := ?r41)
        case y41 => (intro w hSw; clear hSw; go_simp; try with_reducible rfl)
        case' r41 => skip
        try simp only [List.getElem_toArray, List.getElem_cons_succ, List.getElem_cons_zero, Act.put, List.setIfInBounds_toArray, List.set_cons_zero, List.set_cons_succ]
        first | refine Mem.tkY 32 undef (hy := Or.inr ⟨by rfl, rfl⟩) (hS := by assumption) (h := ?r42) | (refine Mem.tkY 32 ?v42 (hy := Or.inl ⟨by rfl, ?y42⟩) (hS := by assumption) (h := ?r42); case y42 => (intro w hSw; clear hSw; go_simp; try with_reducible rfl))
        case' r42 => skip
        try simp only [List.getElem_toArray, List.getElem_cons_succ, List.getElem_cons_zero, Act.put, List.setIfInBounds_toArray, List.set_cons_zero, List.set_cons_succ]
        first | refine Mem.tkY 34 undef (hy := Or.inr ⟨by rfl, rfl⟩) (hS := by assumption) (h := ?r43) | (refine Mem.tkY 34 ?v43 (hy := Or.inl ⟨by rfl, ?y43⟩) (hS := by assumption) (h := ?r43); case y43 => (intro w hSw; clear hSw; go_simp; try with_reducible rfl))
        case' r43 => skip
        try simp only [List.getElem_toArray, List.getElem_cons_succ, List.getElem_cons_zero, Act.put, List.setIfInBounds_toArray, List.set_cons_zero, List.set_cons_succ]
        refine wpAnyH_ready (rs := [33]) (by kernel_rfl) (by simp) ?_
        refine AllReadyH.cons rfl (fun K hK => ?_) AllReadyH.nil
        go_simp
        (refine (Blocks_any _ c7 xs _ hx7 (by omega)).mono ?_; rintro e wb ⟨z33, rfl, v33, hbl⟩)
        try go_wp2_with fail
        have hSnew := Mem.bl_step hHeld hbl (by first | exact Nat.le_refl _ | omega | (simp <;> omega))
        refine hK.out _ _ ?_ (fun hHeld2 => ?_)
        · exact hSnew
        try replace hsA := hsA.below hbl
        try replace htA := htA.below hbl
        try replace hx7 := hx7.below hbl
        try replace hxl := hxl.below hbl
        try replace hia := hia.below hbl
        try replace v14 := v14.below hbl
        try replace v15 := v15.below hbl
        try replace v18 := v18.below hbl
        try replace v24 := v24.below hbl
        try replace v25 := v25.below hbl
        try replace v28 := v28.below hbl
        try replace v33 := v33.below hbl
        try replace v35 := v35.below hbl
        clear hbl
        clear hK K hHeld hSnew
        have hHeld := hHeld2
        clear hHeld2
        try simp only [List.getElem_toArray, List.getElem_cons_succ, List.getElem_cons_zero, Act.put, List.setIfInBounds_toArray, List.set_cons_zero, List.set_cons_succ]
        refine wpAnyH_ready (rs := [35]) (by kernel_rfl) (by simp) ?_
        refine AllReadyH.cons rfl (fun K hK => ?_) AllReadyH.nil
        go_simp
        (refine (RBlocks_any _ c xs _ hxl (by omega)).mono ?_; rintro e wb ⟨z35, rfl, v35, hbl⟩)
        try go_wp2_with fail
        have hSnew := Mem.bl_step hHeld hbl (by first | exact Nat.le_refl _ | omega | (simp <;> omega))
        refine hK.out _ _ ?_ (fun hHeld2 => ?_)
        · exact hSnew
        try replace hsA := hsA.below hbl
        try replace htA := htA.below hbl
        try replace hx7 := hx7.below hbl
        try replace hxl := hxl.below hbl
        try replace hia := hia.below hbl
        try replace v14 := v14.below hbl
        try replace v15 := v15.below hbl
        try replace v18 := v18.below hbl
        try replace v24 := v24.below hbl
        try replace v25 := v25.below hbl
        try replace v28 := v28.below hbl
        try replace v33 := v33.below hbl
        try replace v35 := v35.below hbl
        clear hbl
        clear hK K hHeld hSnew
        have hHeld := hHeld2
        clear hHeld2
        try simp only [List.getElem_toArray, List.getElem_cons_succ, List.getElem_cons_zero, Act.put, List.setIfInBounds_toArray, List.set_cons_zero, List.set_cons_succ]
        refine wpAnyH_ready (rs := [36]) (by kernel_rfl) (by simp) ?_
        refine AllReadyH.cons rfl (fun K hK => ?_) AllReadyH.nil
        go_simp
        (obtain ⟨A33, c33, rfl⟩ := v33.slice; obtain ⟨A35, c35, rfl⟩ := v35.slice; refine (ints_any A33 A35 _ _ c33 c35 _ _ _ v33.sl.2 v35.sl.2).mono ?_; rintro e wb ⟨rfl, qq, hww⟩; have hbl := bl_drewN hww; clear v33 v35 hww)
        try go_wp2_with fail
        have hSnew := Mem.bl_step hHeld hbl (by first | exact Nat.le_refl _ | omega | (simp <;> omega))
        refine hK.out _ _ ?_ (fun hHeld2 => ?_)
        · exact hSnew
        try replace hsA := hsA.below hbl
        try replace htA := htA.below hbl
        try replace hx7 := hx7.below hbl
        try replace hxl := hxl.below hbl
        try replace hia := hia.below hbl
        try replace v14 := v14.below hbl
        try replace v15 := v15.below hbl
        try replace v18 := v18.below hbl
        try replace v24 := v24.below hbl
        try replace v25 := v25.below hbl
        try replace v28 := v28.below hbl
        try replace v33 := v33.below hbl
        try replace v35 := v35.below hbl
        clear hbl
        clear hK K hHeld hSnew
        have hHeld := hHeld2
        clear hHeld2
        try simp only [List.getElem_toArray, List.getElem_cons_succ, List.getElem_cons_zero, Act.put, List.setIfInBounds_toArray, List.set_cons_zero, List.set_cons_succ]
        refine Mem.tkY 37 ?v44 (hy := Or.inl ⟨by rfl, ?y44⟩) (hS := by assumption) (h := ?r44)
        case y44 => (intro w hSw; clear hSw; go_simp; try with_reducible rfl)
        case' r44 => skip
        refine Mem.tkY 38 ?v45 (hy := Or.inl ⟨by rfl, ?y45⟩) (hS := by assumption) (h := ?r45)
        case y45 => (intro w hSw; clear hSw; go_simp; try with_reducible rfl)
        case' r45 => skip
        try simp only [List.getElem_toArray, List.getElem_cons_succ, List.getElem_cons_zero, Act.put, List.setIfInBounds_toArray, List.set_cons_zero, List.set_cons_succ]
        refine wpAnyH_ready (rs := [39]) (by kernel_rfl) (by simp) ?_
        refine AllReadyH.cons rfl (fun K hK => ?_) AllReadyH.nil
        go_simp
        (refine (works9 _).mono ?_; rintro e wb2 ⟨rfl, hbl⟩)
        try go_wp2_with fail
        have hSnew := Mem.bl_step hHeld hbl (by first | exact Nat.le_refl _ | omega | (simp <;> omega))
        refine hK.out _ _ ?_ (fun hHeld2 => ?_)
        · exact hSnew
        try replace hsA := hsA.below hbl
        try replace htA := htA.below hbl
        try replace hx7 := hx7.below hbl
        try replace hxl := hxl.below hbl
        try replace hia := hia.below hbl
        try replace v14 := v14.below hbl
        try replace v15 := v15.below hbl
        try replace v18 := v18.below hbl
        try replace v24 := v24.below hbl
        try replace v25 := v25.below hbl
        try replace v28 := v28.below hbl
        try replace v33 := v33.below hbl
        try replace v35 := v35.below hbl
        clear hbl
        clear hK K hHeld hSnew
        have hHeld := hHeld2
        clear hHeld2
        try simp only [List.getElem_toArray, List.getElem_cons_succ, List.getElem_cons_zero, Act.put, List.setIfInBounds_toArray, List.set_cons_zero, List.set_cons_succ]
        refine Mem.tkY 40 ?v46 (hy := Or.inl ⟨by rfl, ?y46⟩) (hS := by assumption) (h := ?r46)
        case y46 => (intro w hSw; clear hSw; go_simp; try with_reducible rfl)
        case' r46 => skip
        refine Mem.tkY 41 ?v47 (hy := Or.inl ⟨by rfl, ?y47⟩) (hS := by assumption) (h := ?r47)
        case y47 => (intro w hSw; clear hSw; go_simp; try with_reducible rfl)
        case' r47 => skip
        try simp only [List.getElem_toArray, List.getElem_cons_succ, List.getElem_cons_zero, Act.put, List.setIfInBounds_toArray, List.set_cons_zero, List.set_cons_succ]
        refine wpAnyH_done (by kernel_rfl) ?_ _
        clear hCl
        go_wp2_with fail
        go_ret
        exact ⟨rfl, hbW.trans (hHeld.mono hbW.size)⟩
      · have hyk : y = chNil := by have := HY.out; unfold findD at this; rw [e2] at this; exact this.symm
        have hok : ok = false := by have := HOK.out; rw [e2] at this; exact this.symm
        subst hok
        rw [e1]
        obtain ⟨D1, f1, D2, f2, r11, ht8⟩ : ∃ D1 f1 D2 f2, Row ((w5.alloc (.cells chZ 69)).setRow w5.heap.size chZ) w5.heap.size 69 (chC y D1 f1 D2 f2) ∧ ChS ((w5.alloc (.cells chZ 69)).setRow w5.heap.size chZ) y D1 f1 D2 f2 := ⟨none, 0, none, 0, by rw [hyk]; exact r6, by rw [hyk]; exact chNil_S _⟩
        have hb8 := hb16
        have hxb := hx.below hb8
        have hi8 := hi.below hb8
        clear hyk e1 e2 hx hi b6 r6 hb16 r5 hs5 hx5 hb15
        have d0 : World.cell? _ ⟨g8, 0, none⟩ = some (.int .i64 y.id) := r8.cell 0 rfl
        have d1 : World.cell? _ ⟨g8, 1, none⟩ = some (.int .i64 y.blk) := r8.cell 1 rfl
        have d2 : World.cell? _ ⟨g8, 2, none⟩ = some (.int .i64 y.pa) := r8.cell 2 rfl
        have d3 : World.cell? _ ⟨g8, 2 + 1, none⟩ = some (.slice A3 y.pd.length c3) := r8.cell 3 rfl
        have d4 : World.cell? _ ⟨g8, 4, none⟩ = some (.slice A4 y.needs.length c4) := r8.cell 4 rfl
        have HR11 := Lib.hid r11
        have HS8 := Lib.hid hs8
        have HT8 := Lib.hid ht8
        have HX8 := Lib.hid hx8
        have HI8 := Lib.hid hi8
        have HX := Lib.hid hxb
        have HB8 := Lib.hid hb8
        clear r8 r11 hs8 ht8 hx8 hi8 hxb hb8
        go_wp2_with (first
          | (with_reducible refine wpList_allocA rfl 69 rfl _ rchZero ?_)
          | (with_reducible refine wpList_storeRow rfl 69 _ _ rfl w5.heap.size rfl chZ rfl chZ 69 5 rchSize rfl rfl chZ_one R0 ?_)
          | (with_reducible refine wpList_build1 rfl 57 72 _ rfl 5 72 (.agg chZ) (chC y A3 c3 A4 c4) rfl rfl (by decide) (by omega) Try.underlying57 chInfo3 ?_; intro g9 w9 hr9 hb9 hg9))
        refine (lof_any _ 1 [y] w9 (chs_one hr9 (HS8.out.below hb9)) (by simp)).mono ?_
        rintro e wA ⟨vA, rfl, hoA, hbA⟩
        obtain ⟨AA, cA, rfl, -, -, -, hA⟩ := hoA.rw_
        obtain ⟨gA, oA, rfl, hgA⟩ := ch_form hA (by simp)
        obtain ⟨B1, e1, B2, e2, hat0⟩ := ch_at hA 0 (by simp)
        have hbX : Below _ _ wA.drew := (hb9.trans (hbA.mono hb9.size)).drew
        have hat := hat0.below (Below.refl _ _).drew
        have q0 : wA.drew.cell? ⟨gA, oA, none⟩ = some (.int .i64 y.id) := by have := hat.v0; rwa [Nat.zero_mul, Nat.add_zero] at this
        have q1 : wA.drew.cell? ⟨gA, oA + 1, none⟩ = some (.int .i64 y.blk) := by have := hat.v1; rwa [Nat.zero_mul, Nat.add_zero] at this
        have q2 : wA.drew.cell? ⟨gA, oA + 2, none⟩ = some (.int .i64 y.pa) := by have := hat.v2; rwa [Nat.zero_mul, Nat.add_zero] at this
        have q3 : wA.drew.cell? ⟨gA, oA + 2 + 1, none⟩ = some (.slice B1 y.pd.length e1) := by have := hat.v3; rwa [Nat.zero_mul, Nat.add_zero] at this
        have q4 : wA.drew.cell? ⟨gA, oA + 4, none⟩ = some (.slice B2 y.needs.length e2) := by have := hat.v4; rwa [Nat.zero_mul, Nat.add_zero] at this
        have hgA2 : gA < wA.drew.heap.size := hgA
        have hsA := hat.s
        have rX := HR11.out.below hbX
        have u0 : wA.drew.cell? ⟨w5.heap.size, 0, none⟩ = some (.int .i64 y.id) := rX.cell 0 rfl
        have u1 : wA.drew.cell? ⟨w5.heap.size, 1, none⟩ = some (.int .i64 y.blk) := rX.cell 1 rfl
        have u2 : wA.drew.cell? ⟨w5.heap.size, 2, none⟩ = some (.int .i64 y.pa) := rX.cell 2 rfl
        have u3 : wA.drew.cell? ⟨w5.heap.size, 2 + 1, none⟩ = some (.slice D1 y.pd.length f1) := rX.cell 3 rfl
        have u4 : wA.drew.cell? ⟨w5.heap.size, 4, none⟩ = some (.slice D2 y.needs.length f2) := rX.cell 4 rfl
        have hg11 : w5.heap.size < wA.drew.heap.size := rX.lt
        have htA := HT8.out.below hbX
        have hx7 := HX8.out.below hbX
        have hxl := HX.out.below hbX
        have hia := HI8.out.below hbX
        have hbW := HB8.out.trans (hbX.mono HB8.out.size)
        clear HR11 HS8 HT8 HX8 HI8 HX HB8 hat hat0 hA hoA hbA hb9 hr9 rX hbX
        go_wp2_with fail
        refine wp_region_held_drew (S := Go.RowKit.Below ((wA.drew).heap.size) (wA.drew)) (by kernel_rfl) ?hb65 (fun hHeld => ?rest65)
        case hb65 =>
          exact Go.RowKit.Below.refl _ _
        case' rest65 => skip
        have hCl := fun (wS : World) (hSw : Go.RowKit.Below ((wA.drew).heap.size) (wA.drew) wS) => And.intro (Mem.bl_cell hSw q0 (by first | omega | (dsimp only; omega) | exact World.block_lt_of_cell? _ _ q0 | (simp <;> omega))) <| And.intro (Mem.bl_cell hSw q1 (by first | omega | (dsimp only; omega) | exact World.block_lt_of_cell? _ _ q1 | (simp <;> omega))) <| And.intro (Mem.bl_cell hSw q2 (by first | omega | (dsimp only; omega) | exact World.block_lt_of_cell? _ _ q2 | (simp <;> omega))) <| And.intro (Mem.bl_cell hSw q3 (by first | omega | (dsimp only; omega) | exact World.block_lt_of_cell? _ _ q3 | (simp <;> omega))) <| And.intro (Mem.bl_cell hSw q4 (by first | omega | (dsimp only; omega) | exact World.block_lt_of_cell? _ _ q4 | (simp <;> omega))) <| And.intro (Mem.bl_cell hSw u0 (by first | omega | (dsimp only; omega) | exact World.block_lt_of_cell? _ _ u0 | (simp <;> omega))) <| And.intro (Mem.bl_cell hSw u1 (by first | omega | (dsimp only; omega) | exact World.block_lt_of_cell? _ _ u1 | (simp <;> omega))) <| And.intro (Mem.bl_cell hSw u2 (by first | omega | (dsimp only; omega) | exact World.block_lt_of_cell? _ _ u2 | (simp <;> omega))) <| And.intro (Mem.bl_cell hSw u3 (by first | omega | (dsimp only; omega) | exact World.block_lt_of_cell? _ _ u3 | (simp <;> omega))) <| Mem.bl_cell hSw u4 (by first | omega | (dsimp only; omega) | exact World.block_lt_of_cell? _ _ u4 | (simp <;> omega))
        replace hCl := Go.Lib.hid hCl
        refine Mem.tkY 0 ?v66 (hy := Or.inl ⟨by rfl, ?y66⟩) (hS := by assumption) (h := ?r66)
        case y66 => (intro w hSw; clear hSw; go_simp; try with_reducible rfl)
        case' r66 => skip
        refine Mem.tkY 1 ?v67 (hy := Or.inl ⟨by rfl, ?y67⟩) (hS := by assumption) (h := ?r67)
        case y67 => (intro w hSw; clear hSw; go_simp; try with_reducible rfl)
        case' r67 => skip
        refine Mem.tkY 2 ?v68 (hy := Or.inl ⟨by rfl, ?y68⟩) (hS := by assumption) (h := ?r68)
        case y68 => (intro w hSw; clear hSw; go_simp; try with_reducible rfl)
        case' r68 => skip
        try simp only [List.getElem_toArray, List.getElem_cons_succ, List.getElem_cons_zero, Act.put, List.setIfInBounds_toArray, List.set_cons_zero, List.set_cons_succ]
        refine Mem.tkY 3 ?v69 (hy := Or.inl ⟨by rfl, ?y69⟩) (hS := by assumption) (h := ?r69)
        case y69 => (intro w hSw; clear hSw; go_simp; try with_reducible rfl)
        case' r69 => skip
        refine Mem.tkY 4 ?v70 (hy := Or.inl ⟨by rfl, ?y70⟩) (hS := by assumption) (h := ?r70)
        case y70 => (intro w hSw; clear hSw; go_simp; try with_reducible rfl)
        case' r70 => skip
        try simp only [List.getElem_toArray, List.getElem_cons_succ, List.getElem_cons_zero, Act.put, List.setIfInBounds_toArray, List.set_cons_zero, List.set_cons_succ]
        first | refine Mem.tkY 5 undef (hy := Or.inr ⟨by rfl, rfl⟩) (hS := by assumption) (h := ?r71) | (refine Mem.tkY 5 ?v71 (hy := Or.inl ⟨by rfl, ?y71⟩) (hS := by assumption) (h := ?r71); case y71 => (intro w hSw; clear hSw; go_simp; try with_reducible rfl))
        case' r71 => skip
        try simp only [List.getElem_toArray, List.getElem_cons_succ, List.getElem_cons_zero, Act.put, List.setIfInBounds_toArray, List.set_cons_zero, List.set_cons_succ]
        first | refine Mem.tkY 6 undef (hy := Or.inr ⟨by rfl, rfl⟩) (hS := by assumption) (h := ?r72) | (refine Mem.tkY 6 ?v72 (hy := Or.inl ⟨by rfl, ?y72⟩) (hS := by assumption) (h := ?r72); case y72 => (intro w hSw; clear hSw; go_simp; try with_reducible rfl))
        case' r72 => skip
        try simp only [List.getElem_toArray, List.getElem_cons_succ, List.getElem_cons_zero, Act.put, List.setIfInBounds_toArray, List.set_cons_zero, List.set_cons_succ]
        first | refine Mem.tkY 7 undef (hy := Or.inr ⟨by rfl, rfl⟩) (hS := by assumption) (h := ?r73) | (refine Mem.tkY 7 ?v73 (hy := Or.inl ⟨by rfl, ?y73⟩) (hS := by assumption) (h := ?r73); case y73 => (intro w hSw; obtain ⟨hT0, hT1, hT2, hT3, hT4, hT5, hT6, hT7, hT8, hT9⟩ := hCl.out w hSw; clear hSw; go_simp; try with_reducible rfl))
        case' r73 => skip
        try simp only [List.getElem_toArray, List.getElem_cons_succ, List.getElem_cons_zero, Act.put, List.setIfInBounds_toArray, List.set_cons_zero, List.set_cons_succ]
        first | refine Mem.tkY 8 undef (hy := Or.inr ⟨by rfl, rfl⟩) (hS := by assumption) (h := ?r74) | (refine Mem.tkY 8 ?v74 (hy := Or.inl ⟨by rfl, ?y74⟩) (hS := by assumption) (h := ?r74); case y74 => (intro w hSw; obtain ⟨hT0, hT1, hT2, hT3, hT4, hT5, hT6, hT7, hT8, hT9⟩ := hCl.out w hSw; clear hSw; go_simp; try with_reducible rfl))
        case' r74 => skip
        try simp only [List.getElem_toArray, List.getElem_cons_succ, List.getElem_cons_zero, Act.put, List.setIfInBounds_toArray, List.set_cons_zero, List.set_cons_succ]
        refine wpAnyH_ready (rs := [9]) (by kernel_rfl) (by simp) ?_
        refine AllReadyH.cons rfl (fun K hK => ?_) AllReadyH.nil
        go_simp
        (refine (same_yes y B1 e1 B2 e2 D1 f1 D2 f2 _ hsA htA).mono ?_; rintro e wb ⟨rfl, hbl⟩)
        try go_wp2_with fail
        have hSnew := Mem.bl_step hHeld hbl (by first | exact Nat.le_refl _ | omega | (simp <;> omega))
        refine hK.out _ _ ?_ (fun hHeld2 => ?_)
        · exact hSnew
        try replace hsA := hsA.below hbl
        try replace htA := htA.below hbl
        try replace hx7 := hx7.below hbl
        try replace hxl := hxl.below hbl
        try replace hia := hia.below hbl
        try replace v14 := v14.below hbl
        try replace v15 := v15.below hbl
        try replace v18 := v18.below hbl
        try replace v24 := v24.below hbl
        try replace v25 := v25.below hbl
        try replace v28 := v28.below hbl
        try replace v33 := v33.below hbl
        try replace v35 := v35.below hbl
        clear hbl
        clear hK K hHeld hSnew
        have hHeld := hHeld2
        clear hHeld2
        try simp only [List.getElem_toArray, List.getElem_cons_succ, List.getElem_cons_zero, Act.put, List.setIfInBounds_toArray, List.set_cons_zero, List.set_cons_succ]
        refine Mem.tkY 10 ?v75 (hy := Or.inl ⟨by rfl, ?y75⟩) (hS := by assumption) (h := ?r75)
        case y75 => (intro w hSw; clear hSw; go_simp; try with_reducible rfl)
        case' r75 => skip
        refine Mem.tkY 11 ?v76 (hy := Or.inl ⟨by rfl, ?y76⟩) (hS := by assumption) (h := ?r76)
        case y76 => (intro w hSw; clear hSw; go_simp; try with_reducible rfl)
        case' r76 => skip
        try simp only [List.getElem_toArray, List.getElem_cons_succ, List.getElem_cons_zero, Act.put, List.setIfInBounds_toArray, List.set_cons_zero, List.set_cons_succ]
        first | refine Mem.tkY 12 undef (hy := Or.inr ⟨by rfl, rfl⟩) (hS := by assumption) (h := ?r77) | (refine Mem.tkY 12 ?v77 (hy := Or.inl ⟨by rfl, ?y77⟩) (hS := by assumption) (h := ?r77); case y77 => (intro w hSw; clear hSw; go_simp; try with_reducible rfl))
        case' r77 => skip
        try simp only [List.getElem_toArray, List.getElem_cons_succ, List.getElem_cons_zero, Act.put, List.setIfInBounds_toArray, List.set_cons_zero, List.set_cons_succ]
        first | refine Mem.tkY 13 undef (hy := Or.inr ⟨by rfl, rfl⟩) (hS := by assumption) (h := ?r78) | (refine Mem.tkY 13 ?v78 (hy := Or.inl ⟨by rfl, ?y78⟩) (hS := by assumption) (h := ?r78); case y78 => (intro w hSw; clear hSw; go_simp; try with_reducible rfl))
        case' r78 => skip
        try simp only [List.getElem_toArray, List.getElem_cons_succ, List.getElem_cons_zero, Act.put, List.setIfInBounds_toArray, List.set_cons_zero, List.set_cons_succ]
        first | refine Mem.tkY 16 undef (hy := Or.inr ⟨by rfl, rfl⟩) (hS := by assumption) (h := ?r79) | (refine Mem.tkY 16 ?v79 (hy := Or.inl ⟨by rfl, ?y79⟩) (hS := by assumption) (h := ?r79); case y79 => (intro w hSw; clear hSw; go_simp; try with_reducible rfl))
        case' r79 => skip
        try simp only [List.getElem_toArray, List.getElem_cons_succ, List.getElem_cons_zero, Act.put, List.setIfInBounds_toArray, List.set_cons_zero, List.set_cons_succ]
        first | refine Mem.tkY 17 undef (hy := Or.inr ⟨by rfl, rfl⟩) (hS := by assumption) (h := ?r80) | (refine Mem.tkY 17 ?v80 (hy := Or.inl ⟨by rfl, ?y80⟩) (hS := by assumption) (h := ?r80); case y80 => (intro w hSw; clear hSw; go_simp; try with_reducible rfl))
        case' r80 => skip
        try simp only [List.getElem_toArray, List.getElem_cons_succ, List.getElem_cons_zero, Act.put, List.setIfInBounds_toArray, List.set_cons_zero, List.set_cons_succ]
        refine wpAnyH_ready (rs := [14]) (by kernel_rfl) (by simp) ?_
        refine AllReadyH.cons rfl (fun K hK => ?_) AllReadyH.nil
        go_simp
        (refine (Of_any _ c7 xs n _ hx7 hs (by omega)).mono ?_; rintro e wb ⟨z14, rfl, ho14, hbl⟩; obtain ⟨A14, c14, rfl, -, -, -, v14⟩ := ho14.rw_; clear ho14; replace v14 := v14.below (Below.refl _ _))
        try go_wp2_with fail
        have hSnew := Mem.bl_step hHeld hbl (by first | exact Nat.le_refl _ | omega | (simp <;> omega))
        refine hK.out _ _ ?_ (fun hHeld2 => ?_)
        · exact hSnew
        try replace hsA := hsA.below hbl
        try replace htA := htA.below hbl
        try replace hx7 := hx7.below hbl
        try replace hxl := hxl.below hbl
        try replace hia := hia.below hbl
        try replace v14 := v14.below hbl
        try replace v15 := v15.below hbl
        try replace v18 := v18.below hbl
        try replace v24 := v24.below hbl
        try replace v25 := v25.below hbl
        try replace v28 := v28.below hbl
        try replace v33 := v33.below hbl
        try replace v35 := v35.below hbl
        clear hbl
        clear hK K hHeld hSnew
        have hHeld := hHeld2
        clear hHeld2
        try simp only [List.getElem_toArray, List.getElem_cons_succ, List.getElem_cons_zero, Act.put, List.setIfInBounds_toArray, List.set_cons_zero, List.set_cons_succ]
        refine wpAnyH_ready (rs := [15]) (by kernel_rfl) (by simp) ?_
        refine AllReadyH.cons rfl (fun K hK => ?_) AllReadyH.nil
        go_simp
        (refine (lof_any A14 c14 (ofS xs n) _ v14 (Nat.le_trans (ofS_len xs n) (by omega))).mono ?_; rintro e wb ⟨z15, rfl, ho15, hbl⟩; obtain ⟨A15, c15, rfl, -, -, -, v15⟩ := ho15.rw_; clear ho15 v14)
        try go_wp2_with fail
        have hSnew := Mem.bl_step hHeld hbl (by first | exact Nat.le_refl _ | omega | (simp <;> omega))
        refine hK.out _ _ ?_ (fun hHeld2 => ?_)
        · exact hSnew
        try replace hsA := hsA.below hbl
        try replace htA := htA.below hbl
        try replace hx7 := hx7.below hbl
        try replace hxl := hxl.below hbl
        try replace hia := hia.below hbl
        try replace v14 := v14.below hbl
        try replace v15 := v15.below hbl
        try replace v18 := v18.below hbl
        try replace v24 := v24.below hbl
        try replace v25 := v25.below hbl
        try replace v28 := v28.below hbl
        try replace v33 := v33.below hbl
        try replace v35 := v35.below hbl
        clear hbl
        clear hK K hHeld hSnew
        have hHeld := hHeld2
        clear hHeld2
        try simp only [List.getElem_toArray, List.getElem_cons_succ, List.getElem_cons_zero, Act.put, List.setIfInBounds_toArray, List.set_cons_zero, List.set_cons_succ]
        refine wpAnyH_ready (rs := [18]) (by kernel_rfl) (by simp) ?_
        refine AllReadyH.cons rfl (fun K hK => ?_) AllReadyH.nil
        go_simp
        (refine (ROf_any _ c xs n _ hxl (by omega)).mono ?_; rintro e wb ⟨z18, rfl, ho18, hbl⟩; obtain ⟨A18, c18, rfl, -, -, -, v18⟩ := ho18.rw_; clear ho18)
        try go_wp2_with fail
        have hSnew := Mem.bl_step hHeld hbl (by first | exact Nat.le_refl _ | omega | (simp <;> omega))
        refine hK.out _ _ ?_ (fun hHeld2 => ?_)
        · exact hSnew
        try replace hsA := hsA.below hbl
        try replace htA := htA.below hbl
        try replace hx7 := hx7.below hbl
        try replace hxl := hxl.below hbl
        try replace hia := hia.below hbl
        try replace v14 := v14.below hbl
        try replace v15 := v15.below hbl
        try replace v18 := v18.below hbl
        try replace v24 := v24.below hbl
        try replace v25 := v25.below hbl
        try replace v28 := v28.below hbl
        try replace v33 := v33.below hbl
        try replace v35 := v35.below hbl
        clear hbl
        clear hK K hHeld hSnew
        have hHeld := hHeld2
        clear hHeld2
        try simp only [List.getElem_toArray, List.getElem_cons_succ, List.getElem_cons_zero, Act.put, List.setIfInBounds_toArray, List.set_cons_zero, List.set_cons_succ]
        refine wpAnyH_ready (rs := [19]) (by kernel_rfl) (by simp) ?_
        refine AllReadyH.cons rfl (fun K hK => ?_) AllReadyH.nil
        go_simp
        (refine (sameall_yes A15 c15 A18 c18 (ofS xs n) _ v15 v18).mono ?_; rintro e wb ⟨rfl, hbl⟩; clear v15 v18)
        try go_wp2_with fail
        have hSnew := Mem.bl_step hHeld hbl (by first | exact Nat.le_refl _ | omega | (simp <;> omega))
        refine hK.out _ _ ?_ (fun hHeld2 => ?_)
        · exact hSnew
        try replace hsA := hsA.below hbl
        try replace htA := htA.below hbl
        try replace hx7 := hx7.below hbl
        try replace hxl := hxl.below hbl
        try replace hia := hia.below hbl
        try replace v14 := v14.below hbl
        try replace v15 := v15.below hbl
        try replace v18 := v18.below hbl
        try replace v24 := v24.below hbl
        try replace v25 := v25.below hbl
        try replace v28 := v28.below hbl
        try replace v33 := v33.below hbl
        try replace v35 := v35.below hbl
        clear hbl
        clear hK K hHeld hSnew
        have hHeld := hHeld2
        clear hHeld2
        try simp only [List.getElem_toArray, List.getElem_cons_succ, List.getElem_cons_zero, Act.put, List.setIfInBounds_toArray, List.set_cons_zero, List.set_cons_succ]
        refine Mem.tkY 20 ?v81 (hy := Or.inl ⟨by rfl, ?y81⟩) (hS := by assumption) (h := ?r81)
        case y81 => (intro w hSw; clear hSw; go_simp; try with_reducible rfl)
        case' r81 => skip
        refine Mem.tkY 21 ?v82 (hy := Or.inl ⟨by rfl, ?y82⟩) (hS := by assumption) (h := ?r82)
        case y82 => (intro w hSw; clear hSw; go_simp; try with_reducible rfl)
        case' r82 => skip
        try simp only [List.getElem_toArray, List.getElem_cons_succ, List.getElem_cons_zero, Act.put, List.setIfInBounds_toArray, List.set_cons_zero, List.set_cons_succ]
        first | refine Mem.tkY 22 undef (hy := Or.inr ⟨by rfl, rfl⟩) (hS := by assumption) (h := ?r83) | (refine Mem.tkY 22 ?v83 (hy := Or.inl ⟨by rfl, ?y83⟩) (hS := by assumption) (h := ?r83); case y83 => (intro w hSw; clear hSw; go_simp; try with_reducible rfl))
        case' r83 => skip
        try simp only [List.getElem_toArray, List.getElem_cons_succ, List.getElem_cons_zero, Act.put, List.setIfInBounds_toArray, List.set_cons_zero, List.set_cons_succ]
        first | refine Mem.tkY 23 undef (hy := Or.inr ⟨by rfl, rfl⟩) (hS := by assumption) (h := ?r84) | (refine Mem.tkY 23 ?v84 (hy := Or.inl ⟨by rfl, ?y84⟩) (hS := by assumption) (h := ?r84); case y84 => (intro w hSw; clear hSw; go_simp; try with_reducible rfl))
        case' r84 => skip
        try simp only [List.getElem_toArray, List.getElem_cons_succ, List.getElem_cons_zero, Act.put, List.setIfInBounds_toArray, List.set_cons_zero, List.set_cons_succ]
        first | refine Mem.tkY 26 undef (hy := Or.inr ⟨by rfl, rfl⟩) (hS := by assumption) (h := ?r85) | (refine Mem.tkY 26 ?v85 (hy := Or.inl ⟨by rfl, ?y85⟩) (hS := by assumption) (h := ?r85); case y85 => (intro w hSw; clear hSw; go_simp; try with_reducible rfl))
        case' r85 => skip
        try simp only [List.getElem_toArray, List.getElem_cons_succ, List.getElem_cons_zero, Act.put, List.setIfInBounds_toArray, List.set_cons_zero, List.set_cons_succ]
        first | refine Mem.tkY 27 undef (hy := Or.inr ⟨by rfl, rfl⟩) (hS := by assumption) (h := ?r86) | (refine Mem.tkY 27 ?v86 (hy := Or.inl ⟨by rfl, ?y86⟩) (hS := by assumption) (h := ?r86); case y86 => (intro w hSw; clear hSw; go_simp; try with_reducible rfl))
        case' r86 => skip
        try simp only [List.getElem_toArray, List.getElem_cons_succ, List.getElem_cons_zero, Act.put, List.setIfInBounds_toArray, List.set_cons_zero, List.set_cons_succ]
        refine wpAnyH_ready (rs := [24]) (by kernel_rfl) (by simp) ?_
        refine AllReadyH.cons rfl (fun K hK => ?_) AllReadyH.nil
        go_simp
        (refine (Without_any _ c7 xs Ai ci ids _ hx7 hia hs (by omega) (by omega)).mono ?_; rintro e wb ⟨z24, rfl, ho24, hbl⟩; obtain ⟨A24, c24, rfl, -, -, -, v24⟩ := ho24.rw_; clear ho24)
        try go_wp2_with fail
        have hSnew := Mem.bl_step hHeld hbl (by first | exact Nat.le_refl _ | omega | (simp <;> omega))
        refine hK.out _ _ ?_ (fun hHeld2 => ?_)
        · exact hSnew
        try replace hsA := hsA.below hbl
        try replace htA := htA.below hbl
        try replace hx7 := hx7.below hbl
        try replace hxl := hxl.below hbl
        try replace hia := hia.below hbl
        try replace v14 := v14.below hbl
        try replace v15 := v15.below hbl
        try replace v18 := v18.below hbl
        try replace v24 := v24.below hbl
        try replace v25 := v25.below hbl
        try replace v28 := v28.below hbl
        try replace v33 := v33.below hbl
        try replace v35 := v35.below hbl
        clear hbl
        clear hK K hHeld hSnew
        have hHeld := hHeld2
        clear hHeld2
        try simp only [List.getElem_toArray, List.getElem_cons_succ, List.getElem_cons_zero, Act.put, List.setIfInBounds_toArray, List.set_cons_zero, List.set_cons_succ]
        refine wpAnyH_ready (rs := [25]) (by kernel_rfl) (by simp) ?_
        refine AllReadyH.cons rfl (fun K hK => ?_) AllReadyH.nil
        go_simp
        (refine (lof_any A24 c24 (woS xs ids) _ v24 (Nat.le_trans (woS_len xs ids) (by omega))).mono ?_; rintro e wb ⟨z25, rfl, ho25, hbl⟩; obtain ⟨A25, c25, rfl, -, -, -, v25⟩ := ho25.rw_; clear ho25 v24)
        try go_wp2_with fail
        have hSnew := Mem.bl_step hHeld hbl (by first | exact Nat.le_refl _ | omega | (simp <;> omega))
        refine hK.out _ _ ?_ (fun hHeld2 => ?_)
        · exact hSnew
        try replace hsA := hsA.below hbl
        try replace htA := htA.below hbl
        try replace hx7 := hx7.below hbl
        try replace hxl := hxl.below hbl
        try replace hia := hia.below hbl
        try replace v14 := v14.below hbl
        try replace v15 := v15.below hbl
        try replace v18 := v18.below hbl
        try replace v24 := v24.below hbl
        try replace v25 := v25.below hbl
        try replace v28 := v28.below hbl
        try replace v33 := v33.below hbl
        try replace v35 := v35.below hbl
        clear hbl
        clear hK K hHeld hSnew
        have hHeld := hHeld2
        clear hHeld2
        try simp only [List.getElem_toArray, List.getElem_cons_succ, List.getElem_cons_zero, Act.put, List.setIfInBounds_toArray, List.set_cons_zero, List.set_cons_succ]
        refine wpAnyH_ready (rs := [28]) (by kernel_rfl) (by simp) ?_
        refine AllReadyH.cons rfl (fun K hK => ?_) AllReadyH.nil
        go_simp
        (refine (RWithout_any _ c xs Ai ci ids _ hxl hia (by omega)).mono ?_; rintro e wb ⟨z28, rfl, ho28, hbl⟩; obtain ⟨A28, c28, rfl, -, -, -, v28⟩ := ho28.rw_; clear ho28)
        try go_wp2_with fail
        have hSnew := Mem.bl_step hHeld hbl (by first | exact Nat.le_refl _ | omega | (simp <;> omega))
        refine hK.out _ _ ?_ (fun hHeld2 => ?_)
        · exact hSnew
        try replace hsA := hsA.below hbl
        try replace htA := htA.below hbl
        try replace hx7 := hx7.below hbl
        try replace hxl := hxl.below hbl
        try replace hia := hia.below hbl
        try replace v14 := v14.below hbl
        try replace v15 := v15.below hbl
        try replace v18 := v18.below hbl
        try replace v24 := v24.below hbl
        try replace v25 := v25.below hbl
        try replace v28 := v28.below hbl
        try replace v33 := v33.below hbl
        try replace v35 := v35.below hbl
        clear hbl
        clear hK K hHeld hSnew
        have hHeld := hHeld2
        clear hHeld2
        try simp only [List.getElem_toArray, List.getElem_cons_succ, List.getElem_cons_zero, Act.put, List.setIfInBounds_toArray, List.set_cons_zero, List.set_cons_succ]
        refine wpAnyH_ready (rs := [29]) (by kernel_rfl) (by simp) ?_
        refine AllReadyH.cons rfl (fun K hK => ?_) AllReadyH.nil
        go_simp
        (refine (sameall_yes A25 c25 A28 c28 (woS xs ids) _ v25 v28).mono ?_; rintro e wb ⟨rfl, hbl⟩; clear v25 v28)
        try go_wp2_with fail
        have hSnew := Mem.bl_step hHeld hbl (by first | exact Nat.le_refl _ | omega | (simp <;> omega))
        refine hK.out _ _ ?_ (fun hHeld2 => ?_)
        · exact hSnew
        try replace hsA := hsA.below hbl
        try replace htA := htA.below hbl
        try replace hx7 := hx7.below hbl
        try replace hxl := hxl.below hbl
        try replace hia := hia.below hbl
        try replace v14 := v14.below hbl
        try replace v15 := v15.below hbl
        try replace v18 := v18.below hbl
        try replace v24 := v24.below hbl
        try replace v25 := v25.below hbl
        try replace v28 := v28.below hbl
        try replace v33 := v33.below hbl
        try replace v35 := v35.below hbl
        clear hbl
        clear hK K hHeld hSnew
        have hHeld := hHeld2
        clear hHeld2
        try simp only [List.getElem_toArray, List.getElem_cons_succ, List.getElem_cons_zero, Act.put, List.setIfInBounds_toArray, List.set_cons_zero, List.set_cons_succ]
        refine Mem.tkY 30 ?v87 (hy := Or.inl ⟨by rfl, ?y87⟩) (hS := by assumption) (h := ?r87)
        case y87 => (intro w hSw; clear hSw; go_simp; try with_reducible rfl)
        case' r87 => skip
        refine Mem.tkY 31 ?v88 (hy := Or.inl ⟨by rfl, ?y88⟩) (hS := by assumption) (h := ?r88)
        case y88 => (intro w hSw; clear hSw; go_simp; try with_reducible rfl)
        case' r88 => skip
        try simp only [List.getElem_toArray, List.getElem_cons_succ, List.getElem_cons_zero, Act.put, List.setIfInBounds_toArray, List.set_cons_zero, List.set_cons_succ]
        first | refine Mem.tkY 32 undef (hy := Or.inr ⟨by rfl, rfl⟩) (hS := by assumption) (h := ?r89) | (refine Mem.tkY 32 ?v89 (hy := Or.inl ⟨by rfl, ?y89⟩) (hS := by assumption) (h := ?r89); case y89 => (intro w hSw; clear hSw; go_simp; try with_reducible rfl))
        case' r89 => skip
        try simp only [List.getElem_toArray, List.getElem_cons_succ, List.getElem_cons_zero, Act.put, List.setIfInBounds_toArray, List.set_cons_zero, List.set_cons_succ]
        first | refine Mem.tkY 34 undef (hy := Or.inr ⟨by rfl, rfl⟩) (hS := by assumption) (h := ?r90) | (refine Mem.tkY 34 ?v90 (hy := Or.inl ⟨by rfl, ?y90⟩) (hS := by assumption) (h := ?r90); case y90 => (intro w hSw; clear hSw; go_simp; try with_reducible rfl))
        case' r90 => skip
        try simp only [List.getElem_toArray, List.getElem_cons_succ, List.getElem_cons_zero, Act.put, List.setIfInBounds_toArray, List.set_cons_zero, List.set_cons_succ]
        refine wpAnyH_ready (rs := [33]) (by kernel_rfl) (by simp) ?_
        refine AllReadyH.cons rfl (fun K hK => ?_) AllReadyH.nil
        go_simp
        (refine (Blocks_any _ c7 xs _ hx7 (by omega)).mono ?_; rintro e wb ⟨z33, rfl, v33, hbl⟩)
        try go_wp2_with fail
        have hSnew := Mem.bl_step hHeld hbl (by first | exact Nat.le_refl _ | omega | (simp <;> omega))
        refine hK.out _ _ ?_ (fun hHeld2 => ?_)
        · exact hSnew
        try replace hsA := hsA.below hbl
        try replace htA := htA.below hbl
        try replace hx7 := hx7.below hbl
        try replace hxl := hxl.below hbl
        try replace hia := hia.below hbl
        try replace v14 := v14.below hbl
        try replace v15 := v15.below hbl
        try replace v18 := v18.below hbl
        try replace v24 := v24.below hbl
        try replace v25 := v25.below hbl
        try replace v28 := v28.below hbl
        try replace v33 := v33.below hbl
        try replace v35 := v35.below hbl
        clear hbl
        clear hK K hHeld hSnew
        have hHeld := hHeld2
        clear hHeld2
        try simp only [List.getElem_toArray, List.getElem_cons_succ, List.getElem_cons_zero, Act.put, List.setIfInBounds_toArray, List.set_cons_zero, List.set_cons_succ]
        refine wpAnyH_ready (rs := [35]) (by kernel_rfl) (by simp) ?_
        refine AllReadyH.cons rfl (fun K hK => ?_) AllReadyH.nil
        go_simp
        (refine (RBlocks_any _ c xs _ hxl (by omega)).mono ?_; rintro e wb ⟨z35, rfl, v35, hbl⟩)
        try go_wp2_with fail
        have hSnew := Mem.bl_step hHeld hbl (by first | exact Nat.le_refl _ | omega | (simp <;> omega))
        refine hK.out _ _ ?_ (fun hHeld2 => ?_)
        · exact hSnew
        try replace hsA := hsA.below hbl
        try replace htA := htA.below hbl
        try replace hx7 := hx7.below hbl
        try replace hxl := hxl.below hbl
        try replace hia := hia.below hbl
        try replace v14 := v14.below hbl
        try replace v15 := v15.below hbl
        try replace v18 := v18.below hbl
        try replace v24 := v24.below hbl
        try replace v25 := v25.below hbl
        try replace v28 := v28.below hbl
        try replace v33 := v33.below hbl
        try replace v35 := v35.below hbl
        clear hbl
        clear hK K hHeld hSnew
        have hHeld := hHeld2
        clear hHeld2
        try simp only [List.getElem_toArray, List.getElem_cons_succ, List.getElem_cons_zero, Act.put, List.setIfInBounds_toArray, List.set_cons_zero, List.set_cons_succ]
        refine wpAnyH_ready (rs := [36]) (by kernel_rfl) (by simp) ?_
        refine AllReadyH.cons rfl (fun K hK => ?_) AllReadyH.nil
        go_simp
        (obtain ⟨A33, c33, rfl⟩ := v33.slice; obtain ⟨A35, c35, rfl⟩ := v35.slice; refine (ints_any A33 A35 _ _ c33 c35 _ _ _ v33.sl.2 v35.sl.2).mono ?_; rintro e wb ⟨rfl, qq, hww⟩; have hbl := bl_drewN hww; clear v33 v35 hww)
        try go_wp2_with fail
        have hSnew := Mem.bl_step hHeld hbl (by first | exact Nat.le_refl _ | omega | (simp <;> omega))
        refine hK.out _ _ ?_ (fun hHeld2 => ?_)
        · exact hSnew
        try replace hsA := hsA.below hbl
        try replace htA := htA.below hbl
        try replace hx7 := hx7.below hbl
        try replace hxl := hxl.below hbl
        try replace hia := hia.below hbl
        try replace v14 := v14.below hbl
        try replace v15 := v15.below hbl
        try replace v18 := v18.below hbl
        try replace v24 := v24.below hbl
        try replace v25 := v25.below hbl
        try replace v28 := v28.below hbl
        try replace v33 := v33.below hbl
        try replace v35 := v35.below hbl
        clear hbl
        clear hK K hHeld hSnew
        have hHeld := hHeld2
        clear hHeld2
        try simp only [List.getElem_toArray, List.getElem_cons_succ, List.getElem_cons_zero, Act.put, List.setIfInBounds_toArray, List.set_cons_zero, List.set_cons_succ]
        refine Mem.tkY 37 ?v91 (hy := Or.inl ⟨by rfl, ?y91⟩) (hS := by assumption) (h := ?r91)
        case y91 => (intro w hSw; clear hSw; go_simp; try with_reducible rfl)
        case' r91 => skip
        refine Mem.tkY 38 ?v92 (hy := Or.inl ⟨by rfl, ?y92⟩) (hS := by assumption) (h := ?r92)
        case y92 => (intro w hSw; clear hSw; go_simp; try with_reducible rfl)
        case' r92 => skip
        try simp only [List.getElem_toArray, List.getElem_cons_succ, List.getElem_cons_zero, Act.put, List.setIfInBounds_toArray, List.set_cons_zero, List.set_cons_succ]
        refine wpAnyH_ready (rs := [39]) (by kernel_rfl) (by simp) ?_
        refine AllReadyH.cons rfl (fun K hK => ?_) AllReadyH.nil
        go_simp
        (refine (works9 _).mono ?_; rintro e wb2 ⟨rfl, hbl⟩)
        try go_wp2_with fail
        have hSnew := Mem.bl_step hHeld hbl (by first | exact Nat.le_refl _ | omega | (simp <;> omega))
        refine hK.out _ _ ?_ (fun hHeld2 => ?_)
        · exact hSnew
        try replace hsA := hsA.below hbl
        try replace htA := htA.below hbl
        try replace hx7 := hx7.below hbl
        try replace hxl := hxl.below hbl
        try replace hia := hia.below hbl
        try replace v14 := v14.below hbl
        try replace v15 := v15.below hbl
        try replace v18 := v18.below hbl
        try replace v24 := v24.below hbl
        try replace v25 := v25.below hbl
        try replace v28 := v28.below hbl
        try replace v33 := v33.below hbl
        try replace v35 := v35.below hbl
        clear hbl
        clear hK K hHeld hSnew
        have hHeld := hHeld2
        clear hHeld2
        try simp only [List.getElem_toArray, List.getElem_cons_succ, List.getElem_cons_zero, Act.put, List.setIfInBounds_toArray, List.set_cons_zero, List.set_cons_succ]
        refine Mem.tkY 40 ?v93 (hy := Or.inl ⟨by rfl, ?y93⟩) (hS := by assumption) (h := ?r93)
        case y93 => (intro w hSw; clear hSw; go_simp; try with_reducible rfl)
        case' r93 => skip
        refine Mem.tkY 41 ?v94 (hy := Or.inl ⟨by rfl, ?y94⟩) (hS := by assumption) (h := ?r94)
        case y94 => (intro w hSw; clear hSw; go_simp; try with_reducible rfl)
        case' r94 => skip
        try simp only [List.getElem_toArray, List.getElem_cons_succ, List.getElem_cons_zero, Act.put, List.setIfInBounds_toArray, List.set_cons_zero, List.set_cons_succ]
        refine wpAnyH_done (by kernel_rfl) ?_ _
        clear hCl
        go_wp2_with fail
        go_ret
        exact ⟨rfl, hbW.trans (hHeld.mono hbW.size)⟩
end Go.Proofs.Ytechlhmmgabikaa.Rd
