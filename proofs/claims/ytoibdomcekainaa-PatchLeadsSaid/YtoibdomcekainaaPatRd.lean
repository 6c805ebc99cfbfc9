/- The document's Diff. -/
import Derived.Test.YtoibdomcekainaaPatOf
namespace Go.Proofs.Ytoibdomcekainaa.Pat
open Go.RowKit Go.Proofs.Ytoibdomcekainaa.Mem Go.Proofs.Ytoibdomcekainaa.Open Go.Proofs.Ytoibdomcekainaa.Kind Go.Proofs.Ytoibdomcekainaa.Blk Go.Proofs.Ytoibdomcekainaa.App
set_option linter.unusedVariables false
set_option linter.unusedSimpArgs false
theorem by_cells {w : World} {A : Option Addr} {l : List Nat} (h : By w A l) (hn : 0 < l.length) : ∃ g o, A = some ⟨g, o, none⟩ ∧ g < w.heap.size ∧ ∀ (i : Nat) (hi : i < l.length), w.cell? ⟨g, o + i, none⟩ = some (.int .u8 (l[i] : Int)) ∧ l[i] < 256 := by
  rcases h.2.2 with h0 | ⟨g, o, hA, hS, hlt, hc⟩
  · omega
  · refine ⟨g, o, hA, hlt, fun i hi => ?_⟩
    obtain ⟨cs, ⟨rfl, h1⟩, h2⟩ := hc i _ (List.getElem?_eq_getElem hi)
    have := h2 0 _ rfl
    rw [show o + i * kByte.sz + 0 = o + i from by show o + i * 1 + 0 = o + i; omega] at this
    exact ⟨this, h1⟩
theorem diffK_dlen (a b : List Nat) (k : Nat) : ∀ p ∈ diffK a b k, p.2.length ≤ k := by
  induction k with
  | zero => intro p hp; simp [diffK] at hp
  | succ k ih =>
    intro p hp
    change p ∈ (if neqB a b k then (if startB a b k then diffK a b k ++ [((k : Int), [b.getD k 0])] else addLast (diffK a b k) (b.getD k 0)) else diffK a b k) at hp
    split at hp
    · split at hp
      · rcases List.mem_append.1 hp with hp | hp
        · have := ih p hp; omega
        · simp at hp; subst hp; simp
      · rcases List.eq_nil_or_concat (diffK a b k) with h | ⟨I, q, h⟩
        · rw [h] at hp; simp [addLast] at hp
        · rw [List.concat_eq_append] at h
          rw [h] at hp ih
          obtain ⟨q1, q2⟩ := q
          rw [addLast_concat] at hp
          rcases List.mem_append.1 hp with hp | hp
          · have := ih p (List.mem_append_left _ hp); omega
          · simp at hp
            subst hp
            have := ih (q1, q2) (List.mem_append_right _ (by simp))
            simp at this ⊢
            omega
    · have := ih p hp; omega
set_option maxHeartbeats 2000000 in
set_option maxRecDepth 100000 in
theorem rdiff_any (A : Option Addr) (c : Nat) (A2 : Option Addr) (c2 : Nat) (a b : List Nat) (w : World) (ha : a.length = 256) (hb : b.length = 256) (hA : By w A a) (hB : By w A2 b) :
    Calls Try.prog 17 #[.slice A 256 c, .slice A2 256 c2] w fun e w' => ∃ v, e = .returned v ∧ OwnK kPat w' w.heap.size 34 v (diffL a b) ∧ Below w.heap.size w w' := by
  have hE : Hid (∀ i, diffK a b (i + 1) = if neqB a b i then (if startB a b i then diffK a b i ++ [((i : Int), [b.getD i 0])] else addLast (diffK a b i) (b.getD i 0)) else diffK a b i) := fun i => rfl
  obtain ⟨ga, oa, rfl, hga, hca⟩ := by_cells hA (by omega)
  obtain ⟨gb, ob, rfl, hgb, hcb⟩ := by_cells hB (by omega)
  have HA := Lib.hid ha
  have HB := Lib.hid hb
  clear ha hb hA hB
  go_enter Try.func17, Try.ntmps17
  go_wp2
  go_loopw [5, 6] (fun v i wr => ∃ (u : Value) (k : Nat), u = v ∧ k ≤ 256 ∧ i = .int .i64 k ∧ Sta wr w.heap.size 34 5 u (diffK a b k) ∧ Below w.heap.size w wr) (fun _ i _ => 256 - (intOf i).toNat)
  case atStart => exact ⟨_, 0, rfl, by omega, rfl, .inl ⟨rfl, rfl⟩, by first | exact Below.refl _ _ | exact bdrewN (Below.refl _ _) _⟩
  case round =>
    obtain ⟨v, k, rfl, hk, rfl, hst, hbel⟩ := hrel
    by_cases hlt : k < 256
    · have hka : k < a.length := by rw [HA.out]; exact hlt
      have hkb : k < b.length := by rw [HB.out]; exact hlt
      have h1k : (k : Int) < 256 := by omega
      have ca := (hbel.cell (p := ⟨ga, oa + k, none⟩) hga).trans (hca k hka).1
      have cb := (hbel.cell (p := ⟨gb, ob + k, none⟩) hgb).trans (hcb k hkb).1
      have hyb := (hcb k hkb).2
      have hne := neqB_at a b k hka hkb
      have hgd := getD_at b k hkb
      cases hq : neqB a b k with
      | false =>
        rw [hq] at hne
        have hc : (((a[k] : Nat) : Int) == ((b[k] : Nat) : Int)) = true := by
          rw [beq_iff_eq]
          exact (bne_eq_false_iff_eq.1 hne.symm)
        have HD := Lib.hid (diffK_eq a b k hq)
        generalize a[k] = x at *
        generalize b[k] = y at *
        clear hne hq hgd
        go_wp2
        go_quiet (fail)
        go_wp2
        go_roundw
        case rel => exact ⟨_, k + 1, rfl, by omega, by go_num, by rw [HD.out]; exact hst.drewN nq, bdrewN hbel nq⟩
        case measure => simp [intOf]; omega
      | true =>
        rw [hq] at hne
        have hc : (((a[k] : Nat) : Int) == ((b[k] : Nat) : Int)) = false := by
          rw [beq_eq_false_iff_ne]
          exact (bne_iff_ne.1 hne.symm)
        have HQ := Lib.hid hq
        have HE := Lib.hid (hE.out k)
        rw [hq, if_pos rfl, hgd] at HE
        have hlen := diffK_len a b k
        cases k with
        | zero =>
          have HS : Hid (startB a b 0 = true) := rfl
          rw [HS.out, if_pos rfl] at HE
          have HK0 : Hid (((0 : Nat) : Int) = 0) := rfl
          rw [HK0.out] at HE
          generalize diffK a b 0 = I at *
          generalize a[0] = x at *
          generalize b[0] = y at *
          rw [Nat.add_zero] at ca cb
          clear hne hq hgd
          go_wp2
          go_quiet (fail)
          go_wp2
          have hst2 := hst.drewN nq
          have hbel2 := bdrewN hbel nq
          have cb2 : (wr.drewN nq).cell? ⟨gb, ob, none⟩ = some (.int .u8 (y : Int)) := cb
          clear hst hbel ca cb
          generalize wr.drewN nq = w2 at *
          go_quiet (fail)
          have hst3 := (hst2.drewN nq).ownK
          have hbel3 := bdrewN hbel2 nq
          have cb3 : (w2.drewN nq).cell? ⟨gb, ob, none⟩ = some (.int .u8 (y : Int)) := cb2
          clear hst2 hbel2 cb2
          generalize w2.drewN nq = w3 at *
          have hwx := hbel3.size
          have hltv := hst3.lt
          have hrow := Row.new w3 34 #[.int .i64 0, .slice none 0 0]
          go_wp2_with (at_builtin; refine wpList_appD (U := 5) rfl _ _ 24 rfl (.agg #[.int .i64 0, .slice none 0 0]) 32 Try.underlying24 rpatInfo rfl rfl _ _ rfl (hst3.alloc _) 34 0 hrow (by decide) (by omega) (by omega) (by simp; omega) ?_; intro gv cv R wq hst4 hg4)
          have hbelq := (hbel3.alloc hwx (.cells #[.int .i64 0, .slice none 0 0] 34)).grown hg4 (by simp; omega) (fun q hq => (hltv q hq).1)
          have cbq : wq.drew.cell? ⟨gb, ob, none⟩ = some (.int .u8 (y : Int)) := (hg4.cell (a := ⟨gb, ob, none⟩) ((Below.heap_alloc w3 _ gb (by omega) |> fun h => (World.cell?_of_block (w := w3) h).trans cb3)) (fun e => by have := hltv gb e.symm; omega))
          clear hst3 hbel3 cb3 hrow hg4
          obtain ⟨a0, ha0⟩ : ∃ a0 : Int, a0 = 0 := ⟨_, rfl⟩
          obtain ⟨d, hd0⟩ : ∃ d : List Nat, d = [] := ⟨_, rfl⟩
          obtain ⟨u, hu0⟩ : ∃ u : Value, u = .slice none 0 0 := ⟨_, rfl⟩
          have hdl : d.length ≤ 256 := by rw [hd0]; decide
          have HD : Hid (diffK a b (0 + 1) = I ++ [(a0, d ++ [y])]) := by show _ = _; rw [HE.out, ha0, hd0]; rfl
          rw [← ha0, ← hd0, ← hu0] at hst4
          have hst := hst4
          clear hst4 ha0 hd0 hu0 HE
          have hlt := hst.lt
          have hcu : wq.drew.cell? ⟨gv, I.length * 2 + 1, none⟩ = some u := hst.cellU
          have hgbl : gb < wq.drew.heap.size := Nat.lt_of_lt_of_le hgb hbelq.size
          have hwq := hbelq.size
          have hfz := hst.frozen (I.length * 2 + 1)
          have hsta := hst.below ((Below.refl wq.heap.size wq).drew.alloc (Nat.le_refl _) (.cells #[.int .u8 (y : Int)] 5))
          have hcu2 := hsta.cellU
          have hcu3 : (wq.alloc (.cells #[.int .u8 (y : Int)] 5)).drew.cell? ⟨gv, I.length * 2 + 1, none⟩ = some u := hsta.cellU
          have hl3 : (d ++ [y]).length = d.length + 1 := by rw [List.length_append, List.length_singleton]
          have hsl1 : Sl (wq.drew.alloc (.cells #[.int .u8 (y : Int)] 5)) V8 (some ⟨wq.heap.size, 0, none⟩) 1 [y] := sl_block (Row.new wq.drew 5 #[.int .u8 (y : Int)]) rfl (by simp)
          have hil : ((I.length : Nat) : Int) < (I.length : Int) + 1 := by omega
          refine wp_region_held_drew (S := Go.RowKit.Below (w.heap.size) (wq.drew)) (by kernel_rfl) ?hb11 (fun hHeld => ?rest11)
          case hb11 =>
            exact Go.RowKit.Below.refl _ _
          case' rest11 => skip
          refine wpAnyH_take (i := 0) (v := ?v12) rfl (by kernel_rfl) (by kernel_rfl) (by kernel_rfl) (fun _ _ _ h => h) (Or.inl ⟨by rfl, ?y12⟩) (by assumption) ?rest12
          case y12 => (intro w hSw; have hT0 := Mem.bl_cell hSw cbq (by first | omega | exact World.block_lt_of_cell? _ _ cbq | (simp <;> omega)); clear hSw; go_simp; try with_reducible rfl)
          case' rest12 => skip
          try simp only [List.getElem_toArray, List.getElem_cons_succ, List.getElem_cons_zero, Act.put, List.setIfInBounds_toArray, List.set_cons_zero, List.set_cons_succ]
          refine wpAnyH_take (i := 1) (v := ?v13) rfl (by kernel_rfl) (by kernel_rfl) (by kernel_rfl) (fun _ _ _ h => h) (Or.inl ⟨by rfl, ?y13⟩) (by assumption) ?rest13
          case y13 => (intro w hSw; have hT0 := Mem.bl_cell hSw cbq (by first | omega | exact World.block_lt_of_cell? _ _ cbq | (simp <;> omega)); clear hSw; go_simp; try with_reducible rfl)
          case' rest13 => skip
          try simp only [List.getElem_toArray, List.getElem_cons_succ, List.getElem_cons_zero, Act.put, List.setIfInBounds_toArray, List.set_cons_zero, List.set_cons_succ]
          refine wpAnyH_take (i := 2) (v := ?v14) rfl (by kernel_rfl) (by kernel_rfl) (by kernel_rfl) (fun _ _ _ h => h) (Or.inl ⟨by rfl, ?y14⟩) (by assumption) ?rest14
          case y14 => (intro w hSw; have hT0 := Mem.bl_cell hSw cbq (by first | omega | exact World.block_lt_of_cell? _ _ cbq | (simp <;> omega)); clear hSw; go_simp; try with_reducible rfl)
          case' rest14 => skip
          try simp only [List.getElem_toArray, List.getElem_cons_succ, List.getElem_cons_zero, Act.put, List.setIfInBounds_toArray, List.set_cons_zero, List.set_cons_succ]
          refine wpAnyH_take (i := 3) (v := ?v15) rfl (by kernel_rfl) (by kernel_rfl) (by kernel_rfl) (fun _ _ _ h => h) (Or.inl ⟨by rfl, ?y15⟩) (by assumption) ?rest15
          case y15 => (intro w hSw; have hT0 := Mem.bl_cell hSw cbq (by first | omega | exact World.block_lt_of_cell? _ _ cbq | (simp <;> omega)); clear hSw; go_simp; try with_reducible rfl)
          case' rest15 => skip
          try simp only [List.getElem_toArray, List.getElem_cons_succ, List.getElem_cons_zero, Act.put, List.setIfInBounds_toArray, List.set_cons_zero, List.set_cons_succ]
          refine wpAnyH_take (i := 4) (v := ?v16) rfl (by kernel_rfl) (by kernel_rfl) (by kernel_rfl) (fun _ _ _ h => h) (Or.inl ⟨by rfl, ?y16⟩) (by assumption) ?rest16
          case y16 => (intro w hSw; have hT0 := Mem.bl_cell hSw cbq (by first | omega | exact World.block_lt_of_cell? _ _ cbq | (simp <;> omega)); clear hSw; go_simp; try with_reducible rfl)
          case' rest16 => skip
          try simp only [List.getElem_toArray, List.getElem_cons_succ, List.getElem_cons_zero, Act.put, List.setIfInBounds_toArray, List.set_cons_zero, List.set_cons_succ]
          refine wpAnyH_take (i := 5) (v := ?v17) rfl (by kernel_rfl) (by kernel_rfl) (by kernel_rfl) (fun _ _ _ h => h) (Or.inl ⟨by rfl, ?y17⟩) (by assumption) ?rest17
          case y17 => (intro w hSw; have hT0 := Mem.bl_cell hSw cbq (by first | omega | exact World.block_lt_of_cell? _ _ cbq | (simp <;> omega)); clear hSw; go_simp; try with_reducible rfl)
          case' rest17 => skip
          try simp only [List.getElem_toArray, List.getElem_cons_succ, List.getElem_cons_zero, Act.put, List.setIfInBounds_toArray, List.set_cons_zero, List.set_cons_succ]
          refine wpAnyH_take (i := 7) (v := ?v18) rfl (by kernel_rfl) (by kernel_rfl) (by kernel_rfl) (fun _ _ _ h => h) (Or.inl ⟨by rfl, ?y18⟩) (by assumption) ?rest18
          case y18 => (intro w hSw; have hT0 := Mem.bl_cell hSw cbq (by first | omega | exact World.block_lt_of_cell? _ _ cbq | (simp <;> omega)); clear hSw; go_simp; try with_reducible rfl)
          case' rest18 => skip
          try simp only [List.getElem_toArray, List.getElem_cons_succ, List.getElem_cons_zero, Act.put, List.setIfInBounds_toArray, List.set_cons_zero, List.set_cons_succ]
          refine wpAnyH_take (i := 8) (v := ?v19) rfl (by kernel_rfl) (by kernel_rfl) (by kernel_rfl) (fun _ _ _ h => h) (Or.inl ⟨by rfl, ?y19⟩) (by assumption) ?rest19
          case y19 => (intro w hSw; have hT0 := Mem.bl_cell hSw cbq (by first | omega | exact World.block_lt_of_cell? _ _ cbq | (simp <;> omega)); clear hSw; go_simp; try with_reducible rfl)
          case' rest19 => skip
          try simp only [List.getElem_toArray, List.getElem_cons_succ, List.getElem_cons_zero, Act.put, List.setIfInBounds_toArray, List.set_cons_zero, List.set_cons_succ]
          refine wpAnyH_take (i := 9) (v := ?v20) rfl (by kernel_rfl) (by kernel_rfl) (by kernel_rfl) (fun _ _ _ h => h) (Or.inl ⟨by rfl, ?y20⟩) (by assumption) ?rest20
          case y20 => (intro w hSw; have hT0 := Mem.bl_cell hSw cbq (by first | omega | exact World.block_lt_of_cell? _ _ cbq | (simp <;> omega)); clear hSw; go_simp; try with_reducible rfl)
          case' rest20 => skip
          try simp only [List.getElem_toArray, List.getElem_cons_succ, List.getElem_cons_zero, Act.put, List.setIfInBounds_toArray, List.set_cons_zero, List.set_cons_succ]
          refine wpAnyH_take (i := 10) (v := ?v21) rfl (by kernel_rfl) (by kernel_rfl) (by kernel_rfl) (fun _ _ _ h => h) (Or.inl ⟨by rfl, ?y21⟩) (by assumption) ?rest21
          case y21 => (intro w hSw; have hT0 := Mem.bl_cell hSw cbq (by first | omega | exact World.block_lt_of_cell? _ _ cbq | (simp <;> omega)); clear hSw; go_simp; try with_reducible rfl)
          case' rest21 => skip
          try simp only [List.getElem_toArray, List.getElem_cons_succ, List.getElem_cons_zero, Act.put, List.setIfInBounds_toArray, List.set_cons_zero, List.set_cons_succ]
          refine wpAnyH_ready (rs := [6, 11]) (by kernel_rfl) (by simp) ?_
          refine AllReadyH.cons rfl (fun K hK => ?_) ?_
          · skip
            go_simp
            have hSnew := hHeld
            try go_wp2_with fail
            refine hK.out _ _ ?_ (fun hHeld2 => ?_)
            · exact hSnew
            clear hK K hHeld hSnew
            have hHeld := hHeld2
            clear hHeld2
            try simp only [List.getElem_toArray, List.getElem_cons_succ, List.getElem_cons_zero, Act.put, List.setIfInBounds_toArray, List.set_cons_zero, List.set_cons_succ]
            refine wpAnyH_ready (rs := [11]) (by kernel_rfl) (by simp) ?_
            refine AllReadyH.cons rfl (fun K hK => ?_) AllReadyH.nil
            go_simp
            have hbl := (Below.refl _ wq.drew).alloc (Nat.le_refl _) (.cells #[.int .u8 (y : Int)] 5)
            try go_wp2_with fail
            have hSnew := Mem.bl_step hHeld hbl (by first | exact Nat.le_refl _ | omega | (simp <;> omega))
            refine hK.out _ _ ?_ (fun hHeld2 => ?_)
            · exact hSnew
            clear hbl
            clear hK K hHeld hSnew
            have hHeld := hHeld2
            clear hHeld2
            try simp only [List.getElem_toArray, List.getElem_cons_succ, List.getElem_cons_zero, Act.put, List.setIfInBounds_toArray, List.set_cons_zero, List.set_cons_succ]
            refine wpAnyH_ready (rs := [12]) (by kernel_rfl) (by simp) ?_
            refine AllReadyH.cons rfl (fun K hK => ?_) AllReadyH.nil
            rw [if_pos (by rfl)]
            refine wp_app _ _ _ (by rfl) (V8 0) 1 Try.underlying30 u8Info rfl (by rfl) (by rfl) hsta.own hsl1 (fun h => by cases h) V8_one (by simp; omega) (by simp; omega) (by simp; omega) ?_; intro v3 w3 hown3 hg3 hat3; have hs3 := hsta.step hyb hg3 hown3 hat3; obtain ⟨A3, cp3, hv3⟩ := hown3.slice; rw [hl3] at hv3; subst hv3; have hblk := hsta.own.lt; have hSnew := hHeld.grown hg3 (by simp; omega) (fun q hq => (hblk q hq).1); have hfz3 : w3.frozen? ⟨gv, I.length * 2 + 1, none⟩ = false := (World.ownsRow.frozenAt hsta.row (I.length * 2 + 1) |> fun h => by rw [World.frozen?_of_block (hg3.block gv (by simp; omega) (fun e => hsta.apart gv e.symm rfl))]; exact h); have hcu3 : w3.cell? ⟨gv, I.length * 2 + 1, none⟩ = some u := hg3.cell (hsta.cellU) (fun e => hsta.apart gv e.symm rfl)
            refine hK.out _ _ ?_ (fun hHeld2 => ?_)
            · exact hSnew
            clear hK K hHeld hSnew
            have hHeld := hHeld2
            clear hHeld2
            try simp only [List.getElem_toArray, List.getElem_cons_succ, List.getElem_cons_zero, Act.put, List.setIfInBounds_toArray, List.set_cons_zero, List.set_cons_succ]
            refine wpAnyH_take (i := 13) (v := ?v22) rfl (by kernel_rfl) (by kernel_rfl) (by kernel_rfl) (fun _ _ _ h => h) (Or.inl ⟨by rfl, ?y22⟩) (by assumption) ?rest22
            case y22 => (intro w hSw; have hT0 := Mem.bl_cell hSw cbq (by first | omega | exact World.block_lt_of_cell? _ _ cbq | (simp <;> omega)); clear hSw; go_simp; try with_reducible rfl)
            case' rest22 => skip
            try simp only [List.getElem_toArray, List.getElem_cons_succ, List.getElem_cons_zero, Act.put, List.setIfInBounds_toArray, List.set_cons_zero, List.set_cons_succ]
            refine wpAnyH_take (i := 14) (v := ?v23) rfl (by kernel_rfl) (by kernel_rfl) (by kernel_rfl) (fun _ _ _ h => h) (Or.inl ⟨by rfl, ?y23⟩) (by assumption) ?rest23
            case y23 => (intro w hSw; have hT0 := Mem.bl_cell hSw cbq (by first | omega | exact World.block_lt_of_cell? _ _ cbq | (simp <;> omega)); clear hSw; go_simp; try with_reducible rfl)
            case' rest23 => skip
            try simp only [List.getElem_toArray, List.getElem_cons_succ, List.getElem_cons_zero, Act.put, List.setIfInBounds_toArray, List.set_cons_zero, List.set_cons_succ]
            refine wpAnyH_ready (rs := [15]) (by kernel_rfl) (by simp) ?_
            refine AllReadyH.cons rfl (fun K hK => ?_) AllReadyH.nil
            go_simp
            have hSnew := hHeld.setCell (p := ⟨gv, I.length * 2 + 1, none⟩) hlt.1 (.slice A3 (d.length + 1) cp3)
            try go_wp2_with fail
            refine hK.out _ _ ?_ (fun hHeld2 => ?_)
            · exact hSnew
            clear hK K hHeld hSnew
            have hHeld := hHeld2
            clear hHeld2
            try simp only [List.getElem_toArray, List.getElem_cons_succ, List.getElem_cons_zero, Act.put, List.setIfInBounds_toArray, List.set_cons_zero, List.set_cons_succ]
            refine wpAnyH_done (by kernel_rfl) ?_ _
            go_wp2
            have hbq2 := hbelq.drew.trans hHeld
            go_roundw
            case rel => first | exact ⟨_, 1, rfl, by omega, by go_num, .inr ⟨gv, cv, I, a0, _, _, R, rfl, HD.out, hs3⟩, hbq2⟩ | exact ⟨_, j + 1 + 1, rfl, by omega, by go_num, .inr ⟨gv, cv, I, a0, _, _, R, rfl, HD.out, hs3⟩, hbq2⟩
            case measure => simp [intOf] <;> omega
          refine AllReadyH.cons rfl (fun K hK => ?_) ?_
          · skip
            go_simp
            have hbl := (Below.refl _ wq.drew).alloc (Nat.le_refl _) (.cells #[.int .u8 (y : Int)] 5)
            try go_wp2_with fail
            have hSnew := Mem.bl_step hHeld hbl (by first | exact Nat.le_refl _ | omega | (simp <;> omega))
            refine hK.out _ _ ?_ (fun hHeld2 => ?_)
            · exact hSnew
            clear hbl
            clear hK K hHeld hSnew
            have hHeld := hHeld2
            clear hHeld2
            try simp only [List.getElem_toArray, List.getElem_cons_succ, List.getElem_cons_zero, Act.put, List.setIfInBounds_toArray, List.set_cons_zero, List.set_cons_succ]
            refine wpAnyH_ready (rs := [6]) (by kernel_rfl) (by simp) ?_
            refine AllReadyH.cons rfl (fun K hK => ?_) AllReadyH.nil
            go_simp
            have hSnew := hHeld
            try go_wp2_with fail
            refine hK.out _ _ ?_ (fun hHeld2 => ?_)
            · exact hSnew
            clear hK K hHeld hSnew
            have hHeld := hHeld2
            clear hHeld2
            try simp only [List.getElem_toArray, List.getElem_cons_succ, List.getElem_cons_zero, Act.put, List.setIfInBounds_toArray, List.set_cons_zero, List.set_cons_succ]
            refine wpAnyH_ready (rs := [12]) (by kernel_rfl) (by simp) ?_
            refine AllReadyH.cons rfl (fun K hK => ?_) AllReadyH.nil
            rw [if_pos (by rfl)]
            refine wp_app _ _ _ (by rfl) (V8 0) 1 Try.underlying30 u8Info rfl (by rfl) (by rfl) hsta.own hsl1 (fun h => by cases h) V8_one (by simp; omega) (by simp; omega) (by simp; omega) ?_; intro v3 w3 hown3 hg3 hat3; have hs3 := hsta.step hyb hg3 hown3 hat3; obtain ⟨A3, cp3, hv3⟩ := hown3.slice; rw [hl3] at hv3; subst hv3; have hblk := hsta.own.lt; have hSnew := hHeld.grown hg3 (by simp; omega) (fun q hq => (hblk q hq).1); have hfz3 : w3.frozen? ⟨gv, I.length * 2 + 1, none⟩ = false := (World.ownsRow.frozenAt hsta.row (I.length * 2 + 1) |> fun h => by rw [World.frozen?_of_block (hg3.block gv (by simp; omega) (fun e => hsta.apart gv e.symm rfl))]; exact h); have hcu3 : w3.cell? ⟨gv, I.length * 2 + 1, none⟩ = some u := hg3.cell (hsta.cellU) (fun e => hsta.apart gv e.symm rfl)
            refine hK.out _ _ ?_ (fun hHeld2 => ?_)
            · exact hSnew
            clear hK K hHeld hSnew
            have hHeld := hHeld2
            clear hHeld2
            try simp only [List.getElem_toArray, List.getElem_cons_succ, List.getElem_cons_zero, Act.put, List.setIfInBounds_toArray, List.set_cons_zero, List.set_cons_succ]
            refine wpAnyH_take (i := 13) (v := ?v24) rfl (by kernel_rfl) (by kernel_rfl) (by kernel_rfl) (fun _ _ _ h => h) (Or.inl ⟨by rfl, ?y24⟩) (by assumption) ?rest24
            case y24 => (intro w hSw; have hT0 := Mem.bl_cell hSw cbq (by first | omega | exact World.block_lt_of_cell? _ _ cbq | (simp <;> omega)); clear hSw; go_simp; try with_reducible rfl)
            case' rest24 => skip
            try simp only [List.getElem_toArray, List.getElem_cons_succ, List.getElem_cons_zero, Act.put, List.setIfInBounds_toArray, List.set_cons_zero, List.set_cons_succ]
            refine wpAnyH_take (i := 14) (v := ?v25) rfl (by kernel_rfl) (by kernel_rfl) (by kernel_rfl) (fun _ _ _ h => h) (Or.inl ⟨by rfl, ?y25⟩) (by assumption) ?rest25
            case y25 => (intro w hSw; have hT0 := Mem.bl_cell hSw cbq (by first | omega | exact World.block_lt_of_cell? _ _ cbq | (simp <;> omega)); clear hSw; go_simp; try with_reducible rfl)
            case' rest25 => skip
            try simp only [List.getElem_toArray, List.getElem_cons_succ, List.getElem_cons_zero, Act.put, List.setIfInBounds_toArray, List.set_cons_zero, List.set_cons_succ]
            refine wpAnyH_ready (rs := [15]) (by kernel_rfl) (by simp) ?_
            refine AllReadyH.cons rfl (fun K hK => ?_) AllReadyH.nil
            go_simp
            have hSnew := hHeld.setCell (p := ⟨gv, I.length * 2 + 1, none⟩) hlt.1 (.slice A3 (d.length + 1) cp3)
            try go_wp2_with fail
            refine hK.out _ _ ?_ (fun hHeld2 => ?_)
            · exact hSnew
            clear hK K hHeld hSnew
            have hHeld := hHeld2
            clear hHeld2
            try simp only [List.getElem_toArray, List.getElem_cons_succ, List.getElem_cons_zero, Act.put, List.setIfInBounds_toArray, List.set_cons_zero, List.set_cons_succ]
            refine wpAnyH_done (by kernel_rfl) ?_ _
            go_wp2
            have hbq2 := hbelq.drew.trans hHeld
            go_roundw
            case rel => first | exact ⟨_, 1, rfl, by omega, by go_num, .inr ⟨gv, cv, I, a0, _, _, R, rfl, HD.out, hs3⟩, hbq2⟩ | exact ⟨_, j + 1 + 1, rfl, by omega, by go_num, .inr ⟨gv, cv, I, a0, _, _, R, rfl, HD.out, hs3⟩, hbq2⟩
            case measure => simp [intOf] <;> omega
          exact AllReadyH.nil
        | succ j =>
          have hj : (j : Int) < 256 := by omega
          have hj2 : j < 256 := by omega
          have hj00 : (0 : Int) ≤ (j : Int) + 1 := by omega
          have hjk : (j : Int) + 1 < 256 := by omega
          have hwj : IntKind.i64.wrap (j : Int) = (j : Int) := by
            unfold IntKind.wrap; simp [IntKind.signed, IntKind.bits]; omega
          have hj0 : ((j : Int) + 1 == 0) = false := by rw [beq_eq_false_iff_ne]; omega
          have hk1 : IntKind.i64.wrap ((j : Int) + 1) = (j : Int) + 1 := by
            unfold IntKind.wrap; simp [IntKind.signed, IntKind.bits]; omega
          have ca1 := (hbel.cell (p := ⟨ga, oa + j, none⟩) hga).trans (hca j (by omega)).1
          have cb1 := (hbel.cell (p := ⟨gb, ob + j, none⟩) hgb).trans (hcb j (by omega)).1
          have hne1 := neqB_at a b j (by omega) (by omega)
          have HSe : Hid (startB a b (j + 1) = !neqB a b j) := rfl
          cases hq1 : neqB a b j with
          | false =>
            have HS : Hid (startB a b (j + 1) = true) := by show _ = _; rw [HSe.out, hq1]; rfl
            rw [HS.out, if_pos rfl] at HE
            rw [hq1] at hne1
            have hc1 : (((a[j] : Nat) : Int) == ((b[j] : Nat) : Int)) = true := by
              rw [beq_iff_eq]
              exact (bne_eq_false_iff_eq.1 hne1.symm)
            generalize a[j] = x1 at *
            generalize b[j] = y1 at *
            generalize a[j + 1] = x at *
            generalize b[j + 1] = y at *
            clear hne hq hgd hne1 hq1
            go_wp2
            go_quiet (fail)
            go_wp2
            have hst2 := hst.drewN nq
            have hbel2 := bdrewN hbel nq
            have cb2 : (wr.drewN nq).cell? ⟨gb, ob + (j + 1), none⟩ = some (.int .u8 (y : Int)) := cb
            have ca2 : (wr.drewN nq).cell? ⟨ga, oa + j, none⟩ = some (.int .u8 (x1 : Int)) := ca1
            have cb3 : (wr.drewN nq).cell? ⟨gb, ob + j, none⟩ = some (.int .u8 (y1 : Int)) := cb1
            clear hst hbel ca cb ca1 cb1
            generalize wr.drewN nq = w2 at *
            go_quiet (fail)
            have HK0 : Hid (((j + 1 : Nat) : Int) = (j : Int) + 1) := by show _ = _; simp
            rw [HK0.out] at HE
            have hwfk := wf_nat (j + 1) (by omega)
            rw [HK0.out] at hwfk
            have hst3 := (hst2.drewN nq).ownK
            have hbel3 := bdrewN hbel2 nq
            have cb4 : (w2.drewN nq).cell? ⟨gb, ob + (j + 1), none⟩ = some (.int .u8 (y : Int)) := cb2
            clear hst2 hbel2 cb2 ca2 cb3
            generalize diffK a b (j + 1) = I at *
            generalize w2.drewN nq = w3 at *
            have hwx := hbel3.size
            have hltv := hst3.lt
            have hrow := Row.new w3 34 #[.int .i64 ((j : Int) + 1), .slice none 0 0]
            go_wp2_with (at_builtin; refine wpList_appD (U := 5) rfl _ _ 24 rfl (.agg #[.int .i64 0, .slice none 0 0]) 32 Try.underlying24 rpatInfo rfl rfl _ _ rfl (hst3.alloc _) 34 ((j : Int) + 1) hrow hwfk (by omega) (by omega) (by simp; omega) ?_; intro gv cv R wq hst4 hg4)
            have hbelq := (hbel3.alloc hwx (.cells #[.int .i64 ((j : Int) + 1), .slice none 0 0] 34)).grown hg4 (by simp; omega) (fun q hq => (hltv q hq).1)
            have cbq : wq.drew.cell? ⟨gb, ob + (j + 1), none⟩ = some (.int .u8 (y : Int)) := (hg4.cell (a := ⟨gb, ob + (j + 1), none⟩) ((Below.heap_alloc w3 _ gb (by omega) |> fun h => (World.cell?_of_block (w := w3) h).trans cb4)) (fun e => by have := hltv gb e.symm; omega))
            clear hst3 hbel3 cb4 hrow hg4
            obtain ⟨a0, ha0⟩ : ∃ a0 : Int, a0 = (j : Int) + 1 := ⟨_, rfl⟩
            obtain ⟨d, hd0⟩ : ∃ d : List Nat, d = [] := ⟨_, rfl⟩
            obtain ⟨u, hu0⟩ : ∃ u : Value, u = .slice none 0 0 := ⟨_, rfl⟩
            have hdl : d.length ≤ 256 := by rw [hd0]; decide
            have HD : Hid (diffK a b (j + 1 + 1) = I ++ [(a0, d ++ [y])]) := by show _ = _; rw [HE.out, ha0, hd0]; rfl
            rw [← ha0, ← hd0, ← hu0] at hst4
            have hst := hst4
            clear hst4 ha0 hd0 hu0 HE
            have hlt := hst.lt
            have hcu : wq.drew.cell? ⟨gv, I.length * 2 + 1, none⟩ = some u := hst.cellU
            have hgbl : gb < wq.drew.heap.size := Nat.lt_of_lt_of_le hgb hbelq.size
            have hwq := hbelq.size
            have hfz := hst.frozen (I.length * 2 + 1)
            have hsta := hst.below ((Below.refl wq.heap.size wq).drew.alloc (Nat.le_refl _) (.cells #[.int .u8 (y : Int)] 5))
            have hcu2 := hsta.cellU
            have hcu3 : (wq.alloc (.cells #[.int .u8 (y : Int)] 5)).drew.cell? ⟨gv, I.length * 2 + 1, none⟩ = some u := hsta.cellU
            have hl3 : (d ++ [y]).length = d.length + 1 := by rw [List.length_append, List.length_singleton]
            have hsl1 : Sl (wq.drew.alloc (.cells #[.int .u8 (y : Int)] 5)) V8 (some ⟨wq.heap.size, 0, none⟩) 1 [y] := sl_block (Row.new wq.drew 5 #[.int .u8 (y : Int)]) rfl (by simp)
            have hil : ((I.length : Nat) : Int) < (I.length : Int) + 1 := by omega
            refine wp_region_held_drew (S := Go.RowKit.Below (w.heap.size) (wq.drew)) (by kernel_rfl) ?hb36 (fun hHeld => ?rest36)
            case hb36 =>
              exact Go.RowKit.Below.refl _ _
            case' rest36 => skip
            refine wpAnyH_take (i := 0) (v := ?v37) rfl (by kernel_rfl) (by kernel_rfl) (by kernel_rfl) (fun _ _ _ h => h) (Or.inl ⟨by rfl, ?y37⟩) (by assumption) ?rest37
            case y37 => (intro w hSw; have hT0 := Mem.bl_cell hSw cbq (by first | omega | exact World.block_lt_of_cell? _ _ cbq | (simp <;> omega)); clear hSw; go_simp; try with_reducible rfl)
            case' rest37 => skip
            try simp only [List.getElem_toArray, List.getElem_cons_succ, List.getElem_cons_zero, Act.put, List.setIfInBounds_toArray, List.set_cons_zero, List.set_cons_succ]
            refine wpAnyH_take (i := 1) (v := ?v38) rfl (by kernel_rfl) (by kernel_rfl) (by kernel_rfl) (fun _ _ _ h => h) (Or.inl ⟨by rfl, ?y38⟩) (by assumption) ?rest38
            case y38 => (intro w hSw; have hT0 := Mem.bl_cell hSw cbq (by first | omega | exact World.block_lt_of_cell? _ _ cbq | (simp <;> omega)); clear hSw; go_simp; try with_reducible rfl)
            case' rest38 => skip
            try simp only [List.getElem_toArray, List.getElem_cons_succ, List.getElem_cons_zero, Act.put, List.setIfInBounds_toArray, List.set_cons_zero, List.set_cons_succ]
            refine wpAnyH_take (i := 2) (v := ?v39) rfl (by kernel_rfl) (by kernel_rfl) (by kernel_rfl) (fun _ _ _ h => h) (Or.inl ⟨by rfl, ?y39⟩) (by assumption) ?rest39
            case y39 => (intro w hSw; have hT0 := Mem.bl_cell hSw cbq (by first | omega | exact World.block_lt_of_cell? _ _ cbq | (simp <;> omega)); clear hSw; go_simp; try with_reducible rfl)
            case' rest39 => skip
            try simp only [List.getElem_toArray, List.getElem_cons_succ, List.getElem_cons_zero, Act.put, List.setIfInBounds_toArray, List.set_cons_zero, List.set_cons_succ]
            refine wpAnyH_take (i := 3) (v := ?v40) rfl (by kernel_rfl) (by kernel_rfl) (by kernel_rfl) (fun _ _ _ h => h) (Or.inl ⟨by rfl, ?y40⟩) (by assumption) ?rest40
            case y40 => (intro w hSw; have hT0 := Mem.bl_cell hSw cbq (by first | omega | exact World.block_lt_of_cell? _ _ cbq | (simp <;> omega)); clear hSw; go_simp; try with_reducible rfl)
            case' rest40 => skip
            try simp only [List.getElem_toArray, List.getElem_cons_succ, List.getElem_cons_zero, Act.put, List.setIfInBounds_toArray, List.set_cons_zero, List.set_cons_succ]
            refine wpAnyH_take (i := 4) (v := ?v41) rfl (by kernel_rfl) (by kernel_rfl) (by kernel_rfl) (fun _ _ _ h => h) (Or.inl ⟨by rfl, ?y41⟩) (by assumption) ?rest41
            case y41 => (intro w hSw; have hT0 := Mem.bl_cell hSw cbq (by first | omega | exact World.block_lt_of_cell? _ _ cbq | (simp <;> omega)); clear hSw; go_simp; try with_reducible rfl)
            case' rest41 => skip
            try simp only [List.getElem_toArray, List.getElem_cons_succ, List.getElem_cons_zero, Act.put, List.setIfInBounds_toArray, List.set_cons_zero, List.set_cons_succ]
            refine wpAnyH_take (i := 5) (v := ?v42) rfl (by kernel_rfl) (by kernel_rfl) (by kernel_rfl) (fun _ _ _ h => h) (Or.inl ⟨by rfl, ?y42⟩) (by assumption) ?rest42
            case y42 => (intro w hSw; have hT0 := Mem.bl_cell hSw cbq (by first | omega | exact World.block_lt_of_cell? _ _ cbq | (simp <;> omega)); clear hSw; go_simp; try with_reducible rfl)
            case' rest42 => skip
            try simp only [List.getElem_toArray, List.getElem_cons_succ, List.getElem_cons_zero, Act.put, List.setIfInBounds_toArray, List.set_cons_zero, List.set_cons_succ]
            refine wpAnyH_take (i := 7) (v := ?v43) rfl (by kernel_rfl) (by kernel_rfl) (by kernel_rfl) (fun _ _ _ h => h) (Or.inl ⟨by rfl, ?y43⟩) (by assumption) ?rest43
            case y43 => (intro w hSw; have hT0 := Mem.bl_cell hSw cbq (by first | omega | exact World.block_lt_of_cell? _ _ cbq | (simp <;> omega)); clear hSw; go_simp; try with_reducible rfl)
            case' rest43 => skip
            try simp only [List.getElem_toArray, List.getElem_cons_succ, List.getElem_cons_zero, Act.put, List.setIfInBounds_toArray, List.set_cons_zero, List.set_cons_succ]
            refine wpAnyH_take (i := 8) (v := ?v44) rfl (by kernel_rfl) (by kernel_rfl) (by kernel_rfl) (fun _ _ _ h => h) (Or.inl ⟨by rfl, ?y44⟩) (by assumption) ?rest44
            case y44 => (intro w hSw; have hT0 := Mem.bl_cell hSw cbq (by first | omega | exact World.block_lt_of_cell? _ _ cbq | (simp <;> omega)); clear hSw; go_simp; try with_reducible rfl)
            case' rest44 => skip
            try simp only [List.getElem_toArray, List.getElem_cons_succ, List.getElem_cons_zero, Act.put, List.setIfInBounds_toArray, List.set_cons_zero, List.set_cons_succ]
            refine wpAnyH_take (i := 9) (v := ?v45) rfl (by kernel_rfl) (by kernel_rfl) (by kernel_rfl) (fun _ _ _ h => h) (Or.inl ⟨by rfl, ?y45⟩) (by assumption) ?rest45
            case y45 => (intro w hSw; have hT0 := Mem.bl_cell hSw cbq (by first | omega | exact World.block_lt_of_cell? _ _ cbq | (simp <;> omega)); clear hSw; go_simp; try with_reducible rfl)
            case' rest45 => skip
            try simp only [List.getElem_toArray, List.getElem_cons_succ, List.getElem_cons_zero, Act.put, List.setIfInBounds_toArray, List.set_cons_zero, List.set_cons_succ]
            refine wpAnyH_take (i := 10) (v := ?v46) rfl (by kernel_rfl) (by kernel_rfl) (by kernel_rfl) (fun _ _ _ h => h) (Or.inl ⟨by rfl, ?y46⟩) (by assumption) ?rest46
            case y46 => (intro w hSw; have hT0 := Mem.bl_cell hSw cbq (by first | omega | exact World.block_lt_of_cell? _ _ cbq | (simp <;> omega)); clear hSw; go_simp; try with_reducible rfl)
            case' rest46 => skip
            try simp only [List.getElem_toArray, List.getElem_cons_succ, List.getElem_cons_zero, Act.put, List.setIfInBounds_toArray, List.set_cons_zero, List.set_cons_succ]
            refine wpAnyH_ready (rs := [6, 11]) (by kernel_rfl) (by simp) ?_
            refine AllReadyH.cons rfl (fun K hK => ?_) ?_
            · skip
              go_simp
              have hSnew := hHeld
              try go_wp2_with fail
              refine hK.out _ _ ?_ (fun hHeld2 => ?_)
              · exact hSnew
              clear hK K hHeld hSnew
              have hHeld := hHeld2
              clear hHeld2
              try simp only [List.getElem_toArray, List.getElem_cons_succ, List.getElem_cons_zero, Act.put, List.setIfInBounds_toArray, List.set_cons_zero, List.set_cons_succ]
              refine wpAnyH_ready (rs := [11]) (by kernel_rfl) (by simp) ?_
              refine AllReadyH.cons rfl (fun K hK => ?_) AllReadyH.nil
              go_simp
              have hbl := (Below.refl _ wq.drew).alloc (Nat.le_refl _) (.cells #[.int .u8 (y : Int)] 5)
              try go_wp2_with fail
              have hSnew := Mem.bl_step hHeld hbl (by first | exact Nat.le_refl _ | omega | (simp <;> omega))
              refine hK.out _ _ ?_ (fun hHeld2 => ?_)
              · exact hSnew
              clear hbl
              clear hK K hHeld hSnew
              have hHeld := hHeld2
              clear hHeld2
              try simp only [List.getElem_toArray, List.getElem_cons_succ, List.getElem_cons_zero, Act.put, List.setIfInBounds_toArray, List.set_cons_zero, List.set_cons_succ]
              refine wpAnyH_ready (rs := [12]) (by kernel_rfl) (by simp) ?_
              refine AllReadyH.cons rfl (fun K hK => ?_) AllReadyH.nil
              rw [if_pos (by rfl)]
              refine wp_app _ _ _ (by rfl) (V8 0) 1 Try.underlying30 u8Info rfl (by rfl) (by rfl) hsta.own hsl1 (fun h => by cases h) V8_one (by simp; omega) (by simp; omega) (by simp; omega) ?_; intro v3 w3 hown3 hg3 hat3; have hs3 := hsta.step hyb hg3 hown3 hat3; obtain ⟨A3, cp3, hv3⟩ := hown3.slice; rw [hl3] at hv3; subst hv3; have hblk := hsta.own.lt; have hSnew := hHeld.grown hg3 (by simp; omega) (fun q hq => (hblk q hq).1); have hfz3 : w3.frozen? ⟨gv, I.length * 2 + 1, none⟩ = false := (World.ownsRow.frozenAt hsta.row (I.length * 2 + 1) |> fun h => by rw [World.frozen?_of_block (hg3.block gv (by simp; omega) (fun e => hsta.apart gv e.symm rfl))]; exact h); have hcu3 : w3.cell? ⟨gv, I.length * 2 + 1, none⟩ = some u := hg3.cell (hsta.cellU) (fun e => hsta.apart gv e.symm rfl)
              refine hK.out _ _ ?_ (fun hHeld2 => ?_)
              · exact hSnew
              clear hK K hHeld hSnew
              have hHeld := hHeld2
              clear hHeld2
              try simp only [List.getElem_toArray, List.getElem_cons_succ, List.getElem_cons_zero, Act.put, List.setIfInBounds_toArray, List.set_cons_zero, List.set_cons_succ]
              refine wpAnyH_take (i := 13) (v := ?v47) rfl (by kernel_rfl) (by kernel_rfl) (by kernel_rfl) (fun _ _ _ h => h) (Or.inl ⟨by rfl, ?y47⟩) (by assumption) ?rest47
              case y47 => (intro w hSw; have hT0 := Mem.bl_cell hSw cbq (by first | omega | exact World.block_lt_of_cell? _ _ cbq | (simp <;> omega)); clear hSw; go_simp; try with_reducible rfl)
              case' rest47 => skip
              try simp only [List.getElem_toArray, List.getElem_cons_succ, List.getElem_cons_zero, Act.put, List.setIfInBounds_toArray, List.set_cons_zero, List.set_cons_succ]
              refine wpAnyH_take (i := 14) (v := ?v48) rfl (by kernel_rfl) (by kernel_rfl) (by kernel_rfl) (fun _ _ _ h => h) (Or.inl ⟨by rfl, ?y48⟩) (by assumption) ?rest48
              case y48 => (intro w hSw; have hT0 := Mem.bl_cell hSw cbq (by first | omega | exact World.block_lt_of_cell? _ _ cbq | (simp <;> omega)); clear hSw; go_simp; try with_reducible rfl)
              case' rest48 => skip
              try simp only [List.getElem_toArray, List.getElem_cons_succ, List.getElem_cons_zero, Act.put, List.setIfInBounds_toArray, List.set_cons_zero, List.set_cons_succ]
              refine wpAnyH_ready (rs := [15]) (by kernel_rfl) (by simp) ?_
              refine AllReadyH.cons rfl (fun K hK => ?_) AllReadyH.nil
              go_simp
              have hSnew := hHeld.setCell (p := ⟨gv, I.length * 2 + 1, none⟩) hlt.1 (.slice A3 (d.length + 1) cp3)
              try go_wp2_with fail
              refine hK.out _ _ ?_ (fun hHeld2 => ?_)
              · exact hSnew
              clear hK K hHeld hSnew
              have hHeld := hHeld2
              clear hHeld2
              try simp only [List.getElem_toArray, List.getElem_cons_succ, List.getElem_cons_zero, Act.put, List.setIfInBounds_toArray, List.set_cons_zero, List.set_cons_succ]
              refine wpAnyH_done (by kernel_rfl) ?_ _
              go_wp2
              have hbq2 := hbelq.drew.trans hHeld
              go_roundw
              case rel => first | exact ⟨_, 1, rfl, by omega, by go_num, .inr ⟨gv, cv, I, a0, _, _, R, rfl, HD.out, hs3⟩, hbq2⟩ | exact ⟨_, j + 1 + 1, rfl, by omega, by go_num, .inr ⟨gv, cv, I, a0, _, _, R, rfl, HD.out, hs3⟩, hbq2⟩
              case measure => simp [intOf] <;> omega
            refine AllReadyH.cons rfl (fun K hK => ?_) ?_
            · skip
              go_simp
              have hbl := (Below.refl _ wq.drew).alloc (Nat.le_refl _) (.cells #[.int .u8 (y : Int)] 5)
              try go_wp2_with fail
              have hSnew := Mem.bl_step hHeld hbl (by first | exact Nat.le_refl _ | omega | (simp <;> omega))
              refine hK.out _ _ ?_ (fun hHeld2 => ?_)
              · exact hSnew
              clear hbl
              clear hK K hHeld hSnew
              have hHeld := hHeld2
              clear hHeld2
              try simp only [List.getElem_toArray, List.getElem_cons_succ, List.getElem_cons_zero, Act.put, List.setIfInBounds_toArray, List.set_cons_zero, List.set_cons_succ]
              refine wpAnyH_ready (rs := [6]) (by kernel_rfl) (by simp) ?_
              refine AllReadyH.cons rfl (fun K hK => ?_) AllReadyH.nil
              go_simp
              have hSnew := hHeld
              try go_wp2_with fail
              refine hK.out _ _ ?_ (fun hHeld2 => ?_)
              · exact hSnew
              clear hK K hHeld hSnew
              have hHeld := hHeld2
              clear hHeld2
              try simp only [List.getElem_toArray, List.getElem_cons_succ, List.getElem_cons_zero, Act.put, List.setIfInBounds_toArray, List.set_cons_zero, List.set_cons_succ]
              refine wpAnyH_ready (rs := [12]) (by kernel_rfl) (by simp) ?_
              refine AllReadyH.cons rfl (fun K hK => ?_) AllReadyH.nil
              rw [if_pos (by rfl)]
              refine wp_app _ _ _ (by rfl) (V8 0) 1 Try.underlying30 u8Info rfl (by rfl) (by rfl) hsta.own hsl1 (fun h => by cases h) V8_one (by simp; omega) (by simp; omega) (by simp; omega) ?_; intro v3 w3 hown3 hg3 hat3; have hs3 := hsta.step hyb hg3 hown3 hat3; obtain ⟨A3, cp3, hv3⟩ := hown3.slice; rw [hl3] at hv3; subst hv3; have hblk := hsta.own.lt; have hSnew := hHeld.grown hg3 (by simp; omega) (fun q hq => (hblk q hq).1); have hfz3 : w3.frozen? ⟨gv, I.length * 2 + 1, none⟩ = false := (World.ownsRow.frozenAt hsta.row (I.length * 2 + 1) |> fun h => by rw [World.frozen?_of_block (hg3.block gv (by simp; omega) (fun e => hsta.apart gv e.symm rfl))]; exact h); have hcu3 : w3.cell? ⟨gv, I.length * 2 + 1, none⟩ = some u := hg3.cell (hsta.cellU) (fun e => hsta.apart gv e.symm rfl)
              refine hK.out _ _ ?_ (fun hHeld2 => ?_)
              · exact hSnew
              clear hK K hHeld hSnew
              have hHeld := hHeld2
              clear hHeld2
              try simp only [List.getElem_toArray, List.getElem_cons_succ, List.getElem_cons_zero, Act.put, List.setIfInBounds_toArray, List.set_cons_zero, List.set_cons_succ]
              refine wpAnyH_take (i := 13) (v := ?v49) rfl (by kernel_rfl) (by kernel_rfl) (by kernel_rfl) (fun _ _ _ h => h) (Or.inl ⟨by rfl, ?y49⟩) (by assumption) ?rest49
              case y49 => (intro w hSw; have hT0 := Mem.bl_cell hSw cbq (by first | omega | exact World.block_lt_of_cell? _ _ cbq | (simp <;> omega)); clear hSw; go_simp; try with_reducible rfl)
              case' rest49 => skip
              try simp only [List.getElem_toArray, List.getElem_cons_succ, List.getElem_cons_zero, Act.put, List.setIfInBounds_toArray, List.set_cons_zero, List.set_cons_succ]
              refine wpAnyH_take (i := 14) (v := ?v50) rfl (by kernel_rfl) (by kernel_rfl) (by kernel_rfl) (fun _ _ _ h => h) (Or.inl ⟨by rfl, ?y50⟩) (by assumption) ?rest50
              case y50 => (intro w hSw; have hT0 := Mem.bl_cell hSw cbq (by first | omega | exact World.block_lt_of_cell? _ _ cbq | (simp <;> omega)); clear hSw; go_simp; try with_reducible rfl)
              case' rest50 => skip
              try simp only [List.getElem_toArray, List.getElem_cons_succ, List.getElem_cons_zero, Act.put, List.setIfInBounds_toArray, List.set_cons_zero, List.set_cons_succ]
              refine wpAnyH_ready (rs := [15]) (by kernel_rfl) (by simp) ?_
              refine AllReadyH.cons rfl (fun K hK => ?_) AllReadyH.nil
              go_simp
              have hSnew := hHeld.setCell (p := ⟨gv, I.length * 2 + 1, none⟩) hlt.1 (.slice A3 (d.length + 1) cp3)
              try go_wp2_with fail
              refine hK.out _ _ ?_ (fun hHeld2 => ?_)
              · exact hSnew
              clear hK K hHeld hSnew
              have hHeld := hHeld2
              clear hHeld2
              try simp only [List.getElem_toArray, List.getElem_cons_succ, List.getElem_cons_zero, Act.put, List.setIfInBounds_toArray, List.set_cons_zero, List.set_cons_succ]
              refine wpAnyH_done (by kernel_rfl) ?_ _
              go_wp2
              have hbq2 := hbelq.drew.trans hHeld
              go_roundw
              case rel => first | exact ⟨_, 1, rfl, by omega, by go_num, .inr ⟨gv, cv, I, a0, _, _, R, rfl, HD.out, hs3⟩, hbq2⟩ | exact ⟨_, j + 1 + 1, rfl, by omega, by go_num, .inr ⟨gv, cv, I, a0, _, _, R, rfl, HD.out, hs3⟩, hbq2⟩
              case measure => simp [intOf] <;> omega
            exact AllReadyH.nil
          | true =>
            have HS : Hid (startB a b (j + 1) = false) := by show _ = _; rw [HSe.out, hq1]; rfl
            rw [HS.out, if_neg (by simp)] at HE
            have hnn := diffK_ne a b j hq1
            have hdd := diffK_dlen a b (j + 1)
            rw [hq1] at hne1
            have hc1 : (((a[j] : Nat) : Int) == ((b[j] : Nat) : Int)) = false := by
              rw [beq_eq_false_iff_ne]
              exact (bne_iff_ne.1 hne1.symm)
            generalize a[j] = x1 at *
            generalize b[j] = y1 at *
            generalize a[j + 1] = x at *
            generalize b[j + 1] = y at *
            clear hne hq hgd hne1 hq1
            rcases hst with ⟨rfl, h0⟩ | ⟨gv, cv, I, a0, d, u, R, rfl, hDe, hst⟩
            · exact absurd h0 hnn
            rw [hDe] at hdd hlen HE
            have hdl : d.length ≤ 256 := by have := hdd (a0, d) (by simp); simp at this; omega
            rw [addLast_concat] at HE
            have HD : Hid (diffK a b (j + 1 + 1) = I ++ [(a0, d ++ [y])]) := HE.out
            rw [List.length_append, List.length_singleton] at hlen
            clear hnn hdd hDe HE
            go_wp2
            go_quiet (fail)
            go_wp2
            have hst2 := hst.drewN nq
            have hbel2 := bdrewN hbel nq
            have cb2 : (wr.drewN nq).cell? ⟨gb, ob + (j + 1), none⟩ = some (.int .u8 (y : Int)) := cb
            have ca2 : (wr.drewN nq).cell? ⟨ga, oa + j, none⟩ = some (.int .u8 (x1 : Int)) := ca1
            have cb3 : (wr.drewN nq).cell? ⟨gb, ob + j, none⟩ = some (.int .u8 (y1 : Int)) := cb1
            clear hst hbel ca cb ca1 cb1
            generalize wr.drewN nq = w2 at *
            go_quiet (fail)
            have hst := hst2.drewN nq
            have hbelq := bdrewN hbel2 nq
            have cbq : (w2.drewN nq).drew.cell? ⟨gb, ob + (j + 1), none⟩ = some (.int .u8 (y : Int)) := cb2
            clear hst2 hbel2 cb2 ca2 cb3
            generalize w2.drewN nq = wq at *
            go_wp2_with fail
            have hlt := hst.lt
            have hcu : wq.drew.cell? ⟨gv, I.length * 2 + 1, none⟩ = some u := hst.cellU
            have hgbl : gb < wq.drew.heap.size := Nat.lt_of_lt_of_le hgb hbelq.size
            have hwq := hbelq.size
            have hfz := hst.frozen (I.length * 2 + 1)
            have hsta := hst.below ((Below.refl wq.heap.size wq).drew.alloc (Nat.le_refl _) (.cells #[.int .u8 (y : Int)] 5))
            have hcu2 := hsta.cellU
            have hcu3 : (wq.alloc (.cells #[.int .u8 (y : Int)] 5)).drew.cell? ⟨gv, I.length * 2 + 1, none⟩ = some u := hsta.cellU
            have hl3 : (d ++ [y]).length = d.length + 1 := by rw [List.length_append, List.length_singleton]
            have hsl1 : Sl (wq.drew.alloc (.cells #[.int .u8 (y : Int)] 5)) V8 (some ⟨wq.heap.size, 0, none⟩) 1 [y] := sl_block (Row.new wq.drew 5 #[.int .u8 (y : Int)]) rfl (by simp)
            have hil : ((I.length : Nat) : Int) < (I.length : Int) + 1 := by omega
            refine wp_region_held_drew (S := Go.RowKit.Below (w.heap.size) (wq.drew)) (by kernel_rfl) ?hb61 (fun hHeld => ?rest61)
            case hb61 =>
              exact Go.RowKit.Below.refl _ _
            case' rest61 => skip
            refine wpAnyH_take (i := 0) (v := ?v62) rfl (by kernel_rfl) (by kernel_rfl) (by kernel_rfl) (fun _ _ _ h => h) (Or.inl ⟨by rfl, ?y62⟩) (by assumption) ?rest62
            case y62 => (intro w hSw; have hT0 := Mem.bl_cell hSw cbq (by first | omega | exact World.block_lt_of_cell? _ _ cbq | (simp <;> omega)); clear hSw; go_simp; try with_reducible rfl)
            case' rest62 => skip
            try simp only [List.getElem_toArray, List.getElem_cons_succ, List.getElem_cons_zero, Act.put, List.setIfInBounds_toArray, List.set_cons_zero, List.set_cons_succ]
            refine wpAnyH_take (i := 1) (v := ?v63) rfl (by kernel_rfl) (by kernel_rfl) (by kernel_rfl) (fun _ _ _ h => h) (Or.inl ⟨by rfl, ?y63⟩) (by assumption) ?rest63
            case y63 => (intro w hSw; have hT0 := Mem.bl_cell hSw cbq (by first | omega | exact World.block_lt_of_cell? _ _ cbq | (simp <;> omega)); clear hSw; go_simp; try with_reducible rfl)
            case' rest63 => skip
            try simp only [List.getElem_toArray, List.getElem_cons_succ, List.getElem_cons_zero, Act.put, List.setIfInBounds_toArray, List.set_cons_zero, List.set_cons_succ]
            refine wpAnyH_take (i := 2) (v := ?v64) rfl (by kernel_rfl) (by kernel_rfl) (by kernel_rfl) (fun _ _ _ h => h) (Or.inl ⟨by rfl, ?y64⟩) (by assumption) ?rest64
            case y64 => (intro w hSw; have hT0 := Mem.bl_cell hSw cbq (by first | omega | exact World.block_lt_of_cell? _ _ cbq | (simp <;> omega)); clear hSw; go_simp; try with_reducible rfl)
            case' rest64 => skip
            try simp only [List.getElem_toArray, List.getElem_cons_succ, List.getElem_cons_zero, Act.put, List.setIfInBounds_toArray, List.set_cons_zero, List.set_cons_succ]
            refine wpAnyH_take (i := 3) (v := ?v65) rfl (by kernel_rfl) (by kernel_rfl) (by kernel_rfl) (fun _ _ _ h => h) (Or.inl ⟨by rfl, ?y65⟩) (by assumption) ?rest65
            case y65 => (intro w hSw; have hT0 := Mem.bl_cell hSw cbq (by first | omega | exact World.block_lt_of_cell? _ _ cbq | (simp <;> omega)); clear hSw; go_simp; try with_reducible rfl)
            case' rest65 => skip
            try simp only [List.getElem_toArray, List.getElem_cons_succ, List.getElem_cons_zero, Act.put, List.setIfInBounds_toArray, List.set_cons_zero, List.set_cons_succ]
            refine wpAnyH_take (i := 4) (v := ?v66) rfl (by kernel_rfl) (by kernel_rfl) (by kernel_rfl) (fun _ _ _ h => h) (Or.inl ⟨by rfl, ?y66⟩) (by assumption) ?rest66
            case y66 => (intro w hSw; have hT0 := Mem.bl_cell hSw cbq (by first | omega | exact World.block_lt_of_cell? _ _ cbq | (simp <;> omega)); clear hSw; go_simp; try with_reducible rfl)
            case' rest66 => skip
            try simp only [List.getElem_toArray, List.getElem_cons_succ, List.getElem_cons_zero, Act.put, List.setIfInBounds_toArray, List.set_cons_zero, List.set_cons_succ]
            refine wpAnyH_take (i := 5) (v := ?v67) rfl (by kernel_rfl) (by kernel_rfl) (by kernel_rfl) (fun _ _ _ h => h) (Or.inl ⟨by rfl, ?y67⟩) (by assumption) ?rest67
            case y67 => (intro w hSw; have hT0 := Mem.bl_cell hSw cbq (by first | omega | exact World.block_lt_of_cell? _ _ cbq | (simp <;> omega)); clear hSw; go_simp; try with_reducible rfl)
            case' rest67 => skip
            try simp only [List.getElem_toArray, List.getElem_cons_succ, List.getElem_cons_zero, Act.put, List.setIfInBounds_toArray, List.set_cons_zero, List.set_cons_succ]
            refine wpAnyH_take (i := 7) (v := ?v68) rfl (by kernel_rfl) (by kernel_rfl) (by kernel_rfl) (fun _ _ _ h => h) (Or.inl ⟨by rfl, ?y68⟩) (by assumption) ?rest68
            case y68 => (intro w hSw; have hT0 := Mem.bl_cell hSw cbq (by first | omega | exact World.block_lt_of_cell? _ _ cbq | (simp <;> omega)); clear hSw; go_simp; try with_reducible rfl)
            case' rest68 => skip
            try simp only [List.getElem_toArray, List.getElem_cons_succ, List.getElem_cons_zero, Act.put, List.setIfInBounds_toArray, List.set_cons_zero, List.set_cons_succ]
            refine wpAnyH_take (i := 8) (v := ?v69) rfl (by kernel_rfl) (by kernel_rfl) (by kernel_rfl) (fun _ _ _ h => h) (Or.inl ⟨by rfl, ?y69⟩) (by assumption) ?rest69
            case y69 => (intro w hSw; have hT0 := Mem.bl_cell hSw cbq (by first | omega | exact World.block_lt_of_cell? _ _ cbq | (simp <;> omega)); clear hSw; go_simp; try with_reducible rfl)
            case' rest69 => skip
            try simp only [List.getElem_toArray, List.getElem_cons_succ, List.getElem_cons_zero, Act.put, List.setIfInBounds_toArray, List.set_cons_zero, List.set_cons_succ]
            refine wpAnyH_take (i := 9) (v := ?v70) rfl (by kernel_rfl) (by kernel_rfl) (by kernel_rfl) (fun _ _ _ h => h) (Or.inl ⟨by rfl, ?y70⟩) (by assumption) ?rest70
            case y70 => (intro w hSw; have hT0 := Mem.bl_cell hSw cbq (by first | omega | exact World.block_lt_of_cell? _ _ cbq | (simp <;> omega)); clear hSw; go_simp; try with_reducible rfl)
            case' rest70 => skip
            try simp only [List.getElem_toArray, List.getElem_cons_succ, List.getElem_cons_zero, Act.put, List.setIfInBounds_toArray, List.set_cons_zero, List.set_cons_succ]
            refine wpAnyH_take (i := 10) (v := ?v71) rfl (by kernel_rfl) (by kernel_rfl) (by kernel_rfl) (fun _ _ _ h => h) (Or.inl ⟨by rfl, ?y71⟩) (by assumption) ?rest71
            case y71 => (intro w hSw; have hT0 := Mem.bl_cell hSw cbq (by first | omega | exact World.block_lt_of_cell? _ _ cbq | (simp <;> omega)); clear hSw; go_simp; try with_reducible rfl)
            case' rest71 => skip
            try simp only [List.getElem_toArray, List.getElem_cons_succ, List.getElem_cons_zero, Act.put, List.setIfInBounds_toArray, List.set_cons_zero, List.set_cons_succ]
            refine wpAnyH_ready (rs := [6, 11]) (by kernel_rfl) (by simp) ?_
            refine AllReadyH.cons rfl (fun K hK => ?_) ?_
            · skip
              go_simp
              have hSnew := hHeld
              try go_wp2_with fail
              refine hK.out _ _ ?_ (fun hHeld2 => ?_)
              · exact hSnew
              clear hK K hHeld hSnew
              have hHeld := hHeld2
              clear hHeld2
              try simp only [List.getElem_toArray, List.getElem_cons_succ, List.getElem_cons_zero, Act.put, List.setIfInBounds_toArray, List.set_cons_zero, List.set_cons_succ]
              refine wpAnyH_ready (rs := [11]) (by kernel_rfl) (by simp) ?_
              refine AllReadyH.cons rfl (fun K hK => ?_) AllReadyH.nil
              go_simp
              have hbl := (Below.refl _ wq.drew).alloc (Nat.le_refl _) (.cells #[.int .u8 (y : Int)] 5)
              try go_wp2_with fail
              have hSnew := Mem.bl_step hHeld hbl (by first | exact Nat.le_refl _ | omega | (simp <;> omega))
              refine hK.out _ _ ?_ (fun hHeld2 => ?_)
              · exact hSnew
              clear hbl
              clear hK K hHeld hSnew
              have hHeld := hHeld2
              clear hHeld2
              try simp only [List.getElem_toArray, List.getElem_cons_succ, List.getElem_cons_zero, Act.put, List.setIfInBounds_toArray, List.set_cons_zero, List.set_cons_succ]
              refine wpAnyH_ready (rs := [12]) (by kernel_rfl) (by simp) ?_
              refine AllReadyH.cons rfl (fun K hK => ?_) AllReadyH.nil
              rw [if_pos (by rfl)]
              refine wp_app _ _ _ (by rfl) (V8 0) 1 Try.underlying30 u8Info rfl (by rfl) (by rfl) hsta.own hsl1 (fun h => by cases h) V8_one (by simp; omega) (by simp; omega) (by simp; omega) ?_; intro v3 w3 hown3 hg3 hat3; have hs3 := hsta.step hyb hg3 hown3 hat3; obtain ⟨A3, cp3, hv3⟩ := hown3.slice; rw [hl3] at hv3; subst hv3; have hblk := hsta.own.lt; have hSnew := hHeld.grown hg3 (by simp; omega) (fun q hq => (hblk q hq).1); have hfz3 : w3.frozen? ⟨gv, I.length * 2 + 1, none⟩ = false := (World.ownsRow.frozenAt hsta.row (I.length * 2 + 1) |> fun h => by rw [World.frozen?_of_block (hg3.block gv (by simp; omega) (fun e => hsta.apart gv e.symm rfl))]; exact h); have hcu3 : w3.cell? ⟨gv, I.length * 2 + 1, none⟩ = some u := hg3.cell (hsta.cellU) (fun e => hsta.apart gv e.symm rfl)
              refine hK.out _ _ ?_ (fun hHeld2 => ?_)
              · exact hSnew
              clear hK K hHeld hSnew
              have hHeld := hHeld2
              clear hHeld2
              try simp only [List.getElem_toArray, List.getElem_cons_succ, List.getElem_cons_zero, Act.put, List.setIfInBounds_toArray, List.set_cons_zero, List.set_cons_succ]
              refine wpAnyH_take (i := 13) (v := ?v72) rfl (by kernel_rfl) (by kernel_rfl) (by kernel_rfl) (fun _ _ _ h => h) (Or.inl ⟨by rfl, ?y72⟩) (by assumption) ?rest72
              case y72 => (intro w hSw; have hT0 := Mem.bl_cell hSw cbq (by first | omega | exact World.block_lt_of_cell? _ _ cbq | (simp <;> omega)); clear hSw; go_simp; try with_reducible rfl)
              case' rest72 => skip
              try simp only [List.getElem_toArray, List.getElem_cons_succ, List.getElem_cons_zero, Act.put, List.setIfInBounds_toArray, List.set_cons_zero, List.set_cons_succ]
              refine wpAnyH_take (i := 14) (v := ?v73) rfl (by kernel_rfl) (by kernel_rfl) (by kernel_rfl) (fun _ _ _ h => h) (Or.inl ⟨by rfl, ?y73⟩) (by assumption) ?rest73
              case y73 => (intro w hSw; have hT0 := Mem.bl_cell hSw cbq (by first | omega | exact World.block_lt_of_cell? _ _ cbq | (simp <;> omega)); clear hSw; go_simp; try with_reducible rfl)
              case' rest73 => skip
              try simp only [List.getElem_toArray, List.getElem_cons_succ, List.getElem_cons_zero, Act.put, List.setIfInBounds_toArray, List.set_cons_zero, List.set_cons_succ]
              refine wpAnyH_ready (rs := [15]) (by kernel_rfl) (by simp) ?_
              refine AllReadyH.cons rfl (fun K hK => ?_) AllReadyH.nil
              go_simp
              have hSnew := hHeld.setCell (p := ⟨gv, I.length * 2 + 1, none⟩) hlt.1 (.slice A3 (d.length + 1) cp3)
              try go_wp2_with fail
              refine hK.out _ _ ?_ (fun hHeld2 => ?_)
              · exact hSnew
              clear hK K hHeld hSnew
              have hHeld := hHeld2
              clear hHeld2
              try simp only [List.getElem_toArray, List.getElem_cons_succ, List.getElem_cons_zero, Act.put, List.setIfInBounds_toArray, List.set_cons_zero, List.set_cons_succ]
              refine wpAnyH_done (by kernel_rfl) ?_ _
              go_wp2
              have hbq2 := hbelq.drew.trans hHeld
              go_roundw
              case rel => first | exact ⟨_, 1, rfl, by omega, by go_num, .inr ⟨gv, cv, I, a0, _, _, R, rfl, HD.out, hs3⟩, hbq2⟩ | exact ⟨_, j + 1 + 1, rfl, by omega, by go_num, .inr ⟨gv, cv, I, a0, _, _, R, rfl, HD.out, hs3⟩, hbq2⟩
              case measure => simp [intOf] <;> omega
            refine AllReadyH.cons rfl (fun K hK => ?_) ?_
            · skip
              go_simp
              have hbl := (Below.refl _ wq.drew).alloc (Nat.le_refl _) (.cells #[.int .u8 (y : Int)] 5)
              try go_wp2_with fail
              have hSnew := Mem.bl_step hHeld hbl (by first | exact Nat.le_refl _ | omega | (simp <;> omega))
              refine hK.out _ _ ?_ (fun hHeld2 => ?_)
              · exact hSnew
              clear hbl
              clear hK K hHeld hSnew
              have hHeld := hHeld2
              clear hHeld2
              try simp only [List.getElem_toArray, List.getElem_cons_succ, List.getElem_cons_zero, Act.put, List.setIfInBounds_toArray, List.set_cons_zero, List.set_cons_succ]
              refine wpAnyH_ready (rs := [6]) (by kernel_rfl) (by simp) ?_
              refine AllReadyH.cons rfl (fun K hK => ?_) AllReadyH.nil
              go_simp
              have hSnew := hHeld
              try go_wp2_with fail
              refine hK.out _ _ ?_ (fun hHeld2 => ?_)
              · exact hSnew
              clear hK K hHeld hSnew
              have hHeld := hHeld2
              clear hHeld2
              try simp only [List.getElem_toArray, List.getElem_cons_succ, List.getElem_cons_zero, Act.put, List.setIfInBounds_toArray, List.set_cons_zero, List.set_cons_succ]
              refine wpAnyH_ready (rs := [12]) (by kernel_rfl) (by simp) ?_
              refine AllReadyH.cons rfl (fun K hK => ?_) AllReadyH.nil
              rw [if_pos (by rfl)]
              refine wp_app _ _ _ (by rfl) (V8 0) 1 Try.underlying30 u8Info rfl (by rfl) (by rfl) hsta.own hsl1 (fun h => by cases h) V8_one (by simp; omega) (by simp; omega) (by simp; omega) ?_; intro v3 w3 hown3 hg3 hat3; have hs3 := hsta.step hyb hg3 hown3 hat3; obtain ⟨A3, cp3, hv3⟩ := hown3.slice; rw [hl3] at hv3; subst hv3; have hblk := hsta.own.lt; have hSnew := hHeld.grown hg3 (by simp; omega) (fun q hq => (hblk q hq).1); have hfz3 : w3.frozen? ⟨gv, I.length * 2 + 1, none⟩ = false := (World.ownsRow.frozenAt hsta.row (I.length * 2 + 1) |> fun h => by rw [World.frozen?_of_block (hg3.block gv (by simp; omega) (fun e => hsta.apart gv e.symm rfl))]; exact h); have hcu3 : w3.cell? ⟨gv, I.length * 2 + 1, none⟩ = some u := hg3.cell (hsta.cellU) (fun e => hsta.apart gv e.symm rfl)
              refine hK.out _ _ ?_ (fun hHeld2 => ?_)
              · exact hSnew
              clear hK K hHeld hSnew
              have hHeld := hHeld2
              clear hHeld2
              try simp only [List.getElem_toArray, List.getElem_cons_succ, List.getElem_cons_zero, Act.put, List.setIfInBounds_toArray, List.set_cons_zero, List.set_cons_succ]
              refine wpAnyH_take (i := 13) (v := ?v74) rfl (by kernel_rfl) (by kernel_rfl) (by kernel_rfl) (fun _ _ _ h => h) (Or.inl ⟨by rfl, ?y74⟩) (by assumption) ?rest74
              case y74 => (intro w hSw; have hT0 := Mem.bl_cell hSw cbq (by first | omega | exact World.block_lt_of_cell? _ _ cbq | (simp <;> omega)); clear hSw; go_simp; try with_reducible rfl)
              case' rest74 => skip
              try simp only [List.getElem_toArray, List.getElem_cons_succ, List.getElem_cons_zero, Act.put, List.setIfInBounds_toArray, List.set_cons_zero, List.set_cons_succ]
              refine wpAnyH_take (i := 14) (v := ?v75) rfl (by kernel_rfl) (by kernel_rfl) (by kernel_rfl) (fun _ _ _ h => h) (Or.inl ⟨by rfl, ?y75⟩) (by assumption) ?rest75
              case y75 => (intro w hSw; have hT0 := Mem.bl_cell hSw cbq (by first | omega | exact World.block_lt_of_cell? _ _ cbq | (simp <;> omega)); clear hSw; go_simp; try with_reducible rfl)
              case' rest75 => skip
              try simp only [List.getElem_toArray, List.getElem_cons_succ, List.getElem_cons_zero, Act.put, List.setIfInBounds_toArray, List.set_cons_zero, List.set_cons_succ]
              refine wpAnyH_ready (rs := [15]) (by kernel_rfl) (by simp) ?_
              refine AllReadyH.cons rfl (fun K hK => ?_) AllReadyH.nil
              go_simp
              have hSnew := hHeld.setCell (p := ⟨gv, I.length * 2 + 1, none⟩) hlt.1 (.slice A3 (d.length + 1) cp3)
              try go_wp2_with fail
              refine hK.out _ _ ?_ (fun hHeld2 => ?_)
              · exact hSnew
              clear hK K hHeld hSnew
              have hHeld := hHeld2
              clear hHeld2
              try simp only [List.getElem_toArray, List.getElem_cons_succ, List.getElem_cons_zero, Act.put, List.setIfInBounds_toArray, List.set_cons_zero, List.set_cons_succ]
              refine wpAnyH_done (by kernel_rfl) ?_ _
              go_wp2
              have hbq2 := hbelq.drew.trans hHeld
              go_roundw
              case rel => first | exact ⟨_, 1, rfl, by omega, by go_num, .inr ⟨gv, cv, I, a0, _, _, R, rfl, HD.out, hs3⟩, hbq2⟩ | exact ⟨_, j + 1 + 1, rfl, by omega, by go_num, .inr ⟨gv, cv, I, a0, _, _, R, rfl, HD.out, hs3⟩, hbq2⟩
              case measure => simp [intOf] <;> omega
            exact AllReadyH.nil
    · have hke : k = 256 := by omega
      subst hke
      have HL : Hid (diffL a b = diffK a b 256) := rfl
      go_wp2
      go_ret
      exact ⟨_, rfl, by rw [HL.out]; first | exact hst.ownK | exact (hst.drewN _).ownK, by first | exact hbel | exact bdrewN hbel _⟩
end Go.Proofs.Ytoibdomcekainaa.Pat
