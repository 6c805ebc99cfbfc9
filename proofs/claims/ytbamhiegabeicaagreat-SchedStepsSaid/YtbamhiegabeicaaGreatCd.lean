/- The document's cache, new. No statement is proved here. -/
import Derived.Test.YtbamhiegabeicaaGreatCz
namespace Go.Proofs.YtbamhiegabeicaaGreat.Cb
open Go.RowKit Go.Proofs.YtbamhiegabeicaaGreat.Mem Go.Proofs.YtbamhiegabeicaaGreat.Open Go.Proofs.YtbamhiegabeicaaGreat.Kind Go.Proofs.YtbamhiegabeicaaGreat.Blk Go.Proofs.YtbamhiegabeicaaGreat.App Go.Proofs.YtbamhiegabeicaaGreat.Pat Go.Proofs.YtbamhiegabeicaaGreat.Rd
open Go.Proofs.YtbamhiegabeicaaGreat.Db (Dv Dev Asd Bks)
set_option linter.unusedVariables false
set_option linter.unusedSimpArgs false
theorem own_boolRw {w : World} {B g n c : Nat} {E : TypeId} {xs : List Bool} (h : Own w B E Value.bool (.slice (some ⟨g, 0, none⟩) n c) xs) (h63 : xs.length ≤ M63) : Rw kBool w (fun b => b = g) (some ⟨g, 0, none⟩) xs.length xs :=
  ⟨rfl, h63, .inr ⟨g, 0, rfl, rfl, h.base.2, fun i x hx => ⟨[.bool x], rfl, fun j v hv => by
    obtain ⟨hi, rfl⟩ := List.getElem?_eq_some_iff.1 hx
    cases j with
    | succ j => simp at hv
    | zero =>
      simp at hv
      subst hv
      rw [show 0 + i * kBool.sz + 0 = i from by show 0 + i * 1 + 0 = _; omega]
      exact h.cell i hi⟩⟩⟩
theorem kl_none : kl (fun _ => false) = List.replicate 16 false := by
  apply List.ext_getElem?
  intro i
  by_cases h : i < 16
  · rw [kl_get _ h, List.getElem?_replicate, if_pos h]
  · rw [List.getElem?_eq_none (by rw [kl_len]; omega), List.getElem?_eq_none (by rw [List.length_replicate]; omega)]
theorem wp_make {α : Type} {P : Program} {o : Oper} {a : Act} {w : World} {K : Act → World → Prop} {Q : Exit → Act → World → Prop} (t : TypeId) (x y : Operand) (ho : o.op = .makeSlice t x y)
    (B : Nat) (E : TypeId) (V : α → Value) (y0 : α) (bytes : Nat) (ht : P.underlying t = some (.slice E)) (hi : (P.info? E).map (fun i => (i.zero, i.size, i.bytes)) = some (some (V y0), 1, bytes)) (hone : (V y0).cells = #[V y0])
    (n : Nat) (hx : a.eval x = .int .i64 n) (hy : a.eval y = .int .i64 n) (hbytes : bytes * n ≤ 281474976710656) (hn : n ≤ 9223372036854775807) (hB : B ≤ w.heap.size)
    (h : ∀ g w', Own w' B E V (.slice (some ⟨g, 0, none⟩) n n) (List.replicate n y0) → Below w.heap.size w w' → g = w.heap.size → K (a.put o.dst (.slice (some ⟨g, 0, none⟩) n n)) w') : o.wp P a w K Q := by
  obtain ⟨i0, hi, hz, hz1, hz2⟩ := info_parts hi
  have hb : (i0.bytes : Int) * (n : Int) ≤ 281474976710656 := by
    rw [hz2]
    have h2 : ((bytes * n : Nat) : Int) ≤ 281474976710656 := by omega
    rwa [Int.natCast_mul] at h2
  have hr := run_make (P := P) w t E i0 (V y0) ht hi hz .i64 .i64 n n (by omega) (by omega) hb (by omega)
  rw [hz1, Nat.mul_one, Int.toNat_natCast, hone] at hr
  unfold Oper.wp execOp
  simp only [ho, hx, hy, Sem.run_bind, hr, Result.andThen_ok]
  refine h _ _ (own_made hB hn ?_) ((Below.refl _ _).alloc (Nat.le_refl _) _) rfl
  apply Array.ext'
  simp only [madeCells, Array.toList_map, List.toList_toArray]
  apply List.ext_getElem?
  intro i
  by_cases hi : i < n
  · simp [hi, Nat.mod_one]
  · simp [hi]
theorem own_byRw {w : World} {B g n c : Nat} {E : TypeId} {xs : List Nat} (h : Own w B E V8 (.slice (some ⟨g, 0, none⟩) n c) xs) (h63 : xs.length ≤ M63) (hb : ∀ x ∈ xs, x < 256) : Rw kByte w (fun b => b = g) (some ⟨g, 0, none⟩) xs.length xs :=
  ⟨rfl, h63, .inr ⟨g, 0, rfl, rfl, h.base.2, fun i x hx => ⟨[V8 x], ⟨rfl, hb x (List.mem_of_getElem? hx)⟩, fun j v hv => by
    obtain ⟨hi, rfl⟩ := List.getElem?_eq_some_iff.1 hx
    cases j with
    | succ j => simp at hv
    | zero =>
      simp at hv
      subst hv
      rw [show 0 + i * kByte.sz + 0 = i from by show 0 + i * 1 + 0 = _; omega]
      exact h.cell i hi⟩⟩⟩
abbrev nwC (v : Value) (g : Nat) : Array Value := #[v, .slice none 0 0, .int .i64 0, .int .i64 (-1), .bool false, .int .i64 0, .slice (some ⟨g, 0, none⟩) 16 16]
set_option maxHeartbeats 2000000 in
set_option maxRecDepth 100000 in
theorem RNew_any (w : World) : Calls Tryz.prog 16 #[.int .i64 16] w fun e w' => ∃ p, e = .returned (.agg (rcP p (newS (Db.fresh 16)))) ∧ Rc (fun b => b < w.heap.size) w' p (newS (Db.fresh 16)) ∧ Below w.heap.size w w' := by
  have hsz0 : (w.alloc (.cells rcZ 32)).heap.size = w.heap.size + 1 := by simp
  have R0 : Row (w.alloc (.cells rcZ 32)) w.heap.size 32 rcZ := Row.new _ _ _
  have b0 : Below w.heap.size w (w.alloc (.cells rcZ 32)) := bb0 _ _
  go_enter Tryz.func16, Tryz.ntmps16
  go_wp2_with (with_reducible refine wpList_make rfl 30 _ _ rfl (w.heap.size + 1) 4 Value.bool false 1 Tryz.underlying30 boolInfo3 rfl 16 rfl rfl (by decide) (by decide) (by simp) ?_; intro w1 hO1 hb1 hs1; simp only [hsz0] at hO1 hb1 hs1 ⊢)
  obtain ⟨W, hW⟩ : ∃ W, W = w1.alloc (.cells (nwC (.slice none 0 0) (w.heap.size + 1)) 32) := ⟨_, rfl⟩
  have bW : Below w1.heap.size w1 W := by rw [hW]; exact bb0 _ _
  have r3 : Row W w1.heap.size 32 (nwC (.slice none 0 0) (w.heap.size + 1)) := by rw [hW]; exact Row.new _ _ _
  have hszW : W.heap.size = w1.heap.size + 1 := by rw [hW]; simp
  have R0W := Lib.hid ((R0.below (hsz0 ▸ hb1)).below bW)
  have hkn0 := own_boolRw hO1 (by rw [List.length_replicate]; decide)
  have HKN : Hid (Rw kBool W (fun b => b = w.heap.size + 1) (some ⟨w.heap.size + 1, 0, none⟩) 16 (List.replicate 16 false)) := Lib.hid (Rw.stay (w := w1) (fun b hb => bW.block b (by have hb : b = w.heap.size + 1 := hb; omega)) hkn0)
  have HBW := Lib.hid ((b0.trans ((hsz0 ▸ hb1).mono b0.size)).trans (bW.mono (by omega)))
  have hw3 : w.heap.size + 1 < w1.heap.size := hs1
  obtain ⟨r, hre⟩ : ∃ r, w1.heap.size = r := ⟨_, rfl⟩
  rw [← hW, hre]
  rw [hre] at r3 hszW hw3
  have HW := Lib.hid hW
  have HR3 := Lib.hid r3
  clear hW bW r3 hkn0 hO1 hb1 hs1 R0 b0 hsz0 hre
  obtain ⟨N2, hN2⟩ : ∃ N2 : Nat → Prop, N2 = fun b => b < W.heap.size := ⟨_, rfl⟩
  have HN2 : Hid (∀ b, N2 b → b < W.heap.size) := Lib.hid (fun b hb => by rw [hN2] at hb; exact hb)
  have HN2' : Hid (∀ b, b < W.heap.size → N2 b) := Lib.hid (fun b hb => by rw [hN2]; exact hb)
  clear hN2
  go_loopw [4] (fun i wr => ∃ (k : Nat) (A : Option Addr) (c : Nat), k ≤ 16 ∧ i = .int .i64 k ∧ Row wr r 32 (nwC (.slice A k c) (w.heap.size + 1)) ∧ OwnK (kN (kSlice kByte) N2) wr W.heap.size 44 (.slice A k c) (List.replicate k zblk) ∧ W.heap.size ≤ wr.heap.size ∧ Below r W wr) (fun i _ => 16 - (intOf i).toNat)
  case atStart => exact ⟨0, none, 0, by omega, rfl, HR3.out, OwnK.nil _ _ _ _, Nat.le_refl _, Below.refl _ _⟩
  case round =>
    obtain ⟨k, A, c, hk, rfl, hr, ho, hsw, hlk⟩ := hrel
    by_cases hlt : k < 16
    · have hkz : (k : Int) < 16 := by omega
      have hOlt := ho.lt
      have hrr : r < wr.drew.heap.size := Row.lt hr
      have HO := Lib.hid ho
      have HR := Lib.hid hr
      have HLK := Lib.hid hlk
      have hzl : zblk.length = 256 := zblk_length
      have HRL : Hid (List.replicate k zblk ++ [zblk] = List.replicate (k + 1) zblk) := Lib.hid (by rw [List.replicate_succ'])
      clear ho hr hlk hzl
      go_wp2_with fail
      have ho := HO.out.drew
      have hr := HR.out.drew
      refine wp_region_held_drew (S := Go.RowKit.Below (r) (wr.drew)) (by kernel_rfl) ?hb11 (fun hHeld => ?rest11)
      case hb11 =>
        exact Go.RowKit.Below.refl _ _
      case' rest11 => skip
      refine Mem.tkV 0 ?v12 ?y12 ?r12
      case y12 => (intro w hSw; clear hSw; go_simp; try with_reducible rfl)
      try simp only [Mem.pa, Mem.pb, Mem.pc, Act.put, Mem.pd, Mem.pe, Mem.pf]
      refine wpAnyH_ready (rs := [1, 2]) (by kernel_rfl) (by simp) ?_
      refine AllReadyH.cons rfl (fun K hK => ?_) ?_
      · skip
        rw [if_pos (by rfl)]
        refine wp_load1 28 44 _ (by rfl) ⟨r, 0, none⟩ (by rfl) (.slice A k c) (hr.cell 0 rfl) Tryz.underlying28 ?_; have hSnew := hHeld
        refine hK.out _ _ ?_ (fun hHeld2 => ?_)
        · exact hSnew
        clear hK K hHeld hSnew
        have hHeld := hHeld2
        clear hHeld2
        try simp only [Mem.pa, Mem.pb, Mem.pc, Act.put, Mem.pd, Mem.pe, Mem.pf]
        refine wpAnyH_ready (rs := [2]) (by kernel_rfl) (by simp) ?_
        refine AllReadyH.cons rfl (fun K hK => ?_) AllReadyH.nil
        rw [if_pos (by rfl)]
        refine wp_make 44 _ _ (by rfl) wr.heap.size 5 V8 0 1 Tryz.underlying44 u8Info rfl 256 (by rfl) (by rfl) (by decide) (by decide) hHeld.size ?_; intro gm wa hM hbl hgm; have hgm2 : wr.heap.size ≤ gm := Nat.le_trans hHeld.size (Nat.le_of_eq hgm.symm); clear hgm
        have hSnew := Mem.bl_step hHeld hbl (by first | exact Nat.le_refl _ | omega | (simp <;> omega))
        refine hK.out _ _ ?_ (fun hHeld2 => ?_)
        · exact hSnew
        try replace ho := ho.below hbl
        try replace hr := hr.below hbl
        clear hbl
        clear hK K hHeld hSnew
        have hHeld := hHeld2
        clear hHeld2
        try simp only [Mem.pa, Mem.pb, Mem.pc, Act.put, Mem.pd, Mem.pe, Mem.pf]
        refine wpAnyH_ready (rs := [3]) (by kernel_rfl) (by simp) ?_
        refine AllReadyH.cons rfl (fun K hK => ?_) AllReadyH.nil
        go_simp
        (have hbl := bb0 wa (.cells #[.slice (some ⟨gm, 0, none⟩) 256 256] 44); have hr5 : Row (wa.alloc (.cells #[.slice (some ⟨gm, 0, none⟩) 256 256] 44)) wa.heap.size 44 [Value.slice (some ⟨gm, 0, none⟩) 256 256].toArray := Row.new _ _ _; have hM5 := Own.below hM hbl)
        try go_wp2_with fail
        have hSnew := Mem.bl_step hHeld hbl (by first | exact Nat.le_refl _ | omega | (simp <;> omega))
        refine hK.out _ _ ?_ (fun hHeld2 => ?_)
        · exact hSnew
        try replace ho := ho.below hbl
        try replace hr := hr.below hbl
        clear hbl
        clear hK K hHeld hSnew
        have hHeld := hHeld2
        clear hHeld2
        try simp only [Mem.pa, Mem.pb, Mem.pc, Act.put, Mem.pd, Mem.pe, Mem.pf]
        refine wpAnyH_ready (rs := [4]) (by kernel_rfl) (by simp) ?_
        refine AllReadyH.cons rfl (fun K hK => ?_) AllReadyH.nil
        rw [if_pos (by rfl)]
        refine wp_appK (k := kN (kSlice kByte) N2) _ _ 28 (by rfl) (.slice none 0 0) 24 Tryz.underlying28 bytesInfo rfl (show 0 < 1 by decide) (by rfl) wa.heap.size 1 (by rfl) ho 44 [.slice (some ⟨gm, 0, none⟩) 256 256] hr5 zblk (fun b => b = gm) ⟨some ⟨gm, 0, none⟩, 256, by rw [zblk_length], by rw [zblk_length]; exact Nat.le_refl _, by decide, (fun h => by cases h), Rw.mono (S := fun b => b = gm) (fun b hb => ⟨hb, fun h => by have h1 := HN2.out b h; have hb : b = gm := hb; omega⟩) (own_byRw (xs := zblk) hM5 (by rw [zblk_length]; decide) zblk_byte)⟩ (fun b hb => ⟨fun e => by have h1 := (hOlt b e.symm).2; have hb : b = gm := hb; omega, (hb : b = gm) ▸ (Own.base hM5).2⟩) (by simp; omega) (by simp; omega) (Nat.le_trans hsw hHeld.size) ?_; intro v7 w7 hO7 hg7 hat7; rw [HRL.out] at hO7; obtain ⟨A7, c7, rfl, -, -, -, -⟩ := OwnK.rw_ hO7; rw [List.length_replicate] at hO7 ⊢; have hSnew := hHeld.grown hg7 (Nat.le_trans (by omega) hHeld.size) (fun q e => Nat.le_trans (by omega) (hOlt q e).1); replace hr := gb_row hg7 hr (fun e => by have := (hOlt r e.symm).1; omega); have c0 := hr.cell 0 rfl; have f0 := hr.frozen 0; have hw7 : W.heap.size ≤ w7.heap.size := Nat.le_trans hsw (Nat.le_trans hHeld.size hg7.size); have HO7 := Lib.hid hO7; clear hO7 hg7 hat7 ho hM5 hr5
        refine hK.out _ _ ?_ (fun hHeld2 => ?_)
        · exact hSnew
        clear hK K hHeld hSnew
        have hHeld := hHeld2
        clear hHeld2
        try simp only [Mem.pa, Mem.pb, Mem.pc, Act.put, Mem.pd, Mem.pe, Mem.pf]
        refine Mem.tkV 5 ?v13 ?y13 ?r13
        case y13 => (intro w hSw; clear hSw; go_simp; try with_reducible rfl)
        try simp only [Mem.pa, Mem.pb, Mem.pc, Act.put, Mem.pd, Mem.pe, Mem.pf]
        refine wpAnyH_ready (rs := [6]) (by kernel_rfl) (by simp) ?_
        refine AllReadyH.cons rfl (fun K hK => ?_) AllReadyH.nil
        go_simp
        have hSnew := hHeld.setCell (p := ⟨r, 0, none⟩) (Nat.le_refl r) (.slice A7 (k + 1) c7)
        try go_wp2_with fail
        refine hK.out _ _ ?_ (fun hHeld2 => ?_)
        · exact hSnew
        clear hK K hHeld hSnew
        have hHeld := hHeld2
        clear hHeld2
        try simp only [Mem.pa, Mem.pb, Mem.pc, Act.put, Mem.pd, Mem.pe, Mem.pf]
        refine wpAnyH_done (by kernel_rfl) ?_ _
        go_wp2_with fail
        go_roundw
        case rel => exact ⟨k + 1, A7, c7, by omega, by go_num, hr.put 0 _, own_stay HO7.out (fun j hj e => by have := HN2.out j e; have := (OwnK.lt HO7.out j hj).1; omega) (fun j h1 _ => Below.heap_setCell _ _ _ _ (fun e => h1 (e ▸ HN2'.out r (by omega)))) (by simp [World.setCell]), by simp [World.setCell]; omega, HLK.out.drew.trans hHeld⟩
        case measure => simp [intOf]; omega
      refine AllReadyH.cons rfl (fun K hK => ?_) ?_
      · skip
        rw [if_pos (by rfl)]
        refine wp_make 44 _ _ (by rfl) wr.heap.size 5 V8 0 1 Tryz.underlying44 u8Info rfl 256 (by rfl) (by rfl) (by decide) (by decide) hHeld.size ?_; intro gm wa hM hbl hgm; have hgm2 : wr.heap.size ≤ gm := Nat.le_trans hHeld.size (Nat.le_of_eq hgm.symm); clear hgm
        have hSnew := Mem.bl_step hHeld hbl (by first | exact Nat.le_refl _ | omega | (simp <;> omega))
        refine hK.out _ _ ?_ (fun hHeld2 => ?_)
        · exact hSnew
        try replace ho := ho.below hbl
        try replace hr := hr.below hbl
        clear hbl
        clear hK K hHeld hSnew
        have hHeld := hHeld2
        clear hHeld2
        try simp only [Mem.pa, Mem.pb, Mem.pc, Act.put, Mem.pd, Mem.pe, Mem.pf]
        refine wpAnyH_ready (rs := [1, 3]) (by kernel_rfl) (by simp) ?_
        refine AllReadyH.cons rfl (fun K hK => ?_) ?_
        · skip
          rw [if_pos (by rfl)]
          refine wp_load1 28 44 _ (by rfl) ⟨r, 0, none⟩ (by rfl) (.slice A k c) (hr.cell 0 rfl) Tryz.underlying28 ?_; have hSnew := hHeld
          refine hK.out _ _ ?_ (fun hHeld2 => ?_)
          · exact hSnew
          clear hK K hHeld hSnew
          have hHeld := hHeld2
          clear hHeld2
          try simp only [Mem.pa, Mem.pb, Mem.pc, Act.put, Mem.pd, Mem.pe, Mem.pf]
          refine wpAnyH_ready (rs := [3]) (by kernel_rfl) (by simp) ?_
          refine AllReadyH.cons rfl (fun K hK => ?_) AllReadyH.nil
          go_simp
          (have hbl := bb0 wa (.cells #[.slice (some ⟨gm, 0, none⟩) 256 256] 44); have hr5 : Row (wa.alloc (.cells #[.slice (some ⟨gm, 0, none⟩) 256 256] 44)) wa.heap.size 44 [Value.slice (some ⟨gm, 0, none⟩) 256 256].toArray := Row.new _ _ _; have hM5 := Own.below hM hbl)
          try go_wp2_with fail
          have hSnew := Mem.bl_step hHeld hbl (by first | exact Nat.le_refl _ | omega | (simp <;> omega))
          refine hK.out _ _ ?_ (fun hHeld2 => ?_)
          · exact hSnew
          try replace ho := ho.below hbl
          try replace hr := hr.below hbl
          clear hbl
          clear hK K hHeld hSnew
          have hHeld := hHeld2
          clear hHeld2
          try simp only [Mem.pa, Mem.pb, Mem.pc, Act.put, Mem.pd, Mem.pe, Mem.pf]
          refine wpAnyH_ready (rs := [4]) (by kernel_rfl) (by simp) ?_
          refine AllReadyH.cons rfl (fun K hK => ?_) AllReadyH.nil
          rw [if_pos (by rfl)]
          refine wp_appK (k := kN (kSlice kByte) N2) _ _ 28 (by rfl) (.slice none 0 0) 24 Tryz.underlying28 bytesInfo rfl (show 0 < 1 by decide) (by rfl) wa.heap.size 1 (by rfl) ho 44 [.slice (some ⟨gm, 0, none⟩) 256 256] hr5 zblk (fun b => b = gm) ⟨some ⟨gm, 0, none⟩, 256, by rw [zblk_length], by rw [zblk_length]; exact Nat.le_refl _, by decide, (fun h => by cases h), Rw.mono (S := fun b => b = gm) (fun b hb => ⟨hb, fun h => by have h1 := HN2.out b h; have hb : b = gm := hb; omega⟩) (own_byRw (xs := zblk) hM5 (by rw [zblk_length]; decide) zblk_byte)⟩ (fun b hb => ⟨fun e => by have h1 := (hOlt b e.symm).2; have hb : b = gm := hb; omega, (hb : b = gm) ▸ (Own.base hM5).2⟩) (by simp; omega) (by simp; omega) (Nat.le_trans hsw hHeld.size) ?_; intro v7 w7 hO7 hg7 hat7; rw [HRL.out] at hO7; obtain ⟨A7, c7, rfl, -, -, -, -⟩ := OwnK.rw_ hO7; rw [List.length_replicate] at hO7 ⊢; have hSnew := hHeld.grown hg7 (Nat.le_trans (by omega) hHeld.size) (fun q e => Nat.le_trans (by omega) (hOlt q e).1); replace hr := gb_row hg7 hr (fun e => by have := (hOlt r e.symm).1; omega); have c0 := hr.cell 0 rfl; have f0 := hr.frozen 0; have hw7 : W.heap.size ≤ w7.heap.size := Nat.le_trans hsw (Nat.le_trans hHeld.size hg7.size); have HO7 := Lib.hid hO7; clear hO7 hg7 hat7 ho hM5 hr5
          refine hK.out _ _ ?_ (fun hHeld2 => ?_)
          · exact hSnew
          clear hK K hHeld hSnew
          have hHeld := hHeld2
          clear hHeld2
          try simp only [Mem.pa, Mem.pb, Mem.pc, Act.put, Mem.pd, Mem.pe, Mem.pf]
          refine Mem.tkV 5 ?v14 ?y14 ?r14
          case y14 => (intro w hSw; clear hSw; go_simp; try with_reducible rfl)
          try simp only [Mem.pa, Mem.pb, Mem.pc, Act.put, Mem.pd, Mem.pe, Mem.pf]
          refine wpAnyH_ready (rs := [6]) (by kernel_rfl) (by simp) ?_
          refine AllReadyH.cons rfl (fun K hK => ?_) AllReadyH.nil
          go_simp
          have hSnew := hHeld.setCell (p := ⟨r, 0, none⟩) (Nat.le_refl r) (.slice A7 (k + 1) c7)
          try go_wp2_with fail
          refine hK.out _ _ ?_ (fun hHeld2 => ?_)
          · exact hSnew
          clear hK K hHeld hSnew
          have hHeld := hHeld2
          clear hHeld2
          try simp only [Mem.pa, Mem.pb, Mem.pc, Act.put, Mem.pd, Mem.pe, Mem.pf]
          refine wpAnyH_done (by kernel_rfl) ?_ _
          go_wp2_with fail
          go_roundw
          case rel => exact ⟨k + 1, A7, c7, by omega, by go_num, hr.put 0 _, own_stay HO7.out (fun j hj e => by have := HN2.out j e; have := (OwnK.lt HO7.out j hj).1; omega) (fun j h1 _ => Below.heap_setCell _ _ _ _ (fun e => h1 (e ▸ HN2'.out r (by omega)))) (by simp [World.setCell]), by simp [World.setCell]; omega, HLK.out.drew.trans hHeld⟩
          case measure => simp [intOf]; omega
        refine AllReadyH.cons rfl (fun K hK => ?_) ?_
        · skip
          go_simp
          (have hbl := bb0 wa (.cells #[.slice (some ⟨gm, 0, none⟩) 256 256] 44); have hr5 : Row (wa.alloc (.cells #[.slice (some ⟨gm, 0, none⟩) 256 256] 44)) wa.heap.size 44 [Value.slice (some ⟨gm, 0, none⟩) 256 256].toArray := Row.new _ _ _; have hM5 := Own.below hM hbl)
          try go_wp2_with fail
          have hSnew := Mem.bl_step hHeld hbl (by first | exact Nat.le_refl _ | omega | (simp <;> omega))
          refine hK.out _ _ ?_ (fun hHeld2 => ?_)
          · exact hSnew
          try replace ho := ho.below hbl
          try replace hr := hr.below hbl
          clear hbl
          clear hK K hHeld hSnew
          have hHeld := hHeld2
          clear hHeld2
          try simp only [Mem.pa, Mem.pb, Mem.pc, Act.put, Mem.pd, Mem.pe, Mem.pf]
          refine wpAnyH_ready (rs := [1]) (by kernel_rfl) (by simp) ?_
          refine AllReadyH.cons rfl (fun K hK => ?_) AllReadyH.nil
          rw [if_pos (by rfl)]
          refine wp_load1 28 44 _ (by rfl) ⟨r, 0, none⟩ (by rfl) (.slice A k c) (hr.cell 0 rfl) Tryz.underlying28 ?_; have hSnew := hHeld
          refine hK.out _ _ ?_ (fun hHeld2 => ?_)
          · exact hSnew
          clear hK K hHeld hSnew
          have hHeld := hHeld2
          clear hHeld2
          try simp only [Mem.pa, Mem.pb, Mem.pc, Act.put, Mem.pd, Mem.pe, Mem.pf]
          refine wpAnyH_ready (rs := [4]) (by kernel_rfl) (by simp) ?_
          refine AllReadyH.cons rfl (fun K hK => ?_) AllReadyH.nil
          rw [if_pos (by rfl)]
          refine wp_appK (k := kN (kSlice kByte) N2) _ _ 28 (by rfl) (.slice none 0 0) 24 Tryz.underlying28 bytesInfo rfl (show 0 < 1 by decide) (by rfl) wa.heap.size 1 (by rfl) ho 44 [.slice (some ⟨gm, 0, none⟩) 256 256] hr5 zblk (fun b => b = gm) ⟨some ⟨gm, 0, none⟩, 256, by rw [zblk_length], by rw [zblk_length]; exact Nat.le_refl _, by decide, (fun h => by cases h), Rw.mono (S := fun b => b = gm) (fun b hb => ⟨hb, fun h => by have h1 := HN2.out b h; have hb : b = gm := hb; omega⟩) (own_byRw (xs := zblk) hM5 (by rw [zblk_length]; decide) zblk_byte)⟩ (fun b hb => ⟨fun e => by have h1 := (hOlt b e.symm).2; have hb : b = gm := hb; omega, (hb : b = gm) ▸ (Own.base hM5).2⟩) (by simp; omega) (by simp; omega) (Nat.le_trans hsw hHeld.size) ?_; intro v7 w7 hO7 hg7 hat7; rw [HRL.out] at hO7; obtain ⟨A7, c7, rfl, -, -, -, -⟩ := OwnK.rw_ hO7; rw [List.length_replicate] at hO7 ⊢; have hSnew := hHeld.grown hg7 (Nat.le_trans (by omega) hHeld.size) (fun q e => Nat.le_trans (by omega) (hOlt q e).1); replace hr := gb_row hg7 hr (fun e => by have := (hOlt r e.symm).1; omega); have c0 := hr.cell 0 rfl; have f0 := hr.frozen 0; have hw7 : W.heap.size ≤ w7.heap.size := Nat.le_trans hsw (Nat.le_trans hHeld.size hg7.size); have HO7 := Lib.hid hO7; clear hO7 hg7 hat7 ho hM5 hr5
          refine hK.out _ _ ?_ (fun hHeld2 => ?_)
          · exact hSnew
          clear hK K hHeld hSnew
          have hHeld := hHeld2
          clear hHeld2
          try simp only [Mem.pa, Mem.pb, Mem.pc, Act.put, Mem.pd, Mem.pe, Mem.pf]
          refine Mem.tkV 5 ?v15 ?y15 ?r15
          case y15 => (intro w hSw; clear hSw; go_simp; try with_reducible rfl)
          try simp only [Mem.pa, Mem.pb, Mem.pc, Act.put, Mem.pd, Mem.pe, Mem.pf]
          refine wpAnyH_ready (rs := [6]) (by kernel_rfl) (by simp) ?_
          refine AllReadyH.cons rfl (fun K hK => ?_) AllReadyH.nil
          go_simp
          have hSnew := hHeld.setCell (p := ⟨r, 0, none⟩) (Nat.le_refl r) (.slice A7 (k + 1) c7)
          try go_wp2_with fail
          refine hK.out _ _ ?_ (fun hHeld2 => ?_)
          · exact hSnew
          clear hK K hHeld hSnew
          have hHeld := hHeld2
          clear hHeld2
          try simp only [Mem.pa, Mem.pb, Mem.pc, Act.put, Mem.pd, Mem.pe, Mem.pf]
          refine wpAnyH_done (by kernel_rfl) ?_ _
          go_wp2_with fail
          go_roundw
          case rel => exact ⟨k + 1, A7, c7, by omega, by go_num, hr.put 0 _, own_stay HO7.out (fun j hj e => by have := HN2.out j e; have := (OwnK.lt HO7.out j hj).1; omega) (fun j h1 _ => Below.heap_setCell _ _ _ _ (fun e => h1 (e ▸ HN2'.out r (by omega)))) (by simp [World.setCell]), by simp [World.setCell]; omega, HLK.out.drew.trans hHeld⟩
          case measure => simp [intOf]; omega
        exact AllReadyH.nil
      exact AllReadyH.nil
    · obtain rfl : k = 16 := by omega
      have hOB := own_out2 ho HN2.out
      obtain ⟨A', c', e, h1, h2, h3, hbase⟩ := hOB
      injection e with e1 e2 e3
      subst e1 e3
      clear e2
      rw [List.length_replicate] at hbase h1
      have HBASE := Lib.hid hbase
      have HR0 : Hid (Row wr w.heap.size 32 rcZ) := Lib.hid ((hlk.block _ (by omega)).trans R0W.out)
      have HKN2 : Hid (Rw kBool wr (fun b => b = w.heap.size + 1) (some ⟨w.heap.size + 1, 0, none⟩) 16 (List.replicate 16 false)) := Lib.hid (Rw.stay (w := W) (fun b hb => hlk.block b (by have hb : b = w.heap.size + 1 := hb; omega)) HKN.out)
      have HB := Lib.hid (HBW.out.trans (hlk.mono (by omega)))
      have HR := Lib.hid hr
      clear hbase ho hlk hr h1 h2 h3 R0W HKN HBW
      go_wp2_with (first
        | (with_reducible refine wpList_ldC rfl _ rfl _ rfl _ rfl HR.out ?_)
        | (with_reducible refine wpList_storeRow rfl 32 _ _ rfl w.heap.size rfl (nwC (.slice A 16 c) (w.heap.size + 1)) rfl rcZ 32 7 rcSize rfl rfl (rcC_one _ _ _ _ _ _ _ _ _ _ _) HR0.out ?_))
      refine bodyPost_ret (v := .agg (nwC (.slice A 16 c) (w.heap.size + 1))) (results_cell_row rfl _ _ w.heap.size 32 (nwC (.slice A 16 c) (w.heap.size + 1)) (0, 0) _ rfl (HR0.out.set _) Tryz.underlying32 rfl rcSize) rfl ?_
      have hz1 := Rw.out2 (N' := fun b => b < w.heap.size) HBASE.out (w' := wr.setRow w.heap.size (nwC (.slice A 16 c) (w.heap.size + 1))) (fun b _ h => setRow_other _ _ _ _ (fun e => h (HN2'.out b (by omega)))) (by simp) (fun b _ h e => h (HN2'.out b (by have e : b < w.heap.size := e; omega)))
      refine ⟨⟨A, c, none, 0, some ⟨w.heap.size + 1, 0, none⟩, 16⟩, rfl, ⟨hz1, Rw.nil _ _ _ _, fun _ => rfl, ?_⟩, below_setRow HB.out (Nat.le_refl _) _⟩
      show Rw kBool _ _ _ 16 (kl fun _ => false)
      rw [kl_none]
      refine (Rw.stay (w := wr) (fun b hb => setRow_other _ _ _ _ (by have hb : b = w.heap.size + 1 := hb; omega)) HKN2.out).mono fun b hb => ?_
      have hb : b = w.heap.size + 1 := hb
      have := Row.lt HR.out
      exact ⟨by simp; omega, by show ¬ b < w.heap.size; omega⟩
end Go.Proofs.YtbamhiegabeicaaGreat.Cb

