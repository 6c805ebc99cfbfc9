/- Laws and contracts of several chapters, laid in one text. No statement is proved here. -/
import Derived.Test.YtbamhiegabeicaaGreatCa
/- A block of a cache, known and got. No statement is proved here. -/
namespace Go.Proofs.YtbamhiegabeicaaGreat.Cb
open Go.RowKit Go.Proofs.YtbamhiegabeicaaGreat.Mem Go.Proofs.YtbamhiegabeicaaGreat.Open Go.Proofs.YtbamhiegabeicaaGreat.Kind Go.Proofs.YtbamhiegabeicaaGreat.Blk Go.Proofs.YtbamhiegabeicaaGreat.App Go.Proofs.YtbamhiegabeicaaGreat.Pat Go.Proofs.YtbamhiegabeicaaGreat.Rd
open Go.Proofs.YtbamhiegabeicaaGreat.Db (Dv Dev Asd)
set_option linter.unusedVariables false
set_option linter.unusedSimpArgs false
section
variable {w w' : World} {c d g b : Nat} {N : Nat → Prop} {v : Value} {s : St}
theorem Ca.dev' {dv2 : Dv} (h : Ca w c d g b N v s) (ha : Asd d g w w') (hd : Dev w' d g dv2) (hn : (s.dv.wr + s.dv.rd).toNat ≤ (dv2.wr + dv2.rd).toNat) (hF : ∀ x, s.F x = St.F { s with dv := dv2 } x) : Ca w' c d g b N v { s with dv := dv2 } :=
  ⟨(ha.block c h.row.lt h.cd h.cg).trans h.row, hd, ((h.map.stay (ha.block b h.map.lt (fun e => h.db e.symm) (fun e => h.gb e.symm))).mono hn).ext hF,
    own_stay h.own h.vN (fun j h1 h2 => ha.block j h2 (fun e => h1 (e ▸ h.Nd)) (fun e => h1 (e ▸ h.Ng))) ha.size, h.vN, h.cd, h.cg, h.cb, h.db, h.gb, h.Nc, h.Nd, h.Ng, h.Nb, fun j hj => Nat.lt_of_lt_of_le (h.lt j hj) ha.size⟩
theorem Ca.map' {n : Nat} {K : Int → Bool} {F : Int → Option (List Nat)} (h : Ca w c d g b N v s) (hg : w.grownBy w' (some b)) (hm : Mb w' b n F) (hn : n ≤ (s.dv.wr + s.dv.rd).toNat) (hF : ∀ x, F x = St.F { s with K := K } x) : Ca w' c d g b N v { s with K := K } :=
  have ha : ∀ k, k < w.heap.size → k ≠ b → w'.heap[k]? = w.heap[k]? := fun k h1 h2 => hg.block k h1 (fun e => h2 (by injection e))
  ⟨(ha c h.row.lt h.cb).trans h.row, dev_other h.dev (ha d h.dev.1.lt h.db) (ha g h.dev.2.1.2.2 h.gb) hg.size, (hm.mono hn).ext hF,
    own_stay h.own h.vN (fun j h1 h2 => ha j h2 (fun e => h1 (e ▸ h.Nb))) hg.size, h.vN, h.cd, h.cg, h.cb, h.db, h.gb, h.Nc, h.Nd, h.Ng, h.Nb, fun j hj => Nat.lt_of_lt_of_le (h.lt j hj) hg.size⟩
end
def kE (s : St) (no : Int) : Int := if s.K no = true then 0 else Db.mayE s.dv no
def kS (s : St) (no : Int) : St := if s.K no = true ∨ Db.mayE s.dv no ≠ 0 then s else { s with dv := { s.dv with rd := s.dv.rd + 1 }, K := fun x => s.K x || x == no }
theorem getD_mem (l : List (List Nat)) (i : Nat) (hl : ∀ x ∈ l, x.length = 256) : (l.getD i zblk).length = 256 := by
  rw [List.getD_eq_getElem?_getD]
  cases h : l[i]? with
  | none => exact zblk_length
  | some x => exact hl x (List.mem_of_getElem? h)
set_option maxHeartbeats 2000000 in
set_option maxRecDepth 100000 in
theorem known_any (no : Int) (hno : WfI no) (c d g b : Nat) (N : Nat → Prop) (v : Value) (s : St) (w : World) (h : Ca w c d g b N v s) (hi : Inv s) :
    Calls Tryz.prog 38 #[.pointer (some ⟨c, 0, none⟩), .int .i64 no] w fun e w' => e = .returned (.int .i64 (kE s no)) ∧ Ca w' c d g b N v (kS s no) ∧ Tq c d g b w w' := by
  obtain ⟨c0, c1, c2, c3⟩ := h.cells
  have hz : (blk zblk).size = 256 := zblk_size
  by_cases hk : s.K no = true
  · have HE : Hid (kE s no = 0) := Lib.hid (if_pos hk)
    have HS : Hid (kS s no = s) := Lib.hid (if_pos (.inl hk))
    have hF : s.F no = some (s.dv.bs.getD no.toNat zblk) := if_pos hk
    have hl : (s.dv.bs.getD no.toNat zblk).length = 256 := getD_mem _ _ hi.each
    have hm := h.map
    have HC := Lib.hid (fun w' hb => And.intro (h.below (w' := w') hb) (Tq.of (c := c) (d := d) (g := g) (b := b) hb))
    generalize s.dv.bs.getD no.toNat zblk = V at *
    have hVs : (blk V).size = 256 := by rw [blk_size]; exact hl
    have R0 : Row (w.alloc (.cells (blk zblk) 78)) w.heap.size 78 (blk zblk) := Row.new _ _ _
    obtain ⟨⟨r9, b9, z9⟩⟩ : Nonempty (_ ∧ _ ∧ _) := ⟨boxed w 78 (blk zblk) (blk V)⟩
    have B9 := Lib.hid b9
    have hg : (.tuple #[.agg (blk ((s.F no).getD zblk)), .bool (s.F no).isSome] : Value) = .tuple #[.agg (blk V), .bool true] := by rw [hF]; rfl
    clear h hk hi hF b9 r9 z9
    go_enter Tryz.func38, Tryz.ntmps38
    go_wp2_with (first
      | (at_lookup; go_loud (refine wpList_mbLook rfl _ _ rfl rfl hm no rfl hno ?_); rw [hg])
      | (with_reducible refine wpList_allocA rfl 78 rfl _ blkZero ?_)
      | (with_reducible refine wpList_storeRow rfl 78 _ _ rfl w.heap.size rfl (blk V) rfl (blk zblk) 78 256 blkSize hVs hz (blk_one _) R0 ?_))
    go_ret
    exact ⟨by rw [HE.out]; rfl, by rw [HS.out]; exact (HC.out _ B9.out).1, (HC.out _ B9.out).2⟩
  · have hF : s.F no = none := if_neg hk
    have HE : Hid (kE s no = Db.mayE s.dv no) := Lib.hid (if_neg hk)
    have HS : Hid (kS s no = if Db.mayE s.dv no ≠ 0 then s else { s with dv := { s.dv with rd := s.dv.rd + 1 }, K := fun x => s.K x || x == no }) := Lib.hid (by
      unfold kS
      by_cases hq : Db.mayE s.dv no ≠ 0
      · rw [if_pos (.inr hq), if_pos hq]
      · rw [if_neg (by rintro (h | h); exact hk h; exact hq h), if_neg hq])
    have hm := h.map
    have hg : (.tuple #[.agg (blk ((s.F no).getD zblk)), .bool (s.F no).isSome] : Value) = .tuple #[.agg (blk zblk), .bool false] := by rw [hF]; rfl
    have R0 : Row (w.alloc (.cells (blk zblk) 78)) w.heap.size 78 (blk zblk) := Row.new _ _ _
    obtain ⟨⟨r9, b9, z9⟩⟩ : Nonempty (_ ∧ _ ∧ _) := ⟨boxed w 78 (blk zblk) (blk zblk)⟩
    have HC := Lib.hid (h.below b9)
    have hcW : World.cell? _ ⟨c, 0, none⟩ = some (.pointer (some ⟨d, 0, none⟩)) := (h.below b9).cells.1
    have HT := Lib.hid (Tq.of (c := c) (d := d) (g := g) (b := b) b9)
    have CR := Lib.hid (Db.read_any d g s.dv no _ (h.below b9).dev hi.ok)
    have hmay : Db.mayE s.dv no = 0 ∨ Db.mayE s.dv no ≠ 0 := Classical.em _
    have hV : (Db.rdV s.dv no).length = 256 := by unfold Db.rdV; split; exact zblk_length; exact getD_mem _ _ hi.each
    have hVs : (blk (Db.rdV s.dv no)).size = 256 := by rw [blk_size]; exact hV
    have HI := Lib.hid hi
    have HB9 := Lib.hid b9
    clear h hi hF b9 r9 z9
    rcases hmay with hq | hq
    · have hv2 : Db.rdV s.dv no = s.dv.bs.getD no.toNat zblk := if_neg (fun h => h hq)
      have hr : Db.rdS s.dv no = { s.dv with rd := s.dv.rd + 1 } := if_neg (fun h => h hq)
      rw [if_neg (fun h => h hq)] at HS
      rw [hr, hq] at CR
      rw [hq] at HE
      have hFn : Hid (∀ x, updB s.F no (Db.rdV s.dv no) x = St.F { s with dv := { s.dv with rd := s.dv.rd + 1 }, K := fun x => s.K x || x == no } x) := Lib.hid (by
        intro x
        rw [hv2]
        by_cases hx : x = no
        · subst hx
          rw [updB_same]
          unfold St.F
          rw [if_pos (by simp)]
        · rw [updB_ne _ _ hx]
          unfold St.F
          have : (x == no) = false := by rw [beq_eq_false_iff_ne]; exact hx
          simp only [this, Bool.or_false])
      obtain ⟨V, hVe⟩ : ∃ V, Db.rdV s.dv no = V := ⟨_, rfl⟩
      rw [hVe] at CR hV hVs hFn
      have hVL := blkSizeL V hV
      have hnn : (s.dv.wr + s.dv.rd).toNat < 1000000 ∧ (s.dv.wr + s.dv.rd).toNat + 1 ≤ (s.dv.wr + (s.dv.rd + 1)).toNat ∧ (s.dv.wr + s.dv.rd).toNat ≤ (s.dv.wr + (s.dv.rd + 1)).toNat := by
        have h1 := HI.out.cw
        have h1' := HI.out.last1
        have h2 := HI.out.cr
        obtain ⟨_, h3, _, h4, _⟩ := HI.out.ok
        omega
      obtain ⟨hn1, hn2, hn3⟩ := hnn
      have HM := Lib.hid (hm.below HB9.out)
      have HN2 := Lib.hid hn2
      have HN3 := Lib.hid hn3
      clear hr hv2 hVe hq hn2 hn3
      go_enter Tryz.func38, Tryz.ntmps38
      go_wp2_with (first
        | (at_lookup; go_loud (refine wpList_mbLook rfl _ _ rfl rfl hm no rfl hno ?_); rw [hg])
        | (with_reducible refine wpList_allocA rfl 78 rfl _ blkZero ?_)
        | (with_reducible refine wpList_storeRow rfl 78 _ _ rfl w.heap.size rfl (blk zblk) rfl (blk zblk) 78 256 blkSize hz hz (blk_one _) R0 ?_))
      refine CR.out.mono ?_
      rintro e1 w2 ⟨rfl, hd2, ha2⟩
      have R2 : Row (w2.alloc (.cells (blk zblk) 78)) w2.heap.size 78 (blk zblk) := Row.new _ _ _
      obtain ⟨⟨r9, b9, z9⟩⟩ : Nonempty (_ ∧ _ ∧ _) := ⟨boxed w2 78 (blk zblk) (blk V)⟩
      have hcb := HC.out.cb
      obtain ⟨W, hW⟩ : ∃ W, W = (w2.alloc (.cells (blk zblk) 78)).setRow w2.heap.size (blk V) := ⟨_, rfl⟩
      rw [← hW] at r9 b9 z9
      have HW := Lib.hid hW
      have hC1 := HC.out.dev' ha2 hd2 HN3.out (fun _ => rfl)
      have hC2 := hC1.below b9
      have HC2 := Lib.hid (hC2.below (Below.refl _ _).drew)
      have HT2 := Lib.hid (((HT.out.trans (Tq.asd ha2)).trans (Tq.of b9)).trans (Tq.of (Below.refl _ _).drew))
      have hmW := ((HM.out.stay (ha2.block b HM.out.lt (fun e => HC.out.db e.symm) (fun e => HC.out.gb e.symm))).below b9).drew
      have p9 := r9.drew
      have hcW : Row W.drew c 83 #[.pointer (some ⟨d, 0, none⟩), .map (some b), v, .int .i64 s.last] := hC2.row.drew
      have hbs : ¬ w2.heap.size = b := fun e => by
        have h1 := HM.out.lt
        have h2 := ha2.size
        omega
      clear r9 b9 z9 hd2 ha2 HC HT HM hW hC2 hC1
      go_wp2_with (first
        | (with_reducible refine wpList_allocA rfl 78 rfl _ blkZero ?_)
        | (with_reducible refine wpList_storeRow rfl 78 _ _ rfl w2.heap.size rfl (blk V) rfl (blk zblk) 78 256 blkSize hVs hz (blk_one _) R2 ?_))
      rw [← HW.out]
      refine wp_region_held_drew (S := fun w' => World.grownBy (W.drew) w' (some (b))) (by kernel_rfl) ?hb6 (fun hHeld => ?rest6)
      case hb6 =>
        exact Mem.gb_refl _ _
      case' rest6 => skip
      have hCl := fun (wS : World) (hSw : World.grownBy (W.drew) wS (some (b))) =>  (Mem.gb_row hSw hcW (by intro e; injection e with e; omega)).cell 1 rfl
      replace hCl := Go.Lib.hid hCl
      refine Mem.tkV 0 ?v7 ?y7 ?r7
      case y7 => (intro w hSw; clear hSw; go_simp; try with_reducible rfl)
      refine Mem.tkV 1 ?v8 ?y8 ?r8
      case y8 => (intro w hSw; clear hSw; go_simp; try with_reducible rfl)
      refine Mem.tkV 2 ?v9 ?y9 ?r9
      case y9 => (intro w hSw; clear hSw; go_simp; try with_reducible rfl)
      try simp only [Mem.pa, Mem.pb, Mem.pc, Act.put, Mem.pd, Mem.pe, Mem.pf]
      refine Mem.tkV 3 ?v10 ?y10 ?r10
      case y10 => (intro w hSw; have hT0 := hCl.out w hSw; clear hSw; go_simp; try with_reducible rfl)
      refine Mem.tkV 4 ?v11 ?y11 ?r11
      case y11 => (intro w hSw; clear hSw; go_simp; try with_reducible rfl)
      first
        | refine' wpAnyH_take (i := 5) (v := _) rfl (by kernel_rfl) (by kernel_rfl) (by kernel_rfl) (fun _ _ _ h => h) (yieldsIf_load_mid (by rfl) _ _ rfl _ _ rfl _ _ (fun w hSw => (Mem.gb_row hSw p9 (by intro e; injection e with e; omega)).range) blkUnd rfl hVL) (by assumption) ?rest12
        | refine wpAnyH_take (i := 5) (v := undef) rfl (by kernel_rfl) (by kernel_rfl) (by kernel_rfl) (fun _ _ _ h => h) (Or.inr ⟨by rfl, rfl⟩) (by assumption) ?rest12
      case' rest12 => skip
      try simp only [Mem.pa, Mem.pb, Mem.pc, Act.put, Mem.pd, Mem.pe, Mem.pf]
      try simp only [Mem.pa, Mem.pb, Mem.pc, Act.put, Mem.pd, Mem.pe, Mem.pf]
      refine wpAnyH_ready (rs := [6]) (by kernel_rfl) (by simp) ?_
      refine AllReadyH.cons rfl (fun K hK => ?_) AllReadyH.nil
      rw [if_pos (by rfl)]
      refine wp_mbPut _ _ _ (by rfl) (by rfl) hmW hn1 no V (by rfl) (by rfl) hno hV ?_; intro w4 hm4 hg4; have hSnew := hg4; have HM4 := Lib.hid hm4; have HG4 := Lib.hid hg4; clear hm4 hg4
      refine hK.out _ _ ?_ (fun hHeld2 => ?_)
      · exact hSnew
      clear hK K hHeld hSnew
      have hHeld := hHeld2
      clear hHeld2
      try simp only [Mem.pa, Mem.pb, Mem.pc, Act.put, Mem.pd, Mem.pe, Mem.pf]
      refine wpAnyH_done (by kernel_rfl) ?_ _
      clear hCl
      go_wp2_with fail
      go_ret
      exact ⟨by rw [HE.out]; rfl, by rw [HS.out]; exact HC2.out.map' HG4.out HM4.out HN2.out hFn.out, HT2.out.trans (Tq.gb HG4.out)⟩
    · have hr : Db.rdS s.dv no = s.dv := if_pos hq
      have hv2 : Db.rdV s.dv no = zblk := if_pos hq
      rw [if_pos hq] at HS
      rw [hr, hv2] at CR
      clear hV hVs hr hv2
      obtain ⟨e, he⟩ : ∃ e, Db.mayE s.dv no = e := ⟨_, rfl⟩
      rw [he] at CR HE hq
      have hne : (e == 0) = false := by rw [beq_eq_false_iff_ne]; exact hq
      clear he hq
      go_enter Tryz.func38, Tryz.ntmps38
      go_wp2_with (first
        | (at_lookup; go_loud (refine wpList_mbLook rfl _ _ rfl rfl hm no rfl hno ?_); rw [hg])
        | (with_reducible refine wpList_allocA rfl 78 rfl _ blkZero ?_)
        | (with_reducible refine wpList_storeRow rfl 78 _ _ rfl w.heap.size rfl (blk zblk) rfl (blk zblk) 78 256 blkSize hz hz (blk_one _) R0 ?_))
      refine CR.out.mono ?_
      rintro e1 w2 ⟨rfl, hd2, ha2⟩
      have R2 : Row (w2.alloc (.cells (blk zblk) 78)) w2.heap.size 78 (blk zblk) := Row.new _ _ _
      obtain ⟨⟨r9, b9, z9⟩⟩ : Nonempty (_ ∧ _ ∧ _) := ⟨boxed w2 78 (blk zblk) (blk zblk)⟩
      have hC2 := HC.out.dev' ha2 hd2 (Nat.le_refl _) (fun _ => rfl)
      have HC2 := Lib.hid (hC2.below b9)
      have HT2 := Lib.hid ((HT.out.trans (Tq.asd ha2)).trans (Tq.of b9))
      clear r9 b9 z9 hd2 ha2 HC HT hC2
      go_wp2_with (first
        | (with_reducible refine wpList_allocA rfl 78 rfl _ blkZero ?_)
        | (with_reducible refine wpList_storeRow rfl 78 _ _ rfl w2.heap.size rfl (blk zblk) rfl (blk zblk) 78 256 blkSize hz hz (blk_one _) R2 ?_))
      go_ret
      exact ⟨by rw [HE.out]; rfl, by rw [HS.out]; exact HC2.out, HT2.out⟩
end Go.Proofs.YtbamhiegabeicaaGreat.Cb

/- What a cache's block is seen as: the contract of Get. No statement is proved here. -/
namespace Go.Proofs.YtbamhiegabeicaaGreat.Cb
open Go.RowKit Go.Proofs.YtbamhiegabeicaaGreat.Mem Go.Proofs.YtbamhiegabeicaaGreat.Open Go.Proofs.YtbamhiegabeicaaGreat.Kind Go.Proofs.YtbamhiegabeicaaGreat.Blk Go.Proofs.YtbamhiegabeicaaGreat.App Go.Proofs.YtbamhiegabeicaaGreat.Pat Go.Proofs.YtbamhiegabeicaaGreat.Rd
open Go.Proofs.YtbamhiegabeicaaGreat.Db (Dv Dev Asd)
set_option linter.unusedVariables false
set_option linter.unusedSimpArgs false
def gV (s : St) (no : Int) : List Nat := if kE s no ≠ 0 then zblk else laidF no (fun _ => true) (s.dv.bs.getD no.toNat zblk) s.xs
theorem Tn.set {w w' : World} {c d g b : Nat} {N : Nat → Prop} (h : Tn N c d g b w w') {k : Nat} (hk : ¬ N k) (cs : Array Value) : Tn N c d g b w (w'.setRow k cs) :=
  ⟨h.os, h.tape, h.output, by simpa using h.size, fun j hj => (setRow_other _ _ _ _ (fun (e : j = k) => hk (e ▸ hj.n))).trans (h.block j hj)⟩
theorem kS_xs (s : St) (no : Int) : (kS s no).xs = s.xs := by unfold kS; split <;> rfl
theorem kS_last (s : St) (no : Int) : (kS s no).last = s.last := by unfold kS; split <;> rfl
end Go.Proofs.YtbamhiegabeicaaGreat.Cb


