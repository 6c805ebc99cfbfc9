/- DiskSteps. -/
import Derived.Test.YtechlhmmgabikaaDk17
namespace Go.Proofs.Ytechlhmmgabikaa.Dk
open Go.RowKit Go.Proofs.Ytechlhmmgabikaa.Mem Go.Proofs.Ytechlhmmgabikaa.Open Go.Proofs.Ytechlhmmgabikaa.Kind Go.Proofs.Ytechlhmmgabikaa.Blk Go.Proofs.Ytechlhmmgabikaa.App
set_option linter.unusedVariables false
set_option linter.unusedSimpArgs false
theorem rZero : ∀ w, (zeroValue 46).run Try.prog w = .ok (.agg (rC none 0 0 0 false 0 0)) w := (zero_of_info (v := .agg (rC none 0 0 0 false 0 0)) (n := 5) (by kernel_rfl)).1
/-- A variable, made and filled. -/
theorem boxed (w : World) (T : TypeId) (z cs : Array Value) : Row ((w.alloc (.cells z T)).setRow w.heap.size cs) w.heap.size T cs ∧ Below w.heap.size w ((w.alloc (.cells z T)).setRow w.heap.size cs) ∧ w.heap.size < ((w.alloc (.cells z T)).setRow w.heap.size cs).heap.size :=
  ⟨(Row.new w T z).set cs, below_setRow ((Below.refl _ _).alloc (Nat.le_refl _) _) (Nat.le_refl _) cs, by simp⟩
/-- Bytes stay where nothing but a device changed. -/
theorem By.asd {w w' : World} {d g ga : Nat} {bs : List Nat} (h : By w (some ⟨ga, 0, none⟩) bs) (ha : Asd d g w w') (h1 : ga ≠ d) (h2 : ga ≠ g) : By w' (some ⟨ga, 0, none⟩) bs := by
  have h3 : Rw kByte w (fun b => b = ga ∧ b < w.heap.size) (some ⟨ga, 0, none⟩) bs.length bs := by
    refine ⟨h.1, h.2.1, ?_⟩
    rcases h.2.2 with h0 | ⟨g', o, hA, hg, hlt, hc⟩
    · exact .inl h0
    · injection hA with hA; injection hA with e1 e2; subst e1 e2
      exact .inr ⟨_, _, rfl, ⟨rfl, hlt⟩, hlt, fun i x hx => by obtain ⟨cs, c1, c2⟩ := hc i x hx; exact ⟨cs, c1, c2⟩⟩
  exact (h3.stay fun b hb => by obtain ⟨rfl, hb⟩ := hb; exact ha.block b hb h1 h2).mono fun b hb => Nat.lt_of_lt_of_le hb.2 ha.size
theorem By.row {w : World} {k ga : Nat} {bs : List Nat} (h : By w (some ⟨ga, 0, none⟩) bs) (h1 : ga ≠ k) (cs : Array Value) : By (w.setRow k cs) (some ⟨ga, 0, none⟩) bs :=
  By.asd (d := k) (g := k) h ⟨rfl, rfl, rfl, by simp, fun b _ hb _ => setRow_other _ _ _ _ hb⟩ h1 h1
theorem down_b (d g : Nat) (s : Dv) (w : World) (hd : Dev w d g s) : Calls Try.prog 20 #[.pointer (some ⟨d, 0, none⟩)] w fun e w' => e = .returned (.bool s.off) ∧ Below w.heap.size w w' := (down_any d g s w hd).mono fun e w' ⟨h, h2⟩ => ⟨h, h2 ▸ Below.refl _ _⟩
theorem writes_b (d g : Nat) (s : Dv) (w : World) (hd : Dev w d g s) : Calls Try.prog 16 #[.pointer (some ⟨d, 0, none⟩)] w fun e w' => e = .returned (.int .i64 s.wr) ∧ Below w.heap.size w w' := (writes_any d g s w hd).mono fun e w' ⟨h, h2⟩ => ⟨h, h2 ▸ Below.refl _ _⟩
theorem reads_b (d g : Nat) (s : Dv) (w : World) (hd : Dev w d g s) : Calls Try.prog 17 #[.pointer (some ⟨d, 0, none⟩)] w fun e w' => e = .returned (.int .i64 s.rd) ∧ Below w.heap.size w w' := (reads_any d g s w hd).mono fun e w' ⟨h, h2⟩ => ⟨h, h2 ▸ Below.refl _ _⟩
theorem size_b (d g : Nat) (s : Dv) (N : Nat) (hN : s.bs.length = N) (w : World) (hd : Dev w d g s) : Calls Try.prog 23 #[.pointer (some ⟨d, 0, none⟩)] w fun e w' => e = .returned (.int .i64 N) ∧ Below w.heap.size w w' := (size_any d g s w hd).mono fun e w' ⟨h, h2⟩ => ⟨by rw [h, hN], h2 ▸ Below.refl _ _⟩
set_option maxHeartbeats 4000000 in
set_option maxRecDepth 100000 in
theorem steps_walk (n : Int) (A : Option Addr) (c : Nat) (xs : List StD) (w : World) (hn : (Lit.int .i64 n).wf = true) (hx : Sts w A xs) (hc : A = none → c = 0) :
    Calls Try.prog 5 #[.int .i64 n, .slice A xs.length c] w fun e w' => e = .returned (.bool true) ∧ Below w.heap.size w w' := by
  have hxm := hx.2.1
  unfold M63 at hxm
  by_cases h6 : 40 < xs.length
  · go_enter Try.func5, Try.ntmps5
    go_wp2_with (go_at_call 11; refine (works_any _).mono ?_; rintro e w' ⟨rfl, hbel2⟩)
    go_ret
    exact ⟨rfl, hbel2⟩
  obtain ⟨N, hN⟩ : ∃ N : Nat, (n ≤ 16 ∧ N = 16) ∨ (16 < n ∧ n < 512 ∧ n = N) ∨ (512 ≤ n ∧ N = 512) := ⟨if n ≤ 16 then 16 else if n < 512 then n.toNat else 512, by split <;> (try split) <;> omega⟩
  have hN1 : 16 ≤ N ∧ N ≤ 512 := by omega
  have CN := Lib.hid (fun w' => new_any n N hN w')
  have CR := Lib.hid (fun w' => newref_any n N hN w')
  clear hN
  go_enter Try.func5, Try.ntmps5
  go_wp2_with fail
  refine (CN.out w).mono ?_
  rintro e w1 ⟨d, rfl, g, hd, hd1, hg1, hb1⟩
  have hwd : d < w1.heap.size := hd.1.lt
  have hwg : g < w1.heap.size := hd.2.1.2.2
  have hs1 := hb1.size
  go_wp2_with fail
  refine (CR.out w1).mono ?_
  rintro e w2 ⟨ga, ca, rfl, hy2, hb2, hga⟩
  obtain ⟨bx1, bx2, bx3⟩ := boxed w2 46 (rC none 0 0 0 false 0 0) (rC (some ⟨ga, 0, none⟩) N ca (-1) false 0 0)
  have hR0 : Row (w2.alloc (.cells (rC none 0 0 0 false 0 0) 46)) w2.heap.size 46 (rC none 0 0 0 false 0 0) := Row.new _ _ _
  have hgal : ga < w2.heap.size := by
    obtain ⟨q, o, hA, hq, _⟩ := by_cell hy2 0 (by simp [fresh]; omega)
    injection hA with hA; injection hA with e1 e2; omega
  have hd3 := (hd.keep hb2).keep bx2
  have hb3 := (hb1.trans (hb2.mono hb1.size)).trans (bx2.mono (Nat.le_trans hb1.size hb2.size))
  have hy3 := hy2.below bx2
  have hs2 := hb2.size
  have HR := Lib.hid bx1
  have HD := Lib.hid hd3
  have HB := Lib.hid hb3
  have HY := Lib.hid hy3
  clear hd hb1 hb2 hy2 bx1 bx2 hd3 hb3 hy3 CN CR
  go_wp2_with (first
    | (with_reducible refine wpList_allocA rfl 46 rfl _ rZero ?_)
    | (with_reducible refine wpList_storeRow rfl 46 _ _ rfl w2.heap.size rfl (rC (some ⟨ga, 0, none⟩) N ca (-1) false 0 0) rfl (rC none 0 0 0 false 0 0) 46 5 rSize rfl rfl (rC_one _ _ _ _ _ _ _) hR0 ?_))
  clear hR0
  generalize hx0 : w2.heap.size = gx at *
  generalize (w2.alloc (.cells (rC none 0 0 0 false 0 0) 46)).setRow gx (rC (some ⟨ga, 0, none⟩) N ca (-1) false 0 0) = w3 at *
  have T : Hid True := Lib.hid trivial
  go_loopw [7] (fun i wr => ∃ (k : Nat) (s : Dv) (ga c : Nat), k ≤ xs.length ∧ i = .int .i64 k ∧ OkM s k ∧ s.bs.length = N ∧ Dev wr d g s ∧ Row wr gx 46 (rC (some ⟨ga, 0, none⟩) N c (rfu s) s.off s.wr s.rd) ∧ By wr (some ⟨ga, 0, none⟩) s.bs ∧ ga ≠ d ∧ ga ≠ g ∧ ga ≠ gx ∧ Below w.heap.size w wr) (fun i _ => xs.length - (intOf i).toNat)
  case atStart => exact ⟨0, fresh N, ga, ca, by omega, rfl, ⟨by simp [fresh]; omega, by simp [fresh], by simp [fresh], by simp [fresh], by simp [fresh], by simp [fresh]⟩, by simp [fresh], HD.out, HR.out, HY.out, by omega, by omega, by omega, HB.out⟩
  case round =>
    obtain ⟨k, s, ga, c', hk, rfl, ok, hbl, hdr, hrr, hyr, n1, n2, n3, hbr⟩ := hrel
    have hbr0 := hbr.size
    have hgx : gx < wr.heap.size := hrr.lt
    have hwd : d < wr.heap.size := hdr.1.lt
    have hwg : g < wr.heap.size := hdr.2.1.2.2
    by_cases hlt : k < xs.length
    · obtain ⟨g', o, rfl, hgl⟩ := st_form hx (by omega)
      obtain ⟨c0, c1, c2, ho⟩ := st_at hx k hlt
      have d0 := (hbr.cell (p := ⟨g', o + k * 3, none⟩) hgl).trans c0
      have d1 := (hbr.cell (p := ⟨g', o + k * 3 + 1, none⟩) hgl).trans c1
      have d2 := (hbr.cell (p := ⟨g', o + k * 3 + 2, none⟩) hgl).trans c2
      clear c0 c1 c2
      generalize xs[k] = p at *
      obtain ⟨⟨b1, b2, b3⟩⟩ : Nonempty (_ ∧ _ ∧ _) := ⟨boxed wr 28 (stC 0 0 0) (stC p.d p.no p.b)⟩
      have hR8 : Row (wr.alloc (.cells (stC 0 0 0) 28)) wr.heap.size 28 (stC 0 0 0) := Row.new _ _ _
      have hd8 := hdr.keep b2
      have hr8 := hrr.below b2
      have hy8 := hyr.below b2
      have hb8 := hbr.trans (b2.mono hbr.size)
      have k0 : ((wr.alloc (.cells (stC 0 0 0) 28)).setRow wr.heap.size (stC p.d p.no p.b)).cell? ⟨wr.heap.size, 0, none⟩ = some (.int .i64 p.d) := b1.cell 0 rfl
      have HD := Lib.hid hd8
      have HR := Lib.hid hr8
      have HY := Lib.hid hy8
      have HB := Lib.hid hb8
      have HP := Lib.hid b1
      have H3 := Lib.hid b3
      clear hdr hrr hyr hbr b1 b2 b3 hd8 hr8 hy8 hb8
      by_cases h0 : p.d < 0
      · go_wp2_with (first
          | (with_reducible refine wpList_allocA rfl 28 rfl _ stZero ?_)
          | (with_reducible refine wpList_storeRow rfl 28 _ _ rfl wr.heap.size rfl (stC p.d p.no p.b) rfl (stC 0 0 0) 28 3 stSize rfl rfl (stC_one _ _ _) hR8 ?_))
        go_roundw
        case rel => exact ⟨k + 1, s, ga, c', by omega, by go_num, ok.more, hbl, HD.out, HR.out, HY.out, n1, n2, n3, HB.out⟩
        case measure => simp [intOf]; omega
      by_cases h3 : 3 < p.d
      · go_wp2_with (first
          | (with_reducible refine wpList_allocA rfl 28 rfl _ stZero ?_)
          | (with_reducible refine wpList_storeRow rfl 28 _ _ rfl wr.heap.size rfl (stC p.d p.no p.b) rfl (stC 0 0 0) 28 3 stSize rfl rfl (stC_one _ _ _) hR8 ?_))
        go_roundw
        case rel => exact ⟨k + 1, s, ga, c', by omega, by go_num, ok.more, hbl, HD.out, HR.out, HY.out, n1, n2, n3, HB.out⟩
        case measure => simp [intOf]; omega
      obtain ⟨ok', hl'⟩ := ok.step ho
      have CG := Lib.hid (fun w' h => goref_any s p ga c' w' h (ok.ok (by omega)) ho (by omega) (by omega))
      have CD := Lib.hid (fun w' h => do_any d g s p w' h (ok.ok (by omega)) ho (by omega) (by omega))
      have hvb := stV_lt (s := s) (x := p) HY.out.lt_byte
      rw [hbl] at hl'
      rw [hbl] at CG
      have k1 := HP.out.cell 1 rfl
      have k2 := HP.out.cell 2 rfl
      have j0 := HR.out.cell 0 rfl
      have j1 := HR.out.cell 1 rfl
      have j2 := HR.out.cell 2 rfl
      have j3 := HR.out.cell 3 rfl
      have j4 := HR.out.cell 4 rfl
      generalize stS s p = s' at *
      generalize stV s p = v at *
      generalize stE s p = er at *
      generalize rfu s = fu at *
      generalize hfu : rfu s' = fu' at *
      have HFU := Lib.hid hfu
      clear hfu
      go_wp2_with (first
          | (with_reducible refine wpList_allocA rfl 28 rfl _ stZero ?_)
          | (with_reducible refine wpList_storeRow rfl 28 _ _ rfl wr.heap.size rfl (stC p.d p.no p.b) rfl (stC 0 0 0) 28 3 stSize rfl rfl (stC_one _ _ _) hR8 ?_))
      clear hR8 d0 d1 d2 k0 k1 k2 j0 j1 j2 j3 j4
      generalize (wr.alloc (.cells (stC 0 0 0) 28)).setRow wr.heap.size (stC p.d p.no p.b) = w8 at *
      generalize hg8 : wr.heap.size = g8 at *
      refine (CG.out w8 HY.out).mono ?_
      rintro e w10 ⟨g2, c2, rfl, hy10, hg10, hb10⟩
      obtain ⟨⟨q1, q2, q3⟩⟩ : Nonempty (_ ∧ _ ∧ _) := ⟨boxed w10 46 (rC none 0 0 0 false 0 0) (rC (some ⟨g2, 0, none⟩) N c2 fu' s'.off s'.wr s'.rd)⟩
      have R9 : Row (w10.alloc (.cells (rC none 0 0 0 false 0 0) 46)) w10.heap.size 46 (rC none 0 0 0 false 0 0) := Row.new _ _ _
      have hs10 := hb10.size
      have h3' := H3.out
      have l8 : g8 < w10.heap.size := by omega
      have hg2 : g2 < w10.heap.size := by
        obtain ⟨q, o, hA, hq, _⟩ := by_cell hy10 0 (by omega)
        injection hA with hA; injection hA with e1 e2; omega
      have S9 := q1
      have s0 := S9.cell 0 rfl
      have s1 := S9.cell 1 rfl
      have s2 := S9.cell 2 rfl
      have s3 := S9.cell 3 rfl
      have s4 := S9.cell 4 rfl
      have R11 := (HR.out.below hb10).below q2
      have S12 : Row (((w10.alloc (.cells (rC none 0 0 0 false 0 0) 46)).setRow w10.heap.size (rC (some ⟨g2, 0, none⟩) N c2 fu' s'.off s'.wr s'.rd)).setRow gx (rC (some ⟨g2, 0, none⟩) N c2 fu' s'.off s'.wr s'.rd)) gx 46 (rC (some ⟨g2, 0, none⟩) N c2 fu' s'.off s'.wr s'.rd) := R11.set _
      have P12 := (((HP.out.below hb10).below q2).far (k := gx) (by omega) (rC (some ⟨g2, 0, none⟩) N c2 fu' s'.off s'.wr s'.rd))
      have t0 := P12.cell 0 rfl
      have t1 := P12.cell 1 rfl
      have t2 := P12.cell 2 rfl
      have hd12 := ((HD.out.keep hb10).keep q2).row (k := gx) (by omega) (by omega) (rC (some ⟨g2, 0, none⟩) N c2 fu' s'.off s'.wr s'.rd)
      have hy12 := By.row (hy10.below q2) (k := gx) (by omega) (rC (some ⟨g2, 0, none⟩) N c2 fu' s'.off s'.wr s'.rd)
      have hb12 := below_setRow ((HB.out.trans (hb10.mono HB.out.size)).trans (q2.mono (Nat.le_trans HB.out.size hb10.size))) (g := gx) (by omega) (rC (some ⟨g2, 0, none⟩) N c2 fu' s'.off s'.wr s'.rd)
      have HY := Lib.hid hy12
      have HD := Lib.hid hd12
      have HB := Lib.hid hb12
      have HS := Lib.hid S12
      have q4 : w10.heap.size + 1 = (((w10.alloc (.cells (rC none 0 0 0 false 0 0) 46)).setRow w10.heap.size (rC (some ⟨g2, 0, none⟩) N c2 fu' s'.off s'.wr s'.rd)).setRow gx (rC (some ⟨g2, 0, none⟩) N c2 fu' s'.off s'.wr s'.rd)).heap.size := by simp
      have Q4 := Lib.hid q4
      clear hy12 hd12 hb12 S12 q1 q2 q3 q4 hb10 CG HP hy10
      go_wp2_with (first
          | (with_reducible refine wpList_allocA rfl 46 rfl _ rZero ?_)
          | (with_reducible refine wpList_storeRow rfl 46 _ _ rfl w10.heap.size rfl (rC (some ⟨g2, 0, none⟩) N c2 fu' s'.off s'.wr s'.rd) rfl (rC none 0 0 0 false 0 0) 46 5 rSize rfl rfl (rC_one _ _ _ _ _ _ _) R9 ?_)
          | (with_reducible refine wpList_storeRow rfl 46 _ _ rfl gx rfl (rC (some ⟨g2, 0, none⟩) N c2 fu' s'.off s'.wr s'.rd) rfl _ 46 5 rSize rfl rfl (rC_one _ _ _ _ _ _ _) R11 ?_))
      clear R9 S9 R11 P12 t0 t1 t2 s0 s1 s2 s3 s4
      generalize ((w10.alloc (.cells (rC none 0 0 0 false 0 0) 46)).setRow w10.heap.size (rC (some ⟨g2, 0, none⟩) N c2 fu' s'.off s'.wr s'.rd)).setRow gx (rC (some ⟨g2, 0, none⟩) N c2 fu' s'.off s'.wr s'.rd) = w12 at *
      generalize hg9 : w10.heap.size = g9 at *
      refine (CD.out w12 HD.out).mono ?_
      rintro e w13 ⟨rfl, hd13, ha13⟩
      have q4 := Q4.out
      have hm1 : g2 ≠ d := by omega
      have hm2 : g2 ≠ g := by omega
      have hm3 : g2 ≠ gx := by omega
      have hR13 := ha13.kept HS.out (by omega) (by omega)
      have hy13 := By.asd HY.out ha13 hm1 hm2
      have hb13 := Asd.below HB.out ha13 hd1 hg1 (Nat.le_refl _)
      have hs13 := ha13.size
      have hsX : (blk (full v)).size = 256 := by rw [blk_size, List.length_replicate]
      obtain ⟨⟨q1, q2, q3⟩⟩ : Nonempty (_ ∧ _ ∧ _) := ⟨boxed w13 30 (blk zblk) (blk (full v))⟩
      have b1 := heap_alloc_new w13 (.cells (blk zblk) 30)
      have HD := Lib.hid (hd13.keep q2)
      have HY := Lib.hid (hy13.below q2)
      have HB := Lib.hid (hb13.trans (q2.mono hb13.size))
      have HS := Lib.hid (hR13.below q2)
      have k7 := q1
      clear hd13 hy13 hb13 hR13 ha13 CD q1 q2
      go_wp2_with (first
            | (with_reducible refine wpList_allocA rfl 30 rfl _ blkZero ?_)
            | (with_reducible refine wpList_store rfl 30 _ _ rfl _ rfl (blk (full v)) rfl (blk zblk) 30 256 blkSize hsX zblk_size (blk_one _) b1 ?_))
      clear b1
      generalize (w13.alloc (.cells (blk zblk) 30)).setRow w13.heap.size (blk (full v)) = w14 at *
      generalize hg13 : w13.heap.size = g13 at *
      have hdd : Dev w14.drew d g s' := HD.out.drew
      have hrr : Row w14.drew gx 46 (rC (some ⟨g2, 0, none⟩) N c2 fu' s'.off s'.wr s'.rd) := HS.out
      have k7d := k7.drew
      have hfl : (full v).length = 256 := List.length_replicate
      have hi : (Try.prog.info? 30).map (·.size) = some (blk (full v)).toList.length := by rw [full_len]; exact blkSize
      have heq : ∀ w, (Op.equalIn 10000 30 (.agg (blk (full v))) (.agg (blk (full v)))).run Try.prog w = .ok true w := fun w => by rw [run_eq_blk _ _ hfl hfl, decide_eq_true rfl]
      have hgd := blkGuard
      have CDn := Lib.hid (fun w' h => down_b d g s' w' h)
      have CWr := Lib.hid (fun w' h => writes_b d g s' w' h)
      have CRd := Lib.hid (fun w' h => reads_b d g s' w' h)
      have CSz := Lib.hid (fun w' h => size_b d g s' N hl' w' h)
      have OK' := Lib.hid ok'
      have HL' := Lib.hid hl'
      clear k7 ok' hl'
      generalize hso : s'.off = so at *
      generalize hsw : s'.wr = sw at *
      generalize hsr : s'.rd = sr at *
      have hso := Lib.hid hso
      have hsw := Lib.hid hsw
      have hsr := Lib.hid hsr
      refine wp_region_held_drew (S := Go.RowKit.Below ((w14.drew).heap.size) (w14.drew)) (by kernel_rfl) ?hb11 (fun hHeld => ?rest11)
      case hb11 =>
        exact Go.RowKit.Below.refl _ _
      case' rest11 => skip
      refine wpAnyH_take (i := 0) (v := ?v12) rfl (by kernel_rfl) (by kernel_rfl) (by kernel_rfl) (fun _ _ _ h => h) (Or.inl ⟨by rfl, ?y12⟩) (by assumption) ?rest12
      case y12 => (intro w hSw; have hT0 := (Mem.bl_row hSw hrr (by first | exact Mem.Row.lt hrr | omega | (simp <;> omega))).cell 0 rfl; have hT1 := (Mem.bl_row hSw hrr (by first | exact Mem.Row.lt hrr | omega | (simp <;> omega))).cell 2 rfl; have hT2 := (Mem.bl_row hSw hrr (by first | exact Mem.Row.lt hrr | omega | (simp <;> omega))).cell 3 rfl; have hT3 := (Mem.bl_row hSw hrr (by first | exact Mem.Row.lt hrr | omega | (simp <;> omega))).cell 4 rfl; clear hSw; go_simp; try with_reducible rfl)
      case' rest12 => skip
      try simp only [List.getElem_toArray, List.getElem_cons_succ, List.getElem_cons_zero, Act.put, List.setIfInBounds_toArray, List.set_cons_zero, List.set_cons_succ]
      refine wpAnyH_take (i := 1) (v := ?v13) rfl (by kernel_rfl) (by kernel_rfl) (by kernel_rfl) (fun _ _ _ h => h) (Or.inl ⟨by rfl, ?y13⟩) (by assumption) ?rest13
      case y13 => (intro w hSw; have hT0 := (Mem.bl_row hSw hrr (by first | exact Mem.Row.lt hrr | omega | (simp <;> omega))).cell 0 rfl; have hT1 := (Mem.bl_row hSw hrr (by first | exact Mem.Row.lt hrr | omega | (simp <;> omega))).cell 2 rfl; have hT2 := (Mem.bl_row hSw hrr (by first | exact Mem.Row.lt hrr | omega | (simp <;> omega))).cell 3 rfl; have hT3 := (Mem.bl_row hSw hrr (by first | exact Mem.Row.lt hrr | omega | (simp <;> omega))).cell 4 rfl; clear hSw; go_simp; try with_reducible rfl)
      case' rest13 => skip
      try simp only [List.getElem_toArray, List.getElem_cons_succ, List.getElem_cons_zero, Act.put, List.setIfInBounds_toArray, List.set_cons_zero, List.set_cons_succ]
      refine wpAnyH_take (i := 2) (v := ?v14) rfl (by kernel_rfl) (by kernel_rfl) (by kernel_rfl) (fun _ _ _ h => h) (Or.inl ⟨by rfl, ?y14⟩) (by assumption) ?rest14
      case y14 => (intro w hSw; have hT0 := (Mem.bl_row hSw hrr (by first | exact Mem.Row.lt hrr | omega | (simp <;> omega))).cell 0 rfl; have hT1 := (Mem.bl_row hSw hrr (by first | exact Mem.Row.lt hrr | omega | (simp <;> omega))).cell 2 rfl; have hT2 := (Mem.bl_row hSw hrr (by first | exact Mem.Row.lt hrr | omega | (simp <;> omega))).cell 3 rfl; have hT3 := (Mem.bl_row hSw hrr (by first | exact Mem.Row.lt hrr | omega | (simp <;> omega))).cell 4 rfl; clear hSw; go_simp; try with_reducible rfl)
      case' rest14 => skip
      try simp only [List.getElem_toArray, List.getElem_cons_succ, List.getElem_cons_zero, Act.put, List.setIfInBounds_toArray, List.set_cons_zero, List.set_cons_succ]
      refine wpAnyH_take (i := 3) (v := ?v15) rfl (by kernel_rfl) (by kernel_rfl) (by kernel_rfl) (fun _ _ _ h => h) (Or.inl ⟨by rfl, ?y15⟩) (by assumption) ?rest15
      case y15 => (intro w hSw; have hT0 := (Mem.bl_row hSw hrr (by first | exact Mem.Row.lt hrr | omega | (simp <;> omega))).cell 0 rfl; have hT1 := (Mem.bl_row hSw hrr (by first | exact Mem.Row.lt hrr | omega | (simp <;> omega))).cell 2 rfl; have hT2 := (Mem.bl_row hSw hrr (by first | exact Mem.Row.lt hrr | omega | (simp <;> omega))).cell 3 rfl; have hT3 := (Mem.bl_row hSw hrr (by first | exact Mem.Row.lt hrr | omega | (simp <;> omega))).cell 4 rfl; clear hSw; go_simp; try with_reducible rfl)
      case' rest15 => skip
      try simp only [List.getElem_toArray, List.getElem_cons_succ, List.getElem_cons_zero, Act.put, List.setIfInBounds_toArray, List.set_cons_zero, List.set_cons_succ]
      first
        | refine' wpAnyH_take (i := 4) (v := _) rfl (by kernel_rfl) (by kernel_rfl) (by kernel_rfl) (fun _ _ _ h => h) (yieldsIf_load_mid (by rfl) _ _ rfl _ _ rfl _ _ (fun w hSw => (Mem.bl_row hSw k7d (by first | exact Mem.Row.lt k7d | omega | (simp <;> omega))).range) blkUnd rfl hi) (by assumption) ?rest16
        | refine wpAnyH_take (i := 4) (v := undef) rfl (by kernel_rfl) (by kernel_rfl) (by kernel_rfl) (fun _ _ _ h => h) (Or.inr ⟨by rfl, rfl⟩) (by assumption) ?rest16
      case' rest16 => skip
      try simp only [List.getElem_toArray, List.getElem_cons_succ, List.getElem_cons_zero, Act.put, List.setIfInBounds_toArray, List.set_cons_zero, List.set_cons_succ]
      first
        | refine wpAnyH_take (i := 5) (v := undef) rfl (by kernel_rfl) (by kernel_rfl) (by kernel_rfl) (fun _ _ _ h => h) (Or.inr ⟨by rfl, rfl⟩) (by assumption) ?rest17
        | (refine wpAnyH_take (i := 5) (v := ?v17) rfl (by kernel_rfl) (by kernel_rfl) (by kernel_rfl) (fun _ _ _ h => h) (Or.inl ⟨by rfl, ?y17⟩) (by assumption) ?rest17; case y17 => (intro w hSw; have hT0 := (Mem.bl_row hSw hrr (by first | exact Mem.Row.lt hrr | omega | (simp <;> omega))).cell 0 rfl; have hT1 := (Mem.bl_row hSw hrr (by first | exact Mem.Row.lt hrr | omega | (simp <;> omega))).cell 2 rfl; have hT2 := (Mem.bl_row hSw hrr (by first | exact Mem.Row.lt hrr | omega | (simp <;> omega))).cell 3 rfl; have hT3 := (Mem.bl_row hSw hrr (by first | exact Mem.Row.lt hrr | omega | (simp <;> omega))).cell 4 rfl; clear hSw; go_simp; try with_reducible rfl))
      case' rest17 => skip
      try simp only [List.getElem_toArray, List.getElem_cons_succ, List.getElem_cons_zero, Act.put, List.setIfInBounds_toArray, List.set_cons_zero, List.set_cons_succ]
      refine wpAnyH_ready (rs := [6]) (by kernel_rfl) (by simp) ?_
      refine AllReadyH.cons rfl (fun K hK => ?_) AllReadyH.nil
      go_simp
      (refine (full_any v hvb _).mono ?_; rintro e wb ⟨rfl, hbl⟩)
      try go_wp2_with fail
      have hSnew := Mem.bl_step hHeld hbl (by first | exact Nat.le_refl _ | omega | (simp <;> omega))
      refine hK.out _ _ ?_ (fun hHeld2 => ?_)
      · exact hSnew
      try replace hdd := hdd.below hbl
      clear hbl
      clear hK K hHeld hSnew
      have hHeld := hHeld2
      clear hHeld2
      try simp only [List.getElem_toArray, List.getElem_cons_succ, List.getElem_cons_zero, Act.put, List.setIfInBounds_toArray, List.set_cons_zero, List.set_cons_succ]
      first
        | refine wpAnyH_take (i := 7) (v := undef) rfl (by kernel_rfl) (by kernel_rfl) (by kernel_rfl) (fun _ _ _ h => h) (Or.inr ⟨by rfl, rfl⟩) (by assumption) ?rest18
        | (refine wpAnyH_take (i := 7) (v := ?v18) rfl (by kernel_rfl) (by kernel_rfl) (by kernel_rfl) (fun _ _ _ h => h) (Or.inl ⟨by rfl, ?y18⟩) (by assumption) ?rest18; case y18 => (intro w hSw; have hT0 := (Mem.bl_row hSw hrr (by first | exact Mem.Row.lt hrr | omega | (simp <;> omega))).cell 0 rfl; have hT1 := (Mem.bl_row hSw hrr (by first | exact Mem.Row.lt hrr | omega | (simp <;> omega))).cell 2 rfl; have hT2 := (Mem.bl_row hSw hrr (by first | exact Mem.Row.lt hrr | omega | (simp <;> omega))).cell 3 rfl; have hT3 := (Mem.bl_row hSw hrr (by first | exact Mem.Row.lt hrr | omega | (simp <;> omega))).cell 4 rfl; clear hSw; go_simp; try with_reducible rfl))
      case' rest18 => skip
      try simp only [List.getElem_toArray, List.getElem_cons_succ, List.getElem_cons_zero, Act.put, List.setIfInBounds_toArray, List.set_cons_zero, List.set_cons_succ]
      refine wpAnyH_take (i := 8) (v := ?v19) rfl (by kernel_rfl) (by kernel_rfl) (by kernel_rfl) (fun _ _ _ h => h) (Or.inl ⟨by rfl, ?y19⟩) (by assumption) ?rest19
      case y19 => (intro w hSw; have hT0 := (Mem.bl_row hSw hrr (by first | exact Mem.Row.lt hrr | omega | (simp <;> omega))).cell 0 rfl; have hT1 := (Mem.bl_row hSw hrr (by first | exact Mem.Row.lt hrr | omega | (simp <;> omega))).cell 2 rfl; have hT2 := (Mem.bl_row hSw hrr (by first | exact Mem.Row.lt hrr | omega | (simp <;> omega))).cell 3 rfl; have hT3 := (Mem.bl_row hSw hrr (by first | exact Mem.Row.lt hrr | omega | (simp <;> omega))).cell 4 rfl; clear hSw; go_simp; try with_reducible rfl)
      case' rest19 => skip
      try simp only [List.getElem_toArray, List.getElem_cons_succ, List.getElem_cons_zero, Act.put, List.setIfInBounds_toArray, List.set_cons_zero, List.set_cons_succ]
      refine wpAnyH_take (i := 9) (v := ?v20) rfl (by kernel_rfl) (by kernel_rfl) (by kernel_rfl) (fun _ _ _ h => h) (Or.inl ⟨by rfl, ?y20⟩) (by assumption) ?rest20
      case y20 => (intro w hSw; have hT0 := (Mem.bl_row hSw hrr (by first | exact Mem.Row.lt hrr | omega | (simp <;> omega))).cell 0 rfl; have hT1 := (Mem.bl_row hSw hrr (by first | exact Mem.Row.lt hrr | omega | (simp <;> omega))).cell 2 rfl; have hT2 := (Mem.bl_row hSw hrr (by first | exact Mem.Row.lt hrr | omega | (simp <;> omega))).cell 3 rfl; have hT3 := (Mem.bl_row hSw hrr (by first | exact Mem.Row.lt hrr | omega | (simp <;> omega))).cell 4 rfl; clear hSw; go_simp; try with_reducible rfl)
      case' rest20 => skip
      try simp only [List.getElem_toArray, List.getElem_cons_succ, List.getElem_cons_zero, Act.put, List.setIfInBounds_toArray, List.set_cons_zero, List.set_cons_succ]
      first
        | refine wpAnyH_take (i := 10) (v := undef) rfl (by kernel_rfl) (by kernel_rfl) (by kernel_rfl) (fun _ _ _ h => h) (Or.inr ⟨by rfl, rfl⟩) (by assumption) ?rest21
        | (refine wpAnyH_take (i := 10) (v := ?v21) rfl (by kernel_rfl) (by kernel_rfl) (by kernel_rfl) (fun _ _ _ h => h) (Or.inl ⟨by rfl, ?y21⟩) (by assumption) ?rest21; case y21 => (intro w hSw; have hT0 := (Mem.bl_row hSw hrr (by first | exact Mem.Row.lt hrr | omega | (simp <;> omega))).cell 0 rfl; have hT1 := (Mem.bl_row hSw hrr (by first | exact Mem.Row.lt hrr | omega | (simp <;> omega))).cell 2 rfl; have hT2 := (Mem.bl_row hSw hrr (by first | exact Mem.Row.lt hrr | omega | (simp <;> omega))).cell 3 rfl; have hT3 := (Mem.bl_row hSw hrr (by first | exact Mem.Row.lt hrr | omega | (simp <;> omega))).cell 4 rfl; clear hSw; go_simp; try with_reducible rfl))
      case' rest21 => skip
      try simp only [List.getElem_toArray, List.getElem_cons_succ, List.getElem_cons_zero, Act.put, List.setIfInBounds_toArray, List.set_cons_zero, List.set_cons_succ]
      first
        | refine wpAnyH_take (i := 12) (v := undef) rfl (by kernel_rfl) (by kernel_rfl) (by kernel_rfl) (fun _ _ _ h => h) (Or.inr ⟨by rfl, rfl⟩) (by assumption) ?rest22
        | (refine wpAnyH_take (i := 12) (v := ?v22) rfl (by kernel_rfl) (by kernel_rfl) (by kernel_rfl) (fun _ _ _ h => h) (Or.inl ⟨by rfl, ?y22⟩) (by assumption) ?rest22; case y22 => (intro w hSw; have hT0 := (Mem.bl_row hSw hrr (by first | exact Mem.Row.lt hrr | omega | (simp <;> omega))).cell 0 rfl; have hT1 := (Mem.bl_row hSw hrr (by first | exact Mem.Row.lt hrr | omega | (simp <;> omega))).cell 2 rfl; have hT2 := (Mem.bl_row hSw hrr (by first | exact Mem.Row.lt hrr | omega | (simp <;> omega))).cell 3 rfl; have hT3 := (Mem.bl_row hSw hrr (by first | exact Mem.Row.lt hrr | omega | (simp <;> omega))).cell 4 rfl; clear hSw; go_simp; try with_reducible rfl))
      case' rest22 => skip
      try simp only [List.getElem_toArray, List.getElem_cons_succ, List.getElem_cons_zero, Act.put, List.setIfInBounds_toArray, List.set_cons_zero, List.set_cons_succ]
      first
        | refine wpAnyH_take (i := 13) (v := undef) rfl (by kernel_rfl) (by kernel_rfl) (by kernel_rfl) (fun _ _ _ h => h) (Or.inr ⟨by rfl, rfl⟩) (by assumption) ?rest23
        | (refine wpAnyH_take (i := 13) (v := ?v23) rfl (by kernel_rfl) (by kernel_rfl) (by kernel_rfl) (fun _ _ _ h => h) (Or.inl ⟨by rfl, ?y23⟩) (by assumption) ?rest23; case y23 => (intro w hSw; have hT0 := (Mem.bl_row hSw hrr (by first | exact Mem.Row.lt hrr | omega | (simp <;> omega))).cell 0 rfl; have hT1 := (Mem.bl_row hSw hrr (by first | exact Mem.Row.lt hrr | omega | (simp <;> omega))).cell 2 rfl; have hT2 := (Mem.bl_row hSw hrr (by first | exact Mem.Row.lt hrr | omega | (simp <;> omega))).cell 3 rfl; have hT3 := (Mem.bl_row hSw hrr (by first | exact Mem.Row.lt hrr | omega | (simp <;> omega))).cell 4 rfl; clear hSw; go_simp; try with_reducible rfl))
      case' rest23 => skip
      try simp only [List.getElem_toArray, List.getElem_cons_succ, List.getElem_cons_zero, Act.put, List.setIfInBounds_toArray, List.set_cons_zero, List.set_cons_succ]
      refine wpAnyH_ready (rs := [11]) (by kernel_rfl) (by simp) ?_
      refine AllReadyH.cons rfl (fun K hK => ?_) AllReadyH.nil
      go_simp
      (refine (CDn.out _ hdd).mono ?_; rintro e wb ⟨rfl, hbl⟩)
      try go_wp2_with fail
      have hSnew := Mem.bl_step hHeld hbl (by first | exact Nat.le_refl _ | omega | (simp <;> omega))
      refine hK.out _ _ ?_ (fun hHeld2 => ?_)
      · exact hSnew
      try replace hdd := hdd.below hbl
      clear hbl
      clear hK K hHeld hSnew
      have hHeld := hHeld2
      clear hHeld2
      try simp only [List.getElem_toArray, List.getElem_cons_succ, List.getElem_cons_zero, Act.put, List.setIfInBounds_toArray, List.set_cons_zero, List.set_cons_succ]
      first
        | refine wpAnyH_take (i := 14) (v := undef) rfl (by kernel_rfl) (by kernel_rfl) (by kernel_rfl) (fun _ _ _ h => h) (Or.inr ⟨by rfl, rfl⟩) (by assumption) ?rest24
        | (refine wpAnyH_take (i := 14) (v := ?v24) rfl (by kernel_rfl) (by kernel_rfl) (by kernel_rfl) (fun _ _ _ h => h) (Or.inl ⟨by rfl, ?y24⟩) (by assumption) ?rest24; case y24 => (intro w hSw; have hT0 := (Mem.bl_row hSw hrr (by first | exact Mem.Row.lt hrr | omega | (simp <;> omega))).cell 0 rfl; have hT1 := (Mem.bl_row hSw hrr (by first | exact Mem.Row.lt hrr | omega | (simp <;> omega))).cell 2 rfl; have hT2 := (Mem.bl_row hSw hrr (by first | exact Mem.Row.lt hrr | omega | (simp <;> omega))).cell 3 rfl; have hT3 := (Mem.bl_row hSw hrr (by first | exact Mem.Row.lt hrr | omega | (simp <;> omega))).cell 4 rfl; clear hSw; go_simp; try with_reducible rfl))
      case' rest24 => skip
      try simp only [List.getElem_toArray, List.getElem_cons_succ, List.getElem_cons_zero, Act.put, List.setIfInBounds_toArray, List.set_cons_zero, List.set_cons_succ]
      refine wpAnyH_take (i := 15) (v := ?v25) rfl (by kernel_rfl) (by kernel_rfl) (by kernel_rfl) (fun _ _ _ h => h) (Or.inl ⟨by rfl, ?y25⟩) (by assumption) ?rest25
      case y25 => (intro w hSw; have hT0 := (Mem.bl_row hSw hrr (by first | exact Mem.Row.lt hrr | omega | (simp <;> omega))).cell 0 rfl; have hT1 := (Mem.bl_row hSw hrr (by first | exact Mem.Row.lt hrr | omega | (simp <;> omega))).cell 2 rfl; have hT2 := (Mem.bl_row hSw hrr (by first | exact Mem.Row.lt hrr | omega | (simp <;> omega))).cell 3 rfl; have hT3 := (Mem.bl_row hSw hrr (by first | exact Mem.Row.lt hrr | omega | (simp <;> omega))).cell 4 rfl; clear hSw; go_simp; try with_reducible rfl)
      case' rest25 => skip
      try simp only [List.getElem_toArray, List.getElem_cons_succ, List.getElem_cons_zero, Act.put, List.setIfInBounds_toArray, List.set_cons_zero, List.set_cons_succ]
      refine wpAnyH_take (i := 16) (v := ?v26) rfl (by kernel_rfl) (by kernel_rfl) (by kernel_rfl) (fun _ _ _ h => h) (Or.inl ⟨by rfl, ?y26⟩) (by assumption) ?rest26
      case y26 => (intro w hSw; have hT0 := (Mem.bl_row hSw hrr (by first | exact Mem.Row.lt hrr | omega | (simp <;> omega))).cell 0 rfl; have hT1 := (Mem.bl_row hSw hrr (by first | exact Mem.Row.lt hrr | omega | (simp <;> omega))).cell 2 rfl; have hT2 := (Mem.bl_row hSw hrr (by first | exact Mem.Row.lt hrr | omega | (simp <;> omega))).cell 3 rfl; have hT3 := (Mem.bl_row hSw hrr (by first | exact Mem.Row.lt hrr | omega | (simp <;> omega))).cell 4 rfl; clear hSw; go_simp; try with_reducible rfl)
      case' rest26 => skip
      try simp only [List.getElem_toArray, List.getElem_cons_succ, List.getElem_cons_zero, Act.put, List.setIfInBounds_toArray, List.set_cons_zero, List.set_cons_succ]
      first
        | refine wpAnyH_take (i := 17) (v := undef) rfl (by kernel_rfl) (by kernel_rfl) (by kernel_rfl) (fun _ _ _ h => h) (Or.inr ⟨by rfl, rfl⟩) (by assumption) ?rest27
        | (refine wpAnyH_take (i := 17) (v := ?v27) rfl (by kernel_rfl) (by kernel_rfl) (by kernel_rfl) (fun _ _ _ h => h) (Or.inl ⟨by rfl, ?y27⟩) (by assumption) ?rest27; case y27 => (intro w hSw; have hT0 := (Mem.bl_row hSw hrr (by first | exact Mem.Row.lt hrr | omega | (simp <;> omega))).cell 0 rfl; have hT1 := (Mem.bl_row hSw hrr (by first | exact Mem.Row.lt hrr | omega | (simp <;> omega))).cell 2 rfl; have hT2 := (Mem.bl_row hSw hrr (by first | exact Mem.Row.lt hrr | omega | (simp <;> omega))).cell 3 rfl; have hT3 := (Mem.bl_row hSw hrr (by first | exact Mem.Row.lt hrr | omega | (simp <;> omega))).cell 4 rfl; clear hSw; go_simp; try with_reducible rfl))
      case' rest27 => skip
      try simp only [List.getElem_toArray, List.getElem_cons_succ, List.getElem_cons_zero, Act.put, List.setIfInBounds_toArray, List.set_cons_zero, List.set_cons_succ]
      first
        | refine wpAnyH_take (i := 19) (v := undef) rfl (by kernel_rfl) (by kernel_rfl) (by kernel_rfl) (fun _ _ _ h => h) (Or.inr ⟨by rfl, rfl⟩) (by assumption) ?rest28
        | (refine wpAnyH_take (i := 19) (v := ?v28) rfl (by kernel_rfl) (by kernel_rfl) (by kernel_rfl) (fun _ _ _ h => h) (Or.inl ⟨by rfl, ?y28⟩) (by assumption) ?rest28; case y28 => (intro w hSw; have hT0 := (Mem.bl_row hSw hrr (by first | exact Mem.Row.lt hrr | omega | (simp <;> omega))).cell 0 rfl; have hT1 := (Mem.bl_row hSw hrr (by first | exact Mem.Row.lt hrr | omega | (simp <;> omega))).cell 2 rfl; have hT2 := (Mem.bl_row hSw hrr (by first | exact Mem.Row.lt hrr | omega | (simp <;> omega))).cell 3 rfl; have hT3 := (Mem.bl_row hSw hrr (by first | exact Mem.Row.lt hrr | omega | (simp <;> omega))).cell 4 rfl; clear hSw; go_simp; try with_reducible rfl))
      case' rest28 => skip
      try simp only [List.getElem_toArray, List.getElem_cons_succ, List.getElem_cons_zero, Act.put, List.setIfInBounds_toArray, List.set_cons_zero, List.set_cons_succ]
      first
        | refine wpAnyH_take (i := 20) (v := undef) rfl (by kernel_rfl) (by kernel_rfl) (by kernel_rfl) (fun _ _ _ h => h) (Or.inr ⟨by rfl, rfl⟩) (by assumption) ?rest29
        | (refine wpAnyH_take (i := 20) (v := ?v29) rfl (by kernel_rfl) (by kernel_rfl) (by kernel_rfl) (fun _ _ _ h => h) (Or.inl ⟨by rfl, ?y29⟩) (by assumption) ?rest29; case y29 => (intro w hSw; have hT0 := (Mem.bl_row hSw hrr (by first | exact Mem.Row.lt hrr | omega | (simp <;> omega))).cell 0 rfl; have hT1 := (Mem.bl_row hSw hrr (by first | exact Mem.Row.lt hrr | omega | (simp <;> omega))).cell 2 rfl; have hT2 := (Mem.bl_row hSw hrr (by first | exact Mem.Row.lt hrr | omega | (simp <;> omega))).cell 3 rfl; have hT3 := (Mem.bl_row hSw hrr (by first | exact Mem.Row.lt hrr | omega | (simp <;> omega))).cell 4 rfl; clear hSw; go_simp; try with_reducible rfl))
      case' rest29 => skip
      try simp only [List.getElem_toArray, List.getElem_cons_succ, List.getElem_cons_zero, Act.put, List.setIfInBounds_toArray, List.set_cons_zero, List.set_cons_succ]
      refine wpAnyH_ready (rs := [18]) (by kernel_rfl) (by simp) ?_
      refine AllReadyH.cons rfl (fun K hK => ?_) AllReadyH.nil
      go_simp
      (refine (CWr.out _ hdd).mono ?_; rintro e wb ⟨rfl, hbl⟩)
      try go_wp2_with fail
      have hSnew := Mem.bl_step hHeld hbl (by first | exact Nat.le_refl _ | omega | (simp <;> omega))
      refine hK.out _ _ ?_ (fun hHeld2 => ?_)
      · exact hSnew
      try replace hdd := hdd.below hbl
      clear hbl
      clear hK K hHeld hSnew
      have hHeld := hHeld2
      clear hHeld2
      try simp only [List.getElem_toArray, List.getElem_cons_succ, List.getElem_cons_zero, Act.put, List.setIfInBounds_toArray, List.set_cons_zero, List.set_cons_succ]
      first
        | refine wpAnyH_take (i := 21) (v := undef) rfl (by kernel_rfl) (by kernel_rfl) (by kernel_rfl) (fun _ _ _ h => h) (Or.inr ⟨by rfl, rfl⟩) (by assumption) ?rest30
        | (refine wpAnyH_take (i := 21) (v := ?v30) rfl (by kernel_rfl) (by kernel_rfl) (by kernel_rfl) (fun _ _ _ h => h) (Or.inl ⟨by rfl, ?y30⟩) (by assumption) ?rest30; case y30 => (intro w hSw; have hT0 := (Mem.bl_row hSw hrr (by first | exact Mem.Row.lt hrr | omega | (simp <;> omega))).cell 0 rfl; have hT1 := (Mem.bl_row hSw hrr (by first | exact Mem.Row.lt hrr | omega | (simp <;> omega))).cell 2 rfl; have hT2 := (Mem.bl_row hSw hrr (by first | exact Mem.Row.lt hrr | omega | (simp <;> omega))).cell 3 rfl; have hT3 := (Mem.bl_row hSw hrr (by first | exact Mem.Row.lt hrr | omega | (simp <;> omega))).cell 4 rfl; clear hSw; go_simp; try with_reducible rfl))
      case' rest30 => skip
      try simp only [List.getElem_toArray, List.getElem_cons_succ, List.getElem_cons_zero, Act.put, List.setIfInBounds_toArray, List.set_cons_zero, List.set_cons_succ]
      refine wpAnyH_take (i := 22) (v := ?v31) rfl (by kernel_rfl) (by kernel_rfl) (by kernel_rfl) (fun _ _ _ h => h) (Or.inl ⟨by rfl, ?y31⟩) (by assumption) ?rest31
      case y31 => (intro w hSw; have hT0 := (Mem.bl_row hSw hrr (by first | exact Mem.Row.lt hrr | omega | (simp <;> omega))).cell 0 rfl; have hT1 := (Mem.bl_row hSw hrr (by first | exact Mem.Row.lt hrr | omega | (simp <;> omega))).cell 2 rfl; have hT2 := (Mem.bl_row hSw hrr (by first | exact Mem.Row.lt hrr | omega | (simp <;> omega))).cell 3 rfl; have hT3 := (Mem.bl_row hSw hrr (by first | exact Mem.Row.lt hrr | omega | (simp <;> omega))).cell 4 rfl; clear hSw; go_simp; try with_reducible rfl)
      case' rest31 => skip
      try simp only [List.getElem_toArray, List.getElem_cons_succ, List.getElem_cons_zero, Act.put, List.setIfInBounds_toArray, List.set_cons_zero, List.set_cons_succ]
      refine wpAnyH_take (i := 23) (v := ?v32) rfl (by kernel_rfl) (by kernel_rfl) (by kernel_rfl) (fun _ _ _ h => h) (Or.inl ⟨by rfl, ?y32⟩) (by assumption) ?rest32
      case y32 => (intro w hSw; have hT0 := (Mem.bl_row hSw hrr (by first | exact Mem.Row.lt hrr | omega | (simp <;> omega))).cell 0 rfl; have hT1 := (Mem.bl_row hSw hrr (by first | exact Mem.Row.lt hrr | omega | (simp <;> omega))).cell 2 rfl; have hT2 := (Mem.bl_row hSw hrr (by first | exact Mem.Row.lt hrr | omega | (simp <;> omega))).cell 3 rfl; have hT3 := (Mem.bl_row hSw hrr (by first | exact Mem.Row.lt hrr | omega | (simp <;> omega))).cell 4 rfl; clear hSw; go_simp; try with_reducible rfl)
      case' rest32 => skip
      try simp only [List.getElem_toArray, List.getElem_cons_succ, List.getElem_cons_zero, Act.put, List.setIfInBounds_toArray, List.set_cons_zero, List.set_cons_succ]
      first
        | refine wpAnyH_take (i := 24) (v := undef) rfl (by kernel_rfl) (by kernel_rfl) (by kernel_rfl) (fun _ _ _ h => h) (Or.inr ⟨by rfl, rfl⟩) (by assumption) ?rest33
        | (refine wpAnyH_take (i := 24) (v := ?v33) rfl (by kernel_rfl) (by kernel_rfl) (by kernel_rfl) (fun _ _ _ h => h) (Or.inl ⟨by rfl, ?y33⟩) (by assumption) ?rest33; case y33 => (intro w hSw; have hT0 := (Mem.bl_row hSw hrr (by first | exact Mem.Row.lt hrr | omega | (simp <;> omega))).cell 0 rfl; have hT1 := (Mem.bl_row hSw hrr (by first | exact Mem.Row.lt hrr | omega | (simp <;> omega))).cell 2 rfl; have hT2 := (Mem.bl_row hSw hrr (by first | exact Mem.Row.lt hrr | omega | (simp <;> omega))).cell 3 rfl; have hT3 := (Mem.bl_row hSw hrr (by first | exact Mem.Row.lt hrr | omega | (simp <;> omega))).cell 4 rfl; clear hSw; go_simp; try with_reducible rfl))
      case' rest33 => skip
      try simp only [List.getElem_toArray, List.getElem_cons_succ, List.getElem_cons_zero, Act.put, List.setIfInBounds_toArray, List.set_cons_zero, List.set_cons_succ]
      first
        | refine wpAnyH_take (i := 26) (v := undef) rfl (by kernel_rfl) (by kernel_rfl) (by kernel_rfl) (fun _ _ _ h => h) (Or.inr ⟨by rfl, rfl⟩) (by assumption) ?rest34
        | (refine wpAnyH_take (i := 26) (v := ?v34) rfl (by kernel_rfl) (by kernel_rfl) (by kernel_rfl) (fun _ _ _ h => h) (Or.inl ⟨by rfl, ?y34⟩) (by assumption) ?rest34; case y34 => (intro w hSw; have hT0 := (Mem.bl_row hSw hrr (by first | exact Mem.Row.lt hrr | omega | (simp <;> omega))).cell 0 rfl; have hT1 := (Mem.bl_row hSw hrr (by first | exact Mem.Row.lt hrr | omega | (simp <;> omega))).cell 2 rfl; have hT2 := (Mem.bl_row hSw hrr (by first | exact Mem.Row.lt hrr | omega | (simp <;> omega))).cell 3 rfl; have hT3 := (Mem.bl_row hSw hrr (by first | exact Mem.Row.lt hrr | omega | (simp <;> omega))).cell 4 rfl; clear hSw; go_simp; try with_reducible rfl))
      case' rest34 => skip
      try simp only [List.getElem_toArray, List.getElem_cons_succ, List.getElem_cons_zero, Act.put, List.setIfInBounds_toArray, List.set_cons_zero, List.set_cons_succ]
      first
        | refine wpAnyH_take (i := 27) (v := undef) rfl (by kernel_rfl) (by kernel_rfl) (by kernel_rfl) (fun _ _ _ h => h) (Or.inr ⟨by rfl, rfl⟩) (by assumption) ?rest35
        | (refine wpAnyH_take (i := 27) (v := ?v35) rfl (by kernel_rfl) (by kernel_rfl) (by kernel_rfl) (fun _ _ _ h => h) (Or.inl ⟨by rfl, ?y35⟩) (by assumption) ?rest35; case y35 => (intro w hSw; have hT0 := (Mem.bl_row hSw hrr (by first | exact Mem.Row.lt hrr | omega | (simp <;> omega))).cell 0 rfl; have hT1 := (Mem.bl_row hSw hrr (by first | exact Mem.Row.lt hrr | omega | (simp <;> omega))).cell 2 rfl; have hT2 := (Mem.bl_row hSw hrr (by first | exact Mem.Row.lt hrr | omega | (simp <;> omega))).cell 3 rfl; have hT3 := (Mem.bl_row hSw hrr (by first | exact Mem.Row.lt hrr | omega | (simp <;> omega))).cell 4 rfl; clear hSw; go_simp; try with_reducible rfl))
      case' rest35 => skip
      try simp only [List.getElem_toArray, List.getElem_cons_succ, List.getElem_cons_zero, Act.put, List.setIfInBounds_toArray, List.set_cons_zero, List.set_cons_succ]
      refine wpAnyH_ready (rs := [25]) (by kernel_rfl) (by simp) ?_
      refine AllReadyH.cons rfl (fun K hK => ?_) AllReadyH.nil
      go_simp
      (refine (CRd.out _ hdd).mono ?_; rintro e wb ⟨rfl, hbl⟩)
      try go_wp2_with fail
      have hSnew := Mem.bl_step hHeld hbl (by first | exact Nat.le_refl _ | omega | (simp <;> omega))
      refine hK.out _ _ ?_ (fun hHeld2 => ?_)
      · exact hSnew
      try replace hdd := hdd.below hbl
      clear hbl
      clear hK K hHeld hSnew
      have hHeld := hHeld2
      clear hHeld2
      try simp only [List.getElem_toArray, List.getElem_cons_succ, List.getElem_cons_zero, Act.put, List.setIfInBounds_toArray, List.set_cons_zero, List.set_cons_succ]
      first
        | refine wpAnyH_take (i := 28) (v := undef) rfl (by kernel_rfl) (by kernel_rfl) (by kernel_rfl) (fun _ _ _ h => h) (Or.inr ⟨by rfl, rfl⟩) (by assumption) ?rest36
        | (refine wpAnyH_take (i := 28) (v := ?v36) rfl (by kernel_rfl) (by kernel_rfl) (by kernel_rfl) (fun _ _ _ h => h) (Or.inl ⟨by rfl, ?y36⟩) (by assumption) ?rest36; case y36 => (intro w hSw; have hT0 := (Mem.bl_row hSw hrr (by first | exact Mem.Row.lt hrr | omega | (simp <;> omega))).cell 0 rfl; have hT1 := (Mem.bl_row hSw hrr (by first | exact Mem.Row.lt hrr | omega | (simp <;> omega))).cell 2 rfl; have hT2 := (Mem.bl_row hSw hrr (by first | exact Mem.Row.lt hrr | omega | (simp <;> omega))).cell 3 rfl; have hT3 := (Mem.bl_row hSw hrr (by first | exact Mem.Row.lt hrr | omega | (simp <;> omega))).cell 4 rfl; clear hSw; go_simp; try with_reducible rfl))
      case' rest36 => skip
      try simp only [List.getElem_toArray, List.getElem_cons_succ, List.getElem_cons_zero, Act.put, List.setIfInBounds_toArray, List.set_cons_zero, List.set_cons_succ]
      refine wpAnyH_take (i := 29) (v := ?v37) rfl (by kernel_rfl) (by kernel_rfl) (by kernel_rfl) (fun _ _ _ h => h) (Or.inl ⟨by rfl, ?y37⟩) (by assumption) ?rest37
      case y37 => (intro w hSw; have hT0 := (Mem.bl_row hSw hrr (by first | exact Mem.Row.lt hrr | omega | (simp <;> omega))).cell 0 rfl; have hT1 := (Mem.bl_row hSw hrr (by first | exact Mem.Row.lt hrr | omega | (simp <;> omega))).cell 2 rfl; have hT2 := (Mem.bl_row hSw hrr (by first | exact Mem.Row.lt hrr | omega | (simp <;> omega))).cell 3 rfl; have hT3 := (Mem.bl_row hSw hrr (by first | exact Mem.Row.lt hrr | omega | (simp <;> omega))).cell 4 rfl; clear hSw; go_simp; try with_reducible rfl)
      case' rest37 => skip
      try simp only [List.getElem_toArray, List.getElem_cons_succ, List.getElem_cons_zero, Act.put, List.setIfInBounds_toArray, List.set_cons_zero, List.set_cons_succ]
      refine wpAnyH_take (i := 30) (v := ?v38) rfl (by kernel_rfl) (by kernel_rfl) (by kernel_rfl) (fun _ _ _ h => h) (Or.inl ⟨by rfl, ?y38⟩) (by assumption) ?rest38
      case y38 => (intro w hSw; have hT0 := (Mem.bl_row hSw hrr (by first | exact Mem.Row.lt hrr | omega | (simp <;> omega))).cell 0 rfl; have hT1 := (Mem.bl_row hSw hrr (by first | exact Mem.Row.lt hrr | omega | (simp <;> omega))).cell 2 rfl; have hT2 := (Mem.bl_row hSw hrr (by first | exact Mem.Row.lt hrr | omega | (simp <;> omega))).cell 3 rfl; have hT3 := (Mem.bl_row hSw hrr (by first | exact Mem.Row.lt hrr | omega | (simp <;> omega))).cell 4 rfl; clear hSw; go_simp; try with_reducible rfl)
      case' rest38 => skip
      try simp only [List.getElem_toArray, List.getElem_cons_succ, List.getElem_cons_zero, Act.put, List.setIfInBounds_toArray, List.set_cons_zero, List.set_cons_succ]
      first
        | refine wpAnyH_take (i := 31) (v := undef) rfl (by kernel_rfl) (by kernel_rfl) (by kernel_rfl) (fun _ _ _ h => h) (Or.inr ⟨by rfl, rfl⟩) (by assumption) ?rest39
        | (refine wpAnyH_take (i := 31) (v := ?v39) rfl (by kernel_rfl) (by kernel_rfl) (by kernel_rfl) (fun _ _ _ h => h) (Or.inl ⟨by rfl, ?y39⟩) (by assumption) ?rest39; case y39 => (intro w hSw; have hT0 := (Mem.bl_row hSw hrr (by first | exact Mem.Row.lt hrr | omega | (simp <;> omega))).cell 0 rfl; have hT1 := (Mem.bl_row hSw hrr (by first | exact Mem.Row.lt hrr | omega | (simp <;> omega))).cell 2 rfl; have hT2 := (Mem.bl_row hSw hrr (by first | exact Mem.Row.lt hrr | omega | (simp <;> omega))).cell 3 rfl; have hT3 := (Mem.bl_row hSw hrr (by first | exact Mem.Row.lt hrr | omega | (simp <;> omega))).cell 4 rfl; clear hSw; go_simp; try with_reducible rfl))
      case' rest39 => skip
      try simp only [List.getElem_toArray, List.getElem_cons_succ, List.getElem_cons_zero, Act.put, List.setIfInBounds_toArray, List.set_cons_zero, List.set_cons_succ]
      first
        | refine wpAnyH_take (i := 33) (v := undef) rfl (by kernel_rfl) (by kernel_rfl) (by kernel_rfl) (fun _ _ _ h => h) (Or.inr ⟨by rfl, rfl⟩) (by assumption) ?rest40
        | (refine wpAnyH_take (i := 33) (v := ?v40) rfl (by kernel_rfl) (by kernel_rfl) (by kernel_rfl) (fun _ _ _ h => h) (Or.inl ⟨by rfl, ?y40⟩) (by assumption) ?rest40; case y40 => (intro w hSw; have hT0 := (Mem.bl_row hSw hrr (by first | exact Mem.Row.lt hrr | omega | (simp <;> omega))).cell 0 rfl; have hT1 := (Mem.bl_row hSw hrr (by first | exact Mem.Row.lt hrr | omega | (simp <;> omega))).cell 2 rfl; have hT2 := (Mem.bl_row hSw hrr (by first | exact Mem.Row.lt hrr | omega | (simp <;> omega))).cell 3 rfl; have hT3 := (Mem.bl_row hSw hrr (by first | exact Mem.Row.lt hrr | omega | (simp <;> omega))).cell 4 rfl; clear hSw; go_simp; try with_reducible rfl))
      case' rest40 => skip
      try simp only [List.getElem_toArray, List.getElem_cons_succ, List.getElem_cons_zero, Act.put, List.setIfInBounds_toArray, List.set_cons_zero, List.set_cons_succ]
      first
        | refine wpAnyH_take (i := 34) (v := undef) rfl (by kernel_rfl) (by kernel_rfl) (by kernel_rfl) (fun _ _ _ h => h) (Or.inr ⟨by rfl, rfl⟩) (by assumption) ?rest41
        | (refine wpAnyH_take (i := 34) (v := ?v41) rfl (by kernel_rfl) (by kernel_rfl) (by kernel_rfl) (fun _ _ _ h => h) (Or.inl ⟨by rfl, ?y41⟩) (by assumption) ?rest41; case y41 => (intro w hSw; have hT0 := (Mem.bl_row hSw hrr (by first | exact Mem.Row.lt hrr | omega | (simp <;> omega))).cell 0 rfl; have hT1 := (Mem.bl_row hSw hrr (by first | exact Mem.Row.lt hrr | omega | (simp <;> omega))).cell 2 rfl; have hT2 := (Mem.bl_row hSw hrr (by first | exact Mem.Row.lt hrr | omega | (simp <;> omega))).cell 3 rfl; have hT3 := (Mem.bl_row hSw hrr (by first | exact Mem.Row.lt hrr | omega | (simp <;> omega))).cell 4 rfl; clear hSw; go_simp; try with_reducible rfl))
      case' rest41 => skip
      try simp only [List.getElem_toArray, List.getElem_cons_succ, List.getElem_cons_zero, Act.put, List.setIfInBounds_toArray, List.set_cons_zero, List.set_cons_succ]
      first
        | refine wpAnyH_take (i := 35) (v := undef) rfl (by kernel_rfl) (by kernel_rfl) (by kernel_rfl) (fun _ _ _ h => h) (Or.inr ⟨by rfl, rfl⟩) (by assumption) ?rest42
        | (refine wpAnyH_take (i := 35) (v := ?v42) rfl (by kernel_rfl) (by kernel_rfl) (by kernel_rfl) (fun _ _ _ h => h) (Or.inl ⟨by rfl, ?y42⟩) (by assumption) ?rest42; case y42 => (intro w hSw; have hT0 := (Mem.bl_row hSw hrr (by first | exact Mem.Row.lt hrr | omega | (simp <;> omega))).cell 0 rfl; have hT1 := (Mem.bl_row hSw hrr (by first | exact Mem.Row.lt hrr | omega | (simp <;> omega))).cell 2 rfl; have hT2 := (Mem.bl_row hSw hrr (by first | exact Mem.Row.lt hrr | omega | (simp <;> omega))).cell 3 rfl; have hT3 := (Mem.bl_row hSw hrr (by first | exact Mem.Row.lt hrr | omega | (simp <;> omega))).cell 4 rfl; clear hSw; go_simp; try with_reducible rfl))
      case' rest42 => skip
      try simp only [List.getElem_toArray, List.getElem_cons_succ, List.getElem_cons_zero, Act.put, List.setIfInBounds_toArray, List.set_cons_zero, List.set_cons_succ]
      refine wpAnyH_ready (rs := [32]) (by kernel_rfl) (by simp) ?_
      refine AllReadyH.cons rfl (fun K hK => ?_) AllReadyH.nil
      go_simp
      (refine (CSz.out _ hdd).mono ?_; rintro e wb ⟨rfl, hbl⟩)
      try go_wp2_with fail
      have hSnew := Mem.bl_step hHeld hbl (by first | exact Nat.le_refl _ | omega | (simp <;> omega))
      refine hK.out _ _ ?_ (fun hHeld2 => ?_)
      · exact hSnew
      try replace hdd := hdd.below hbl
      clear hbl
      clear hK K hHeld hSnew
      have hHeld := hHeld2
      clear hHeld2
      try simp only [List.getElem_toArray, List.getElem_cons_succ, List.getElem_cons_zero, Act.put, List.setIfInBounds_toArray, List.set_cons_zero, List.set_cons_succ]
      first
        | refine wpAnyH_take (i := 36) (v := undef) rfl (by kernel_rfl) (by kernel_rfl) (by kernel_rfl) (fun _ _ _ h => h) (Or.inr ⟨by rfl, rfl⟩) (by assumption) ?rest43
        | (refine wpAnyH_take (i := 36) (v := ?v43) rfl (by kernel_rfl) (by kernel_rfl) (by kernel_rfl) (fun _ _ _ h => h) (Or.inl ⟨by rfl, ?y43⟩) (by assumption) ?rest43; case y43 => (intro w hSw; have hT0 := (Mem.bl_row hSw hrr (by first | exact Mem.Row.lt hrr | omega | (simp <;> omega))).cell 0 rfl; have hT1 := (Mem.bl_row hSw hrr (by first | exact Mem.Row.lt hrr | omega | (simp <;> omega))).cell 2 rfl; have hT2 := (Mem.bl_row hSw hrr (by first | exact Mem.Row.lt hrr | omega | (simp <;> omega))).cell 3 rfl; have hT3 := (Mem.bl_row hSw hrr (by first | exact Mem.Row.lt hrr | omega | (simp <;> omega))).cell 4 rfl; clear hSw; go_simp; try with_reducible rfl))
      case' rest43 => skip
      try simp only [List.getElem_toArray, List.getElem_cons_succ, List.getElem_cons_zero, Act.put, List.setIfInBounds_toArray, List.set_cons_zero, List.set_cons_succ]
      refine wpAnyH_take (i := 37) (v := ?v44) rfl (by kernel_rfl) (by kernel_rfl) (by kernel_rfl) (fun _ _ _ h => h) (Or.inl ⟨by rfl, ?y44⟩) (by assumption) ?rest44
      case y44 => (intro w hSw; have hT0 := (Mem.bl_row hSw hrr (by first | exact Mem.Row.lt hrr | omega | (simp <;> omega))).cell 0 rfl; have hT1 := (Mem.bl_row hSw hrr (by first | exact Mem.Row.lt hrr | omega | (simp <;> omega))).cell 2 rfl; have hT2 := (Mem.bl_row hSw hrr (by first | exact Mem.Row.lt hrr | omega | (simp <;> omega))).cell 3 rfl; have hT3 := (Mem.bl_row hSw hrr (by first | exact Mem.Row.lt hrr | omega | (simp <;> omega))).cell 4 rfl; clear hSw; go_simp; try with_reducible rfl)
      case' rest44 => skip
      try simp only [List.getElem_toArray, List.getElem_cons_succ, List.getElem_cons_zero, Act.put, List.setIfInBounds_toArray, List.set_cons_zero, List.set_cons_succ]
      refine wpAnyH_done (by kernel_rfl) ?_ _
      go_wp2_with fail
      go_roundw
      case rel => exact ⟨k + 1, s', g2, c2, by omega, by go_num, OK'.out, HL'.out, hdd, by rw [HFU.out, hso.out, hsw.out, hsr.out]; exact HS.out.below ((Below.refl _ _).drew.trans hHeld), HY.out.below ((Below.refl _ _).drew.trans hHeld), hm1, hm2, hm3, HB.out.trans (((Below.refl _ _).drew.trans hHeld).mono HB.out.size)⟩
      case measure => simp [intOf]; omega
    · obtain rfl : k = xs.length := by omega
      clear hx
      have HR := Lib.hid hrr
      have HY := Lib.hid hyr
      have hy0 := hyr.lt_byte
      go_wp2_with fail
      refine (image_any d g s wr hdr (by omega) (by omega)).mono ?_
      rintro e w4 ⟨gi, ci, rfl, ia4, gi4, ci1, ci2, hb4⟩
      rw [hbl] at ci1
      rw [hbl]
      have hr4 := HR.out.below hb4
      have hy4 := HY.out.below hb4
      have hb5 := hbr.trans (hb4.mono hbr.size)
      clear HR HY hdr hrr hyr hbr hb4
      have f0 : w4.cell? ⟨gx, 0, none⟩ = some (.slice (some ⟨ga, 0, none⟩) N c') := hr4.cell 0 rfl
      have T2 : Hid True := Lib.hid trivial
      go_wp2_with fail
      go_loopw [15] (fun j w5 => ∃ q : Nat, q ≤ N ∧ j = .int .i64 q ∧ Bks w5 gi s.bs ∧ Row w5 gx 46 (rC (some ⟨ga, 0, none⟩) N c' (rfu s) s.off s.wr s.rd) ∧ By w5 (some ⟨ga, 0, none⟩) s.bs ∧ Below w.heap.size w w5) (fun j _ => N - (intOf j).toNat)
      case atStart => exact ⟨0, by omega, rfl, ia4, hr4, hy4, hb5⟩
      case round =>
        obtain ⟨q, hq, rfl, ia6, hr6, hy6, hb6⟩ := hrel
        by_cases hq2 : q < N
        · have hqb : q < s.bs.length := by omega
          have r1 : wr.drew.rangeAt gi (q * 256) (blk (full s.bs[q])).toList := ia6.1 q s.bs[q] (List.getElem?_eq_getElem hqb)
          have e0 : wr.drew.cell? ⟨gx, 0, none⟩ = some (.slice (some ⟨ga, 0, none⟩) N c') := hr6.cell 0 rfl
          obtain ⟨g9, o9, hA9, hg9, e1, hv⟩ := by_cell hy6 q hqb
          injection hA9 with hA9
          injection hA9 with a1 a2
          subst a1 a2
          rw [Nat.zero_add] at e1
          have e1 : wr.drew.cell? ⟨ga, q, none⟩ = some (.int .u8 (s.bs[q] : Nat)) := e1
          have hgi := ia6.2.2
          generalize s.bs[q] = x at *
          have hfl : (full x).length = 256 := List.length_replicate
          have hi : (Try.prog.info? 30).map (·.size) = some (blk (full x)).toList.length := by rw [full_len]; exact blkSize
          have heq : ∀ w, (Op.equalIn 10000 30 (.agg (blk (full x))) (.agg (blk (full x)))).run Try.prog w = .ok true w := fun w => by rw [run_eq_blk _ _ hfl hfl, decide_eq_true rfl]
          have hgd := blkGuard
          have IA := Lib.hid ia6
          have HR := Lib.hid hr6
          have HY := Lib.hid hy6
          have HB := Lib.hid hb6
          clear ia6 hr6 hy6 hb6 ia4 hr4 hy4 hb5 f0
          go_wp2_with fail
          refine wp_region_held_drew (S := Go.RowKit.Below ((wr.drew).heap.size) (wr.drew)) (by kernel_rfl) ?hb51 (fun hHeld => ?rest51)
          case hb51 =>
            exact Go.RowKit.Below.refl _ _
          case' rest51 => skip
          refine wpAnyH_take (i := 0) (v := ?v52) rfl (by kernel_rfl) (by kernel_rfl) (by kernel_rfl) (fun _ _ _ h => h) (Or.inl ⟨by rfl, ?y52⟩) (by assumption) ?rest52
          case y52 => (intro w hSw; have hT0 := Mem.bl_cell hSw e0 (by first | omega | exact World.block_lt_of_cell? _ _ e0 | (simp <;> omega)); have hT1 := Mem.bl_cell hSw e1 (by first | omega | exact World.block_lt_of_cell? _ _ e1 | (simp <;> omega)); clear hSw; go_simp; try with_reducible rfl)
          case' rest52 => skip
          try simp only [List.getElem_toArray, List.getElem_cons_succ, List.getElem_cons_zero, Act.put, List.setIfInBounds_toArray, List.set_cons_zero, List.set_cons_succ]
          refine wpAnyH_take (i := 1) (v := ?v53) rfl (by kernel_rfl) (by kernel_rfl) (by kernel_rfl) (fun _ _ _ h => h) (Or.inl ⟨by rfl, ?y53⟩) (by assumption) ?rest53
          case y53 => (intro w hSw; have hT0 := Mem.bl_cell hSw e0 (by first | omega | exact World.block_lt_of_cell? _ _ e0 | (simp <;> omega)); have hT1 := Mem.bl_cell hSw e1 (by first | omega | exact World.block_lt_of_cell? _ _ e1 | (simp <;> omega)); clear hSw; go_simp; try with_reducible rfl)
          case' rest53 => skip
          try simp only [List.getElem_toArray, List.getElem_cons_succ, List.getElem_cons_zero, Act.put, List.setIfInBounds_toArray, List.set_cons_zero, List.set_cons_succ]
          refine wpAnyH_take (i := 2) (v := ?v54) rfl (by kernel_rfl) (by kernel_rfl) (by kernel_rfl) (fun _ _ _ h => h) (Or.inl ⟨by rfl, ?y54⟩) (by assumption) ?rest54
          case y54 => (intro w hSw; have hT0 := Mem.bl_cell hSw e0 (by first | omega | exact World.block_lt_of_cell? _ _ e0 | (simp <;> omega)); have hT1 := Mem.bl_cell hSw e1 (by first | omega | exact World.block_lt_of_cell? _ _ e1 | (simp <;> omega)); clear hSw; go_simp; try with_reducible rfl)
          case' rest54 => skip
          try simp only [List.getElem_toArray, List.getElem_cons_succ, List.getElem_cons_zero, Act.put, List.setIfInBounds_toArray, List.set_cons_zero, List.set_cons_succ]
          first
            | refine' wpAnyH_take (i := 3) (v := _) rfl (by kernel_rfl) (by kernel_rfl) (by kernel_rfl) (fun _ _ _ h => h) (yieldsIf_load_mid (by rfl) _ _ rfl _ _ rfl _ _ (fun w hSw => Mem.range_below hSw (by first | omega | (simp <;> omega)) r1) blkUnd rfl hi) (by assumption) ?rest55
            | refine wpAnyH_take (i := 3) (v := undef) rfl (by kernel_rfl) (by kernel_rfl) (by kernel_rfl) (fun _ _ _ h => h) (Or.inr ⟨by rfl, rfl⟩) (by assumption) ?rest55
          case' rest55 => skip
          try simp only [List.getElem_toArray, List.getElem_cons_succ, List.getElem_cons_zero, Act.put, List.setIfInBounds_toArray, List.set_cons_zero, List.set_cons_succ]
          refine wpAnyH_take (i := 4) (v := ?v56) rfl (by kernel_rfl) (by kernel_rfl) (by kernel_rfl) (fun _ _ _ h => h) (Or.inl ⟨by rfl, ?y56⟩) (by assumption) ?rest56
          case y56 => (intro w hSw; have hT0 := Mem.bl_cell hSw e0 (by first | omega | exact World.block_lt_of_cell? _ _ e0 | (simp <;> omega)); have hT1 := Mem.bl_cell hSw e1 (by first | omega | exact World.block_lt_of_cell? _ _ e1 | (simp <;> omega)); clear hSw; go_simp; try with_reducible rfl)
          case' rest56 => skip
          try simp only [List.getElem_toArray, List.getElem_cons_succ, List.getElem_cons_zero, Act.put, List.setIfInBounds_toArray, List.set_cons_zero, List.set_cons_succ]
          refine wpAnyH_take (i := 5) (v := ?v57) rfl (by kernel_rfl) (by kernel_rfl) (by kernel_rfl) (fun _ _ _ h => h) (Or.inl ⟨by rfl, ?y57⟩) (by assumption) ?rest57
          case y57 => (intro w hSw; have hT0 := Mem.bl_cell hSw e0 (by first | omega | exact World.block_lt_of_cell? _ _ e0 | (simp <;> omega)); have hT1 := Mem.bl_cell hSw e1 (by first | omega | exact World.block_lt_of_cell? _ _ e1 | (simp <;> omega)); clear hSw; go_simp; try with_reducible rfl)
          case' rest57 => skip
          try simp only [List.getElem_toArray, List.getElem_cons_succ, List.getElem_cons_zero, Act.put, List.setIfInBounds_toArray, List.set_cons_zero, List.set_cons_succ]
          refine wpAnyH_take (i := 6) (v := ?v58) rfl (by kernel_rfl) (by kernel_rfl) (by kernel_rfl) (fun _ _ _ h => h) (Or.inl ⟨by rfl, ?y58⟩) (by assumption) ?rest58
          case y58 => (intro w hSw; have hT0 := Mem.bl_cell hSw e0 (by first | omega | exact World.block_lt_of_cell? _ _ e0 | (simp <;> omega)); have hT1 := Mem.bl_cell hSw e1 (by first | omega | exact World.block_lt_of_cell? _ _ e1 | (simp <;> omega)); clear hSw; go_simp; try with_reducible rfl)
          case' rest58 => skip
          try simp only [List.getElem_toArray, List.getElem_cons_succ, List.getElem_cons_zero, Act.put, List.setIfInBounds_toArray, List.set_cons_zero, List.set_cons_succ]
          refine wpAnyH_take (i := 7) (v := ?v59) rfl (by kernel_rfl) (by kernel_rfl) (by kernel_rfl) (fun _ _ _ h => h) (Or.inl ⟨by rfl, ?y59⟩) (by assumption) ?rest59
          case y59 => (intro w hSw; have hT0 := Mem.bl_cell hSw e0 (by first | omega | exact World.block_lt_of_cell? _ _ e0 | (simp <;> omega)); have hT1 := Mem.bl_cell hSw e1 (by first | omega | exact World.block_lt_of_cell? _ _ e1 | (simp <;> omega)); clear hSw; go_simp; try with_reducible rfl)
          case' rest59 => skip
          try simp only [List.getElem_toArray, List.getElem_cons_succ, List.getElem_cons_zero, Act.put, List.setIfInBounds_toArray, List.set_cons_zero, List.set_cons_succ]
          refine wpAnyH_take (i := 8) (v := ?v60) rfl (by kernel_rfl) (by kernel_rfl) (by kernel_rfl) (fun _ _ _ h => h) (Or.inl ⟨by rfl, ?y60⟩) (by assumption) ?rest60
          case y60 => (intro w hSw; have hT0 := Mem.bl_cell hSw e0 (by first | omega | exact World.block_lt_of_cell? _ _ e0 | (simp <;> omega)); have hT1 := Mem.bl_cell hSw e1 (by first | omega | exact World.block_lt_of_cell? _ _ e1 | (simp <;> omega)); clear hSw; go_simp; try with_reducible rfl)
          case' rest60 => skip
          try simp only [List.getElem_toArray, List.getElem_cons_succ, List.getElem_cons_zero, Act.put, List.setIfInBounds_toArray, List.set_cons_zero, List.set_cons_succ]
          refine wpAnyH_ready (rs := [9]) (by kernel_rfl) (by simp) ?_
          refine AllReadyH.cons rfl (fun K hK => ?_) AllReadyH.nil
          go_simp
          (refine (full_any x hv _).mono ?_; rintro e wb ⟨rfl, hbl⟩)
          try go_wp2_with fail
          have hSnew := Mem.bl_step hHeld hbl (by first | exact Nat.le_refl _ | omega | (simp <;> omega))
          refine hK.out _ _ ?_ (fun hHeld2 => ?_)
          · exact hSnew
          clear hbl
          clear hK K hHeld hSnew
          have hHeld := hHeld2
          clear hHeld2
          try simp only [List.getElem_toArray, List.getElem_cons_succ, List.getElem_cons_zero, Act.put, List.setIfInBounds_toArray, List.set_cons_zero, List.set_cons_succ]
          refine wpAnyH_take (i := 10) (v := ?v61) rfl (by kernel_rfl) (by kernel_rfl) (by kernel_rfl) (fun _ _ _ h => h) (Or.inl ⟨by rfl, ?y61⟩) (by assumption) ?rest61
          case y61 => (intro w hSw; have hT0 := Mem.bl_cell hSw e0 (by first | omega | exact World.block_lt_of_cell? _ _ e0 | (simp <;> omega)); have hT1 := Mem.bl_cell hSw e1 (by first | omega | exact World.block_lt_of_cell? _ _ e1 | (simp <;> omega)); clear hSw; go_simp; try with_reducible rfl)
          case' rest61 => skip
          try simp only [List.getElem_toArray, List.getElem_cons_succ, List.getElem_cons_zero, Act.put, List.setIfInBounds_toArray, List.set_cons_zero, List.set_cons_succ]
          refine wpAnyH_done (by kernel_rfl) ?_ _
          go_wp2_with fail
          go_roundw
          case rel => exact ⟨q + 1, by omega, by go_num, IA.out.keep (((Below.refl _ _).drew.trans hHeld).block gi hgi) (((Below.refl _ _).drew.trans hHeld).size), HR.out.below ((Below.refl _ _).drew.trans hHeld), HY.out.below ((Below.refl _ _).drew.trans hHeld), HB.out.trans (((Below.refl _ _).drew.trans hHeld).mono HB.out.size)⟩
          case measure => simp [intOf]; omega
        · obtain rfl : q = N := by omega
          go_wp2_with (refine (works_any _).mono ?_; rintro e w9 ⟨rfl, hb9⟩)
          go_ret
          exact ⟨rfl, hb6.trans (hb9.mono hb6.size)⟩
end Go.Proofs.Ytechlhmmgabikaa.Dk
