/- NeedPlain. -/
import Derived.Test.YtadiamgoglodbaaSd
import Derived.Deep.DeepCutAuto
import Derived.Deep.CutBlock
namespace Go.Proofs.Ytadiamgoglodbaa.Opk
open Go.RowKit Go.Proofs.Ytadiamgoglodbaa.Mem Go.Proofs.Ytadiamgoglodbaa.Open Go.Proofs.Ytadiamgoglodbaa.Kind Go.Proofs.Ytadiamgoglodbaa.Blk Go.Proofs.Ytadiamgoglodbaa.App Go.Proofs.Ytadiamgoglodbaa.Spn
set_option linter.unusedVariables false
set_option linter.unusedSimpArgs false
theorem sp1 : spW 1400 300 = [(5, 120, 136), (6, 0, 164)] := by
  rw [spW_next (by decide)]
  simp only [show min 300 (256 - 1400 % 256) = 136 from rfl, show 1400 / 256 = 5 from rfl, show 1400 % 256 = 120 from rfl]
  rw [spW_next (by decide)]
  simp only [show (1400 + 136) / 256 = 6 from rfl, show (1400 + 136) % 256 = 0 from rfl, show min (300 - 136) (256 - 0) = 164 from rfl]
  rw [show 300 - 136 - 164 = 0 from rfl, spW_zero]
  rfl
theorem nb1 : nB 7 1400 300 = 3 := by
  have h : spS 1400 300 = [(5, 120, 136), (6, 0, 164)] := by
    unfold spS
    rw [if_neg (by decide)]
    exact sp1
  have h2 : opB 7 300 = true := by decide
  unfold nB fbF
  rw [if_pos h2, if_pos rfl, show ((300 : Nat) : Int) = 300 from rfl, h]
  rfl
theorem nb2 : nB 1 0 0 = 2 := by decide
theorem ni1 : nI 2 0 = 1 := by decide
set_option maxHeartbeats 2000000 in
set_option maxRecDepth 100000 in
theorem works34 (w : World) :
    Calls Try.prog 5 #[] w fun e w' => e = .returned (.bool true) ∧ Below w.heap.size w w' := by
  have C1 := Lib.hid (fun (A : Option Addr) (c : Nat) w' => by have := nBlocks_any 7 ⟨#[]⟩ ⟨#[]⟩ 1400 0 A 300 c w' (by decide) rfl; rw [nb1] at this; exact this)
  have C2 := Lib.hid (fun w' => by have := nBlocks_any 1 ⟨#[]⟩ ⟨#[]⟩ 0 0 none 0 0 w' (by decide) rfl; rw [nb2] at this; exact this)
  have C3 := Lib.hid (fun w' => by have := nInodes_any 2 ⟨#[]⟩ ⟨#[]⟩ 0 0 none 0 0 w' (by decide); rw [ni1] at this; exact this)
  go_enter Try.func5, Try.ntmps5
  go_wp2_with (at_make; refine wpList_make rfl 27 _ _ rfl w.heap.size 5 V8 0 1 Try.underlying27 u8Info rfl 300 (by first | rfl | simp) (by first | rfl | simp) (by omega) (by omega) (Nat.le_refl _) ?_; intro w1 hown hb1 hsz)
  clear hown hsz
  refine (C1.out _ _ _).mono ?_
  rintro e w2 ⟨rfl, hb2⟩
  have hb12 := hb1.trans (hb2.mono hb1.size)
  go_wp2_with fail
  refine (C2.out _).mono ?_
  rintro e w3 ⟨rfl, hb3⟩
  have hb13 := hb12.trans (hb3.mono hb12.size)
  go_wp2_with fail
  refine (C3.out _).mono ?_
  rintro e w4 ⟨rfl, hb4⟩
  have hb14 := hb13.trans (hb4.mono hb13.size)
  go_wp2
  go_ret
  exact ⟨rfl, hb14⟩
/-- What does not count does not count here. -/
theorem nB_plain {d o : Int} {l : List Nat} (h : opB d l.length = true) : nB d (plO d o) (plD d l).length = nB d o l.length := by
  by_cases h7 : d = 7
  · subst h7; rfl
  · have hl : plD d l = [] := if_neg h7
    have h0 : opB d 0 = true := by
      unfold opB at h ⊢
      simp only [Bool.and_eq_true, decide_eq_true_eq] at h ⊢
      omega
    rw [hl]
    unfold nB
    rw [h, if_pos rfl, if_neg h7]
    show (if opB d 0 = true then _ else _) = _
    rw [if_pos h0, if_neg h7]
theorem nI_plain {d : Int} {l : List Nat} (h : opB d l.length = true) : nI d (plD d l).length = nI d l.length := by
  by_cases h7 : d = 7
  · subst h7; rfl
  · have hl : plD d l = [] := if_neg h7
    have h0 : opB d 0 = true := by
      unfold opB at h ⊢
      simp only [Bool.and_eq_true, decide_eq_true_eq] at h ⊢
      omega
    rw [hl]
    unfold nI
    simp only [List.length_nil, h, h0]
theorem enF_more1 {d o : Int} {m : Nat} {i j : Int} (h : enF d o m i j = true) : enF d o m (i + 1) j = true := by
  unfold enF at h ⊢
  simp only [Bool.and_eq_true, decide_eq_true_eq] at h ⊢
  omega
theorem enF_more2 {d o : Int} {m : Nat} {i j : Int} (h : enF d o m i j = true) : enF d o m i (j + 1) = true := by
  unfold enF at h ⊢
  simp only [Bool.and_eq_true, decide_eq_true_eq] at h ⊢
  omega
theorem opInfo3 : (Try.prog.info? 29).map (fun i => (i.zero, i.size, i.bytes)) = some (some (.agg opZ), 6, 80) := by kernel_rfl
theorem bb0' (w : World) (o : Obj) : Below w.heap.size w (w.alloc o) := (Below.refl _ _).alloc (Nat.le_refl _) _
theorem v8_zero {ns : List Nat} (hl : ns.length = 2) : ∃ n0 n1, ns = [n0, n1] := by
  match ns, hl with
  | [a, b], _ => exact ⟨a, b, rfl⟩
set_option maxHeartbeats 8000000 in
set_option maxRecDepth 100000 in
theorem nplain_walk (A : Option Addr) (c : Nat) (xs : List OpD) (ns : List Nat) (w : World) (hx : Ops w A xs) (hc : A = none → c = 0) (hnl : ns.length = 2) (hnb : ∀ x ∈ ns, x < 256) :
    Calls Try.prog 3 #[.slice A xs.length c, .agg (blk ns)] w fun e w' => e = .returned (.bool true) ∧ Below w.heap.size w w' := by
  obtain ⟨n0, n1, rfl⟩ := v8_zero hnl
  have hn0 : n0 < 256 := hnb n0 (by simp)
  have hn1 : n1 < 256 := hnb n1 (by simp)
  have r3 := Row.new w 23 (blk [n0, n1])
  have bb := (Below.refl w.heap.size w).alloc (Nat.le_refl _) (.cells (blk [n0, n1]) 23)
  have hsz : w.heap.size < (w.alloc (.cells (blk [n0, n1]) 23)).heap.size := by simp
  have hl : xs.length ≤ 9223372036854775807 := hx.2.1
  have hx0 := hx.below bb
  have CMu := Lib.hid (muchO_any A c xs 24 _ hx0 (by omega))
  clear hx hnl hnb
  go_enter Try.func3, Try.ntmps3
  go_wp2_with fail
  generalize w.alloc (.cells (blk [n0, n1]) 23) = w0 at *
  cases hmu : muchO xs 24 with
  | true =>
    rw [hmu] at CMu
    refine CMu.out.mono ?_
    rintro e w1 ⟨rfl, hb1⟩
    have bb1 := bb.trans (hb1.mono bb.size)
    clear CMu
    go_wp2_with fail
    refine (works34 _).mono ?_
    rintro e wB ⟨rfl, hbB⟩
    go_wp2
    go_ret
    exact ⟨rfl, bb1.trans (hbB.mono bb1.size)⟩
  | false =>
    rw [hmu] at CMu
    obtain ⟨hn, hd⟩ := muchO_no hmu
    clear hmu
    refine CMu.out.mono ?_
    rintro e w1 ⟨rfl, hb1⟩
    have bb1 := Lib.hid (bb.trans (hb1.mono bb.size))
    have r31 := r3.below hb1
    have hx1 := hx0.below hb1
    have hw1 : w.heap.size < w1.heap.size := Nat.lt_of_lt_of_le hsz hb1.size
    have hle1 : w.heap.size ≤ w1.heap.size := Nat.le_of_lt hw1
    have HD := Lib.hid hd
    clear CMu hb1 bb hx0 r3 hd hsz
    go_wp2_with fail
    go_loopw [5, 6, 7, 8] (fun v p q i wr => ∃ (k : Nat), k ≤ xs.length ∧ i = .int .i64 k ∧ p = .int .i64 (sumB (xs.take k)) ∧ q = .int .i64 (sumI (xs.take k)) ∧ OwnK kOp wr w1.heap.size 29 v (xs.take k) ∧ Below w1.heap.size w1 wr) (fun _ _ _ i _ => xs.length - (intOf i).toNat)
    case atStart => exact ⟨0, by omega, rfl, rfl, rfl, OwnK.nil _ _ _ _, Below.refl _ _⟩
    case round =>
      obtain ⟨k, hk, rfl, rfl, rfl, hown, hbr⟩ := hrel
      by_cases hlt : k < xs.length
      · obtain ⟨g, o, rfl, hg⟩ := op_form hx1 (by omega)
        obtain ⟨A1, c1, hat0⟩ := op_at hx1 k hlt
        have hat := hat0.below hbr
        have v0 := hat.v0
        have v1 := hat.v1
        have v2 := hat.v2
        have v3 := hat.v3
        have v4 := hat.v4
        have v5 := hat.v5
        have HN1 := Lib.hid (sumB_next hlt)
        have HN2 := Lib.hid (sumI_next hlt)
        have HTK : Hid (xs.take (k + 1) = xs.take k ++ [xs[k]]) := Lib.hid (by rw [List.take_add_one, List.getElem?_eq_getElem hlt]; rfl)
        have hdl := HD.out xs[k] (List.getElem_mem hlt)
        have hok := Lib.hid hat.ok
        have hoff : WfJ xs[k].off := hat.ok.2.2.2.1
        have b1 := nB_b xs[k].d xs[k].off xs[k].data.length
        have b2 := nI_b xs[k].d xs[k].data.length
        have b3 := sumB_b (xs.take k)
        have b4 := sumI_b (xs.take k)
        have hkl : (xs.take k).length = k := by rw [List.length_take]; omega
        rw [hkl] at b3 b4
        have hby := hat.p.2.2.2
        have hcc := hat.p.2.2.1
        have hko : (k : Int) < (xs.length : Int) := by omega
        clear hat0 hat
        generalize xs[k] = x at *
        have HKL := Lib.hid hkl
        have CT := Lib.hid (to_any x.d x.a x.b x.off x.n A1 c1 x.data wr hby hcc (by omega))
        obtain ⟨A5, c5, rfl⟩ := ownK_sl hown
        have HLT := Lib.hid hown.lt
        have HO := Lib.hid hown
        have HB := Lib.hid hbr
        have hle := hbr.size
        rw [hkl] at *
        generalize sumB (xs.take k) = s1 at *
        generalize sumI (xs.take k) = s2 at *
        clear hown hbr hby hcc hkl
        go_wp2_with fail
        refine CT.out.mono ?_
        rintro e w2 ⟨A2, c2, rfl, t1, t2, t3, hbf, hb2⟩
        obtain ⟨⟨r9, b9, z9⟩⟩ : Nonempty (_ ∧ _ ∧ _) := ⟨boxed w2 29 opZ (opR x A2 c2)⟩
        have R0 : Row (w2.alloc (.cells opZ 29)) w2.heap.size 29 opZ := Row.new _ _ _
        have k0 : World.cell? _ ⟨w2.heap.size, 0, none⟩ = some (.int .i64 x.d) := r9.cell 0 rfl
        have k1 : World.cell? _ ⟨w2.heap.size, 1, none⟩ = some (.string x.a) := r9.cell 1 rfl
        have k2 : World.cell? _ ⟨w2.heap.size, 2, none⟩ = some (.string x.b) := r9.cell 2 rfl
        have k3 : World.cell? _ ⟨w2.heap.size, 3, none⟩ = some (.int .i64 x.off) := r9.cell 3 rfl
        have k4 : World.cell? _ ⟨w2.heap.size, 4, none⟩ = some (.int .i64 x.n) := r9.cell 4 rfl
        have k5 : World.cell? _ ⟨w2.heap.size, 5, none⟩ = some (.slice A2 x.data.length c2) := r9.cell 5 rfl
        obtain ⟨W, hW⟩ : ∃ W, W = (w2.alloc (.cells opZ 29)).setRow w2.heap.size (opR x A2 c2) := ⟨_, rfl⟩
        have hWs : W.heap.size = w2.heap.size + 1 := by rw [hW]; simp
        have hb29 := hb2.trans (b9.mono hb2.size)
        have hbA := bb0' W (.cells (opR x A2 c2) 29)
        have hO9 := (HO.out.below hb29)
        have hrow : Row (((w2.alloc (.cells opZ 29)).setRow w2.heap.size (opR x A2 c2)).alloc (.cells (opR x A2 c2) 29)) (w2.heap.size + 1) 29 (opC x A2 c2).toArray := by
          rw [← hW]
          have := Row.new W 29 (opR x A2 c2)
          rwa [hWs] at this
        have hbfx : Rw kByte (((w2.alloc (.cells opZ 29)).setRow w2.heap.size (opR x A2 c2)).alloc (.cells (opR x A2 c2) 29)) (fun b => wr.heap.size ≤ b ∧ b < w2.heap.size) A2 x.data.length x.data := by
          rw [← hW] at b9 ⊢
          exact hbf.stay fun b hb => (b9.trans (hbA.mono b9.size)).block b hb.2
        have HC2 := Lib.hid t3
        have HBF := Lib.hid hbfx
        have hK := kOp_mk hok.out t1 t2 t3 hbfx
        have hbb : ((xs.take k).length + 1) * 80 ≤ 140737488355328 := by have h : (xs.take k).length ≤ k := (by rw [List.length_take]; omega); omega
        have hb6 : (xs.take k).length + 1 ≤ 9223372036854775807 := by have h : (xs.take k).length ≤ k := (by rw [List.length_take]; omega); omega
        have hB9 := HB.out.trans (hb29.mono hle)
        have hle9 : w1.heap.size ≤ (((w2.alloc (.cells opZ 29)).setRow w2.heap.size (opR x A2 c2)).alloc (.cells (opR x A2 c2) 29)).heap.size := Nat.le_trans hB9.size (by simp)
        have HS : Hid (∀ b, (wr.heap.size ≤ b ∧ b < w2.heap.size) → some b ≠ (Value.slice A5 k c5).ownBlock ∧ b < (((w2.alloc (.cells opZ 29)).setRow w2.heap.size (opR x A2 c2)).alloc (.cells (opR x A2 c2) 29)).heap.size) := Lib.hid (fun b hb => ⟨fun e => by have := (HLT.out b e.symm).2; omega, by simp; omega⟩)
        have HNE : Hid (some w2.heap.size ≠ (Value.slice A5 k c5).ownBlock) := Lib.hid (fun e => by have := (HLT.out _ e.symm).2; have := hb2.size; omega)
        have HR9 := Lib.hid r9
        have HO9 := Lib.hid hO9
        have HB9 := Lib.hid hB9
        clear hb2 hb29 r9 b9 z9 hbfx hbf hO9 hB9 HO HB CT v0 v1 v2 v3 v4 v5 hbA hW hWs t1 t2 t3
        go_wp2_with (first
          | (with_reducible refine wpList_allocA rfl 29 rfl _ opZero ?_)
          | (with_reducible refine wpList_storeRow rfl 29 _ _ rfl w2.heap.size rfl (opR x A2 c2) rfl opZ 29 6 opSize rfl rfl (opR_one _ _ _) R0 ?_)
          | (at_builtin; go_loud (refine wpList_appK (k := kOp) rfl _ _ 26 rfl (.agg opZ) 80 Try.underlying26 opInfo3 rfl (show 0 < 6 by decide) rfl (w2.heap.size + 1) 1 rfl (HO9.out.alloc _) 29 (opC x A2 c2) hrow x _ hK HS.out hbb hb6 hle9 ?_); intro v7 w7 hown7 hg7 hat7))
        have HO7 : Hid (OwnK kOp w7 w1.heap.size 29 v7 (xs.take (k + 1))) := Lib.hid (by rw [HTK.out]; exact hown7)
        have hr7 : Row w7 w2.heap.size 29 (opR x A2 c2) := gb_row hg7 (HR9.out.alloc _) HNE.out
        have HB7 := Lib.hid ((HB9.out.alloc HB9.out.size _).grown hg7 hle9 (fun z hz => (HLT.out z hz).1))
        have hr3 := r31.below HB7.out
        have p9 := hr7.drew
        have q3 := hr3.drew
        have HB7 := Lib.hid HB7.out.drew
        have HO7 := Lib.hid HO7.out.drew
        have hm : x.data.length ≤ M63 := by unfold M63; omega
        have CB := Lib.hid (fun w' => nBlocks_any x.d x.a x.b x.off x.n A2 x.data.length c2 w' hm hoff)
        have CI := Lib.hid (fun w' => nInodes_any x.d x.a x.b x.off x.n A2 x.data.length c2 w' hm)
        have CE := Lib.hid (fun i j w' => enough_any x.d x.a x.b x.off x.n A2 x.data.length c2 i j w' hm hoff)
        have CC := Lib.hid (fun w' => check_bel x.d x.a x.b x.off x.n A2 x.data.length c2 w' hm)
        have hby7 : By w7 A2 x.data := Rw.mono (fun b hb => Nat.lt_of_lt_of_le (HS.out b hb).2 hg7.size) (Rw.stay (fun b hb => hg7.block b (HS.out b hb).2 (HS.out b hb).1) HBF.out)
        have y9 := hby7.drew
        have CP := Lib.hid (fun w' h => plain_any x.d x.a x.b x.off x.n A2 c2 x.data w' h HC2.out (by omega))
        have HPL : Hid ((plD x.d x.data).length ≤ x.data.length) := Lib.hid (by unfold plD; split <;> simp)
        have hmp : (plD x.d x.data).length ≤ M63 := Nat.le_trans HPL.out hm
        have hop : WfJ (plO x.d x.off) := by (unfold plO; split; exact hoff; exact (wfj_iff 0).2 (by omega))
        have CBP := Lib.hid (fun A' c' w' => nBlocks_any x.d (plA x.d x.a) (plB x.d x.b) (plO x.d x.off) (plN x.d x.n) A' (plD x.d x.data).length c' w' hmp hop)
        have CIP := Lib.hid (fun A' c' w' => nInodes_any x.d (plA x.d x.a) (plB x.d x.b) (plO x.d x.off) (plN x.d x.n) A' (plD x.d x.data).length c' w' hmp)
        have HPB := Lib.hid (fun h => nB_plain (d := x.d) (o := x.off) (l := x.data) h)
        have HPI := Lib.hid (fun h => nI_plain (d := x.d) (l := x.data) h)
        clear hby7 HBF hmp hop
        clear hown7 hr7 hr3 hg7 hat7 R0 HNE HS HO9 HB9 HR9 hrow hK k0 k1 k2 k3 k4 k5 hle9 hbb hb6
        generalize nB x.d x.off x.data.length = z1 at *
        generalize nI x.d x.data.length = z2 at *
        have hws1 : IntKind.i64.wrap (s1 + z1) = s1 + z1 := by rw [IntKind.wrap_i64]; omega
        have hws2 : IntKind.i64.wrap (s2 + z2) = s2 + z2 := by rw [IntKind.wrap_i64]; omega
        have hwn0 : IntKind.i64.wrap (n0 : Int) = (n0 : Int) := by rw [IntKind.wrap_i64]; omega
        have hwn1 : IntKind.i64.wrap (n1 : Int) = (n1 : Int) := by rw [IntKind.wrap_i64]; omega
        have hwm0 : IntKind.i64.wrap ((n0 : Int) + 1) = (n0 : Int) + 1 := by rw [IntKind.wrap_i64]; omega
        have hwm1 : IntKind.i64.wrap ((n1 : Int) + 1) = (n1 : Int) + 1 := by rw [IntKind.wrap_i64]; omega
        refine wp_region_held_drew (S := Go.RowKit.Below ((w7.drew).heap.size) (w7.drew)) (by kernel_rfl) ?hb5 (fun hHeld => ?rest5)
        case hb5 =>
          exact Go.RowKit.Below.refl _ _
        case' rest5 => skip
        have hCl := fun (wS : World) (hSw : Go.RowKit.Below ((w7.drew).heap.size) (w7.drew) wS) => And.intro ((Mem.bl_row hSw p9 (by first | exact Mem.Row.lt p9 | omega | (simp <;> omega))).cell 0 rfl) <| And.intro ((Mem.bl_row hSw p9 (by first | exact Mem.Row.lt p9 | omega | (simp <;> omega))).cell 1 rfl) <| And.intro ((Mem.bl_row hSw p9 (by first | exact Mem.Row.lt p9 | omega | (simp <;> omega))).cell 2 rfl) <| And.intro ((Mem.bl_row hSw p9 (by first | exact Mem.Row.lt p9 | omega | (simp <;> omega))).cell 3 rfl) <| And.intro ((Mem.bl_row hSw p9 (by first | exact Mem.Row.lt p9 | omega | (simp <;> omega))).cell 4 rfl) <| (Mem.bl_row hSw p9 (by first | exact Mem.Row.lt p9 | omega | (simp <;> omega))).cell 5 rfl
        replace hCl := Go.Lib.hid hCl
        refine Mem.tkY 0 ?v6 (hy := Or.inl ⟨by rfl, ?y6⟩) (hS := by assumption) (h := ?r6)
        case y6 => (intro w hSw; clear hSw; go_simp; try with_reducible rfl)
        case' r6 => skip
        refine Mem.tkY 1 ?v7 (hy := Or.inl ⟨by rfl, ?y7⟩) (hS := by assumption) (h := ?r7)
        case y7 => (intro w hSw; obtain ⟨hT0, hT1, hT2, hT3, hT4, hT5⟩ := hCl.out w hSw; clear hSw; go_simp; try with_reducible rfl)
        case' r7 => skip
        refine Mem.tkY 4 ?v8 (hy := Or.inl ⟨by rfl, ?y8⟩) (hS := by assumption) (h := ?r8)
        case y8 => (intro w hSw; clear hSw; go_simp; try with_reducible rfl)
        case' r8 => skip
        try simp only [List.getElem_toArray, List.getElem_cons_succ, List.getElem_cons_zero, Act.put, List.setIfInBounds_toArray, List.set_cons_zero, List.set_cons_succ]
        refine Mem.tkY 5 ?v9 (hy := Or.inl ⟨by rfl, ?y9⟩) (hS := by assumption) (h := ?r9)
        case y9 => (intro w hSw; obtain ⟨hT0, hT1, hT2, hT3, hT4, hT5⟩ := hCl.out w hSw; clear hSw; go_simp; try with_reducible rfl)
        case' r9 => skip
        try simp only [List.getElem_toArray, List.getElem_cons_succ, List.getElem_cons_zero, Act.put, List.setIfInBounds_toArray, List.set_cons_zero, List.set_cons_succ]
        refine wpAnyH_ready (rs := [2]) (by kernel_rfl) (by simp) ?_
        refine AllReadyH.cons rfl (fun K hK => ?_) AllReadyH.nil
        go_simp
        (refine (CB.out _).mono ?_; rintro e wb ⟨rfl, hbl⟩)
        try go_wp2_with fail
        have hSnew := Mem.bl_step hHeld hbl (by first | exact Nat.le_refl _ | omega | (simp <;> omega))
        refine hK.out _ _ ?_ (fun hHeld2 => ?_)
        · exact hSnew
        try replace p9 := p9.below hbl
        try replace q3 := q3.below hbl
        try replace y9 := y9.below hbl
        clear hbl
        clear hK K hHeld hSnew
        have hHeld := hHeld2
        clear hHeld2
        try simp only [List.getElem_toArray, List.getElem_cons_succ, List.getElem_cons_zero, Act.put, List.setIfInBounds_toArray, List.set_cons_zero, List.set_cons_succ]
        refine Mem.tkY 3 ?v10 (hy := Or.inl ⟨by rfl, ?y10⟩) (hS := by assumption) (h := ?r10)
        case y10 => (intro w hSw; clear hSw; go_simp; try with_reducible rfl)
        case' r10 => skip
        try simp only [List.getElem_toArray, List.getElem_cons_succ, List.getElem_cons_zero, Act.put, List.setIfInBounds_toArray, List.set_cons_zero, List.set_cons_succ]
        refine wpAnyH_ready (rs := [6]) (by kernel_rfl) (by simp) ?_
        refine AllReadyH.cons rfl (fun K hK => ?_) AllReadyH.nil
        go_simp
        (refine (CI.out _).mono ?_; rintro e wb ⟨rfl, hbl⟩)
        try go_wp2_with fail
        have hSnew := Mem.bl_step hHeld hbl (by first | exact Nat.le_refl _ | omega | (simp <;> omega))
        refine hK.out _ _ ?_ (fun hHeld2 => ?_)
        · exact hSnew
        try replace p9 := p9.below hbl
        try replace q3 := q3.below hbl
        try replace y9 := y9.below hbl
        clear hbl
        clear hK K hHeld hSnew
        have hHeld := hHeld2
        clear hHeld2
        try simp only [List.getElem_toArray, List.getElem_cons_succ, List.getElem_cons_zero, Act.put, List.setIfInBounds_toArray, List.set_cons_zero, List.set_cons_succ]
        refine Mem.tkY 7 ?v11 (hy := Or.inl ⟨by rfl, ?y11⟩) (hS := by assumption) (h := ?r11)
        case y11 => (intro w hSw; clear hSw; go_simp; try with_reducible rfl)
        case' r11 => skip
        refine Mem.tkY 8 ?v12 (hy := Or.inl ⟨by rfl, ?y12⟩) (hS := by assumption) (h := ?r12)
        case y12 => (intro w hSw; clear hSw; go_simp; try with_reducible rfl)
        case' r12 => skip
        refine Mem.tkY 9 ?v13 (hy := Or.inl ⟨by rfl, ?y13⟩) (hS := by assumption) (h := ?r13)
        case y13 => (intro w hSw; clear hSw; go_simp; try with_reducible rfl)
        case' r13 => skip
        try simp only [List.getElem_toArray, List.getElem_cons_succ, List.getElem_cons_zero, Act.put, List.setIfInBounds_toArray, List.set_cons_zero, List.set_cons_succ]
        refine wpAnyH_done (by kernel_rfl) ?_ _
        clear hCl
        go_wp2_with fail
        have HB8 := Lib.hid (HB7.out.trans (hHeld.mono HB7.out.size)).drew
        have HO8 := Lib.hid (HO7.out.below hHeld).drew
        have p10 := p9.drew
        have q4 := q3.drew
        have y10 := y9.drew
        clear hHeld HB7 HO7 p9 q3 y9
        have e0 : wb.drew.cell? ⟨w.heap.size, 0, none⟩ = some (.int .u8 (n0 : Int)) := q4.cell 0 rfl
        have e1 : wb.drew.cell? ⟨w.heap.size, 1, none⟩ = some (.int .u8 (n1 : Int)) := q4.cell 1 rfl
        have hwb2 : w.heap.size < wb.drew.heap.size := q4.lt
        have hq0 : (n0 : Int) ≤ 255 := by omega
        have hq1 : (n1 : Int) ≤ 255 := by omega
        have pc := p10
        have kk0 : World.cell? _ ⟨w2.heap.size, 0, none⟩ = some (.int .i64 x.d) := pc.cell 0 rfl
        have kk1 : World.cell? _ ⟨w2.heap.size, 1, none⟩ = some (.string x.a) := pc.cell 1 rfl
        have kk2 : World.cell? _ ⟨w2.heap.size, 2, none⟩ = some (.string x.b) := pc.cell 2 rfl
        have kk3 : World.cell? _ ⟨w2.heap.size, 3, none⟩ = some (.int .i64 x.off) := pc.cell 3 rfl
        have kk4 : World.cell? _ ⟨w2.heap.size, 4, none⟩ = some (.int .i64 x.n) := pc.cell 4 rfl
        have kk5 : World.cell? _ ⟨w2.heap.size, 5, none⟩ = some (.slice A2 x.data.length c2) := pc.cell 5 rfl
        refine wp_region_held_drew (S := Go.RowKit.Below ((wb.drew).heap.size) (wb.drew)) (by kernel_rfl) ?hb16 (fun hHeld => ?rest16)
        case hb16 =>
          exact Go.RowKit.Below.refl _ _
        case' rest16 => skip
        have hCl := fun (wS : World) (hSw : Go.RowKit.Below ((wb.drew).heap.size) (wb.drew) wS) => And.intro (Mem.bl_cell hSw e0 (by first | omega | (dsimp only; omega) | exact World.block_lt_of_cell? _ _ e0 | (simp <;> omega))) <| Mem.bl_cell hSw e1 (by first | omega | (dsimp only; omega) | exact World.block_lt_of_cell? _ _ e1 | (simp <;> omega))
        replace hCl := Go.Lib.hid hCl
        refine Mem.tkY 0 ?v17 (hy := Or.inl ⟨by rfl, ?y17⟩) (hS := by assumption) (h := ?r17)
        case y17 => (intro w hSw; clear hSw; go_simp; try with_reducible rfl)
        case' r17 => skip
        refine Mem.tkY 1 ?v18 (hy := Or.inl ⟨by rfl, ?y18⟩) (hS := by assumption) (h := ?r18)
        case y18 => (intro w hSw; obtain ⟨hT0, hT1⟩ := hCl.out w hSw; clear hSw; go_simp; try with_reducible rfl)
        case' r18 => skip
        refine Mem.tkY 2 ?v19 (hy := Or.inl ⟨by rfl, ?y19⟩) (hS := by assumption) (h := ?r19)
        case y19 => (intro w hSw; clear hSw; go_simp; try with_reducible rfl)
        case' r19 => skip
        try simp only [List.getElem_toArray, List.getElem_cons_succ, List.getElem_cons_zero, Act.put, List.setIfInBounds_toArray, List.set_cons_zero, List.set_cons_succ]
        refine Mem.tkY 3 ?v20 (hy := Or.inl ⟨by rfl, ?y20⟩) (hS := by assumption) (h := ?r20)
        case y20 => (intro w hSw; clear hSw; go_simp; try with_reducible rfl)
        case' r20 => skip
        refine Mem.tkY 4 ?v21 (hy := Or.inl ⟨by rfl, ?y21⟩) (hS := by assumption) (h := ?r21)
        case y21 => (intro w hSw; obtain ⟨hT0, hT1⟩ := hCl.out w hSw; clear hSw; go_simp; try with_reducible rfl)
        case' r21 => skip
        refine Mem.tkY 5 ?v22 (hy := Or.inl ⟨by rfl, ?y22⟩) (hS := by assumption) (h := ?r22)
        case y22 => (intro w hSw; clear hSw; go_simp; try with_reducible rfl)
        case' r22 => skip
        try simp only [List.getElem_toArray, List.getElem_cons_succ, List.getElem_cons_zero, Act.put, List.setIfInBounds_toArray, List.set_cons_zero, List.set_cons_succ]
        refine Mem.tkY 6 ?v23 (hy := Or.inl ⟨by rfl, ?y23⟩) (hS := by assumption) (h := ?r23)
        case y23 => (intro w hSw; clear hSw; go_simp; try with_reducible rfl)
        case' r23 => skip
        refine Mem.tkY 7 ?v24 (hy := Or.inl ⟨by rfl, ?y24⟩) (hS := by assumption) (h := ?r24)
        case y24 => (intro w hSw; clear hSw; go_simp; try with_reducible rfl)
        case' r24 => skip
        try simp only [List.getElem_toArray, List.getElem_cons_succ, List.getElem_cons_zero, Act.put, List.setIfInBounds_toArray, List.set_cons_zero, List.set_cons_succ]
        refine wpAnyH_done (by kernel_rfl) ?_ _
        clear hCl
        go_wp2_with fail
        clear hHeld e0 e1 q4 pc kk0 kk1 kk2 kk3 kk4 kk5
        have hee := Lib.hid (fun h => enF_more1 (d := x.d) (o := x.off) (m := x.data.length) (i := (n0 : Int)) (j := (n1 : Int)) h)
        have hef := Lib.hid (fun h => enF_more2 (d := x.d) (o := x.off) (m := x.data.length) (i := (n0 : Int)) (j := (n1 : Int)) h)
        have CE1 := CE.out (n0 : Int) (n1 : Int) wb.drew
        cases he : enF x.d x.off x.data.length (n0 : Int) (n1 : Int) with
        | false =>
          rw [he] at CE1
          have CE1 := Lib.hid CE1
          clear he
          refine CE1.out.mono ?_
          rintro e wz ⟨rfl, hbz⟩
          have pc := p10.below hbz
          have yc := y10.below hbz
          have HBc := Lib.hid (HB8.out.trans (hbz.mono HB8.out.size))
          have HOc := Lib.hid (HO8.out.below hbz)
          have kk0 : World.cell? _ ⟨w2.heap.size, 0, none⟩ = some (.int .i64 x.d) := pc.cell 0 rfl
          have kk1 : World.cell? _ ⟨w2.heap.size, 1, none⟩ = some (.string x.a) := pc.cell 1 rfl
          have kk2 : World.cell? _ ⟨w2.heap.size, 2, none⟩ = some (.string x.b) := pc.cell 2 rfl
          have kk3 : World.cell? _ ⟨w2.heap.size, 3, none⟩ = some (.int .i64 x.off) := pc.cell 3 rfl
          have kk4 : World.cell? _ ⟨w2.heap.size, 4, none⟩ = some (.int .i64 x.n) := pc.cell 4 rfl
          have kk5 : World.cell? _ ⟨w2.heap.size, 5, none⟩ = some (.slice A2 x.data.length c2) := pc.cell 5 rfl
          clear hbz HB8 HO8 p10 y10 CE1 CE
          go_wp2_with fail
          have pd := pc.drew
          have yd := yc.drew
          have HBd := Lib.hid HBc.out.drew
          have HOd := Lib.hid HOc.out.drew
          clear pc yc HBc HOc kk0 kk1 kk2 kk3 kk4 kk5
          cases hop : opB x.d x.data.length with
          | false =>
            rw [opE_no hop] at CC
            clear hop
            refine wp_region_held_drew (S := Go.RowKit.Below ((wz.drew).heap.size) (wz.drew)) (by kernel_rfl) ?hb31 (fun hHeld => ?rest31)
            case hb31 =>
              exact Go.RowKit.Below.refl _ _
            case' rest31 => skip
            have hCl := fun (wS : World) (hSw : Go.RowKit.Below ((wz.drew).heap.size) (wz.drew) wS) => And.intro ((Mem.bl_row hSw pd (by first | exact Mem.Row.lt pd | omega | (simp <;> omega))).cell 0 rfl) <| And.intro ((Mem.bl_row hSw pd (by first | exact Mem.Row.lt pd | omega | (simp <;> omega))).cell 1 rfl) <| And.intro ((Mem.bl_row hSw pd (by first | exact Mem.Row.lt pd | omega | (simp <;> omega))).cell 2 rfl) <| And.intro ((Mem.bl_row hSw pd (by first | exact Mem.Row.lt pd | omega | (simp <;> omega))).cell 3 rfl) <| And.intro ((Mem.bl_row hSw pd (by first | exact Mem.Row.lt pd | omega | (simp <;> omega))).cell 4 rfl) <| (Mem.bl_row hSw pd (by first | exact Mem.Row.lt pd | omega | (simp <;> omega))).cell 5 rfl
            replace hCl := Go.Lib.hid hCl
            refine Mem.tkY 0 ?v32 (hy := Or.inl ⟨by rfl, ?y32⟩) (hS := by assumption) (h := ?r32)
            case y32 => (intro w hSw; obtain ⟨hT0, hT1, hT2, hT3, hT4, hT5⟩ := hCl.out w hSw; clear hSw; go_simp; try with_reducible rfl)
            case' r32 => skip
            try simp only [List.getElem_toArray, List.getElem_cons_succ, List.getElem_cons_zero, Act.put, List.setIfInBounds_toArray, List.set_cons_zero, List.set_cons_succ]
            refine wpAnyH_ready (rs := [1]) (by kernel_rfl) (by simp) ?_
            refine AllReadyH.cons rfl (fun K hK => ?_) AllReadyH.nil
            go_simp
            (refine (CC.out _).mono ?_; rintro e wb ⟨rfl, hbl⟩)
            try go_wp2_with fail
            have hSnew := Mem.bl_step hHeld hbl (by first | exact Nat.le_refl _ | omega | (simp <;> omega))
            refine hK.out _ _ ?_ (fun hHeld2 => ?_)
            · exact hSnew
            clear hbl
            clear hK K hHeld hSnew
            have hHeld := hHeld2
            clear hHeld2
            try simp only [List.getElem_toArray, List.getElem_cons_succ, List.getElem_cons_zero, Act.put, List.setIfInBounds_toArray, List.set_cons_zero, List.set_cons_succ]
            refine Mem.tkY 2 ?v33 (hy := Or.inl ⟨by rfl, ?y33⟩) (hS := by assumption) (h := ?r33)
            case y33 => (intro w hSw; clear hSw; go_simp; try with_reducible rfl)
            case' r33 => skip
            refine Mem.tkY 3 ?v34 (hy := Or.inl ⟨by rfl, ?y34⟩) (hS := by assumption) (h := ?r34)
            case y34 => (intro w hSw; clear hSw; go_simp; try with_reducible rfl)
            case' r34 => skip
            try simp only [List.getElem_toArray, List.getElem_cons_succ, List.getElem_cons_zero, Act.put, List.setIfInBounds_toArray, List.set_cons_zero, List.set_cons_succ]
            first | refine Mem.tkY 4 undef (hy := Or.inr ⟨by rfl, rfl⟩) (hS := by assumption) (h := ?r35) | (refine Mem.tkY 4 ?v35 (hy := Or.inl ⟨by rfl, ?y35⟩) (hS := by assumption) (h := ?r35); case y35 => (intro w hSw; obtain ⟨hT0, hT1, hT2, hT3, hT4, hT5⟩ := hCl.out w hSw; clear hSw; go_simp; try with_reducible rfl))
            case' r35 => skip
            try simp only [List.getElem_toArray, List.getElem_cons_succ, List.getElem_cons_zero, Act.put, List.setIfInBounds_toArray, List.set_cons_zero, List.set_cons_succ]
            first | refine Mem.tkY 5 undef (hy := Or.inr ⟨by rfl, rfl⟩) (hS := by assumption) (h := ?r36) | (refine Mem.tkY 5 ?v36 (hy := Or.inl ⟨by rfl, ?y36⟩) (hS := by assumption) (h := ?r36); case y36 => (intro w hSw; clear hSw; go_simp; try with_reducible rfl))
            case' r36 => skip
            try simp only [List.getElem_toArray, List.getElem_cons_succ, List.getElem_cons_zero, Act.put, List.setIfInBounds_toArray, List.set_cons_zero, List.set_cons_succ]
            first | refine Mem.tkY 6 undef (hy := Or.inr ⟨by rfl, rfl⟩) (hS := by assumption) (h := ?r37) | (refine Mem.tkY 6 ?v37 (hy := Or.inl ⟨by rfl, ?y37⟩) (hS := by assumption) (h := ?r37); case y37 => (intro w hSw; clear hSw; go_simp; try with_reducible rfl))
            case' r37 => skip
            try simp only [List.getElem_toArray, List.getElem_cons_succ, List.getElem_cons_zero, Act.put, List.setIfInBounds_toArray, List.set_cons_zero, List.set_cons_succ]
            first | refine Mem.tkY 7 undef (hy := Or.inr ⟨by rfl, rfl⟩) (hS := by assumption) (h := ?r38) | (refine Mem.tkY 7 ?v38 (hy := Or.inl ⟨by rfl, ?y38⟩) (hS := by assumption) (h := ?r38); case y38 => (intro w hSw; obtain ⟨hT0, hT1, hT2, hT3, hT4, hT5⟩ := hCl.out w hSw; clear hSw; go_simp; try with_reducible rfl))
            case' r38 => skip
            try simp only [List.getElem_toArray, List.getElem_cons_succ, List.getElem_cons_zero, Act.put, List.setIfInBounds_toArray, List.set_cons_zero, List.set_cons_succ]
            first | refine Mem.tkY 8 undef (hy := Or.inr ⟨by rfl, rfl⟩) (hS := by assumption) (h := ?r39) | (refine Mem.tkY 8 ?v39 (hy := Or.inl ⟨by rfl, ?y39⟩) (hS := by assumption) (h := ?r39); case y39 => (intro w hSw; clear hSw; go_simp; try with_reducible rfl))
            case' r39 => skip
            try simp only [List.getElem_toArray, List.getElem_cons_succ, List.getElem_cons_zero, Act.put, List.setIfInBounds_toArray, List.set_cons_zero, List.set_cons_succ]
            first | refine Mem.tkY 9 undef (hy := Or.inr ⟨by rfl, rfl⟩) (hS := by assumption) (h := ?r40) | (refine Mem.tkY 9 ?v40 (hy := Or.inl ⟨by rfl, ?y40⟩) (hS := by assumption) (h := ?r40); case y40 => (intro w hSw; clear hSw; go_simp; try with_reducible rfl))
            case' r40 => skip
            try simp only [List.getElem_toArray, List.getElem_cons_succ, List.getElem_cons_zero, Act.put, List.setIfInBounds_toArray, List.set_cons_zero, List.set_cons_succ]
            first | refine Mem.tkY 10 undef (hy := Or.inr ⟨by rfl, rfl⟩) (hS := by assumption) (h := ?r41) | (refine Mem.tkY 10 ?v41 (hy := Or.inl ⟨by rfl, ?y41⟩) (hS := by assumption) (h := ?r41); case y41 => (intro w hSw; clear hSw; go_simp; try with_reducible rfl))
            case' r41 => skip
            try simp only [List.getElem_toArray, List.getElem_cons_succ, List.getElem_cons_zero, Act.put, List.setIfInBounds_toArray, List.set_cons_zero, List.set_cons_succ]
            first | refine Mem.tkY 11 undef (hy := Or.inr ⟨by rfl, rfl⟩) (hS := by assumption) (h := ?r42) | (refine Mem.tkY 11 ?v42 (hy := Or.inl ⟨by rfl, ?y42⟩) (hS := by assumption) (h := ?r42); case y42 => (intro w hSw; obtain ⟨hT0, hT1, hT2, hT3, hT4, hT5⟩ := hCl.out w hSw; clear hSw; go_simp; try with_reducible rfl))
            case' r42 => skip
            try simp only [List.getElem_toArray, List.getElem_cons_succ, List.getElem_cons_zero, Act.put, List.setIfInBounds_toArray, List.set_cons_zero, List.set_cons_succ]
            first | refine Mem.tkY 12 undef (hy := Or.inr ⟨by rfl, rfl⟩) (hS := by assumption) (h := ?r43) | (refine Mem.tkY 12 ?v43 (hy := Or.inl ⟨by rfl, ?y43⟩) (hS := by assumption) (h := ?r43); case y43 => (intro w hSw; clear hSw; go_simp; try with_reducible rfl))
            case' r43 => skip
            try simp only [List.getElem_toArray, List.getElem_cons_succ, List.getElem_cons_zero, Act.put, List.setIfInBounds_toArray, List.set_cons_zero, List.set_cons_succ]
            first | refine Mem.tkY 13 undef (hy := Or.inr ⟨by rfl, rfl⟩) (hS := by assumption) (h := ?r44) | (refine Mem.tkY 13 ?v44 (hy := Or.inl ⟨by rfl, ?y44⟩) (hS := by assumption) (h := ?r44); case y44 => (intro w hSw; clear hSw; go_simp; try with_reducible rfl))
            case' r44 => skip
            try simp only [List.getElem_toArray, List.getElem_cons_succ, List.getElem_cons_zero, Act.put, List.setIfInBounds_toArray, List.set_cons_zero, List.set_cons_succ]
            first | refine Mem.tkY 14 undef (hy := Or.inr ⟨by rfl, rfl⟩) (hS := by assumption) (h := ?r45) | (refine Mem.tkY 14 ?v45 (hy := Or.inl ⟨by rfl, ?y45⟩) (hS := by assumption) (h := ?r45); case y45 => (intro w hSw; obtain ⟨hT0, hT1, hT2, hT3, hT4, hT5⟩ := hCl.out w hSw; clear hSw; go_simp; try with_reducible rfl))
            case' r45 => skip
            try simp only [List.getElem_toArray, List.getElem_cons_succ, List.getElem_cons_zero, Act.put, List.setIfInBounds_toArray, List.set_cons_zero, List.set_cons_succ]
            first | refine Mem.tkY 15 undef (hy := Or.inr ⟨by rfl, rfl⟩) (hS := by assumption) (h := ?r46) | (refine Mem.tkY 15 ?v46 (hy := Or.inl ⟨by rfl, ?y46⟩) (hS := by assumption) (h := ?r46); case y46 => (intro w hSw; clear hSw; go_simp; try with_reducible rfl))
            case' r46 => skip
            try simp only [List.getElem_toArray, List.getElem_cons_succ, List.getElem_cons_zero, Act.put, List.setIfInBounds_toArray, List.set_cons_zero, List.set_cons_succ]
            first | refine Mem.tkY 16 undef (hy := Or.inr ⟨by rfl, rfl⟩) (hS := by assumption) (h := ?r47) | (refine Mem.tkY 16 ?v47 (hy := Or.inl ⟨by rfl, ?y47⟩) (hS := by assumption) (h := ?r47); case y47 => (intro w hSw; clear hSw; go_simp; try with_reducible rfl))
            case' r47 => skip
            try simp only [List.getElem_toArray, List.getElem_cons_succ, List.getElem_cons_zero, Act.put, List.setIfInBounds_toArray, List.set_cons_zero, List.set_cons_succ]
            first | refine Mem.tkY 17 undef (hy := Or.inr ⟨by rfl, rfl⟩) (hS := by assumption) (h := ?r48) | (refine Mem.tkY 17 ?v48 (hy := Or.inl ⟨by rfl, ?y48⟩) (hS := by assumption) (h := ?r48); case y48 => (intro w hSw; clear hSw; go_simp; try with_reducible rfl))
            case' r48 => skip
            refine Mem.tkY 18 ?v49 (hy := Or.inl ⟨by rfl, ?y49⟩) (hS := by assumption) (h := ?r49)
            case y49 => (intro w hSw; clear hSw; go_simp; try with_reducible rfl)
            case' r49 => skip
            try simp only [List.getElem_toArray, List.getElem_cons_succ, List.getElem_cons_zero, Act.put, List.setIfInBounds_toArray, List.set_cons_zero, List.set_cons_succ]
            refine wpAnyH_done (by kernel_rfl) ?_ _
            clear hCl
            go_wp2_with fail
            go_roundw
            case rel => exact ⟨k + 1, by omega, by go_num, by rw [HN1.out], by rw [HN2.out], HOd.out.below hHeld, HBd.out.trans (hHeld.mono HBd.out.size)⟩
            case measure => simp [intOf]; omega
          | true =>
            rw [opE_yes hop] at CC
            rw [HPB.out hop] at CBP
            rw [HPI.out hop] at CIP
            clear hop
            refine wp_region_held_drew (S := Go.RowKit.Below ((wz.drew).heap.size) (wz.drew)) (by kernel_rfl) ?hb62 (fun hHeld => ?rest62)
            case hb62 =>
              exact Go.RowKit.Below.refl _ _
            case' rest62 => skip
            have hCl := fun (wS : World) (hSw : Go.RowKit.Below ((wz.drew).heap.size) (wz.drew) wS) => And.intro ((Mem.bl_row hSw pd (by first | exact Mem.Row.lt pd | omega | (simp <;> omega))).cell 0 rfl) <| And.intro ((Mem.bl_row hSw pd (by first | exact Mem.Row.lt pd | omega | (simp <;> omega))).cell 1 rfl) <| And.intro ((Mem.bl_row hSw pd (by first | exact Mem.Row.lt pd | omega | (simp <;> omega))).cell 2 rfl) <| And.intro ((Mem.bl_row hSw pd (by first | exact Mem.Row.lt pd | omega | (simp <;> omega))).cell 3 rfl) <| And.intro ((Mem.bl_row hSw pd (by first | exact Mem.Row.lt pd | omega | (simp <;> omega))).cell 4 rfl) <| (Mem.bl_row hSw pd (by first | exact Mem.Row.lt pd | omega | (simp <;> omega))).cell 5 rfl
            replace hCl := Go.Lib.hid hCl
            refine Mem.tkY 0 ?v63 (hy := Or.inl ⟨by rfl, ?y63⟩) (hS := by assumption) (h := ?r63)
            case y63 => (intro w hSw; obtain ⟨hT0, hT1, hT2, hT3, hT4, hT5⟩ := hCl.out w hSw; clear hSw; go_simp; try with_reducible rfl)
            case' r63 => skip
            try simp only [List.getElem_toArray, List.getElem_cons_succ, List.getElem_cons_zero, Act.put, List.setIfInBounds_toArray, List.set_cons_zero, List.set_cons_succ]
            refine wpAnyH_ready (rs := [1]) (by kernel_rfl) (by simp) ?_
            refine AllReadyH.cons rfl (fun K hK => ?_) AllReadyH.nil
            go_simp
            (refine (CC.out _).mono ?_; rintro e wb ⟨rfl, hbl⟩)
            try go_wp2_with fail
            have hSnew := Mem.bl_step hHeld hbl (by first | exact Nat.le_refl _ | omega | (simp <;> omega))
            refine hK.out _ _ ?_ (fun hHeld2 => ?_)
            · exact hSnew
            try replace yd := yd.below hbl
            clear hbl
            clear hK K hHeld hSnew
            have hHeld := hHeld2
            clear hHeld2
            try simp only [List.getElem_toArray, List.getElem_cons_succ, List.getElem_cons_zero, Act.put, List.setIfInBounds_toArray, List.set_cons_zero, List.set_cons_succ]
            refine Mem.tkY 2 ?v64 (hy := Or.inl ⟨by rfl, ?y64⟩) (hS := by assumption) (h := ?r64)
            case y64 => (intro w hSw; clear hSw; go_simp; try with_reducible rfl)
            case' r64 => skip
            refine Mem.tkY 3 ?v65 (hy := Or.inl ⟨by rfl, ?y65⟩) (hS := by assumption) (h := ?r65)
            case y65 => (intro w hSw; clear hSw; go_simp; try with_reducible rfl)
            case' r65 => skip
            try simp only [List.getElem_toArray, List.getElem_cons_succ, List.getElem_cons_zero, Act.put, List.setIfInBounds_toArray, List.set_cons_zero, List.set_cons_succ]
            first | refine Mem.tkY 4 undef (hy := Or.inr ⟨by rfl, rfl⟩) (hS := by assumption) (h := ?r66) | (refine Mem.tkY 4 ?v66 (hy := Or.inl ⟨by rfl, ?y66⟩) (hS := by assumption) (h := ?r66); case y66 => (intro w hSw; obtain ⟨hT0, hT1, hT2, hT3, hT4, hT5⟩ := hCl.out w hSw; clear hSw; go_simp; try with_reducible rfl))
            case' r66 => skip
            try simp only [List.getElem_toArray, List.getElem_cons_succ, List.getElem_cons_zero, Act.put, List.setIfInBounds_toArray, List.set_cons_zero, List.set_cons_succ]
            first | refine Mem.tkY 7 undef (hy := Or.inr ⟨by rfl, rfl⟩) (hS := by assumption) (h := ?r67) | (refine Mem.tkY 7 ?v67 (hy := Or.inl ⟨by rfl, ?y67⟩) (hS := by assumption) (h := ?r67); case y67 => (intro w hSw; obtain ⟨hT0, hT1, hT2, hT3, hT4, hT5⟩ := hCl.out w hSw; clear hSw; go_simp; try with_reducible rfl))
            case' r67 => skip
            try simp only [List.getElem_toArray, List.getElem_cons_succ, List.getElem_cons_zero, Act.put, List.setIfInBounds_toArray, List.set_cons_zero, List.set_cons_succ]
            refine wpAnyH_ready (rs := [5]) (by kernel_rfl) (by simp) ?_
            refine AllReadyH.cons rfl (fun K hK => ?_) AllReadyH.nil
            go_simp
            (refine (CP.out _ yd).mono ?_; rintro e wb ⟨Ax, cx, rfl, -, -, -, -, hbl⟩)
            try go_wp2_with fail
            have hSnew := Mem.bl_step hHeld hbl (by first | exact Nat.le_refl _ | omega | (simp <;> omega))
            refine hK.out _ _ ?_ (fun hHeld2 => ?_)
            · exact hSnew
            try replace yd := yd.below hbl
            clear hbl
            clear hK K hHeld hSnew
            have hHeld := hHeld2
            clear hHeld2
            try simp only [List.getElem_toArray, List.getElem_cons_succ, List.getElem_cons_zero, Act.put, List.setIfInBounds_toArray, List.set_cons_zero, List.set_cons_succ]
            refine wpAnyH_ready (rs := [6]) (by kernel_rfl) (by simp) ?_
            refine AllReadyH.cons rfl (fun K hK => ?_) AllReadyH.nil
            go_simp
            (refine (CBP.out _ _ _).mono ?_; rintro e wb ⟨rfl, hbl⟩)
            try go_wp2_with fail
            have hSnew := Mem.bl_step hHeld hbl (by first | exact Nat.le_refl _ | omega | (simp <;> omega))
            refine hK.out _ _ ?_ (fun hHeld2 => ?_)
            · exact hSnew
            try replace yd := yd.below hbl
            clear hbl
            clear hK K hHeld hSnew
            have hHeld := hHeld2
            clear hHeld2
            try simp only [List.getElem_toArray, List.getElem_cons_succ, List.getElem_cons_zero, Act.put, List.setIfInBounds_toArray, List.set_cons_zero, List.set_cons_succ]
            refine wpAnyH_ready (rs := [8]) (by kernel_rfl) (by simp) ?_
            refine AllReadyH.cons rfl (fun K hK => ?_) AllReadyH.nil
            go_simp
            (refine (CB.out _).mono ?_; rintro e wb ⟨rfl, hbl⟩)
            try go_wp2_with fail
            have hSnew := Mem.bl_step hHeld hbl (by first | exact Nat.le_refl _ | omega | (simp <;> omega))
            refine hK.out _ _ ?_ (fun hHeld2 => ?_)
            · exact hSnew
            try replace yd := yd.below hbl
            clear hbl
            clear hK K hHeld hSnew
            have hHeld := hHeld2
            clear hHeld2
            try simp only [List.getElem_toArray, List.getElem_cons_succ, List.getElem_cons_zero, Act.put, List.setIfInBounds_toArray, List.set_cons_zero, List.set_cons_succ]
            first | refine Mem.tkY 9 undef (hy := Or.inr ⟨by rfl, rfl⟩) (hS := by assumption) (h := ?r68) | (refine Mem.tkY 9 ?v68 (hy := Or.inl ⟨by rfl, ?y68⟩) (hS := by assumption) (h := ?r68); case y68 => (intro w hSw; clear hSw; go_simp; try with_reducible rfl))
            case' r68 => skip
            try simp only [List.getElem_toArray, List.getElem_cons_succ, List.getElem_cons_zero, Act.put, List.setIfInBounds_toArray, List.set_cons_zero, List.set_cons_succ]
            first | refine Mem.tkY 10 undef (hy := Or.inr ⟨by rfl, rfl⟩) (hS := by assumption) (h := ?r69) | (refine Mem.tkY 10 ?v69 (hy := Or.inl ⟨by rfl, ?y69⟩) (hS := by assumption) (h := ?r69); case y69 => (intro w hSw; clear hSw; go_simp; try with_reducible rfl))
            case' r69 => skip
            try simp only [List.getElem_toArray, List.getElem_cons_succ, List.getElem_cons_zero, Act.put, List.setIfInBounds_toArray, List.set_cons_zero, List.set_cons_succ]
            first | refine Mem.tkY 11 undef (hy := Or.inr ⟨by rfl, rfl⟩) (hS := by assumption) (h := ?r70) | (refine Mem.tkY 11 ?v70 (hy := Or.inl ⟨by rfl, ?y70⟩) (hS := by assumption) (h := ?r70); case y70 => (intro w hSw; obtain ⟨hT0, hT1, hT2, hT3, hT4, hT5⟩ := hCl.out w hSw; clear hSw; go_simp; try with_reducible rfl))
            case' r70 => skip
            try simp only [List.getElem_toArray, List.getElem_cons_succ, List.getElem_cons_zero, Act.put, List.setIfInBounds_toArray, List.set_cons_zero, List.set_cons_succ]
            first | refine Mem.tkY 14 undef (hy := Or.inr ⟨by rfl, rfl⟩) (hS := by assumption) (h := ?r71) | (refine Mem.tkY 14 ?v71 (hy := Or.inl ⟨by rfl, ?y71⟩) (hS := by assumption) (h := ?r71); case y71 => (intro w hSw; obtain ⟨hT0, hT1, hT2, hT3, hT4, hT5⟩ := hCl.out w hSw; clear hSw; go_simp; try with_reducible rfl))
            case' r71 => skip
            try simp only [List.getElem_toArray, List.getElem_cons_succ, List.getElem_cons_zero, Act.put, List.setIfInBounds_toArray, List.set_cons_zero, List.set_cons_succ]
            refine wpAnyH_ready (rs := [12]) (by kernel_rfl) (by simp) ?_
            refine AllReadyH.cons rfl (fun K hK => ?_) AllReadyH.nil
            go_simp
            (refine (CP.out _ yd).mono ?_; rintro e wb ⟨Ay, cy, rfl, -, -, -, -, hbl⟩)
            try go_wp2_with fail
            have hSnew := Mem.bl_step hHeld hbl (by first | exact Nat.le_refl _ | omega | (simp <;> omega))
            refine hK.out _ _ ?_ (fun hHeld2 => ?_)
            · exact hSnew
            try replace yd := yd.below hbl
            clear hbl
            clear hK K hHeld hSnew
            have hHeld := hHeld2
            clear hHeld2
            try simp only [List.getElem_toArray, List.getElem_cons_succ, List.getElem_cons_zero, Act.put, List.setIfInBounds_toArray, List.set_cons_zero, List.set_cons_succ]
            refine wpAnyH_ready (rs := [13]) (by kernel_rfl) (by simp) ?_
            refine AllReadyH.cons rfl (fun K hK => ?_) AllReadyH.nil
            go_simp
            (refine (CIP.out _ _ _).mono ?_; rintro e wb ⟨rfl, hbl⟩)
            try go_wp2_with fail
            have hSnew := Mem.bl_step hHeld hbl (by first | exact Nat.le_refl _ | omega | (simp <;> omega))
            refine hK.out _ _ ?_ (fun hHeld2 => ?_)
            · exact hSnew
            try replace yd := yd.below hbl
            clear hbl
            clear hK K hHeld hSnew
            have hHeld := hHeld2
            clear hHeld2
            try simp only [List.getElem_toArray, List.getElem_cons_succ, List.getElem_cons_zero, Act.put, List.setIfInBounds_toArray, List.set_cons_zero, List.set_cons_succ]
            refine wpAnyH_ready (rs := [15]) (by kernel_rfl) (by simp) ?_
            refine AllReadyH.cons rfl (fun K hK => ?_) AllReadyH.nil
            go_simp
            (refine (CI.out _).mono ?_; rintro e wb ⟨rfl, hbl⟩)
            try go_wp2_with fail
            have hSnew := Mem.bl_step hHeld hbl (by first | exact Nat.le_refl _ | omega | (simp <;> omega))
            refine hK.out _ _ ?_ (fun hHeld2 => ?_)
            · exact hSnew
            try replace yd := yd.below hbl
            clear hbl
            clear hK K hHeld hSnew
            have hHeld := hHeld2
            clear hHeld2
            try simp only [List.getElem_toArray, List.getElem_cons_succ, List.getElem_cons_zero, Act.put, List.setIfInBounds_toArray, List.set_cons_zero, List.set_cons_succ]
            first | refine Mem.tkY 16 undef (hy := Or.inr ⟨by rfl, rfl⟩) (hS := by assumption) (h := ?r72) | (refine Mem.tkY 16 ?v72 (hy := Or.inl ⟨by rfl, ?y72⟩) (hS := by assumption) (h := ?r72); case y72 => (intro w hSw; clear hSw; go_simp; try with_reducible rfl))
            case' r72 => skip
            try simp only [List.getElem_toArray, List.getElem_cons_succ, List.getElem_cons_zero, Act.put, List.setIfInBounds_toArray, List.set_cons_zero, List.set_cons_succ]
            first | refine Mem.tkY 17 undef (hy := Or.inr ⟨by rfl, rfl⟩) (hS := by assumption) (h := ?r73) | (refine Mem.tkY 17 ?v73 (hy := Or.inl ⟨by rfl, ?y73⟩) (hS := by assumption) (h := ?r73); case y73 => (intro w hSw; clear hSw; go_simp; try with_reducible rfl))
            case' r73 => skip
            refine Mem.tkY 18 ?v74 (hy := Or.inl ⟨by rfl, ?y74⟩) (hS := by assumption) (h := ?r74)
            case y74 => (intro w hSw; clear hSw; go_simp; try with_reducible rfl)
            case' r74 => skip
            try simp only [List.getElem_toArray, List.getElem_cons_succ, List.getElem_cons_zero, Act.put, List.setIfInBounds_toArray, List.set_cons_zero, List.set_cons_succ]
            refine wpAnyH_done (by kernel_rfl) ?_ _
            clear hCl
            go_wp2_with fail
            go_roundw
            case rel => exact ⟨k + 1, by omega, by go_num, by rw [HN1.out], by rw [HN2.out], HOd.out.below hHeld, HBd.out.trans (hHeld.mono HBd.out.size)⟩
            case measure => simp [intOf]; omega
        | true =>
          rw [he] at CE1
          have he1 := hee.out he
          have he2 := hef.out he
          have CE1 := Lib.hid CE1
          have CE2 := fun w' => CE.out ((n0 : Int) + 1) (n1 : Int) w'
          have CE3 := fun w' => CE.out (n0 : Int) ((n1 : Int) + 1) w'
          rw [he1] at CE2
          rw [he2] at CE3
          have CE2 := Lib.hid CE2
          have CE3 := Lib.hid CE3
          clear he he1 he2
          refine CE1.out.mono ?_
          rintro e wx ⟨rfl, hbx⟩
          have pc := p10.below hbx
          have yc := y10.below hbx
          have HBc := Lib.hid (HB8.out.trans (hbx.mono HB8.out.size))
          have HOc := Lib.hid (HO8.out.below hbx)
          have kk0 : World.cell? _ ⟨w2.heap.size, 0, none⟩ = some (.int .i64 x.d) := pc.cell 0 rfl
          have kk1 : World.cell? _ ⟨w2.heap.size, 1, none⟩ = some (.string x.a) := pc.cell 1 rfl
          have kk2 : World.cell? _ ⟨w2.heap.size, 2, none⟩ = some (.string x.b) := pc.cell 2 rfl
          have kk3 : World.cell? _ ⟨w2.heap.size, 3, none⟩ = some (.int .i64 x.off) := pc.cell 3 rfl
          have kk4 : World.cell? _ ⟨w2.heap.size, 4, none⟩ = some (.int .i64 x.n) := pc.cell 4 rfl
          have kk5 : World.cell? _ ⟨w2.heap.size, 5, none⟩ = some (.slice A2 x.data.length c2) := pc.cell 5 rfl
          clear hbx HB8 HO8 p10 y10 CE1 CE
          go_wp2_with fail
          refine (CE2.out _).mono ?_
          rintro e wy ⟨rfl, hby⟩
          replace pc := pc.below hby
          replace yc := yc.below hby
          have HBc := Lib.hid (HBc.out.trans (hby.mono HBc.out.size))
          have HOc := Lib.hid (HOc.out.below hby)
          clear hby CE2 kk0 kk1 kk2 kk3 kk4 kk5
          have kk0 : World.cell? _ ⟨w2.heap.size, 0, none⟩ = some (.int .i64 x.d) := pc.cell 0 rfl
          have kk1 : World.cell? _ ⟨w2.heap.size, 1, none⟩ = some (.string x.a) := pc.cell 1 rfl
          have kk2 : World.cell? _ ⟨w2.heap.size, 2, none⟩ = some (.string x.b) := pc.cell 2 rfl
          have kk3 : World.cell? _ ⟨w2.heap.size, 3, none⟩ = some (.int .i64 x.off) := pc.cell 3 rfl
          have kk4 : World.cell? _ ⟨w2.heap.size, 4, none⟩ = some (.int .i64 x.n) := pc.cell 4 rfl
          have kk5 : World.cell? _ ⟨w2.heap.size, 5, none⟩ = some (.slice A2 x.data.length c2) := pc.cell 5 rfl
          go_wp2_with fail
          refine (CE3.out _).mono ?_
          rintro e wz ⟨rfl, hbz⟩
          replace pc := pc.below hbz
          replace yc := yc.below hbz
          have HBc := Lib.hid (HBc.out.trans (hbz.mono HBc.out.size))
          have HOc := Lib.hid (HOc.out.below hbz)
          clear hbz CE3 kk0 kk1 kk2 kk3 kk4 kk5
          have kk0 : World.cell? _ ⟨w2.heap.size, 0, none⟩ = some (.int .i64 x.d) := pc.cell 0 rfl
          have kk1 : World.cell? _ ⟨w2.heap.size, 1, none⟩ = some (.string x.a) := pc.cell 1 rfl
          have kk2 : World.cell? _ ⟨w2.heap.size, 2, none⟩ = some (.string x.b) := pc.cell 2 rfl
          have kk3 : World.cell? _ ⟨w2.heap.size, 3, none⟩ = some (.int .i64 x.off) := pc.cell 3 rfl
          have kk4 : World.cell? _ ⟨w2.heap.size, 4, none⟩ = some (.int .i64 x.n) := pc.cell 4 rfl
          have kk5 : World.cell? _ ⟨w2.heap.size, 5, none⟩ = some (.slice A2 x.data.length c2) := pc.cell 5 rfl
          go_wp2_with fail
          have pd := pc.drew
          have yd := yc.drew
          have HBd := Lib.hid HBc.out.drew
          have HOd := Lib.hid HOc.out.drew
          clear pc yc HBc HOc kk0 kk1 kk2 kk3 kk4 kk5
          cases hop : opB x.d x.data.length with
          | false =>
            rw [opE_no hop] at CC
            clear hop
            refine wp_region_held_drew (S := Go.RowKit.Below ((wz.drew).heap.size) (wz.drew)) (by kernel_rfl) ?hb81 (fun hHeld => ?rest81)
            case hb81 =>
              exact Go.RowKit.Below.refl _ _
            case' rest81 => skip
            have hCl := fun (wS : World) (hSw : Go.RowKit.Below ((wz.drew).heap.size) (wz.drew) wS) => And.intro ((Mem.bl_row hSw pd (by first | exact Mem.Row.lt pd | omega | (simp <;> omega))).cell 0 rfl) <| And.intro ((Mem.bl_row hSw pd (by first | exact Mem.Row.lt pd | omega | (simp <;> omega))).cell 1 rfl) <| And.intro ((Mem.bl_row hSw pd (by first | exact Mem.Row.lt pd | omega | (simp <;> omega))).cell 2 rfl) <| And.intro ((Mem.bl_row hSw pd (by first | exact Mem.Row.lt pd | omega | (simp <;> omega))).cell 3 rfl) <| And.intro ((Mem.bl_row hSw pd (by first | exact Mem.Row.lt pd | omega | (simp <;> omega))).cell 4 rfl) <| (Mem.bl_row hSw pd (by first | exact Mem.Row.lt pd | omega | (simp <;> omega))).cell 5 rfl
            replace hCl := Go.Lib.hid hCl
            refine Mem.tkY 0 ?v82 (hy := Or.inl ⟨by rfl, ?y82⟩) (hS := by assumption) (h := ?r82)
            case y82 => (intro w hSw; obtain ⟨hT0, hT1, hT2, hT3, hT4, hT5⟩ := hCl.out w hSw; clear hSw; go_simp; try with_reducible rfl)
            case' r82 => skip
            try simp only [List.getElem_toArray, List.getElem_cons_succ, List.getElem_cons_zero, Act.put, List.setIfInBounds_toArray, List.set_cons_zero, List.set_cons_succ]
            refine wpAnyH_ready (rs := [1]) (by kernel_rfl) (by simp) ?_
            refine AllReadyH.cons rfl (fun K hK => ?_) AllReadyH.nil
            go_simp
            (refine (CC.out _).mono ?_; rintro e wb ⟨rfl, hbl⟩)
            try go_wp2_with fail
            have hSnew := Mem.bl_step hHeld hbl (by first | exact Nat.le_refl _ | omega | (simp <;> omega))
            refine hK.out _ _ ?_ (fun hHeld2 => ?_)
            · exact hSnew
            clear hbl
            clear hK K hHeld hSnew
            have hHeld := hHeld2
            clear hHeld2
            try simp only [List.getElem_toArray, List.getElem_cons_succ, List.getElem_cons_zero, Act.put, List.setIfInBounds_toArray, List.set_cons_zero, List.set_cons_succ]
            refine Mem.tkY 2 ?v83 (hy := Or.inl ⟨by rfl, ?y83⟩) (hS := by assumption) (h := ?r83)
            case y83 => (intro w hSw; clear hSw; go_simp; try with_reducible rfl)
            case' r83 => skip
            refine Mem.tkY 3 ?v84 (hy := Or.inl ⟨by rfl, ?y84⟩) (hS := by assumption) (h := ?r84)
            case y84 => (intro w hSw; clear hSw; go_simp; try with_reducible rfl)
            case' r84 => skip
            try simp only [List.getElem_toArray, List.getElem_cons_succ, List.getElem_cons_zero, Act.put, List.setIfInBounds_toArray, List.set_cons_zero, List.set_cons_succ]
            first | refine Mem.tkY 4 undef (hy := Or.inr ⟨by rfl, rfl⟩) (hS := by assumption) (h := ?r85) | (refine Mem.tkY 4 ?v85 (hy := Or.inl ⟨by rfl, ?y85⟩) (hS := by assumption) (h := ?r85); case y85 => (intro w hSw; obtain ⟨hT0, hT1, hT2, hT3, hT4, hT5⟩ := hCl.out w hSw; clear hSw; go_simp; try with_reducible rfl))
            case' r85 => skip
            try simp only [List.getElem_toArray, List.getElem_cons_succ, List.getElem_cons_zero, Act.put, List.setIfInBounds_toArray, List.set_cons_zero, List.set_cons_succ]
            first | refine Mem.tkY 5 undef (hy := Or.inr ⟨by rfl, rfl⟩) (hS := by assumption) (h := ?r86) | (refine Mem.tkY 5 ?v86 (hy := Or.inl ⟨by rfl, ?y86⟩) (hS := by assumption) (h := ?r86); case y86 => (intro w hSw; clear hSw; go_simp; try with_reducible rfl))
            case' r86 => skip
            try simp only [List.getElem_toArray, List.getElem_cons_succ, List.getElem_cons_zero, Act.put, List.setIfInBounds_toArray, List.set_cons_zero, List.set_cons_succ]
            first | refine Mem.tkY 6 undef (hy := Or.inr ⟨by rfl, rfl⟩) (hS := by assumption) (h := ?r87) | (refine Mem.tkY 6 ?v87 (hy := Or.inl ⟨by rfl, ?y87⟩) (hS := by assumption) (h := ?r87); case y87 => (intro w hSw; clear hSw; go_simp; try with_reducible rfl))
            case' r87 => skip
            try simp only [List.getElem_toArray, List.getElem_cons_succ, List.getElem_cons_zero, Act.put, List.setIfInBounds_toArray, List.set_cons_zero, List.set_cons_succ]
            first | refine Mem.tkY 7 undef (hy := Or.inr ⟨by rfl, rfl⟩) (hS := by assumption) (h := ?r88) | (refine Mem.tkY 7 ?v88 (hy := Or.inl ⟨by rfl, ?y88⟩) (hS := by assumption) (h := ?r88); case y88 => (intro w hSw; obtain ⟨hT0, hT1, hT2, hT3, hT4, hT5⟩ := hCl.out w hSw; clear hSw; go_simp; try with_reducible rfl))
            case' r88 => skip
            try simp only [List.getElem_toArray, List.getElem_cons_succ, List.getElem_cons_zero, Act.put, List.setIfInBounds_toArray, List.set_cons_zero, List.set_cons_succ]
            first | refine Mem.tkY 8 undef (hy := Or.inr ⟨by rfl, rfl⟩) (hS := by assumption) (h := ?r89) | (refine Mem.tkY 8 ?v89 (hy := Or.inl ⟨by rfl, ?y89⟩) (hS := by assumption) (h := ?r89); case y89 => (intro w hSw; clear hSw; go_simp; try with_reducible rfl))
            case' r89 => skip
            try simp only [List.getElem_toArray, List.getElem_cons_succ, List.getElem_cons_zero, Act.put, List.setIfInBounds_toArray, List.set_cons_zero, List.set_cons_succ]
            first | refine Mem.tkY 9 undef (hy := Or.inr ⟨by rfl, rfl⟩) (hS := by assumption) (h := ?r90) | (refine Mem.tkY 9 ?v90 (hy := Or.inl ⟨by rfl, ?y90⟩) (hS := by assumption) (h := ?r90); case y90 => (intro w hSw; clear hSw; go_simp; try with_reducible rfl))
            case' r90 => skip
            try simp only [List.getElem_toArray, List.getElem_cons_succ, List.getElem_cons_zero, Act.put, List.setIfInBounds_toArray, List.set_cons_zero, List.set_cons_succ]
            first | refine Mem.tkY 10 undef (hy := Or.inr ⟨by rfl, rfl⟩) (hS := by assumption) (h := ?r91) | (refine Mem.tkY 10 ?v91 (hy := Or.inl ⟨by rfl, ?y91⟩) (hS := by assumption) (h := ?r91); case y91 => (intro w hSw; clear hSw; go_simp; try with_reducible rfl))
            case' r91 => skip
            try simp only [List.getElem_toArray, List.getElem_cons_succ, List.getElem_cons_zero, Act.put, List.setIfInBounds_toArray, List.set_cons_zero, List.set_cons_succ]
            first | refine Mem.tkY 11 undef (hy := Or.inr ⟨by rfl, rfl⟩) (hS := by assumption) (h := ?r92) | (refine Mem.tkY 11 ?v92 (hy := Or.inl ⟨by rfl, ?y92⟩) (hS := by assumption) (h := ?r92); case y92 => (intro w hSw; obtain ⟨hT0, hT1, hT2, hT3, hT4, hT5⟩ := hCl.out w hSw; clear hSw; go_simp; try with_reducible rfl))
            case' r92 => skip
            try simp only [List.getElem_toArray, List.getElem_cons_succ, List.getElem_cons_zero, Act.put, List.setIfInBounds_toArray, List.set_cons_zero, List.set_cons_succ]
            first | refine Mem.tkY 12 undef (hy := Or.inr ⟨by rfl, rfl⟩) (hS := by assumption) (h := ?r93) | (refine Mem.tkY 12 ?v93 (hy := Or.inl ⟨by rfl, ?y93⟩) (hS := by assumption) (h := ?r93); case y93 => (intro w hSw; clear hSw; go_simp; try with_reducible rfl))
            case' r93 => skip
            try simp only [List.getElem_toArray, List.getElem_cons_succ, List.getElem_cons_zero, Act.put, List.setIfInBounds_toArray, List.set_cons_zero, List.set_cons_succ]
            first | refine Mem.tkY 13 undef (hy := Or.inr ⟨by rfl, rfl⟩) (hS := by assumption) (h := ?r94) | (refine Mem.tkY 13 ?v94 (hy := Or.inl ⟨by rfl, ?y94⟩) (hS := by assumption) (h := ?r94); case y94 => (intro w hSw; clear hSw; go_simp; try with_reducible rfl))
            case' r94 => skip
            try simp only [List.getElem_toArray, List.getElem_cons_succ, List.getElem_cons_zero, Act.put, List.setIfInBounds_toArray, List.set_cons_zero, List.set_cons_succ]
            first | refine Mem.tkY 14 undef (hy := Or.inr ⟨by rfl, rfl⟩) (hS := by assumption) (h := ?r95) | (refine Mem.tkY 14 ?v95 (hy := Or.inl ⟨by rfl, ?y95⟩) (hS := by assumption) (h := ?r95); case y95 => (intro w hSw; obtain ⟨hT0, hT1, hT2, hT3, hT4, hT5⟩ := hCl.out w hSw; clear hSw; go_simp; try with_reducible rfl))
            case' r95 => skip
            try simp only [List.getElem_toArray, List.getElem_cons_succ, List.getElem_cons_zero, Act.put, List.setIfInBounds_toArray, List.set_cons_zero, List.set_cons_succ]
            first | refine Mem.tkY 15 undef (hy := Or.inr ⟨by rfl, rfl⟩) (hS := by assumption) (h := ?r96) | (refine Mem.tkY 15 ?v96 (hy := Or.inl ⟨by rfl, ?y96⟩) (hS := by assumption) (h := ?r96); case y96 => (intro w hSw; clear hSw; go_simp; try with_reducible rfl))
            case' r96 => skip
            try simp only [List.getElem_toArray, List.getElem_cons_succ, List.getElem_cons_zero, Act.put, List.setIfInBounds_toArray, List.set_cons_zero, List.set_cons_succ]
            first | refine Mem.tkY 16 undef (hy := Or.inr ⟨by rfl, rfl⟩) (hS := by assumption) (h := ?r97) | (refine Mem.tkY 16 ?v97 (hy := Or.inl ⟨by rfl, ?y97⟩) (hS := by assumption) (h := ?r97); case y97 => (intro w hSw; clear hSw; go_simp; try with_reducible rfl))
            case' r97 => skip
            try simp only [List.getElem_toArray, List.getElem_cons_succ, List.getElem_cons_zero, Act.put, List.setIfInBounds_toArray, List.set_cons_zero, List.set_cons_succ]
            first | refine Mem.tkY 17 undef (hy := Or.inr ⟨by rfl, rfl⟩) (hS := by assumption) (h := ?r98) | (refine Mem.tkY 17 ?v98 (hy := Or.inl ⟨by rfl, ?y98⟩) (hS := by assumption) (h := ?r98); case y98 => (intro w hSw; clear hSw; go_simp; try with_reducible rfl))
            case' r98 => skip
            refine Mem.tkY 18 ?v99 (hy := Or.inl ⟨by rfl, ?y99⟩) (hS := by assumption) (h := ?r99)
            case y99 => (intro w hSw; clear hSw; go_simp; try with_reducible rfl)
            case' r99 => skip
            try simp only [List.getElem_toArray, List.getElem_cons_succ, List.getElem_cons_zero, Act.put, List.setIfInBounds_toArray, List.set_cons_zero, List.set_cons_succ]
            refine wpAnyH_done (by kernel_rfl) ?_ _
            clear hCl
            go_wp2_with fail
            go_roundw
            case rel => exact ⟨k + 1, by omega, by go_num, by rw [HN1.out], by rw [HN2.out], HOd.out.below hHeld, HBd.out.trans (hHeld.mono HBd.out.size)⟩
            case measure => simp [intOf]; omega
          | true =>
            rw [opE_yes hop] at CC
            rw [HPB.out hop] at CBP
            rw [HPI.out hop] at CIP
            clear hop
            refine wp_region_held_drew (S := Go.RowKit.Below ((wz.drew).heap.size) (wz.drew)) (by kernel_rfl) ?hb112 (fun hHeld => ?rest112)
            case hb112 =>
              exact Go.RowKit.Below.refl _ _
            case' rest112 => skip
            have hCl := fun (wS : World) (hSw : Go.RowKit.Below ((wz.drew).heap.size) (wz.drew) wS) => And.intro ((Mem.bl_row hSw pd (by first | exact Mem.Row.lt pd | omega | (simp <;> omega))).cell 0 rfl) <| And.intro ((Mem.bl_row hSw pd (by first | exact Mem.Row.lt pd | omega | (simp <;> omega))).cell 1 rfl) <| And.intro ((Mem.bl_row hSw pd (by first | exact Mem.Row.lt pd | omega | (simp <;> omega))).cell 2 rfl) <| And.intro ((Mem.bl_row hSw pd (by first | exact Mem.Row.lt pd | omega | (simp <;> omega))).cell 3 rfl) <| And.intro ((Mem.bl_row hSw pd (by first | exact Mem.Row.lt pd | omega | (simp <;> omega))).cell 4 rfl) <| (Mem.bl_row hSw pd (by first | exact Mem.Row.lt pd | omega | (simp <;> omega))).cell 5 rfl
            replace hCl := Go.Lib.hid hCl
            refine Mem.tkY 0 ?v113 (hy := Or.inl ⟨by rfl, ?y113⟩) (hS := by assumption) (h := ?r113)
            case y113 => (intro w hSw; obtain ⟨hT0, hT1, hT2, hT3, hT4, hT5⟩ := hCl.out w hSw; clear hSw; go_simp; try with_reducible rfl)
            case' r113 => skip
            try simp only [List.getElem_toArray, List.getElem_cons_succ, List.getElem_cons_zero, Act.put, List.setIfInBounds_toArray, List.set_cons_zero, List.set_cons_succ]
            refine wpAnyH_ready (rs := [1]) (by kernel_rfl) (by simp) ?_
            refine AllReadyH.cons rfl (fun K hK => ?_) AllReadyH.nil
            go_simp
            (refine (CC.out _).mono ?_; rintro e wb ⟨rfl, hbl⟩)
            try go_wp2_with fail
            have hSnew := Mem.bl_step hHeld hbl (by first | exact Nat.le_refl _ | omega | (simp <;> omega))
            refine hK.out _ _ ?_ (fun hHeld2 => ?_)
            · exact hSnew
            try replace yd := yd.below hbl
            clear hbl
            clear hK K hHeld hSnew
            have hHeld := hHeld2
            clear hHeld2
            try simp only [List.getElem_toArray, List.getElem_cons_succ, List.getElem_cons_zero, Act.put, List.setIfInBounds_toArray, List.set_cons_zero, List.set_cons_succ]
            refine Mem.tkY 2 ?v114 (hy := Or.inl ⟨by rfl, ?y114⟩) (hS := by assumption) (h := ?r114)
            case y114 => (intro w hSw; clear hSw; go_simp; try with_reducible rfl)
            case' r114 => skip
            refine Mem.tkY 3 ?v115 (hy := Or.inl ⟨by rfl, ?y115⟩) (hS := by assumption) (h := ?r115)
            case y115 => (intro w hSw; clear hSw; go_simp; try with_reducible rfl)
            case' r115 => skip
            try simp only [List.getElem_toArray, List.getElem_cons_succ, List.getElem_cons_zero, Act.put, List.setIfInBounds_toArray, List.set_cons_zero, List.set_cons_succ]
            first | refine Mem.tkY 4 undef (hy := Or.inr ⟨by rfl, rfl⟩) (hS := by assumption) (h := ?r116) | (refine Mem.tkY 4 ?v116 (hy := Or.inl ⟨by rfl, ?y116⟩) (hS := by assumption) (h := ?r116); case y116 => (intro w hSw; obtain ⟨hT0, hT1, hT2, hT3, hT4, hT5⟩ := hCl.out w hSw; clear hSw; go_simp; try with_reducible rfl))
            case' r116 => skip
            try simp only [List.getElem_toArray, List.getElem_cons_succ, List.getElem_cons_zero, Act.put, List.setIfInBounds_toArray, List.set_cons_zero, List.set_cons_succ]
            first | refine Mem.tkY 7 undef (hy := Or.inr ⟨by rfl, rfl⟩) (hS := by assumption) (h := ?r117) | (refine Mem.tkY 7 ?v117 (hy := Or.inl ⟨by rfl, ?y117⟩) (hS := by assumption) (h := ?r117); case y117 => (intro w hSw; obtain ⟨hT0, hT1, hT2, hT3, hT4, hT5⟩ := hCl.out w hSw; clear hSw; go_simp; try with_reducible rfl))
            case' r117 => skip
            try simp only [List.getElem_toArray, List.getElem_cons_succ, List.getElem_cons_zero, Act.put, List.setIfInBounds_toArray, List.set_cons_zero, List.set_cons_succ]
            refine wpAnyH_ready (rs := [5]) (by kernel_rfl) (by simp) ?_
            refine AllReadyH.cons rfl (fun K hK => ?_) AllReadyH.nil
            go_simp
            (refine (CP.out _ yd).mono ?_; rintro e wb ⟨Ax, cx, rfl, -, -, -, -, hbl⟩)
            try go_wp2_with fail
            have hSnew := Mem.bl_step hHeld hbl (by first | exact Nat.le_refl _ | omega | (simp <;> omega))
            refine hK.out _ _ ?_ (fun hHeld2 => ?_)
            · exact hSnew
            try replace yd := yd.below hbl
            clear hbl
            clear hK K hHeld hSnew
            have hHeld := hHeld2
            clear hHeld2
            try simp only [List.getElem_toArray, List.getElem_cons_succ, List.getElem_cons_zero, Act.put, List.setIfInBounds_toArray, List.set_cons_zero, List.set_cons_succ]
            refine wpAnyH_ready (rs := [6]) (by kernel_rfl) (by simp) ?_
            refine AllReadyH.cons rfl (fun K hK => ?_) AllReadyH.nil
            go_simp
            (refine (CBP.out _ _ _).mono ?_; rintro e wb ⟨rfl, hbl⟩)
            try go_wp2_with fail
            have hSnew := Mem.bl_step hHeld hbl (by first | exact Nat.le_refl _ | omega | (simp <;> omega))
            refine hK.out _ _ ?_ (fun hHeld2 => ?_)
            · exact hSnew
            try replace yd := yd.below hbl
            clear hbl
            clear hK K hHeld hSnew
            have hHeld := hHeld2
            clear hHeld2
            try simp only [List.getElem_toArray, List.getElem_cons_succ, List.getElem_cons_zero, Act.put, List.setIfInBounds_toArray, List.set_cons_zero, List.set_cons_succ]
            refine wpAnyH_ready (rs := [8]) (by kernel_rfl) (by simp) ?_
            refine AllReadyH.cons rfl (fun K hK => ?_) AllReadyH.nil
            go_simp
            (refine (CB.out _).mono ?_; rintro e wb ⟨rfl, hbl⟩)
            try go_wp2_with fail
            have hSnew := Mem.bl_step hHeld hbl (by first | exact Nat.le_refl _ | omega | (simp <;> omega))
            refine hK.out _ _ ?_ (fun hHeld2 => ?_)
            · exact hSnew
            try replace yd := yd.below hbl
            clear hbl
            clear hK K hHeld hSnew
            have hHeld := hHeld2
            clear hHeld2
            try simp only [List.getElem_toArray, List.getElem_cons_succ, List.getElem_cons_zero, Act.put, List.setIfInBounds_toArray, List.set_cons_zero, List.set_cons_succ]
            first | refine Mem.tkY 9 undef (hy := Or.inr ⟨by rfl, rfl⟩) (hS := by assumption) (h := ?r118) | (refine Mem.tkY 9 ?v118 (hy := Or.inl ⟨by rfl, ?y118⟩) (hS := by assumption) (h := ?r118); case y118 => (intro w hSw; clear hSw; go_simp; try with_reducible rfl))
            case' r118 => skip
            try simp only [List.getElem_toArray, List.getElem_cons_succ, List.getElem_cons_zero, Act.put, List.setIfInBounds_toArray, List.set_cons_zero, List.set_cons_succ]
            first | refine Mem.tkY 10 undef (hy := Or.inr ⟨by rfl, rfl⟩) (hS := by assumption) (h := ?r119) | (refine Mem.tkY 10 ?v119 (hy := Or.inl ⟨by rfl, ?y119⟩) (hS := by assumption) (h := ?r119); case y119 => (intro w hSw; clear hSw; go_simp; try with_reducible rfl))
            case' r119 => skip
            try simp only [List.getElem_toArray, List.getElem_cons_succ, List.getElem_cons_zero, Act.put, List.setIfInBounds_toArray, List.set_cons_zero, List.set_cons_succ]
            first | refine Mem.tkY 11 undef (hy := Or.inr ⟨by rfl, rfl⟩) (hS := by assumption) (h := ?r120) | (refine Mem.tkY 11 ?v120 (hy := Or.inl ⟨by rfl, ?y120⟩) (hS := by assumption) (h := ?r120); case y120 => (intro w hSw; obtain ⟨hT0, hT1, hT2, hT3, hT4, hT5⟩ := hCl.out w hSw; clear hSw; go_simp; try with_reducible rfl))
            case' r120 => skip
            try simp only [List.getElem_toArray, List.getElem_cons_succ, List.getElem_cons_zero, Act.put, List.setIfInBounds_toArray, List.set_cons_zero, List.set_cons_succ]
            first | refine Mem.tkY 14 undef (hy := Or.inr ⟨by rfl, rfl⟩) (hS := by assumption) (h := ?r121) | (refine Mem.tkY 14 ?v121 (hy := Or.inl ⟨by rfl, ?y121⟩) (hS := by assumption) (h := ?r121); case y121 => (intro w hSw; obtain ⟨hT0, hT1, hT2, hT3, hT4, hT5⟩ := hCl.out w hSw; clear hSw; go_simp; try with_reducible rfl))
            case' r121 => skip
            try simp only [List.getElem_toArray, List.getElem_cons_succ, List.getElem_cons_zero, Act.put, List.setIfInBounds_toArray, List.set_cons_zero, List.set_cons_succ]
            refine wpAnyH_ready (rs := [12]) (by kernel_rfl) (by simp) ?_
            refine AllReadyH.cons rfl (fun K hK => ?_) AllReadyH.nil
            go_simp
            (refine (CP.out _ yd).mono ?_; rintro e wb ⟨Ay, cy, rfl, -, -, -, -, hbl⟩)
            try go_wp2_with fail
            have hSnew := Mem.bl_step hHeld hbl (by first | exact Nat.le_refl _ | omega | (simp <;> omega))
            refine hK.out _ _ ?_ (fun hHeld2 => ?_)
            · exact hSnew
            try replace yd := yd.below hbl
            clear hbl
            clear hK K hHeld hSnew
            have hHeld := hHeld2
            clear hHeld2
            try simp only [List.getElem_toArray, List.getElem_cons_succ, List.getElem_cons_zero, Act.put, List.setIfInBounds_toArray, List.set_cons_zero, List.set_cons_succ]
            refine wpAnyH_ready (rs := [13]) (by kernel_rfl) (by simp) ?_
            refine AllReadyH.cons rfl (fun K hK => ?_) AllReadyH.nil
            go_simp
            (refine (CIP.out _ _ _).mono ?_; rintro e wb ⟨rfl, hbl⟩)
            try go_wp2_with fail
            have hSnew := Mem.bl_step hHeld hbl (by first | exact Nat.le_refl _ | omega | (simp <;> omega))
            refine hK.out _ _ ?_ (fun hHeld2 => ?_)
            · exact hSnew
            try replace yd := yd.below hbl
            clear hbl
            clear hK K hHeld hSnew
            have hHeld := hHeld2
            clear hHeld2
            try simp only [List.getElem_toArray, List.getElem_cons_succ, List.getElem_cons_zero, Act.put, List.setIfInBounds_toArray, List.set_cons_zero, List.set_cons_succ]
            refine wpAnyH_ready (rs := [15]) (by kernel_rfl) (by simp) ?_
            refine AllReadyH.cons rfl (fun K hK => ?_) AllReadyH.nil
            go_simp
            (refine (CI.out _).mono ?_; rintro e wb ⟨rfl, hbl⟩)
            try go_wp2_with fail
            have hSnew := Mem.bl_step hHeld hbl (by first | exact Nat.le_refl _ | omega | (simp <;> omega))
            refine hK.out _ _ ?_ (fun hHeld2 => ?_)
            · exact hSnew
            try replace yd := yd.below hbl
            clear hbl
            clear hK K hHeld hSnew
            have hHeld := hHeld2
            clear hHeld2
            try simp only [List.getElem_toArray, List.getElem_cons_succ, List.getElem_cons_zero, Act.put, List.setIfInBounds_toArray, List.set_cons_zero, List.set_cons_succ]
            first | refine Mem.tkY 16 undef (hy := Or.inr ⟨by rfl, rfl⟩) (hS := by assumption) (h := ?r122) | (refine Mem.tkY 16 ?v122 (hy := Or.inl ⟨by rfl, ?y122⟩) (hS := by assumption) (h := ?r122); case y122 => (intro w hSw; clear hSw; go_simp; try with_reducible rfl))
            case' r122 => skip
            try simp only [List.getElem_toArray, List.getElem_cons_succ, List.getElem_cons_zero, Act.put, List.setIfInBounds_toArray, List.set_cons_zero, List.set_cons_succ]
            first | refine Mem.tkY 17 undef (hy := Or.inr ⟨by rfl, rfl⟩) (hS := by assumption) (h := ?r123) | (refine Mem.tkY 17 ?v123 (hy := Or.inl ⟨by rfl, ?y123⟩) (hS := by assumption) (h := ?r123); case y123 => (intro w hSw; clear hSw; go_simp; try with_reducible rfl))
            case' r123 => skip
            refine Mem.tkY 18 ?v124 (hy := Or.inl ⟨by rfl, ?y124⟩) (hS := by assumption) (h := ?r124)
            case y124 => (intro w hSw; clear hSw; go_simp; try with_reducible rfl)
            case' r124 => skip
            try simp only [List.getElem_toArray, List.getElem_cons_succ, List.getElem_cons_zero, Act.put, List.setIfInBounds_toArray, List.set_cons_zero, List.set_cons_succ]
            refine wpAnyH_done (by kernel_rfl) ?_ _
            clear hCl
            go_wp2_with fail
            go_roundw
            case rel => exact ⟨k + 1, by omega, by go_num, by rw [HN1.out], by rw [HN2.out], HOd.out.below hHeld, HBd.out.trans (hHeld.mono HBd.out.size)⟩
            case measure => simp [intOf]; omega
      · obtain rfl : k = xs.length := by omega
        rw [List.take_length] at *
        obtain ⟨A5, c5, rfl, -, -, -, hr5⟩ := hown.rw_
        have CS := Lib.hid (script_any A5 c5 xs wr hr5 hn)
        have HB := Lib.hid (bb1.out.trans (hbr.mono hle1))
        generalize sumB xs = s1 at *
        generalize sumI xs = s2 at *
        clear hown hbr hr5
        go_wp2_with fail
        refine CS.out.mono ?_
        rintro e w9 ⟨rfl, hb9⟩
        have HB9 := Lib.hid (HB.out.trans (hb9.mono HB.out.size))
        clear hb9 CS HB
        go_wp2_with fail
        refine (works34 _).mono ?_
        rintro e wB ⟨rfl, hbB⟩
        go_wp2
        go_ret
        exact ⟨rfl, HB9.out.trans (hbB.mono HB9.out.size)⟩
end Go.Proofs.Ytadiamgoglodbaa.Opk
