/- The example of chapter 12; caches that are nil. No statement is proved here. -/
import Derived.Test.YtdhgkabbepbgpaaCi
namespace Go.Proofs.Ytdhgkabbepbgpaa.Cb
open Go.RowKit Go.Proofs.Ytdhgkabbepbgpaa.Mem Go.Proofs.Ytdhgkabbepbgpaa.Open Go.Proofs.Ytdhgkabbepbgpaa.Kind Go.Proofs.Ytdhgkabbepbgpaa.Blk Go.Proofs.Ytdhgkabbepbgpaa.App Go.Proofs.Ytdhgkabbepbgpaa.Pat Go.Proofs.Ytdhgkabbepbgpaa.Rd
open Go.Proofs.Ytdhgkabbepbgpaa.Db (Dv Dev Asd)
set_option linter.unusedVariables false
set_option linter.unusedSimpArgs false
def t0 : St := newS (Db.fresh 16)
def t1 : St := pS t0 3 0 [9] []
def t2 : St := pS t1 4 0 [9] [1]
def t3 : St := flS t2 4
def t4 : St := { t3 with dv := { t3.dv with rd := t3.dv.rd + 1 } }
def t5 : St := flS t4 3
def t6 : St := flS t5 4
def t7 : St := { t6 with dv := { t6.dv with rd := t6.dv.rd + 1 } }
theorem t1_n : pN t0 3 0 [9] [] = 1 := by kernel_rfl
theorem t1_e : pE t0 3 0 [9] [] = 0 := by kernel_rfl
theorem t2_n : pN t1 4 0 [9] [1] = 2 := by kernel_rfl
theorem t2_e : pE t1 4 0 [9] [1] = 0 := by kernel_rfl
theorem t3_c : (t3.dv.wr + t3.dv.rd).toNat = 2 := by kernel_rfl
theorem t4_c : (t4.dv.wr + t4.dv.rd).toNat = 3 := by kernel_rfl
theorem t6_c : (t6.dv.wr + t6.dv.rd).toNat = 5 := by kernel_rfl
theorem t7_c : (t7.dv.wr + t7.dv.rd).toNat = 6 := by kernel_rfl
theorem t3_m : Db.mayE t3.dv 4 = 0 := by kernel_rfl
theorem t3_s : Db.rdS t3.dv 4 = t4.dv := by kernel_rfl
theorem t3_v : Db.rdV t3.dv 4 = zblk := by kernel_rfl
theorem t6_m : Db.mayE t6.dv 4 = 0 := by kernel_rfl
theorem t6_s : Db.rdS t6.dv 4 = t7.dv := by kernel_rfl
theorem t6_v : (Db.rdV t6.dv 4)[0]? = some 9 := by kernel_rfl
theorem t7_d : doneB t7 2 = true := by kernel_rfl
theorem t7_x : t7.xs = [] := by kernel_rfl
theorem i0 : Inv t0 := newS_inv
theorem by9 : Bytes [9] := by unfold Bytes; intro x hx; simp at hx; omega
theorem i1 : Inv t1 := pS_inv i0 by9 (by simp) (by simp) (by have : t0.dv.rd = 0 := (by kernel_rfl); omega) (by have : t0.last = 0 := (by kernel_rfl); omega)
theorem i2 : Inv t2 := pS_inv i1 by9 (by simp) (by simp) (by have : t1.dv.rd = 1 := (by kernel_rfl); omega) (by have : t1.last = 1 := (by kernel_rfl); omega)
theorem i3 : Inv t3 := flS_inv i2 4
theorem rd_inv {s : St} (hi : Inv s) (h : s.dv.rd < 100000) : Inv { s with dv := { s.dv with rd := s.dv.rd + 1 } } :=
  ⟨hi.len, hi.each, hi.byte, ⟨hi.ok.1, hi.ok.2.1, hi.ok.2.2.1, by have := hi.ok.2.2.2.1; show 0 ≤ s.dv.rd + 1; omega, by show s.dv.rd + 1 ≤ 1000000; omega, hi.ok.2.2.2.2.2⟩, hi.cw, by show s.dv.rd + 1 ≤ 100000; omega, hi.kn, hi.xk, hi.may, hi.small, hi.data, hi.ids, hi.last0, hi.last1, hi.xl⟩
theorem i4 : Inv t4 := rd_inv i3 (by have : t3.dv.rd = 2 := (by kernel_rfl); omega)
theorem i5 : Inv t5 := flS_inv i4 3
theorem i6 : Inv t6 := flS_inv i5 4
theorem i7 : Inv t7 := rd_inv i6 (by have : t6.dv.rd = 3 := (by kernel_rfl); omega)
/-- A row of bytes, in blocks of a set. -/
theorem rw_at {α : Type} {k : Kd α} (hf : Flat k) {w : World} {S : Nat → Prop} {g o n : Nat} {xs : List α} (h : Rw k w (All w) (some ⟨g, o, none⟩) n xs) (hS : S g) : Rw k w S (some ⟨g, o, none⟩) n xs := by
  obtain ⟨h1, h2, h3⟩ := h
  refine ⟨h1, h2, ?_⟩
  rcases h3 with h0 | ⟨g', o', e, _, hlt, hc⟩
  · exact .inl h0
  · injection e with e
    injection e with e1 e2
    subst e1 e2
    exact .inr ⟨g, o, rfl, hS, hlt, fun i x hx => by obtain ⟨cs, c1, c2⟩ := hc i x hx; exact ⟨cs, hf _ _ _ _ x cs c1, c2⟩⟩
/-! ### caches that are nil -/
theorem Last_nil (w : World) : Calls Try.prog 25 #[.pointer none] w fun e w' => e = .returned (.int .i64 0) ∧ w' = w := by
  go_enter Try.func25, Try.ntmps25
  go_wp2
  go_ret
  exact ⟨rfl, rfl⟩
theorem Left_nil (w : World) : Calls Try.prog 23 #[.pointer none] w fun e w' => e = .returned (.slice none 0 0) ∧ w' = w := by
  go_enter Try.func23, Try.ntmps23
  go_wp2
  go_ret
  exact ⟨rfl, rfl⟩
theorem Dirty_nil (w : World) : Calls Try.prog 24 #[.pointer none] w fun e w' => e = .returned (.slice none 0 0) ∧ w' = w := by
  go_enter Try.func24, Try.ntmps24
  go_wp2
  go_ret
  exact ⟨rfl, rfl⟩
theorem Done_nil (id : Int) (w : World) : Calls Try.prog 13 #[.pointer none, .int .i64 id] w fun e w' => e = .returned (.bool false) ∧ w' = w := by
  go_enter Try.func13, Try.ntmps13
  go_wp2
  go_ret
  exact ⟨rfl, rfl⟩
theorem Flush_nil (no : Int) (w : World) : Calls Try.prog 20 #[.pointer none, .int .i64 no] w fun e w' => e = .returned (.int .i64 1) ∧ w' = w := by
  go_enter Try.func20, Try.ntmps20
  go_wp2
  go_ret
  exact ⟨rfl, rfl⟩
theorem Upto_nil (id : Int) (w : World) : Calls Try.prog 21 #[.pointer none, .int .i64 id] w fun e w' => e = .returned (.int .i64 1) ∧ w' = w := by
  go_enter Try.func21, Try.ntmps21
  go_wp2
  go_ret
  exact ⟨rfl, rfl⟩
theorem known_nil (no : Int) (w : World) : Calls Try.prog 39 #[.pointer none, .int .i64 no] w fun e w' => e = .returned (.int .i64 1) ∧ w' = w := by
  go_enter Try.func39, Try.ntmps39
  go_wp2
  go_ret
  exact ⟨rfl, rfl⟩
theorem Sync_nil (w : World) : Calls Try.prog 22 #[.pointer none] w fun e w' => e = .returned (.int .i64 1) ∧ w' = w := by
  go_enter Try.func22, Try.ntmps22
  go_wp2_with fail
  refine (Last_nil w).mono ?_
  rintro e w2 ⟨rfl, rfl⟩
  go_wp2_with fail
  refine (Upto_nil 0 _).mono ?_
  rintro e w3 ⟨rfl, rfl⟩
  go_wp2
  go_ret
  exact ⟨rfl, rfl⟩
theorem New_nil (w : World) : Calls Try.prog 11 #[.pointer none] w fun e w' => e = .returned (.pointer none) ∧ w' = w := by
  go_enter Try.func11, Try.ntmps11
  go_wp2
  go_ret
  exact ⟨rfl, rfl⟩
theorem Put_nil (no pa : Int) (A : Option Addr) (n cp : Nat) (x : Value) (w : World) : Calls Try.prog 19 #[.pointer none, .int .i64 no, patV pa A n cp, x] w fun e w' => e = .returned (.tuple #[.int .i64 0, .int .i64 1]) ∧ Below w.heap.size w w' := by
  go_enter Try.func19, Try.ntmps19
  go_wp2
  refine bodyPost_ret (results_tmp2 rfl _ _ _) rfl ?_
  exact ⟨rfl, bb0 _ _⟩
set_option maxRecDepth 100000 in
theorem Get_nil (no : Int) (w : World) : Calls Try.prog 18 #[.pointer none, .int .i64 no] w fun e w' => e = .returned (.tuple #[.agg (blk zblk), .int .i64 1]) ∧ Below w.heap.size w w' := by
  have hz : (blk zblk).size = 256 := zblk_size
  have b0 : Below w.heap.size w (w.alloc (.cells (blk zblk) 38)) := bb0 _ _
  have R4 : Row (w.alloc (.cells (blk zblk) 38)) w.heap.size 38 (blk zblk) := Row.new _ _ _
  have CK := Lib.hid (known_nil no (w.alloc (.cells (blk zblk) 38)))
  go_enter Try.func18, Try.ntmps18
  go_wp2_with (with_reducible refine wpList_allocA rfl 38 rfl _ blkZero ?_)
  refine CK.out.mono ?_
  rintro e1 w2 ⟨rfl, hw2⟩
  subst hw2
  go_wp2_with (with_reducible refine wpList_storeRow rfl 38 _ _ rfl w.heap.size rfl (blk zblk) rfl (blk zblk) 38 256 blkSize hz hz (blk_one _) R4 ?_)
  exact bodyPost_ret (v := .tuple #[.agg (blk zblk), .int .i64 1]) (Rd.results_cell_tmp (p := 4) (t2 := 5) rfl _ _ w.heap.size 38 (blk zblk) (0, 0) _ rfl (R4.set _) blkUnd rfl (by rw [hz]; exact blkSize)) rfl
    ⟨rfl, below_setRow b0 (Nat.le_refl _) _⟩
/-- Put, on a patch that lies in a row. -/
theorem Put_row (no : Int) (hno : WfI no) (k : Nat) (pd : List Nat) (hb : Bytes pd) (hpl : pd.length ≤ 300) (A2 : Option Addr) (cn : Nat) (ns : List Int) (c d g b : Nat) (N : Nat → Prop) (v : Value) (s : St) (w : World) (h : Ca w c d g b N v s) (hi : Inv s)
    (hr : Row w k 5 (blk pd)) (hk : Far N c d g b k) (hn : Is w A2 ns) (hl : ns.length ≤ 60) :
    Calls Try.prog 19 #[.pointer (some ⟨c, 0, none⟩), .int .i64 no, .agg #[.int .i64 0, .slice (some ⟨k, 0, none⟩) pd.length pd.length], .slice A2 ns.length cn] w fun e w' => ∃ v', e = .returned (.tuple #[.int .i64 (pN s no 0 pd ns), .int .i64 (pE s no 0 pd ns)]) ∧ Ca w' c d g b N v' (pS s no 0 pd ns) ∧ Tn N c d g b w w' :=
  Put_any no hno 0 rfl _ _ pd A2 cn ns c d g b N v s w h hi (rw_at flat_byte (by_row hr hb (by unfold M63; omega)) ⟨h.lt k hk.n, hk.c, hk.d, hk.g, hk.b⟩) (fun e => by cases e) hpl hn hl
set_option maxHeartbeats 4000000 in
set_option maxRecDepth 100000 in
theorem works12 (w : World) :
    Calls Try.prog 9 #[] w fun e w' => e = .returned (.bool true) ∧ Below w.heap.size w w' := by
  have hz : (blk zblk).size = 256 := zblk_size
  go_enter Try.func9, Try.ntmps9
  go_wp2_with fail
  refine (Db.new_any 16 16 (.inl ⟨by omega, rfl⟩) w).mono ?_
  rintro e w1 ⟨d, rfl, g, hd, hd1, hg1, hb1⟩
  go_wp2_with fail
  refine (New_any d g _ w1 hd).mono ?_
  rintro e w2 ⟨c, b, rfl, hc2, hc1, hb2, hbn⟩
  obtain ⟨w3, hw3⟩ : ∃ w3, w3 = (w2.alloc (.cells #[.int .u8 9] 5)).alloc (.cells #[.int .i64 0, .slice (some ⟨w2.heap.size, 0, none⟩) 1 1] 42) := ⟨_, rfl⟩
  have b3 : Below w2.heap.size w2 w3 := by rw [hw3]; exact ((Below.refl _ _).alloc (Nat.le_refl _) _).alloc (by simp) _
  have s3 : w3.heap.size = w2.heap.size + 1 + 1 := by rw [hw3]; simp
  have hc3 := hc2.grow b3
  have RD : Row w3 w2.heap.size 5 (blk [9]) := by rw [hw3]; exact (Row.new w2 5 (blk [9])).alloc _
  have RP : Row w3 (w2.heap.size + 1) 42 #[.int .i64 0, .slice (some ⟨w2.heap.size, 0, none⟩) 1 1] := by
    rw [hw3]
    have := Row.new (w2.alloc (.cells #[.int .u8 9] 5)) 42 #[.int .i64 0, .slice (some ⟨w2.heap.size, 0, none⟩) 1 1]
    rwa [show (w2.alloc (.cells #[.int .u8 9] 5)).heap.size = w2.heap.size + 1 from by simp] at this
  have hbd : Bd w.heap.size c d g b (fun j => j < w2.heap.size ∨ (w2.heap.size ≤ j ∧ j < w3.heap.size)) := ⟨Nat.le_trans hb1.size hc1, hd1, hg1, Nat.le_trans hb1.size hb2, fun k hk => .inl (by have := hb1.size; have := hbn.size; omega)⟩
  have HB3 := Lib.hid ((hb1.trans (hbn.mono hb1.size)).trans (b3.mono (Nat.le_trans hb1.size hbn.size)))
  obtain ⟨N, hN⟩ : ∃ N : Nat → Prop, N = fun j => j < w2.heap.size ∨ (w2.heap.size ≤ j ∧ j < w3.heap.size) := ⟨_, rfl⟩
  rw [← hN] at hc3 hbd
  have HBD := Lib.hid hbd
  have hlc := hc2.row.lt
  have hld := hc2.dev.1.lt
  have hlg := hc2.dev.2.1.2.2
  have hlb := hc2.map.lt
  obtain ⟨kd, hkd⟩ : ∃ kd, w2.heap.size = kd := ⟨_, rfl⟩
  have FD : Far N c d g b kd := ⟨by rw [hN]; exact .inr ⟨by omega, by omega⟩, by omega, by omega, by omega, by omega⟩
  have FP : Far N c d g b (kd + 1) := ⟨by rw [hN]; exact .inr ⟨by omega, by omega⟩, by omega, by omega, by omega, by omega⟩
  rw [hkd] at RD RP hw3
  have HW3 := Lib.hid hw3
  have P1 := Put_row 3 rfl kd [9] by9 (by simp) none 0 [] c d g b N _ t0 w3 hc3 i0 RD FD is_nil (by simp)
  rw [t1_n, t1_e] at P1
  have HP1 := Lib.hid P1
  have k0 := RP.cell 0 rfl
  clear hd hc2 hd1 hg1 hb1 hc1 hb2 hbn hN hc3 hlc hld hlg hlb b3 s3 P1 hw3 k0 hbd
  go_wp2_with fail
  rw [← HW3.out]
  refine HP1.out.mono ?_
  rintro e w4 ⟨v4, rfl, hc4, ht4⟩
  have HB4 := Lib.hid (Tn.bel HB3.out ht4 HBD.out)
  replace hc4 : Ca w4 c d g b N v4 t1 := hc4
  have RD4 := ht4.row FD RD
  have RP4 := ht4.row FP RP
  have k0 : w4.cell? ⟨kd + 1, 0, none⟩ = some (.int .i64 0) := RP4.cell 0 rfl
  have k1 : w4.cell? ⟨kd + 1, 0 + 1, none⟩ = some (.slice (some ⟨kd, 0, none⟩) 1 1) := RP4.cell 1 rfl
  have P2 := Put_row 4 rfl kd [9] by9 (by simp) (some ⟨w4.heap.size, 0, none⟩) 1 [1] c d g b N v4 t1 (w4.alloc (.cells #[.int .i64 1] 3)) (hc4.below (bb0 _ _)) i1 (RD4.alloc _) FD (is_row (T := 3) (Row.new w4 3 (nums [1])) (by intro x hx; simp at hx; subst hx; rfl) (by decide)) (by simp)
  rw [t2_n, t2_e] at P2
  have HP2 := Lib.hid P2
  have HT4 := Lib.hid (hc4.tn (bb0 w4 (.cells #[.int .i64 1] 3)))
  clear hc4 ht4 P2 HP1 RD RP RP4 RD4
  go_wp2_with fail
  refine HP2.out.mono ?_
  rintro e w5 ⟨v5, rfl, hc5, ht5⟩
  have HB5 := Lib.hid (Tn.bel HB4.out (HT4.out.trans ht5) HBD.out)
  replace hc5 : Ca w5 c d g b N v5 t2 := hc5
  have F3 := Lib.hid (Flush_any 4 rfl c d g b N v5 t2 w5 hc5 i2)
  clear hc5 ht5 HP2 k0 k1 HT4
  go_wp2_with fail
  refine F3.out.mono ?_
  rintro e w6 ⟨v6, rfl, hc6, ht6⟩
  have HB6 := Lib.hid (Tn.bel HB5.out ht6 HBD.out)
  replace hc6 : Ca w6 c d g b N v6 t3 := hc6
  have R7 := Db.read_any d g t3.dv 4 w6 hc6.dev i3.ok
  rw [t3_m, t3_s, t3_v] at R7
  have HR7 := Lib.hid R7
  have HC6 := Lib.hid hc6
  clear hc6 ht6 F3 R7
  go_wp2_with fail
  refine HR7.out.mono ?_
  rintro e w7 ⟨rfl, hd7, ha7⟩
  have HB7 := Lib.hid (Tn.bel HB6.out (HC6.out.tnd ha7) HBD.out)
  have hc7 : Ca w7 c d g b N v6 t4 := HC6.out.dev' ha7 hd7 (show (t3.dv.wr + t3.dv.rd).toNat ≤ (t4.dv.wr + t4.dv.rd).toNat from by rw [t3_c, t4_c]; decide) (fun _ => rfl)
  have R0 : Row (w7.alloc (.cells (blk zblk) 38)) w7.heap.size 38 (blk zblk) := Row.new _ _ _
  obtain ⟨⟨r8, b8, z8⟩⟩ : Nonempty (_ ∧ _ ∧ _) := ⟨boxed w7 38 (blk zblk) (blk zblk)⟩
  obtain ⟨w8, hW8⟩ : ∃ W, W = (w7.alloc (.cells (blk zblk) 38)).setRow w7.heap.size (blk zblk) := ⟨_, rfl⟩
  rw [← hW8] at r8 b8 z8
  have hc8 := hc7.grow b8
  obtain ⟨N8, hN8⟩ : ∃ N8 : Nat → Prop, N8 = fun j => N j ∨ (w7.heap.size ≤ j ∧ j < w8.heap.size) := ⟨_, rfl⟩
  rw [← hN8] at hc8
  have HB8 := Lib.hid (HB7.out.trans (b8.mono HB7.out.size))
  have HBD8 : Hid (Bd w.heap.size c d g b N8) := Lib.hid (by rw [hN8]; exact HBD.out.or)
  have F8 : Far N8 c d g b w7.heap.size := ⟨by rw [hN8]; exact .inr ⟨Nat.le_refl _, r8.lt⟩, by have := hc7.row.lt; omega, by have := hc7.dev.1.lt; omega, by have := hc7.dev.2.1.2.2; omega, by have := hc7.map.lt; omega⟩
  have F5 := Lib.hid (Flush_any 3 rfl c d g b N8 v6 t4 w8 hc8 i4)
  have HW8 := Lib.hid hW8
  clear HC6 HR7 hd7 ha7 hc7 hN8 hc8 hW8 b8 z8
  go_wp2_with (first
    | (with_reducible refine wpList_allocA rfl 38 rfl _ blkZero ?_)
    | (with_reducible refine wpList_storeRow rfl 38 _ _ rfl w7.heap.size rfl (blk zblk) rfl (blk zblk) 38 256 blkSize hz hz (blk_one _) R0 ?_))
  rw [← HW8.out]
  refine F5.out.mono ?_
  rintro e w9 ⟨v9, rfl, hc9, ht9⟩
  have HB9 := Lib.hid (Tn.bel HB8.out ht9 HBD8.out)
  replace hc9 : Ca w9 c d g b N8 v9 t5 := hc9
  have r9 := ht9.row F8 r8
  have F6 := Lib.hid (Flush_any 4 rfl c d g b N8 v9 t5 w9 hc9 i5)
  clear hc9 ht9 F5 r8 R0 HW8
  go_wp2_with fail
  refine F6.out.mono ?_
  rintro e w10 ⟨v10, rfl, hc10, ht10⟩
  have HB10 := Lib.hid (Tn.bel HB9.out ht10 HBD8.out)
  replace hc10 : Ca w10 c d g b N8 v10 t6 := hc10
  have r10 := ht10.row F8 r9
  have R11 := Db.read_any d g t6.dv 4 w10 hc10.dev i6.ok
  rw [t6_m, t6_s] at R11
  have HR11 := Lib.hid R11
  have HC10 := Lib.hid hc10
  obtain ⟨V, hV⟩ : ∃ V, Db.rdV t6.dv 4 = V := ⟨_, rfl⟩
  rw [hV] at HR11
  have hVl : V.length = 256 := by rw [← hV]; unfold Db.rdV; split; exact zblk_length; exact getD_mem _ _ i6.each
  have hV0 : V[0]? = some 9 := by rw [← hV]; exact t6_v
  have hVs : (blk V).size = 256 := by rw [blk_size]; exact hVl
  clear hc10 ht10 F6 R11 r9 hV
  go_wp2_with fail
  refine HR11.out.mono ?_
  rintro e w11 ⟨rfl, hd11, ha11⟩
  have HB11 := Lib.hid (Tn.bel HB10.out (HC10.out.tnd ha11) HBD8.out)
  have hc11 : Ca w11 c d g b N8 v10 t7 := HC10.out.dev' ha11 hd11 (show (t6.dv.wr + t6.dv.rd).toNat ≤ (t7.dv.wr + t7.dv.rd).toNat from by rw [t6_c, t7_c]; decide) (fun _ => rfl)
  have r11 := ((HC10.out.tnd ha11).row F8 r10)
  have R0 : Row (w11.alloc (.cells (blk zblk) 38)) w11.heap.size 38 (blk zblk) := Row.new _ _ _
  obtain ⟨⟨r12, b12, z12⟩⟩ : Nonempty (_ ∧ _ ∧ _) := ⟨boxed w11 38 (blk zblk) (blk V)⟩
  have hc12 := hc11.below b12
  have HB12 := Lib.hid (HB11.out.trans (b12.mono HB11.out.size))
  have D12 := Done_any 2 c d g b N8 v10 t7 _ hc12
  rw [t7_d] at D12
  have HD12 := Lib.hid D12
  have HC12 := Lib.hid hc12
  have q1 : World.cell? _ ⟨w7.heap.size, 0, none⟩ = some (.int .u8 0) := (r11.below b12).cell 0 (Db.zblk_get 0 (by decide))
  have q2 : World.cell? _ ⟨w11.heap.size, 0, none⟩ = some (.int .u8 9) := r12.cell 0 (by
    obtain ⟨h0, h1⟩ := List.getElem?_eq_some_iff.1 hV0
    rw [blk_get V 0 h0, h1]
    rfl)
  clear HC10 HR11 hd11 ha11 hc11 r11 r12 b12 z12 hc12 D12 r10
  go_wp2_with (first
    | (with_reducible refine wpList_allocA rfl 38 rfl _ blkZero ?_)
    | (with_reducible refine wpList_storeRow rfl 38 _ _ rfl w11.heap.size rfl (blk V) rfl (blk zblk) 38 256 blkSize hVs hz (blk_one _) R0 ?_))
  refine HD12.out.mono ?_
  rintro e w13 ⟨rfl, hb13⟩
  have HB13 := Lib.hid (HB12.out.trans (hb13.mono HB12.out.size))
  have L13 := Left_any c d g b N8 v10 t7 w13 (HC12.out.below hb13) i7
  rw [t7_x] at L13
  have HL13 := Lib.hid L13
  clear L13 hb13 HC12 HD12 q1 q2 R0
  go_wp2_with fail
  refine HL13.out.mono ?_
  rintro e w14 ⟨v14, rfl, ho14, hb14⟩
  obtain ⟨A14, c14, rfl, _, _, _, _⟩ := ho14.rw_
  have HB14 := Lib.hid (HB13.out.trans (hb14.mono HB13.out.size))
  clear ho14 hb14
  go_wp2
  go_ret
  exact ⟨rfl, HB14.out⟩
end Go.Proofs.Ytdhgkabbepbgpaa.Cb
