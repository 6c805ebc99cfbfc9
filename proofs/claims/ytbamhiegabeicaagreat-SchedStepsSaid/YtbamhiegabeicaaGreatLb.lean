/- Laws and contracts of several chapters, laid in one text. No statement is proved here. -/
import Derived.Test.YtbamhiegabeicaaGreatRd2
import Derived.Test.YtbamhiegabeicaaGreatMp
/- The changes of a block that are laid, in order. Plain laws. No statement is proved here. -/
namespace Go.Proofs.YtbamhiegabeicaaGreat.Rd
open Go.Proofs.YtbamhiegabeicaaGreat.Pat
set_option linter.unusedVariables false
set_option linter.unusedSimpArgs false
def lay1 (B : List Nat) (x : Chg) : List Nat := layL B x.pa x.pd
theorem lay1_len (B : List Nat) (x : Chg) : (lay1 B x).length = B.length := layL_length _ _ _
/-- The changes of a block that are laid, in order. -/
def laidF (b : Int) (is : Int → Bool) : List Nat → List Chg → List Nat
  | B, [] => B
  | B, x :: r => laidF b is (if x.blk = b ∧ is x.id = true then lay1 B x else B) r
def layAll (B : List Nat) (l : List Chg) : List Nat := l.foldl lay1 B
theorem layAll_len : ∀ (l : List Chg) (B : List Nat), (layAll B l).length = B.length
  | [], B => rfl
  | x :: l, B => (layAll_len l (lay1 B x)).trans (lay1_len B x)
def inBlk (b : Int) (is : Int → Bool) (x : Chg) : Bool := decide (x.blk = b) && is x.id
theorem laidF_eq (b : Int) (is : Int → Bool) : ∀ (xs : List Chg) (B : List Nat), laidF b is B xs = layAll B (xs.filter (inBlk b is))
  | [], B => rfl
  | x :: r, B => by
    rw [laidF, laidF_eq b is r]
    by_cases h : x.blk = b ∧ is x.id = true
    · rw [if_pos h, List.filter_cons_of_pos (by unfold inBlk; rw [decide_eq_true h.1, h.2]; rfl)]; rfl
    · rw [if_neg h, List.filter_cons_of_neg (by unfold inBlk; simpa using h)]
theorem laidF_len (b : Int) (is : Int → Bool) (B : List Nat) (xs : List Chg) : (laidF b is B xs).length = B.length := by rw [laidF_eq]; exact layAll_len _ _
def viewF (B : List Nat) (xs : List Chg) (b : Int) : List Nat := if mayF 0 xs = true then laidF b (fun _ => true) B xs else B
end Go.Proofs.YtbamhiegabeicaaGreat.Rd

/- The changes of a block that are laid: the contracts of roll.laid, roll.View. No statement is proved here. -/
namespace Go.Proofs.YtbamhiegabeicaaGreat.Rd
open Go.RowKit Go.Proofs.YtbamhiegabeicaaGreat.Mem Go.Proofs.YtbamhiegabeicaaGreat.Open Go.Proofs.YtbamhiegabeicaaGreat.Kind Go.Proofs.YtbamhiegabeicaaGreat.Blk Go.Proofs.YtbamhiegabeicaaGreat.App Go.Proofs.YtbamhiegabeicaaGreat.Pat
set_option linter.unusedVariables false
set_option linter.unusedSimpArgs false
theorem laidF_app (b : Int) (is : Int → Bool) : ∀ (xs : List Chg) (B : List Nat) (x : Chg), laidF b is B (xs ++ [x]) = if x.blk = b ∧ is x.id = true then lay1 (laidF b is B xs) x else laidF b is B xs
  | [], B, x => by simp [laidF]
  | y :: r, B, x => by
    show laidF b is _ (r ++ [x]) = _
    rw [laidF_app b is r]
    rfl
theorem im1_any (n : Int) (p b m : Nat) (g : Int → Int) (w : World) (h : w.cell? ⟨p, 0, none⟩ = some (.map (some b))) (hm : Mp w b m g) (hid : WfI n) :
    Calls Tryz.prog 97 #[.int .i64 n, .pointer (some ⟨p, 0, none⟩)] w fun e w' => e = .returned (.bool (g n == 1)) ∧ Below w.heap.size w w' := by
  have hr := hm.get hid Tryz.underlying116
  go_enter Tryz.func97, Tryz.ntmps97
  go_wp2
  go_ret
  exact ⟨rfl, Below.refl _ _⟩
set_option maxHeartbeats 4000000 in
set_option maxRecDepth 100000 in
theorem laid_img (cap : Value) (is : Int → Bool) (I : World → Prop) (hI : ∀ w w' : World, I w → Below w.heap.size w w' → I w')
    (hcall : ∀ (w' : World) (n : Int), I w' → WfI n → Calls Tryz.prog 97 #[.int .i64 n, cap] w' fun e w'' => e = .returned (.bool (is n)) ∧ Below w'.heap.size w' w'')
    (A : Option Addr) (c : Nat) (xs : List Chg) (bl : Int) (B : List Nat) (w : World) (hw : I w) (hx : Chs w A xs) (hB : B.length = 256) (hn : xs.length ≤ 1000) :
    Calls Tryz.prog 96 #[.agg (blk B), .slice A xs.length c, .int .i64 bl, .func (.func 97) #[] #[cap]] w fun r w' => r = .returned (.agg (blk (laidF bl is B xs))) ∧ Below w.heap.size w w' := by
  have hl : xs.length ≤ 9223372036854775807 := hx.2.1
  have HW := Lib.hid hw
  obtain ⟨hr2, hr3, hbel⟩ := two_rows w 78 78 (blk B) (blk zblk)
  clear hw
  go_enter Tryz.func96, Tryz.ntmps96
  go_wp2_with (with_reducible refine wpList_allocA rfl 78 rfl _ blkZero ?_)
  generalize (w.alloc (.cells (blk B) 78)).alloc (.cells (blk zblk) 78) = w1 at *
  go_loopw [13] (fun i wr => ∃ (k : Nat), k ≤ xs.length ∧ i = .int .i64 k ∧ Row wr w.heap.size 78 (blk (laidF bl is B (xs.take k))) ∧ Row wr (w.heap.size + 1) 78 (blk zblk) ∧ Below w.heap.size w wr) (fun i _ => xs.length - (intOf i).toNat)
  case atStart => exact ⟨0, by omega, rfl, hr2, hr3, hbel⟩
  case round =>
    obtain ⟨k, hk, rfl, hr1, hr2, hbr⟩ := hrel
    obtain ⟨L, hL⟩ : ∃ L, laidF bl is B (xs.take k) = L := ⟨_, rfl⟩
    have hLl : L.length = 256 := by rw [← hL, laidF_len]; exact hB
    have HL := Lib.hid hL
    rw [hL] at hr1
    clear hL
    have hLs : (blk L).size = 256 := by rw [blk_size]; exact hLl
    by_cases hlt : k < xs.length
    · obtain ⟨gx, ox, rfl, hgx⟩ := ch_form hx (by omega)
      obtain ⟨A1, c1, A2, c2, hat0⟩ := ch_at hx k hlt
      have hat := hat0.below hbr
      have e0 := hat.v0
      have e1 := hat.v1
      have e2 := hat.v2
      have e3 : wr.cell? ⟨gx, ox + k * 5 + 3, none⟩ = _ := hat.v3
      have e4 := hat.v4
      have hok := hat.ok
      have HT := Lib.hid (take_next hlt)
      have hS := hat.s
      clear hat0 hat
      generalize xs[k] = x at *
      obtain ⟨⟨b1, b2, b3⟩⟩ : Nonempty (_ ∧ _ ∧ _) := ⟨boxed wr 90 chZ (chC x A1 c1 A2 c2)⟩
      have R0 : Row (wr.alloc (.cells chZ 90)) wr.heap.size 90 chZ := Row.new _ _ _
      have k0 : World.cell? _ ⟨wr.heap.size, 0, none⟩ = some (.int .i64 x.id) := b1.cell 0 rfl
      have k1 : World.cell? _ ⟨wr.heap.size, 1, none⟩ = some (.int .i64 x.blk) := b1.cell 1 rfl
      have KB := Lib.hid b1
      have HR1 := Lib.hid (hr1.below b2)
      have HR2 := Lib.hid (hr2.below b2)
      have HS := Lib.hid (hS.below b2)
      have HB := Lib.hid (hbr.trans (b2.mono hbr.size))
      have HI := Lib.hid (hI w _ HW.out (hbr.trans (b2.mono hbr.size)))
      clear b1 b2 b3 hr1 hr2 hbr hS
      by_cases hbk : x.blk = bl
      · have hq : (x.blk == bl) = true := by rw [hbk]; exact beq_self_eq_true _
        have HBK := Lib.hid hbk
        clear hbk
        have CALL := Lib.hid (hcall _ x.id HI.out hok.1)
        go_wp2_with (first
          | (with_reducible refine wpList_allocA rfl 90 rfl _ chZero ?_)
          | (with_reducible refine wpList_storeRow rfl 90 _ _ rfl wr.heap.size rfl (chC x A1 c1 A2 c2) rfl chZ 90 5 chSize rfl rfl (chC_one _ _ _ _ _) R0 ?_))
        refine CALL.out.mono ?_
        rintro e wb ⟨rfl, hbl⟩
        have HR1 := Lib.hid (HR1.out.below hbl)
        have HR2 := Lib.hid (HR2.out.below hbl)
        have HB2 := Lib.hid (HB.out.trans (hbl.mono HB.out.size))
        have KB2 := KB.out.below hbl
        have HS := Lib.hid (HS.out.below hbl)
        have k2 : World.cell? _ ⟨wr.heap.size, 2, none⟩ = some (.int .i64 x.pa) := KB2.cell 2 rfl
        have k3 : World.cell? _ ⟨wr.heap.size, 2 + 1, none⟩ = some (.slice A1 x.pd.length c1) := KB2.cell 3 rfl
        have HB := HB2
        clear hbl CALL k0 k1 e0 e1 e2 e3 e4 R0 KB KB2 HI HB2
        cases hf : is x.id with
        | false =>
          have HNO : Hid (¬ (x.blk = bl ∧ is x.id = true)) := Lib.hid (by rintro ⟨_, h⟩; rw [hf] at h; cases h)
          clear hf
          have HL2 : Hid (laidF bl is B (xs.take (k + 1)) = L) := Lib.hid (by rw [HT.out, laidF_app, if_neg HNO.out]; exact HL.out)
          go_wp2_with fail
          go_roundw
          case rel => exact ⟨k + 1, by omega, by go_num, by rw [HL2.out]; exact HR1.out, HR2.out, HB.out⟩
          case measure => simp [intOf]; omega
        | true =>
          have HT2 : Hid (laidF bl is B (xs.take (k + 1)) = lay1 L x) := Lib.hid (by rw [HT.out, laidF_app, if_pos ⟨HBK.out, hf⟩, HL.out])
          have CLY0 := lay_any L x.pa A1 x.pd.length c1 x.pd wb hLl HS.out.p4.sl_byte
          rw [show layL L x.pa x.pd = lay1 L x from rfl] at CLY0
          have CLY := Lib.hid CLY0
          have hNl := (lay1_len L x).trans hLl
          generalize lay1 L x = N at *
          have hNs : (blk N).size = 256 := by rw [blk_size]; exact hNl
          clear hf CLY0
          go_wp2_with (with_reducible refine wpList_load rfl 78 _ rfl _ rfl 78 (blk L) 256 5 blkUnd blkSize hLs HR1.out.out ?_)
          refine CLY.out.mono ?_
          rintro e wc ⟨rfl, hbc⟩
          have HR1 := Lib.hid (HR1.out.below hbc)
          have HR2 := Lib.hid (HR2.out.below hbc)
          have HB := Lib.hid (HB.out.trans (hbc.mono HB.out.size))
          have R1 := HR1.out
          clear hbc CLY k2 k3
          go_wp2_with (with_reducible refine wpList_storeRow rfl 78 _ _ rfl w.heap.size rfl (blk N) rfl (blk L) 78 256 blkSize hNs hLs (blk_one _) R1 ?_)
          go_roundw
          case rel => exact ⟨k + 1, by omega, by go_num, by rw [HT2.out]; exact HR1.out.set _, (setRow_other _ _ _ _ (by omega)).trans HR2.out, below_setRow HB.out (Nat.le_refl _) _⟩
          case measure => simp [intOf]; omega
      · have hq : (x.blk == bl) = false := beq_eq_false_iff_ne.2 hbk
        have HNO : Hid (¬ (x.blk = bl ∧ is x.id = true)) := Lib.hid (fun h => hbk h.1)
        clear hbk
        have HL2 : Hid (laidF bl is B (xs.take (k + 1)) = L) := Lib.hid (by rw [HT.out, laidF_app, if_neg HNO.out]; exact HL.out)
        go_wp2_with (first
          | (with_reducible refine wpList_allocA rfl 90 rfl _ chZero ?_)
          | (with_reducible refine wpList_storeRow rfl 90 _ _ rfl wr.heap.size rfl (chC x A1 c1 A2 c2) rfl chZ 90 5 chSize rfl rfl (chC_one _ _ _ _ _) R0 ?_))
        go_roundw
        case rel => exact ⟨k + 1, by omega, by go_num, by rw [HL2.out]; exact HR1.out, HR2.out, HB.out⟩
        case measure => simp [intOf]; omega
    · obtain rfl : k = xs.length := by omega
      rw [List.take_length] at HL
      have HR1 := Lib.hid hr1
      have HR2 := Lib.hid hr2
      have HB := Lib.hid hbr
      have R2 := HR2.out
      clear hr1 hr2 hbr
      go_wp2_with (first
        | (with_reducible refine wpList_load rfl 78 _ rfl _ rfl 78 (blk L) 256 5 blkUnd blkSize hLs HR1.out.out ?_)
        | (with_reducible refine wpList_storeRow rfl 78 _ _ rfl (w.heap.size + 1) rfl (blk L) rfl (blk zblk) 78 256 blkSize hLs zblk_size (blk_one _) R2 ?_))
      exact bodyPost_ret (v := .agg (blk L)) (results_cell_row rfl _ _ (w.heap.size + 1) 78 (blk L) (0, 0) _ rfl (HR2.out.set _) blkUnd rfl (by rw [hLs]; exact blkSize)) rfl
        ⟨by rw [HL.out], below_setRow HB.out (by omega) _⟩
end Go.Proofs.YtbamhiegabeicaaGreat.Rd

/- What is seen of a block: the contracts of roll.View, and of the document's Laid, View, Image. No statement is proved here. -/
namespace Go.Proofs.YtbamhiegabeicaaGreat.Rd
open Go.RowKit Go.Proofs.YtbamhiegabeicaaGreat.Mem Go.Proofs.YtbamhiegabeicaaGreat.Open Go.Proofs.YtbamhiegabeicaaGreat.Kind Go.Proofs.YtbamhiegabeicaaGreat.Blk Go.Proofs.YtbamhiegabeicaaGreat.App Go.Proofs.YtbamhiegabeicaaGreat.Pat
set_option linter.unusedVariables false
set_option linter.unusedSimpArgs false
end Go.Proofs.YtbamhiegabeicaaGreat.Rd


