/- SchedSteps. -/
import Derived.Test.YtbamhiegabeicaaGreatTr
import Derived.Test.YtbamhiegabeicaaGreatTs
namespace Go.Proofs.YtbamhiegabeicaaGreat.Mem
open Go.RowKit
section
theorem u8_nats (xs : List Int) (h : ∀ x ∈ xs, (Lit.int .u8 x).wf = true) : ∃ l : List Nat, xs = l.map (fun n : Nat => (n : Int)) ∧ ∀ x ∈ l, x < 256 := by
  have hb : ∀ x ∈ xs, 0 ≤ x ∧ x ≤ 255 := by
    intro x hx
    have := h x hx
    simp [Lit.wf, IntKind.min, IntKind.max, IntKind.signed, IntKind.bits] at this
    omega
  refine ⟨xs.map Int.toNat, ?_, ?_⟩
  · rw [List.map_map]
    conv => lhs; rw [← List.map_id xs]
    apply List.map_congr_left
    intro x hx
    have := hb x hx
    simp
    omega
  · intro x hx
    obtain ⟨y, hy, rfl⟩ := List.mem_map.1 hx
    have := hb y hy
    omega
end
end Go.Proofs.YtbamhiegabeicaaGreat.Mem
namespace Go.Proofs.YtbamhiegabeicaaGreat.Kind
open Go.RowKit Go.Proofs.YtbamhiegabeicaaGreat.Mem Go.Proofs.YtbamhiegabeicaaGreat.Open
open Go.ChangeShapes Go.WideShapes Go.ChangeAt
section
variable {H : Type} {enc : TypeId × Value → H} {P : Program} {w : World}
theorem opens_byte {t : TypeId} (ht : P.underlying t = some (.int .u8)) : Opens H enc P w kByte t := fun fuel cs y h => by
  obtain ⟨z, h1, _, h3⟩ := DataW.trod_int ht h
  obtain ⟨l, hl, hb⟩ := u8_nats [z] (by simpa using h3)
  match l, hl, hb with
  | [m], hl, hb =>
    simp at hl
    subst hl
    exact ⟨m, h1, by simpa using hb⟩
  | [], hl, _ => simp at hl
  | _ :: _ :: _, hl, _ => simp at hl
end
end Go.Proofs.YtbamhiegabeicaaGreat.Kind
namespace Go.Proofs.YtbamhiegabeicaaGreat.Kind
open Go.RowKit Go.Proofs.YtbamhiegabeicaaGreat.Mem Go.Proofs.YtbamhiegabeicaaGreat.Open
open Go.ChangeShapes Go.WideShapes Go.ChangeAt
section
variable {H : Type} {enc : TypeId × Value → H} {P : Program} {w : World} {α β : Type} {k : Kd α}
/-- A struct of two fields, one behind the other. -/
theorem opens_pair {a : Kd α} {b : Kd β} {t : TypeId} {f0 f1 : Field} (ht : P.underlying t = some (.struct #[f0, f1])) (ha : Opens H enc P w a f0.type) (hb : Opens H enc P w b f1.type)
    (o0 : f0.offset = 0) (o1 : f1.offset = P.cellsOf f0.type) (hc : P.cellsOf t = P.cellsOf f0.type + P.cellsOf f1.type) : Opens H enc P w (kPair a b) t := fun fuel cs y h => by
  obtain ⟨y0, y1, n, _, hl, h0, h1⟩ := trod_struct2 ht h
  obtain ⟨x0, hx0⟩ := ha _ _ _ h0
  obtain ⟨x1, hx1⟩ := hb _ _ _ h1
  refine ⟨(x0, x1), _, _, ?_, hx0, hx1⟩
  rw [o0, o1, List.drop_zero]
  have : (cs.drop (P.cellsOf f0.type)).take (P.cellsOf f1.type) = cs.drop (P.cellsOf f0.type) := List.take_of_length_le (by rw [List.length_drop]; omega)
  rw [this, List.take_append_drop]
end
end Go.Proofs.YtbamhiegabeicaaGreat.Kind
namespace Go.Proofs.YtbamhiegabeicaaGreat.Kind
open Go.RowKit Go.Proofs.YtbamhiegabeicaaGreat.Mem Go.Proofs.YtbamhiegabeicaaGreat.Open
open Go.ChangeShapes Go.WideShapes Go.ChangeAt
section
variable {H : Type} {enc : TypeId × Value → H} {P : Program} {w : World} {α β : Type} {k : Kd α}
theorem flds_one {f : Field} {off : Nat} (ho : f.offset = off) (h : Opens H enc P w k f.type) (hc : P.cellsOf f.type = k.sz) : Flds H enc P w k [f] off := fun n cs hf => by
  obtain ⟨y, hy⟩ := hf f List.mem_cons_self
  obtain ⟨x, hx⟩ := h _ _ _ hy
  rw [ho, hc] at hx
  exact ⟨x, hx⟩
end
end Go.Proofs.YtbamhiegabeicaaGreat.Kind
namespace Go.Proofs.YtbamhiegabeicaaGreat.Kind
open Go.RowKit Go.Proofs.YtbamhiegabeicaaGreat.Mem Go.Proofs.YtbamhiegabeicaaGreat.Open
open Go.ChangeShapes Go.WideShapes Go.ChangeAt
section
variable {H : Type} {enc : TypeId × Value → H} {P : Program} {w : World} {α β : Type} {k : Kd α}
theorem flds_cons {a : Kd α} {b : Kd β} {f : Field} {fs : List Field} {off : Nat} (ho : f.offset = off) (h : Opens H enc P w a f.type) (hc : P.cellsOf f.type = a.sz) (hs : Flds H enc P w b fs (off + a.sz)) : Flds H enc P w (kPair a b) (f :: fs) off := fun n cs hf => by
  obtain ⟨y, hy⟩ := hf f List.mem_cons_self
  obtain ⟨x, hx⟩ := h _ _ _ hy
  obtain ⟨z, hz⟩ := hs n cs (fun g hg => hf g (List.mem_cons_of_mem _ hg))
  rw [ho, hc] at hx
  refine ⟨(x, z), _, _, ?_, hx, hz⟩
  show (cs.drop off).take (a.sz + b.sz) = _
  rw [List.take_add, List.drop_drop]
end
end Go.Proofs.YtbamhiegabeicaaGreat.Kind
namespace Go.Proofs.YtbamhiegabeicaaGreat.Kind
open Go.RowKit Go.Proofs.YtbamhiegabeicaaGreat.Mem Go.Proofs.YtbamhiegabeicaaGreat.Open
open Go.ChangeShapes Go.WideShapes Go.ChangeAt
section
variable {H : Type} {enc : TypeId × Value → H} {P : Program} {w : World} {α β : Type} {k : Kd α}
theorem opens_struct {t : TypeId} {fs : Array Field} (ht : P.underlying t = some (.struct fs)) (h : Flds H enc P w k fs.toList 0) (hc : P.cellsOf t = k.sz) : Opens H enc P w k t := fun fuel cs y hy => by
  obtain ⟨xs, n, _, _, hl, hlen, hf⟩ := DataW.trod_struct ht hy
  obtain ⟨x, hx⟩ := h n cs (fun f hm => by
    obtain ⟨i, hi, rfl⟩ := List.mem_iff_getElem.1 hm
    have hi2 : i < fs.size := by simpa using hi
    have := hf i fs.toList[i] (by simp [hi2])
    rw [this]
    exact ⟨_, List.getElem?_eq_getElem (by omega)⟩)
  rw [List.drop_zero, ← hc, ← hl, List.take_length] at hx
  exact ⟨x, hx⟩
end
end Go.Proofs.YtbamhiegabeicaaGreat.Kind
namespace Go.Proofs.YtbamhiegabeicaaGreat.Pat
open Go.RowKit Go.Proofs.YtbamhiegabeicaaGreat.Mem Go.Proofs.YtbamhiegabeicaaGreat.Open Go.Proofs.YtbamhiegabeicaaGreat.Kind Go.Proofs.YtbamhiegabeicaaGreat.Blk
section
theorem opens_rpat {H : Type} {enc : TypeId × Value → H} {w : World} : Opens H enc Tryz.prog w kPat 46 :=
  opens_pair Tryz.underlying46 (opens_int Tryz.underlying3) (opens_slice Tryz.underlying44 (opens_byte Tryz.underlying5) (by kernel_rfl) (by decide)) rfl (by kernel_rfl) (by kernel_rfl)
end
end Go.Proofs.YtbamhiegabeicaaGreat.Pat
namespace Go.Proofs.YtbamhiegabeicaaGreat.Cb
open Go.RowKit Go.Proofs.YtbamhiegabeicaaGreat.Mem Go.Proofs.YtbamhiegabeicaaGreat.Open Go.Proofs.YtbamhiegabeicaaGreat.Kind Go.Proofs.YtbamhiegabeicaaGreat.Blk Go.Proofs.YtbamhiegabeicaaGreat.App Go.Proofs.YtbamhiegabeicaaGreat.Pat Go.Proofs.YtbamhiegabeicaaGreat.Rd
section
/-- A step's cells are a change's: what is done, where, the patch, the needs. -/
theorem opens_stp {H : Type} {enc : TypeId × Value → H} {w : World} : Opens H enc Tryz.prog w kChg 49 := by
  have h : Opens H enc Tryz.prog w (kPair (kInt .i64) (kPair (kInt .i64) (kPair kPat (kSlice (kInt .i64))))) 49 :=
    opens_struct Tryz.underlying49 (flds_cons rfl (opens_int Tryz.underlying3) (by kernel_rfl) (flds_cons rfl (opens_int Tryz.underlying3) (by kernel_rfl) (flds_cons rfl opens_rpat (by kernel_rfl) (flds_one rfl (opens_slice Tryz.underlying47 (opens_int Tryz.underlying3) (by kernel_rfl) (by decide)) (by kernel_rfl))))) (by kernel_rfl)
  intro fuel cs y hy
  obtain ⟨⟨x1, x2, ⟨x3, x4⟩, x5⟩, hx⟩ := h fuel cs y hy
  exact ⟨⟨x1, x2, x3, x4, x5⟩, hx⟩
end
end Go.Proofs.YtbamhiegabeicaaGreat.Cb
namespace Go.Proofs.YtbamhiegabeicaaGreat.Cb
open Go.RowKit Go.Proofs.YtbamhiegabeicaaGreat.Mem Go.Proofs.YtbamhiegabeicaaGreat.Open Go.Proofs.YtbamhiegabeicaaGreat.Kind Go.Proofs.YtbamhiegabeicaaGreat.Blk Go.Proofs.YtbamhiegabeicaaGreat.App Go.Proofs.YtbamhiegabeicaaGreat.Pat Go.Proofs.YtbamhiegabeicaaGreat.Rd
section
theorem opens_stps {H : Type} {enc : TypeId × Value → H} {w : World} : Opens H enc Tryz.prog w (kSlice kChg) 22 :=
  opens_slice Tryz.underlying22 opens_stp (by kernel_rfl) (by decide)
end
end Go.Proofs.YtbamhiegabeicaaGreat.Cb
namespace Go.Proofs.YtbamhiegabeicaaGreat.Cb
open Go.RowKit Go.Proofs.YtbamhiegabeicaaGreat.Mem Go.Proofs.YtbamhiegabeicaaGreat.Open Go.Proofs.YtbamhiegabeicaaGreat.Kind Go.Proofs.YtbamhiegabeicaaGreat.Blk Go.Proofs.YtbamhiegabeicaaGreat.App Go.Proofs.YtbamhiegabeicaaGreat.Pat Go.Proofs.YtbamhiegabeicaaGreat.Rd
open Go.Proofs.YtbamhiegabeicaaGreat.Db (Dv Dev Asd Bks)
set_option linter.unusedVariables false
set_option linter.unusedSimpArgs false
set_option maxHeartbeats 4000000 in
set_option maxRecDepth 100000 in
theorem steps_walk13 (A : Option Addr) (n : Nat) (xs : List Chg) (A1 : Option Addr) (c1 : Nat) (ws : List Int) (cut : Int) (w : World) (hx : Chs w A xs) (hA : A = none → n = 0) (hw : Rw (kInt .u64) w (All w) A1 ws.length ws) (hg1 : ws.length ≤ c1) (hm1 : c1 ≤ M63) (hz1 : A1 = none → c1 = 0) (hcut : (Lit.int .u8 cut).wf = true) :
    Calls Tryz.prog 3 #[.slice A xs.length n, .slice A1 ws.length c1, .int .u8 cut] w fun e w' => e = .returned (.bool true) ∧ Below w.heap.size w w' := by
  have CM := Lib.hid (muchT_any A n xs 16 w hx (by omega))
  have hl9 : xs.length ≤ 9223372036854775807 := hx.2.1
  have hwl : ws.length ≤ 9223372036854775807 := hw.2.1
  have hcb : 0 ≤ cut ∧ cut < 256 := by
    have := hcut
    simp [Lit.wf, IntKind.min, IntKind.max, IntKind.signed, IntKind.bits] at this
    omega
  obtain ⟨cn, rfl⟩ : ∃ cn : Nat, cut = (cn : Int) := ⟨cut.toNat, by omega⟩
  clear hcut
  cases hm : muchT xs 16 with
  | true =>
    rw [hm] at CM
    go_enter Tryz.func3, Tryz.ntmps3
    go_wp2_with fail
    refine CM.out.mono ?_
    rintro e w1 ⟨rfl, hb1⟩
    go_wp2_with fail
    refine (works13 _).mono ?_
    rintro e w2 ⟨rfl, hb2⟩
    go_wp2
    go_ret
    exact ⟨rfl, hb1.trans (hb2.mono hb1.size)⟩
  | false =>
    obtain ⟨hl16, hsm⟩ := muchT_no hm
    have CB := Lib.hid (fun w' h' => Begin_any A n xs w' h' (by omega) hsm)
    rw [hm] at CM
    go_enter Tryz.func3, Tryz.ntmps3
    go_wp2_with fail
    refine CM.out.mono ?_
    rintro e w1 ⟨rfl, hb1⟩
    have HB1 := Lib.hid hb1
    have C1 := Lib.hid (CB.out w1 (hx.below hb1))
    clear hb1 CM CB
    by_cases hw16 : 16 < ws.length
    · go_wp2_with fail
      refine (works13 _).mono ?_
      rintro e w2 ⟨rfl, hb2⟩
      go_wp2
      go_ret
      exact ⟨rfl, HB1.out.trans (hb2.mono HB1.out.size)⟩
    go_wp2_with fail
    refine C1.out.mono ?_
    rintro e w2 ⟨c, d, g, b, N, X, v, s, ⟨AB, cB, AL, cL, AK, cK⟩, rfl, hc2, hi2, hrd, hls, hbd, hX, hr2, hb2⟩
    have hs1 := HB1.out.size
    have hs2 := hb2.size
    have hb3 : Below w2.heap.size w2 (w2.alloc (.cells (rcP ⟨AB, cB, AL, cL, AK, cK⟩ s) 32)) := bb0 _ _
    have hc3 := hc2.grow hb3
    have hr3 : Rc (NF (fun j => N j ∨ (w2.heap.size ≤ j ∧ j < (w2.alloc (.cells (rcP ⟨AB, cB, AL, cL, AK, cK⟩ s) 32)).heap.size)) c d g b (· = w2.heap.size) (w2.alloc (.cells (rcP ⟨AB, cB, AL, cL, AK, cK⟩ s) 32))) (w2.alloc (.cells (rcP ⟨AB, cB, AL, cL, AK, cK⟩ s) 32)) ⟨AB, cB, AL, cL, AK, cK⟩ s := hr2.go (fun k h1 _ => hb3.block k h1) hb3.size (fun k h1 h2 e => by
      rcases e.2 with e2 | e2
      · exact e2 (NF.far h1 h2).1.or
      · have e2 : k = w2.heap.size := e2
        omega)
    have HFB : Hid (Far (fun j => N j ∨ (w2.heap.size ≤ j ∧ j < (w2.alloc (.cells (rcP ⟨AB, cB, AL, cL, AK, cK⟩ s) 32)).heap.size)) c d g b w2.heap.size) := Lib.hid ⟨.inr ⟨Nat.le_refl _, by simp⟩, by have := hc2.row.lt; omega, by have := hc2.dev.1.lt; omega, by have := hc2.dev.2.1.2.2; omega, by have := hc2.map.lt; omega⟩
    obtain ⟨N1, hN⟩ : ∃ N1 : Nat → Prop, N1 = fun j => N j ∨ (w2.heap.size ≤ j ∧ j < (w2.alloc (.cells (rcP ⟨AB, cB, AL, cL, AK, cK⟩ s) 32)).heap.size) := ⟨_, rfl⟩
    rw [← hN] at hc3 hr3 HFB
    have HBD : Hid (Bd w.heap.size c d g b N1) := Lib.hid ⟨by have := hbd.c; omega, by have := hbd.d; omega, by have := hbd.g; omega, by have := hbd.b; omega, fun k hk => by rw [hN]; exact .inl (hbd.n k (by omega))⟩
    have HC3 := Lib.hid hc3
    have HR3 := Lib.hid hr3
    have HI2 := Lib.hid hi2
    have HB3 := Lib.hid ((HB1.out.trans (hb2.mono hs1)).trans (hb3.mono (by omega)))
    have HRB : Hid (Row (w2.alloc (.cells (rcP ⟨AB, cB, AL, cL, AK, cK⟩ s) 32)) w2.heap.size 32 (rcP ⟨AB, cB, AL, cL, AK, cK⟩ s)) := Lib.hid (Row.new _ _ _)
    have hbxw : w.heap.size ≤ w2.heap.size := by omega
    have HW := Lib.hid hw
    clear hc2 hi2 hbd hb2 hb3 C1 hr2 hc3 hr3 hN hrd hls hX hs1 hs2 HB1 hw
    obtain ⟨bx, hbx⟩ : ∃ bx, w2.heap.size = bx := ⟨_, rfl⟩
    have hrem : Int.tmod ((cn : Nat) : Int) ((ws.length : Int) + 1) = ((cn % (ws.length + 1) : Nat) : Int) := by
      rw [show (ws.length : Int) + 1 = ((ws.length + 1 : Nat) : Int) from by omega]
      rfl
    have hkl : cn % (ws.length + 1) < ws.length + 1 := Nat.mod_lt _ (by omega)
    have hnz : (((ws.length : Int) + 1) == 0) = false := by rw [beq_eq_false_iff_ne]; omega
    generalize cn % (ws.length + 1) = k at *
    go_wp2
    try rw [hbx]
    rw [hbx] at HFB HRB HR3 hbxw
    clear hbx
    go_loopw [11] (fun i wr => ∃ (j : Nat) (v : Value) (S : St) (p : Rp) (N : Nat → Prop), j ≤ k ∧ i = .int .i64 j ∧ Ca wr c d g b N v S ∧ Hid (Inv S) ∧ Hid (Bd w.heap.size c d g b N) ∧ Hid (Far N c d g b bx) ∧ Row wr bx 32 (rcP p S) ∧ Rc (NF N c d g b (· = bx) wr) wr p S ∧ Below w.heap.size w wr) (fun i _ => k - (intOf i).toNat)
    case atStart => exact ⟨0, v, s, ⟨AB, cB, AL, cL, AK, cK⟩, N1, by omega, rfl, HC3.out, HI2, HBD, HFB, HRB.out, HR3.out, HB3.out⟩
    case round =>
      clear HC3 HI2 HBD HFB HRB HR3 HB3
      obtain ⟨j, v, S, ⟨AB, cB, AL, cL, AK, cK⟩, N, hj, rfl, hc, HIS, HBD, HFB, hrb, hrc, hbr⟩ := hrel
      change Row wr bx 32 (rcC AB cB AL S.xs.length cL AK cK S.last (rfu S.dv) S.dv.off S.dv.wr) at hrb
      by_cases hlt : j < k
      · obtain ⟨gx, ox, x, hA1, hgx0, -, hx64, hwx, hcx⟩ := u64_at HW.out j (by omega)
        have hgx0 : gx < w.heap.size := hgx0
        subst hA1
        have e0 : wr.drew.cell? ⟨gx, ox + j, none⟩ = some (.int .u64 (x : Int)) := (hbr.cell (p := ⟨gx, ox + j, none⟩) hgx0).trans hcx
        have hjw : j < ws.length := by omega
        have hgxr : gx < wr.heap.size := Nat.lt_of_lt_of_le hgx0 hbr.size
        have hbxr : bx < wr.heap.size := hrb.lt
        have CR := Lib.hid (fun W (hH : Below wr.heap.size wr.drew W) => RStep_held (W0 := wr.drew) hx64 hH (hrc.below (Below.refl _ _).drew) (fun b hb => hb.1) HIS.out)
        have HI2 := Lib.hid (stS_inv HIS.out x)
        have CG := Lib.hid (fun w' N' v' (h1 : Ca w' c d g b N' v' S) => Step_any x hx64 c d g b N' v' S w' h1 HIS.out)
        have HC := Lib.hid hc
        have HRC := Lib.hid hrc
        have HBR := Lib.hid hbr
        have HRB := Lib.hid hrb
        have hrbd := hrb.drew
        clear hc hrc hbr hwx
        obtain ⟨S2, hS2⟩ : ∃ S2, stS S x = S2 := ⟨_, rfl⟩
        obtain ⟨M2, hM2⟩ : ∃ M2, stN S x = M2 := ⟨_, rfl⟩
        obtain ⟨E2, hE2⟩ : ∃ E2, stE S x = E2 := ⟨_, rfl⟩
        rw [hS2, hM2, hE2] at CR CG
        rw [hS2] at HI2
        clear hS2 hM2 hE2 HIS
        go_wp2_with fail
        clear hrb
        go_cut [12, 13, 14] (fun s7 s8 s9 w' => ∃ (g7 : Nat) (p2 : Rp), s7 = .pointer (some ⟨g7, 0, none⟩) ∧ s8 = .int .i64 M2 ∧ s9 = .int .i64 E2 ∧ Row w' g7 32 (rcP p2 S2) ∧ Rc (NF N c d g b (· = bx) wr) w' p2 S2 ∧ wr.heap.size ≤ g7 ∧ Below wr.heap.size wr w')
        case first =>
          refine wp_region_held_drew (S := Go.RowKit.Below ((wr.drew).heap.size) (wr.drew)) (by kernel_rfl) ?hb8 (fun hHeld => ?rest8)
          case hb8 =>
            exact Go.RowKit.Below.refl _ _
          case' rest8 => skip
          have hCl := fun (wS : World) (hSw : Go.RowKit.Below ((wr.drew).heap.size) (wr.drew) wS) => And.intro ((Mem.bl_row hSw hrbd (by first | exact Mem.Row.lt hrbd | omega | (simp <;> omega))).cell 0 rfl) <| And.intro ((Mem.bl_row hSw hrbd (by first | exact Mem.Row.lt hrbd | omega | (simp <;> omega))).cell 1 rfl) <| And.intro ((Mem.bl_row hSw hrbd (by first | exact Mem.Row.lt hrbd | omega | (simp <;> omega))).cell 2 rfl) <| And.intro ((Mem.bl_row hSw hrbd (by first | exact Mem.Row.lt hrbd | omega | (simp <;> omega))).cell 3 rfl) <| And.intro ((Mem.bl_row hSw hrbd (by first | exact Mem.Row.lt hrbd | omega | (simp <;> omega))).cell 4 rfl) <| And.intro ((Mem.bl_row hSw hrbd (by first | exact Mem.Row.lt hrbd | omega | (simp <;> omega))).cell 5 rfl) <| And.intro ((Mem.bl_row hSw hrbd (by first | exact Mem.Row.lt hrbd | omega | (simp <;> omega))).cell 6 rfl) <| Mem.bl_cell hSw e0 (by first | omega | (dsimp only; omega) | exact World.block_lt_of_cell? _ _ e0 | (simp <;> omega))
          replace hCl := Go.Lib.hid hCl
          refine Mem.tkV 0 ?v9 ?y9 ?r9
          case y9 => (intro w hSw; obtain ⟨hT0, hT1, hT2, hT3, hT4, hT5, hT6, hT7⟩ := hCl.out w hSw; clear hSw; go_simp; try with_reducible rfl)
          refine Mem.tkV 1 ?v10 ?y10 ?r10
          case y10 => (intro w hSw; clear hSw; go_simp; try with_reducible rfl)
          refine Mem.tkV 2 ?v11 ?y11 ?r11
          case y11 => (intro w hSw; clear hSw; go_simp; try with_reducible rfl)
          try simp only [Mem.pa, Mem.pb, Mem.pc, Act.put, Mem.pd, Mem.pe, Mem.pf]
          refine Mem.tkV 3 ?v12 ?y12 ?r12
          case y12 => (intro w hSw; clear hSw; go_simp; try with_reducible rfl)
          refine Mem.tkV 4 ?v13 ?y13 ?r13
          case y13 => (intro w hSw; obtain ⟨hT0, hT1, hT2, hT3, hT4, hT5, hT6, hT7⟩ := hCl.out w hSw; clear hSw; go_simp; try with_reducible rfl)
          try simp only [Mem.pa, Mem.pb, Mem.pc, Act.put, Mem.pd, Mem.pe, Mem.pf]
          refine wpAnyH_ready (rs := [5, 10]) (by kernel_rfl) (by simp) ?_
          refine AllReadyH.cons rfl (fun K hK => ?_) ?_
          · skip
            go_simp
            (refine (CR.out _ hHeld).mono ?_; rintro e wl ⟨p2, rfl, hR2, hbl⟩)
            try go_wp2_with fail
            have hSnew := Mem.bl_step hHeld hbl (by first | exact Nat.le_refl _ | omega | (simp <;> omega))
            refine hK.out _ _ ?_ (fun hHeld2 => ?_)
            · exact hSnew
            try replace hr7 := hr7.below hbl
            clear hbl
            clear hK K hHeld hSnew
            have hHeld := hHeld2
            clear hHeld2
            try simp only [Mem.pa, Mem.pb, Mem.pc, Act.put, Mem.pd, Mem.pe, Mem.pf]
            refine Mem.tkV 6 ?v14 ?y14 ?r14
            case y14 => (intro w hSw; clear hSw; go_simp; try with_reducible rfl)
            refine Mem.tkV 7 ?v15 ?y15 ?r15
            case y15 => (intro w hSw; clear hSw; go_simp; try with_reducible rfl)
            refine Mem.tkV 8 ?v16 ?y16 ?r16
            case y16 => (intro w hSw; clear hSw; go_simp; try with_reducible rfl)
            try simp only [Mem.pa, Mem.pb, Mem.pc, Act.put, Mem.pd, Mem.pe, Mem.pf]
            refine Mem.tkV 9 ?v17 ?y17 ?r17
            case y17 => (intro w hSw; clear hSw; go_simp; try with_reducible rfl)
            try simp only [Mem.pa, Mem.pb, Mem.pc, Act.put, Mem.pd, Mem.pe, Mem.pf]
            refine wpAnyH_ready (rs := [10]) (by kernel_rfl) (by simp) ?_
            refine AllReadyH.cons rfl (fun K hK => ?_) AllReadyH.nil
            rw [if_pos (by rfl)]
            refine wp_allocN 32 (by rfl) _ rcZero ?_; intro g7 wa hr7 hbl hg7'; have hg7 : wr.heap.size ≤ g7 := Nat.le_trans hHeld.size hg7'; have hga := Row.lt hr7; (try (have hR2 := hR2.fresh hbl hg7'))
            have hSnew := Mem.bl_step hHeld hbl (by first | exact Nat.le_refl _ | omega | (simp <;> omega))
            refine hK.out _ _ ?_ (fun hHeld2 => ?_)
            · exact hSnew
            try replace hr7 := hr7.below hbl
            clear hbl
            clear hK K hHeld hSnew
            have hHeld := hHeld2
            clear hHeld2
            try simp only [Mem.pa, Mem.pb, Mem.pc, Act.put, Mem.pd, Mem.pe, Mem.pf]
            refine wpAnyH_ready (rs := [11]) (by kernel_rfl) (by simp) ?_
            refine AllReadyH.cons rfl (fun K hK => ?_) AllReadyH.nil
            rw [if_pos (by rfl)]
            refine wp_storeRow _ _ _ (by rfl) g7 (by rfl) (rcP p2 S2) (by rfl) rcZ 32 7 rcSize rfl rfl (rcC_one _ _ _ _ _ _ _ _ _ _ _) hr7 ?_; have hSnew := below_setRow hHeld hg7 (rcP p2 S2); have hr8 := hr7.set (rcP p2 S2); have hR3 := Rc.store (N' := NF N c d g b (· = bx) wr) (g := g7) hR2 (rcP p2 S2) (by first | exact .inr rfl | exact .inr ⟨hg7, hga⟩) (fun b hb => by first | exact .inl hb | exact .inl (.inl hb))
            refine hK.out _ _ ?_ (fun hHeld2 => ?_)
            · exact hSnew
            clear hK K hHeld hSnew
            have hHeld := hHeld2
            clear hHeld2
            try simp only [Mem.pa, Mem.pb, Mem.pc, Act.put, Mem.pd, Mem.pe, Mem.pf]
            refine Mem.tkV 12 ?v18 ?y18 ?r18
            case y18 => (intro w hSw; clear hSw; go_simp; try with_reducible rfl)
            refine Mem.tkV 13 ?v19 ?y19 ?r19
            case y19 => (intro w hSw; clear hSw; go_simp; try with_reducible rfl)
            try simp only [Mem.pa, Mem.pb, Mem.pc, Act.put, Mem.pd, Mem.pe, Mem.pf]
            refine wpAnyH_done (by kernel_rfl) ?_ _
            clear hCl
            go_wp2_with fail
            go_meet
            case rel => exact ⟨g7, p2, rfl, rfl, rfl, hr8, hR3, hg7, (Below.refl _ _).drew.trans hHeld⟩
          refine AllReadyH.cons rfl (fun K hK => ?_) ?_
          · skip
            rw [if_pos (by rfl)]
            refine wp_allocN 32 (by rfl) _ rcZero ?_; intro g7 wa hr7 hbl hg7'; have hg7 : wr.heap.size ≤ g7 := Nat.le_trans hHeld.size hg7'; have hga := Row.lt hr7; (try (have hR2 := hR2.fresh hbl hg7'))
            have hSnew := Mem.bl_step hHeld hbl (by first | exact Nat.le_refl _ | omega | (simp <;> omega))
            refine hK.out _ _ ?_ (fun hHeld2 => ?_)
            · exact hSnew
            try replace hr7 := hr7.below hbl
            clear hbl
            clear hK K hHeld hSnew
            have hHeld := hHeld2
            clear hHeld2
            try simp only [Mem.pa, Mem.pb, Mem.pc, Act.put, Mem.pd, Mem.pe, Mem.pf]
            refine wpAnyH_ready (rs := [5]) (by kernel_rfl) (by simp) ?_
            refine AllReadyH.cons rfl (fun K hK => ?_) AllReadyH.nil
            go_simp
            (refine (CR.out _ hHeld).mono ?_; rintro e wl ⟨p2, rfl, hR2, hbl⟩)
            try go_wp2_with fail
            have hSnew := Mem.bl_step hHeld hbl (by first | exact Nat.le_refl _ | omega | (simp <;> omega))
            refine hK.out _ _ ?_ (fun hHeld2 => ?_)
            · exact hSnew
            try replace hr7 := hr7.below hbl
            clear hbl
            clear hK K hHeld hSnew
            have hHeld := hHeld2
            clear hHeld2
            try simp only [Mem.pa, Mem.pb, Mem.pc, Act.put, Mem.pd, Mem.pe, Mem.pf]
            refine Mem.tkV 6 ?v20 ?y20 ?r20
            case y20 => (intro w hSw; clear hSw; go_simp; try with_reducible rfl)
            refine Mem.tkV 7 ?v21 ?y21 ?r21
            case y21 => (intro w hSw; clear hSw; go_simp; try with_reducible rfl)
            refine Mem.tkV 8 ?v22 ?y22 ?r22
            case y22 => (intro w hSw; clear hSw; go_simp; try with_reducible rfl)
            try simp only [Mem.pa, Mem.pb, Mem.pc, Act.put, Mem.pd, Mem.pe, Mem.pf]
            refine Mem.tkV 9 ?v23 ?y23 ?r23
            case y23 => (intro w hSw; clear hSw; go_simp; try with_reducible rfl)
            try simp only [Mem.pa, Mem.pb, Mem.pc, Act.put, Mem.pd, Mem.pe, Mem.pf]
            refine wpAnyH_ready (rs := [11]) (by kernel_rfl) (by simp) ?_
            refine AllReadyH.cons rfl (fun K hK => ?_) AllReadyH.nil
            rw [if_pos (by rfl)]
            refine wp_storeRow _ _ _ (by rfl) g7 (by rfl) (rcP p2 S2) (by rfl) rcZ 32 7 rcSize rfl rfl (rcC_one _ _ _ _ _ _ _ _ _ _ _) hr7 ?_; have hSnew := below_setRow hHeld hg7 (rcP p2 S2); have hr8 := hr7.set (rcP p2 S2); have hR3 := Rc.store (N' := NF N c d g b (· = bx) wr) (g := g7) hR2 (rcP p2 S2) (by first | exact .inr rfl | exact .inr ⟨hg7, hga⟩) (fun b hb => by first | exact .inl hb | exact .inl (.inl hb))
            refine hK.out _ _ ?_ (fun hHeld2 => ?_)
            · exact hSnew
            clear hK K hHeld hSnew
            have hHeld := hHeld2
            clear hHeld2
            try simp only [Mem.pa, Mem.pb, Mem.pc, Act.put, Mem.pd, Mem.pe, Mem.pf]
            refine Mem.tkV 12 ?v24 ?y24 ?r24
            case y24 => (intro w hSw; clear hSw; go_simp; try with_reducible rfl)
            refine Mem.tkV 13 ?v25 ?y25 ?r25
            case y25 => (intro w hSw; clear hSw; go_simp; try with_reducible rfl)
            try simp only [Mem.pa, Mem.pb, Mem.pc, Act.put, Mem.pd, Mem.pe, Mem.pf]
            refine wpAnyH_done (by kernel_rfl) ?_ _
            clear hCl
            go_wp2_with fail
            go_meet
            case rel => exact ⟨g7, p2, rfl, rfl, rfl, hr8, hR3, hg7, (Below.refl _ _).drew.trans hHeld⟩
          exact AllReadyH.nil
        case rest =>
          obtain ⟨g7, ⟨AB2, cB2, AL2, cL2, AK2, cK2⟩, rfl, rfl, rfl, hr7, hR2, hg7, hbc⟩ := hcut
          have HR7 := Lib.hid hr7
          have HRBC := Lib.hid (HRB.out.below hbc)
          have hc6a := HC.out.grow hbc
          have hr6a := Rc.grow hR2 HC.out hbc (fun k hk => by have hk : k = bx := hk; omega)
          obtain ⟨N2, hN2⟩ : ∃ N2 : Nat → Prop, N2 = fun j => N j ∨ (wr.heap.size ≤ j ∧ j < wc.heap.size) := ⟨_, rfl⟩
          rw [← hN2] at hc6a hr6a
          have HFB2 : Hid (Far N2 c d g b bx) := Lib.hid (by rw [hN2]; exact HFB.out.or)
          have HBD2 : Hid (Bd w.heap.size c d g b N2) := Lib.hid (by rw [hN2]; exact HBD.out.or)
          have HC6 := Lib.hid (hc6a.setRow HFB2.out (rcP ⟨AB2, cB2, AL2, cL2, AK2, cK2⟩ S2))
          have HR6 := Lib.hid (hr6a.setBx (Nat.lt_of_lt_of_le hbxr hbc.size) rfl (rcP ⟨AB2, cB2, AL2, cL2, AK2, cK2⟩ S2))
          have HRB6 := Lib.hid (HRBC.out.set (rcP ⟨AB2, cB2, AL2, cL2, AK2, cK2⟩ S2))
          have HB6 := Lib.hid (below_setRow (HBR.out.trans (hbc.mono HBR.out.size)) hbxw (rcP ⟨AB2, cB2, AL2, cL2, AK2, cK2⟩ S2))
          have hlt7 : ¬ g7 = bx := by omega
          have CG6 := Lib.hid (CG.out _ N2 v HC6.out)
          have e0 : World.cell? _ ⟨gx, ox + j, none⟩ = _ := (HB6.out.cell (p := ⟨gx, ox + j, none⟩) hgx0).trans hcx
          clear hr7 hR2 hc6a hr6a hN2 hbc CG HC HRC HBR HRB hrbd CR HFB HBD
          go_wp2_with (first
            | (with_reducible refine wpList_ldC rfl _ rfl _ rfl _ rfl HR7.out ?_)
            | (with_reducible refine wpList_storeRow rfl 32 _ _ rfl bx rfl (rcP ⟨AB2, cB2, AL2, cL2, AK2, cK2⟩ S2) rfl _ 32 7 rcSize rfl rfl (rcC_one _ _ _ _ _ _ _ _ _ _ _) HRBC.out ?_))
          refine CG6.out.mono ?_
          rintro e w7 ⟨v7, rfl, hc7, ht7⟩
          have HRB7 := Lib.hid (ht7.row HFB2.out HRB6.out)
          have HR7' := Lib.hid (Rc.tn HR6.out ht7)
          have HB7 := Lib.hid (Tn.bel HB6.out ht7 HBD2.out)
          have HC7 := Lib.hid hc7
          clear hc7 ht7 CG6 HC6 HR6 HRB6 HB6 HR7 HRBC e0
          have hrow : Row w7 bx 32 (rcC AB2 cB2 AL2 S2.xs.length cL2 AK2 cK2 S2.last (rfu S2.dv) S2.dv.off S2.dv.wr) := HRB7.out
          have k0 := hrow.cell 0 rfl
          have k1 := hrow.cell 1 rfl
          have k2 := hrow.cell 2 rfl
          have k3 := hrow.cell 3 rfl
          have k4 := hrow.cell 4 rfl
          have k5 := hrow.cell 5 rfl
          have k6 := hrow.cell 6 rfl
          have CS := Lib.hid (Same13_any c d g b N2 _ v7 S2 ⟨AB2, cB2, AL2, cL2, AK2, cK2⟩ w7 HC7.out HI2.out HR7'.out)
          clear hrow
          go_wp2_with fail
          refine CS.out.mono ?_
          rintro e w8 ⟨rfl, hb8⟩
          have HB8 := Lib.hid hb8
          clear hb8 k0 k1 k2 k3 k4 k5 k6 CS
          go_wp2
          go_roundw
          case rel => exact ⟨j + 1, v7, S2, ⟨AB2, cB2, AL2, cL2, AK2, cK2⟩, N2, by omega, by go_num, HC7.out.below HB8.out, HI2, HBD2, HFB2, HRB7.out.below HB8.out, Rc.later HR7'.out HB8.out, HB7.out.trans (HB8.out.mono HB7.out.size)⟩
          case measure => simp [intOf]; omega
      · obtain rfl : j = k := by omega
        have HU : Hid (rnG (ws.drop j) 0 S = ((rnG (ws.drop j) 0 S).1, (rnG (ws.drop j) 0 S).2.1, (rnG (ws.drop j) 0 S).2.2)) := Lib.hid rfl
        obtain ⟨R1, hR1⟩ : ∃ R1, (rnG (ws.drop j) 0 S).1 = R1 := ⟨_, rfl⟩
        obtain ⟨R2, hR2⟩ : ∃ R2, (rnG (ws.drop j) 0 S).2.1 = R2 := ⟨_, rfl⟩
        obtain ⟨R3, hR3⟩ : ∃ R3, (rnG (ws.drop j) 0 S).2.2 = R3 := ⟨_, rfl⟩
        rw [hR1, hR2, hR3] at HU
        have HRR := Lib.hid (And.intro hR1 (And.intro hR2 hR3))
        clear hR1 hR2 hR3
        go_wp2_with fail
        go_loopw [17, 18, 19] (fun mn wn i wr => ∃ (q m : Nat) (D : St) (p : Rp) (N : Nat → Prop) (want : Int), j ≤ q ∧ q ≤ ws.length ∧ m ≤ q ∧ i = .int .i64 q ∧ mn = .int .i64 m ∧ wn = .int .i64 want ∧ Ca wr c d g b N v S ∧ Hid (Inv D) ∧ Hid (Bd w.heap.size c d g b N) ∧ Hid (Far N c d g b bx) ∧ Row wr bx 32 (rcP p D) ∧ Rc (NF N c d g b (· = bx) wr) wr p D ∧ Hid ((want = 0 ∧ rnG (ws.drop q) m D = (R1, R2, R3)) ∨ (want ≠ 0 ∧ m = R1 ∧ D = R2 ∧ want = R3)) ∧ Below w.heap.size w wr) (fun _ _ i _ => ws.length - (intOf i).toNat)
        case atStart => exact ⟨j, 0, S, ⟨AB, cB, AL, cL, AK, cK⟩, N, 0, by omega, by omega, by omega, rfl, rfl, rfl, hc, HIS, HBD, HFB, hrb, hrc, Lib.hid (.inl ⟨rfl, HU.out⟩), hbr⟩
        case round =>
          clear hc HBD HFB hrb hrc hbr HU
          obtain ⟨q, m, D, ⟨AB, cB, AL, cL, AK, cK⟩, N, want, hjq, hq, hmq, rfl, rfl, rfl, hc, HID, HBD, HFB, hrb, hrc, HWN, hbr⟩ := hrel
          change Row wr bx 32 (rcC AB cB AL D.xs.length cL AK cK D.last (rfu D.dv) D.dv.off D.dv.wr) at hrb
          by_cases hlt2 : q < ws.length ∧ want = 0
          · obtain ⟨hlt2, rfl⟩ := hlt2
            obtain ⟨gx, ox, x, hA1, hgx0, -, hx64, hwx, hcx⟩ := u64_at HW.out q (by omega)
            have hgx0 : gx < w.heap.size := hgx0
            subst hA1
            have e0 : wr.drew.cell? ⟨gx, ox + q, none⟩ = some (.int .u64 (x : Int)) := (hbr.cell (p := ⟨gx, ox + q, none⟩) hgx0).trans hcx
            have hgxr : gx < wr.heap.size := Nat.lt_of_lt_of_le hgx0 hbr.size
            have hbxr : bx < wr.heap.size := hrb.lt
            have CR := Lib.hid (fun W (hH : Below wr.heap.size wr.drew W) => RStep_held (W0 := wr.drew) hx64 hH (hrc.below (Below.refl _ _).drew) (fun b hb => hb.1) HID.out)
            have HI2 := Lib.hid (stS_inv HID.out x)
            have hu : rnG (ws.drop q) m D = (R1, R2, R3) := by rcases HWN.out with h | h; exact h.2; exact absurd rfl h.1
            rw [List.drop_eq_getElem_cons hlt2, rnG, hwx, Int.toNat_natCast] at hu
            have HC := Lib.hid hc
            have HRC := Lib.hid hrc
            have HBR := Lib.hid hbr
            have HRB := Lib.hid hrb
            have hrbd := hrb.drew
            obtain ⟨S2, hS2⟩ : ∃ S2, stS D x = S2 := ⟨_, rfl⟩
            obtain ⟨M2, hM2⟩ : ∃ M2, stN D x = M2 := ⟨_, rfl⟩
            obtain ⟨E2, hE2⟩ : ∃ E2, stE D x = E2 := ⟨_, rfl⟩
            rw [hS2, hM2, hE2] at CR
            rw [hS2, hE2] at hu
            rw [hS2] at HI2
            have HWN2 : Hid ((E2 = 0 ∧ rnG (ws.drop (q + 1)) (m + 1) S2 = (R1, R2, R3)) ∨ (E2 ≠ 0 ∧ m = R1 ∧ S2 = R2 ∧ E2 = R3)) := Lib.hid (by
              by_cases hE : E2 = 0
              · rw [if_pos hE] at hu; exact .inl ⟨hE, hu⟩
              · rw [if_neg hE] at hu; injection hu with a b; injection b with b c; exact .inr ⟨hE, a, b, c⟩)
            clear hc hrc hbr hwx hu hS2 hM2 hE2 HID HWN
            go_wp2_with fail
            clear hrb
            go_cut [20, 21, 22] (fun s7 s8 s9 w' => ∃ (g7 : Nat) (p2 : Rp), s7 = .pointer (some ⟨g7, 0, none⟩) ∧ s8 = .int .i64 M2 ∧ s9 = .int .i64 E2 ∧ Row w' g7 32 (rcP p2 S2) ∧ Rc (NF N c d g b (· = bx) wr) w' p2 S2 ∧ wr.heap.size ≤ g7 ∧ Below wr.heap.size wr w')
            case first =>
              refine wp_region_held_drew (S := Go.RowKit.Below ((wr.drew).heap.size) (wr.drew)) (by kernel_rfl) ?hb33 (fun hHeld => ?rest33)
              case hb33 =>
                exact Go.RowKit.Below.refl _ _
              case' rest33 => skip
              have hCl := fun (wS : World) (hSw : Go.RowKit.Below ((wr.drew).heap.size) (wr.drew) wS) => And.intro ((Mem.bl_row hSw hrbd (by first | exact Mem.Row.lt hrbd | omega | (simp <;> omega))).cell 0 rfl) <| And.intro ((Mem.bl_row hSw hrbd (by first | exact Mem.Row.lt hrbd | omega | (simp <;> omega))).cell 1 rfl) <| And.intro ((Mem.bl_row hSw hrbd (by first | exact Mem.Row.lt hrbd | omega | (simp <;> omega))).cell 2 rfl) <| And.intro ((Mem.bl_row hSw hrbd (by first | exact Mem.Row.lt hrbd | omega | (simp <;> omega))).cell 3 rfl) <| And.intro ((Mem.bl_row hSw hrbd (by first | exact Mem.Row.lt hrbd | omega | (simp <;> omega))).cell 4 rfl) <| And.intro ((Mem.bl_row hSw hrbd (by first | exact Mem.Row.lt hrbd | omega | (simp <;> omega))).cell 5 rfl) <| And.intro ((Mem.bl_row hSw hrbd (by first | exact Mem.Row.lt hrbd | omega | (simp <;> omega))).cell 6 rfl) <| Mem.bl_cell hSw e0 (by first | omega | (dsimp only; omega) | exact World.block_lt_of_cell? _ _ e0 | (simp <;> omega))
              replace hCl := Go.Lib.hid hCl
              refine Mem.tkV 0 ?v34 ?y34 ?r34
              case y34 => (intro w hSw; obtain ⟨hT0, hT1, hT2, hT3, hT4, hT5, hT6, hT7⟩ := hCl.out w hSw; clear hSw; go_simp; try with_reducible rfl)
              refine Mem.tkV 1 ?v35 ?y35 ?r35
              case y35 => (intro w hSw; clear hSw; go_simp; try with_reducible rfl)
              refine Mem.tkV 2 ?v36 ?y36 ?r36
              case y36 => (intro w hSw; clear hSw; go_simp; try with_reducible rfl)
              try simp only [Mem.pa, Mem.pb, Mem.pc, Act.put, Mem.pd, Mem.pe, Mem.pf]
              refine Mem.tkV 3 ?v37 ?y37 ?r37
              case y37 => (intro w hSw; clear hSw; go_simp; try with_reducible rfl)
              refine Mem.tkV 4 ?v38 ?y38 ?r38
              case y38 => (intro w hSw; obtain ⟨hT0, hT1, hT2, hT3, hT4, hT5, hT6, hT7⟩ := hCl.out w hSw; clear hSw; go_simp; try with_reducible rfl)
              try simp only [Mem.pa, Mem.pb, Mem.pc, Act.put, Mem.pd, Mem.pe, Mem.pf]
              refine wpAnyH_ready (rs := [5, 10]) (by kernel_rfl) (by simp) ?_
              refine AllReadyH.cons rfl (fun K hK => ?_) ?_
              · skip
                go_simp
                (refine (CR.out _ hHeld).mono ?_; rintro e wl ⟨p2, rfl, hR2, hbl⟩)
                try go_wp2_with fail
                have hSnew := Mem.bl_step hHeld hbl (by first | exact Nat.le_refl _ | omega | (simp <;> omega))
                refine hK.out _ _ ?_ (fun hHeld2 => ?_)
                · exact hSnew
                try replace hr7 := hr7.below hbl
                clear hbl
                clear hK K hHeld hSnew
                have hHeld := hHeld2
                clear hHeld2
                try simp only [Mem.pa, Mem.pb, Mem.pc, Act.put, Mem.pd, Mem.pe, Mem.pf]
                refine Mem.tkV 6 ?v39 ?y39 ?r39
                case y39 => (intro w hSw; clear hSw; go_simp; try with_reducible rfl)
                refine Mem.tkV 7 ?v40 ?y40 ?r40
                case y40 => (intro w hSw; clear hSw; go_simp; try with_reducible rfl)
                refine Mem.tkV 8 ?v41 ?y41 ?r41
                case y41 => (intro w hSw; clear hSw; go_simp; try with_reducible rfl)
                try simp only [Mem.pa, Mem.pb, Mem.pc, Act.put, Mem.pd, Mem.pe, Mem.pf]
                refine Mem.tkV 9 ?v42 ?y42 ?r42
                case y42 => (intro w hSw; clear hSw; go_simp; try with_reducible rfl)
                try simp only [Mem.pa, Mem.pb, Mem.pc, Act.put, Mem.pd, Mem.pe, Mem.pf]
                refine wpAnyH_ready (rs := [10]) (by kernel_rfl) (by simp) ?_
                refine AllReadyH.cons rfl (fun K hK => ?_) AllReadyH.nil
                rw [if_pos (by rfl)]
                refine wp_allocN 32 (by rfl) _ rcZero ?_; intro g7 wa hr7 hbl hg7'; have hg7 : wr.heap.size ≤ g7 := Nat.le_trans hHeld.size hg7'; have hga := Row.lt hr7; (try (have hR2 := hR2.fresh hbl hg7'))
                have hSnew := Mem.bl_step hHeld hbl (by first | exact Nat.le_refl _ | omega | (simp <;> omega))
                refine hK.out _ _ ?_ (fun hHeld2 => ?_)
                · exact hSnew
                try replace hr7 := hr7.below hbl
                clear hbl
                clear hK K hHeld hSnew
                have hHeld := hHeld2
                clear hHeld2
                try simp only [Mem.pa, Mem.pb, Mem.pc, Act.put, Mem.pd, Mem.pe, Mem.pf]
                refine wpAnyH_ready (rs := [11]) (by kernel_rfl) (by simp) ?_
                refine AllReadyH.cons rfl (fun K hK => ?_) AllReadyH.nil
                rw [if_pos (by rfl)]
                refine wp_storeRow _ _ _ (by rfl) g7 (by rfl) (rcP p2 S2) (by rfl) rcZ 32 7 rcSize rfl rfl (rcC_one _ _ _ _ _ _ _ _ _ _ _) hr7 ?_; have hSnew := below_setRow hHeld hg7 (rcP p2 S2); have hr8 := hr7.set (rcP p2 S2); have hR3 := Rc.store (N' := NF N c d g b (· = bx) wr) (g := g7) hR2 (rcP p2 S2) (by first | exact .inr rfl | exact .inr ⟨hg7, hga⟩) (fun b hb => by first | exact .inl hb | exact .inl (.inl hb))
                refine hK.out _ _ ?_ (fun hHeld2 => ?_)
                · exact hSnew
                clear hK K hHeld hSnew
                have hHeld := hHeld2
                clear hHeld2
                try simp only [Mem.pa, Mem.pb, Mem.pc, Act.put, Mem.pd, Mem.pe, Mem.pf]
                refine Mem.tkV 12 ?v43 ?y43 ?r43
                case y43 => (intro w hSw; clear hSw; go_simp; try with_reducible rfl)
                refine Mem.tkV 13 ?v44 ?y44 ?r44
                case y44 => (intro w hSw; clear hSw; go_simp; try with_reducible rfl)
                try simp only [Mem.pa, Mem.pb, Mem.pc, Act.put, Mem.pd, Mem.pe, Mem.pf]
                refine wpAnyH_done (by kernel_rfl) ?_ _
                clear hCl
                go_wp2_with fail
                go_meet
                case rel => exact ⟨g7, p2, rfl, rfl, rfl, hr8, hR3, hg7, (Below.refl _ _).drew.trans hHeld⟩
              refine AllReadyH.cons rfl (fun K hK => ?_) ?_
              · skip
                rw [if_pos (by rfl)]
                refine wp_allocN 32 (by rfl) _ rcZero ?_; intro g7 wa hr7 hbl hg7'; have hg7 : wr.heap.size ≤ g7 := Nat.le_trans hHeld.size hg7'; have hga := Row.lt hr7; (try (have hR2 := hR2.fresh hbl hg7'))
                have hSnew := Mem.bl_step hHeld hbl (by first | exact Nat.le_refl _ | omega | (simp <;> omega))
                refine hK.out _ _ ?_ (fun hHeld2 => ?_)
                · exact hSnew
                try replace hr7 := hr7.below hbl
                clear hbl
                clear hK K hHeld hSnew
                have hHeld := hHeld2
                clear hHeld2
                try simp only [Mem.pa, Mem.pb, Mem.pc, Act.put, Mem.pd, Mem.pe, Mem.pf]
                refine wpAnyH_ready (rs := [5]) (by kernel_rfl) (by simp) ?_
                refine AllReadyH.cons rfl (fun K hK => ?_) AllReadyH.nil
                go_simp
                (refine (CR.out _ hHeld).mono ?_; rintro e wl ⟨p2, rfl, hR2, hbl⟩)
                try go_wp2_with fail
                have hSnew := Mem.bl_step hHeld hbl (by first | exact Nat.le_refl _ | omega | (simp <;> omega))
                refine hK.out _ _ ?_ (fun hHeld2 => ?_)
                · exact hSnew
                try replace hr7 := hr7.below hbl
                clear hbl
                clear hK K hHeld hSnew
                have hHeld := hHeld2
                clear hHeld2
                try simp only [Mem.pa, Mem.pb, Mem.pc, Act.put, Mem.pd, Mem.pe, Mem.pf]
                refine Mem.tkV 6 ?v45 ?y45 ?r45
                case y45 => (intro w hSw; clear hSw; go_simp; try with_reducible rfl)
                refine Mem.tkV 7 ?v46 ?y46 ?r46
                case y46 => (intro w hSw; clear hSw; go_simp; try with_reducible rfl)
                refine Mem.tkV 8 ?v47 ?y47 ?r47
                case y47 => (intro w hSw; clear hSw; go_simp; try with_reducible rfl)
                try simp only [Mem.pa, Mem.pb, Mem.pc, Act.put, Mem.pd, Mem.pe, Mem.pf]
                refine Mem.tkV 9 ?v48 ?y48 ?r48
                case y48 => (intro w hSw; clear hSw; go_simp; try with_reducible rfl)
                try simp only [Mem.pa, Mem.pb, Mem.pc, Act.put, Mem.pd, Mem.pe, Mem.pf]
                refine wpAnyH_ready (rs := [11]) (by kernel_rfl) (by simp) ?_
                refine AllReadyH.cons rfl (fun K hK => ?_) AllReadyH.nil
                rw [if_pos (by rfl)]
                refine wp_storeRow _ _ _ (by rfl) g7 (by rfl) (rcP p2 S2) (by rfl) rcZ 32 7 rcSize rfl rfl (rcC_one _ _ _ _ _ _ _ _ _ _ _) hr7 ?_; have hSnew := below_setRow hHeld hg7 (rcP p2 S2); have hr8 := hr7.set (rcP p2 S2); have hR3 := Rc.store (N' := NF N c d g b (· = bx) wr) (g := g7) hR2 (rcP p2 S2) (by first | exact .inr rfl | exact .inr ⟨hg7, hga⟩) (fun b hb => by first | exact .inl hb | exact .inl (.inl hb))
                refine hK.out _ _ ?_ (fun hHeld2 => ?_)
                · exact hSnew
                clear hK K hHeld hSnew
                have hHeld := hHeld2
                clear hHeld2
                try simp only [Mem.pa, Mem.pb, Mem.pc, Act.put, Mem.pd, Mem.pe, Mem.pf]
                refine Mem.tkV 12 ?v49 ?y49 ?r49
                case y49 => (intro w hSw; clear hSw; go_simp; try with_reducible rfl)
                refine Mem.tkV 13 ?v50 ?y50 ?r50
                case y50 => (intro w hSw; clear hSw; go_simp; try with_reducible rfl)
                try simp only [Mem.pa, Mem.pb, Mem.pc, Act.put, Mem.pd, Mem.pe, Mem.pf]
                refine wpAnyH_done (by kernel_rfl) ?_ _
                clear hCl
                go_wp2_with fail
                go_meet
                case rel => exact ⟨g7, p2, rfl, rfl, rfl, hr8, hR3, hg7, (Below.refl _ _).drew.trans hHeld⟩
              exact AllReadyH.nil
            case rest =>
              obtain ⟨g7, ⟨AB2, cB2, AL2, cL2, AK2, cK2⟩, rfl, rfl, rfl, hr7, hR2, hg7, hbc⟩ := hcut
              have HR7 := Lib.hid hr7
              have HRBC := Lib.hid (HRB.out.below hbc)
              have hc6a := HC.out.grow hbc
              have hr6a := Rc.grow hR2 HC.out hbc (fun k hk => by have hk : k = bx := hk; omega)
              obtain ⟨N2, hN2⟩ : ∃ N2 : Nat → Prop, N2 = fun j => N j ∨ (wr.heap.size ≤ j ∧ j < wc.heap.size) := ⟨_, rfl⟩
              rw [← hN2] at hc6a hr6a
              have HFB2 : Hid (Far N2 c d g b bx) := Lib.hid (by rw [hN2]; exact HFB.out.or)
              have HBD2 : Hid (Bd w.heap.size c d g b N2) := Lib.hid (by rw [hN2]; exact HBD.out.or)
              have HC6 := Lib.hid (hc6a.setRow HFB2.out (rcP ⟨AB2, cB2, AL2, cL2, AK2, cK2⟩ S2))
              have HR6 := Lib.hid (hr6a.setBx (Nat.lt_of_lt_of_le hbxr hbc.size) rfl (rcP ⟨AB2, cB2, AL2, cL2, AK2, cK2⟩ S2))
              have HRB6 := Lib.hid (HRBC.out.set (rcP ⟨AB2, cB2, AL2, cL2, AK2, cK2⟩ S2))
              have HB6 := Lib.hid (below_setRow (HBR.out.trans (hbc.mono HBR.out.size)) hbxw (rcP ⟨AB2, cB2, AL2, cL2, AK2, cK2⟩ S2))
              have hlt7 : ¬ g7 = bx := by omega
              clear hr7 hR2 hc6a hr6a hN2 hbc HC HRC HBR HRB hrbd CR HFB HBD
              by_cases hE : E2 = 0
              · subst hE
                have HWN3 : Hid (((0 : Int) = 0 ∧ rnG (ws.drop (q + 1)) (m + 1) S2 = (R1, R2, R3)) ∨ ((0 : Int) ≠ 0 ∧ m + 1 = R1 ∧ S2 = R2 ∧ (0 : Int) = R3)) := Lib.hid (by rcases HWN2.out with h | h; exact .inl h; exact absurd rfl h.1)
                go_wp2_with (first
                  | (with_reducible refine wpList_ldC rfl _ rfl _ rfl _ rfl HR7.out ?_)
                  | (with_reducible refine wpList_storeRow rfl 32 _ _ rfl bx rfl (rcP ⟨AB2, cB2, AL2, cL2, AK2, cK2⟩ S2) rfl _ 32 7 rcSize rfl rfl (rcC_one _ _ _ _ _ _ _ _ _ _ _) HRBC.out ?_))
                refine ⟨⟨q + 1, m + 1, S2, ⟨AB2, cB2, AL2, cL2, AK2, cK2⟩, N2, 0, by omega, by omega, by omega, by go_num, by go_num, rfl, HC6.out, HI2, HBD2, HFB2, HRB6.out, HR6.out, HWN3, HB6.out⟩, ?_⟩
                simp [intOf]
                omega
              · have hEb : (E2 == 0) = false := by rw [beq_eq_false_iff_ne]; exact hE
                have HWN3 : Hid ((E2 = 0 ∧ rnG (ws.drop (q + 1)) m S2 = (R1, R2, R3)) ∨ (E2 ≠ 0 ∧ m = R1 ∧ S2 = R2 ∧ E2 = R3)) := Lib.hid (by rcases HWN2.out with h | h; exact absurd h.1 hE; exact .inr h)
                clear hE
                go_wp2_with (first
                  | (with_reducible refine wpList_ldC rfl _ rfl _ rfl _ rfl HR7.out ?_)
                  | (with_reducible refine wpList_storeRow rfl 32 _ _ rfl bx rfl (rcP ⟨AB2, cB2, AL2, cL2, AK2, cK2⟩ S2) rfl _ 32 7 rcSize rfl rfl (rcC_one _ _ _ _ _ _ _ _ _ _ _) HRBC.out ?_))
                refine ⟨⟨q + 1, m, S2, ⟨AB2, cB2, AL2, cL2, AK2, cK2⟩, N2, E2, by omega, by omega, by omega, by go_num, rfl, rfl, HC6.out, HI2, HBD2, HFB2, HRB6.out, HR6.out, HWN3, HB6.out⟩, ?_⟩
                simp [intOf]
                omega
          · have HF : Hid ((rnG (ws.drop j) 0 S).1 = m ∧ (rnG (ws.drop j) 0 S).2.1 = D ∧ (rnG (ws.drop j) 0 S).2.2 = want) := Lib.hid (by
              rw [HRR.out.1, HRR.out.2.1, HRR.out.2.2]
              rcases HWN.out with ⟨h1, h2⟩ | ⟨h1, h2, h3, h4⟩
              · have hqe : ¬ q < ws.length := fun e => hlt2 ⟨e, h1⟩
                rw [List.drop_eq_nil_of_le (by omega), rnG] at h2
                injection h2 with a b
                injection b with b c
                exact ⟨a.symm, b.symm, c.symm.trans h1.symm⟩
              · exact ⟨h2.symm, h3.symm, h4.symm⟩)
            by_cases hq2 : q < ws.length
            · have hw0 : (want == 0) = false := by rw [beq_eq_false_iff_ne]; exact fun e => hlt2 ⟨hq2, e⟩
              clear hlt2
              have HRun : Hid (∀ AS cap, Rw (kInt .u64) wr (Far N c d g b) AS (ws.drop j).length (ws.drop j) → Calls Tryz.prog 10 #[.pointer (some ⟨c, 0, none⟩), .slice AS (ws.length - j) cap] wr fun e w' => ∃ v', e = .returned (.tuple #[.int .i64 m, .int .i64 want]) ∧ Ca w' c d g b N v' D ∧ Tn N c d g b wr w') := Lib.hid (fun AS cap hx => by
                have := Run_any AS cap (ws.drop j) (by rw [List.length_drop]; omega) c d g b N v S wr hc HIS.out hx
                rw [HF.out.1, HF.out.2.1, HF.out.2.2, List.length_drop] at this
                exact this)
              have hxd := rw_tail HW.out (j := j) (by omega) hg1 hbr (S := Far N c d g b) (fun k hk => ⟨HBD.out.n k hk, by have := HBD.out.c; omega, by have := HBD.out.d; omega, by have := HBD.out.g; omega, by have := HBD.out.b; omega⟩)
              have hslc := fun w' => run_slice8 A1 ws.length c1 j (by omega) w'
              generalize (if c1 = j then A1 else A1.map (·.add (j * 1))) = AS at hxd hslc
              generalize c1 - j = cs at hslc
              have CRn := Lib.hid (HRun.out AS cs hxd)
              have HRB := Lib.hid hrb
              have HRC := Lib.hid hrc
              have HBR := Lib.hid hbr
              clear hc hrb hrc hbr HRun hxd HWN HF
              go_wp2_with fail
              refine CRn.out.mono ?_
              rintro e w7 ⟨v7, rfl, hc7, ht7⟩
              have HRB7 := Lib.hid (ht7.row HFB.out HRB.out)
              have HR7' := Lib.hid (Rc.tn HRC.out ht7)
              have HB7 := Lib.hid (Tn.bel HBR.out ht7 HBD.out)
              have CS := Lib.hid (Same13_any c d g b N _ v7 D ⟨AB, cB, AL, cL, AK, cK⟩ w7 hc7 HID.out HR7'.out)
              have hrow : Row w7 bx 32 (rcC AB cB AL D.xs.length cL AK cK D.last (rfu D.dv) D.dv.off D.dv.wr) := HRB7.out
              have k0 := hrow.cell 0 rfl
              have k1 := hrow.cell 1 rfl
              have k2 := hrow.cell 2 rfl
              have k3 := hrow.cell 3 rfl
              have k4 := hrow.cell 4 rfl
              have k5 := hrow.cell 5 rfl
              have k6 := hrow.cell 6 rfl
              clear hc7 ht7 CRn hslc hrow HRB HRC HBR
              go_wp2_with fail
              refine CS.out.mono ?_
              rintro e w8 ⟨rfl, hb8⟩
              have HB8 := Lib.hid (HB7.out.trans (hb8.mono HB7.out.size))
              clear hb8 k0 k1 k2 k3 k4 k5 k6 CS
              go_wp2_with fail
              refine (works13 _).mono ?_
              rintro e w9 ⟨rfl, hb9⟩
              go_wp2
              go_ret
              exact ⟨rfl, HB8.out.trans (hb9.mono HB8.out.size)⟩
            · clear hlt2
              have HRun : Hid (∀ AS cap, Rw (kInt .u64) wr (Far N c d g b) AS (ws.drop j).length (ws.drop j) → Calls Tryz.prog 10 #[.pointer (some ⟨c, 0, none⟩), .slice AS (ws.length - j) cap] wr fun e w' => ∃ v', e = .returned (.tuple #[.int .i64 m, .int .i64 want]) ∧ Ca w' c d g b N v' D ∧ Tn N c d g b wr w') := Lib.hid (fun AS cap hx => by
                have := Run_any AS cap (ws.drop j) (by rw [List.length_drop]; omega) c d g b N v S wr hc HIS.out hx
                rw [HF.out.1, HF.out.2.1, HF.out.2.2, List.length_drop] at this
                exact this)
              have hxd := rw_tail HW.out (j := j) (by omega) hg1 hbr (S := Far N c d g b) (fun k hk => ⟨HBD.out.n k hk, by have := HBD.out.c; omega, by have := HBD.out.d; omega, by have := HBD.out.g; omega, by have := HBD.out.b; omega⟩)
              have hslc := fun w' => run_slice8 A1 ws.length c1 j (by omega) w'
              generalize (if c1 = j then A1 else A1.map (·.add (j * 1))) = AS at hxd hslc
              generalize c1 - j = cs at hslc
              have CRn := Lib.hid (HRun.out AS cs hxd)
              have HRB := Lib.hid hrb
              have HRC := Lib.hid hrc
              have HBR := Lib.hid hbr
              clear hc hrb hrc hbr HRun hxd HWN HF
              go_wp2_with fail
              refine CRn.out.mono ?_
              rintro e w7 ⟨v7, rfl, hc7, ht7⟩
              have HRB7 := Lib.hid (ht7.row HFB.out HRB.out)
              have HR7' := Lib.hid (Rc.tn HRC.out ht7)
              have HB7 := Lib.hid (Tn.bel HBR.out ht7 HBD.out)
              have CS := Lib.hid (Same13_any c d g b N _ v7 D ⟨AB, cB, AL, cL, AK, cK⟩ w7 hc7 HID.out HR7'.out)
              have hrow : Row w7 bx 32 (rcC AB cB AL D.xs.length cL AK cK D.last (rfu D.dv) D.dv.off D.dv.wr) := HRB7.out
              have k0 := hrow.cell 0 rfl
              have k1 := hrow.cell 1 rfl
              have k2 := hrow.cell 2 rfl
              have k3 := hrow.cell 3 rfl
              have k4 := hrow.cell 4 rfl
              have k5 := hrow.cell 5 rfl
              have k6 := hrow.cell 6 rfl
              clear hc7 ht7 CRn hslc hrow HRB HRC HBR
              go_wp2_with fail
              refine CS.out.mono ?_
              rintro e w8 ⟨rfl, hb8⟩
              have HB8 := Lib.hid (HB7.out.trans (hb8.mono HB7.out.size))
              clear hb8 k0 k1 k2 k3 k4 k5 k6 CS
              go_wp2_with fail
              refine (works13 _).mono ?_
              rintro e w9 ⟨rfl, hb9⟩
              go_wp2
              go_ret
              exact ⟨rfl, HB8.out.trans (hb9.mono HB8.out.size)⟩
end Go.Proofs.YtbamhiegabeicaaGreat.Cb
