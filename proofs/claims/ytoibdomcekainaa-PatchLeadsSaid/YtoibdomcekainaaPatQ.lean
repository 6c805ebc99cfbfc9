/- Lists of patches: patch.All. -/
import Derived.Test.YtoibdomcekainaaPatN
namespace Go.Proofs.Ytoibdomcekainaa.Pat
open Go.RowKit Go.Proofs.Ytoibdomcekainaa.Mem Go.Proofs.Ytoibdomcekainaa.Open Go.Proofs.Ytoibdomcekainaa.Kind Go.Proofs.Ytoibdomcekainaa.Blk Go.Proofs.Ytoibdomcekainaa.App
set_option linter.unusedVariables false
set_option linter.unusedSimpArgs false
/-- Patches laid, one behind the other. -/
def allL (l : List Nat) : List Pt → List Nat
  | [] => l
  | p :: xs => allL (layL l p.1 p.2) xs
theorem allL_concat (l : List Nat) (xs : List Pt) (p : Pt) : allL l (xs ++ [p]) = layL (allL l xs) p.1 p.2 := by
  induction xs generalizing l with
  | nil => rfl
  | cons q xs ih => exact ih _
theorem allL_length (l : List Nat) (xs : List Pt) : (allL l xs).length = l.length := by
  induction xs generalizing l with
  | nil => rfl
  | cons q xs ih => exact (ih _).trans (layL_length _ _ _)
set_option maxHeartbeats 1000000 in
set_option maxRecDepth 100000 in
theorem pall_any (l : List Nat) (A : Option Addr) (c : Nat) (xs : List Pt) (w : World) (hl : l.length = 256) (hx : Ps w A xs) (hn : xs.length ≤ 1000) :
    Calls Try.prog 41 #[.agg (blk l), .slice A xs.length c] w fun e w' => e = .returned (.agg (blk (allL l xs))) ∧ Below w.heap.size w w' := by
  obtain ⟨hr2, hr3, hbel⟩ := two_rows w 28 28 (blk l) (blk zblk)
  have HL := Lib.hid hl
  clear hl
  go_enter Try.func41, Try.ntmps41
  go_wp2_with (first
    | (with_reducible refine wpList_allocA rfl 28 rfl _ blkZero ?_))
  generalize (w.alloc (.cells (blk l) 28)).alloc (.cells (blk zblk) 28) = w1 at *
  obtain ⟨g, hg⟩ : ∃ g, w.heap.size = g := ⟨_, rfl⟩
  have HG := Lib.hid hg
  rw [hg] at hr2 hr3 hbel ⊢
  clear hg
  go_loopw [9] (fun i wr => ∃ k : Nat, k ≤ xs.length ∧ i = .int .i64 k ∧ Row wr g 28 (blk (allL l (xs.take k))) ∧ Row wr (g + 1) 28 (blk zblk) ∧ Below g w wr) (fun i _ => xs.length - (intOf i).toNat)
  case atStart => exact ⟨0, by omega, rfl, hr2, hr3, hbel⟩
  case round =>
    clear hr2 hr3 hbel
    obtain ⟨k, hk, rfl, hr2, hr3, hbel⟩ := hrel
    have hgs : g ≤ wr.heap.size := by have := hr2.lt; omega
    have hbel0 : Below w.heap.size w wr := by rw [HG.out]; exact hbel
    have hXl : (allL l (xs.take k)).length = 256 := (allL_length _ _).trans HL.out
    by_cases hlt : k < xs.length
    · obtain ⟨g', o, rfl⟩ := pat_form hx (by omega)
      obtain ⟨A', c', q0, q1, q2, q3, q4, q5, q6, q7⟩ := pat_at hx k hlt
      have d0 := (hbel0.cell (p := ⟨g', o + k * 2, none⟩) q0).trans q1
      have d1 := (hbel0.cell (p := ⟨g', o + k * 2 + 1, none⟩) q0).trans q2
      have hd : By wr A' xs[k].2 := Rw.below q7 hbel0
      have HT : Hid (allL l (xs.take (k + 1)) = layL (allL l (xs.take k)) xs[k].1 xs[k].2) := by show _ = _; rw [List.take_add_one, List.getElem?_eq_getElem hlt, Option.toList_some, allL_concat]
      have hYl : (allL l (xs.take (k + 1))).length = 256 := (allL_length _ _).trans HL.out
      generalize allL l (xs.take k) = X at *
      obtain ⟨Y, hY⟩ : ∃ Y, allL l (xs.take (k + 1)) = Y := ⟨_, rfl⟩
      have HY := Lib.hid hY
      rw [hY] at HT hYl
      clear hY
      generalize xs[k] = p at *
      obtain ⟨a, d⟩ := p
      have hsX : (blk X).size = 256 := by rw [blk_size]; exact hXl
      have hsY : (blk Y).size = 256 := by rw [blk_size]; exact hYl
      have CL := Lib.hid (fun w' h => lay_any X a A' d.length c' d w' hXl h)
      rw [show layL X a d = Y from HT.out.symm] at CL
      have hr2a := hr2.alloc (.cells #[.int .i64 a, .slice A' d.length c'] 36)
      go_wp2_with (first
        | (with_reducible refine wpList_load rfl 28 _ rfl _ rfl 28 (blk X) 256 5 blkUnd blkSize hsX hr2a.out ?_))
      refine (CL.out _ (by first | exact (hd.below ((Below.refl _ _).alloc (Nat.le_refl _) _)).sl_byte)).mono ?_
      rintro e w2 ⟨rfl, hbl⟩
      have hr22 := hr2a.below hbl
      have hr32 := (hr3.alloc (.cells #[.int .i64 a, .slice A' d.length c'] 36)).below hbl
      have hb3 := (hbel.alloc hgs (.cells #[.int .i64 a, .slice A' d.length c'] 36)).trans (hbl.mono (by simp; omega))
      clear hr2 hr3 hr2a hbel hbl hd d0 d1
      go_wp2_with (first
        | (with_reducible refine wpList_storeRow rfl 28 _ _ rfl g rfl (blk Y) rfl (blk X) 28 256 blkSize hsY hsX (blk_one _) hr22 ?_))
      go_roundw
      case rel => exact ⟨k + 1, by omega, by go_num, by rw [HY.out]; exact hr22.set _, Row.far (T := 28) hr32 (by omega) _, below_setRow hb3 (Nat.le_refl _) _⟩
      case measure => simp [intOf]; omega
    · have hke : k = xs.length := by omega
      subst hke
      rw [List.take_length] at hr2 hXl
      obtain ⟨X, hX⟩ : ∃ X, X = allL l xs := ⟨_, rfl⟩
      have HE := Lib.hid hX
      rw [← hX] at hr2 hXl
      clear hX
      have hsX : (blk X).size = 256 := by rw [blk_size]; exact hXl
      go_wp2_with (first
        | (with_reducible refine wpList_load rfl 28 _ rfl _ rfl 28 (blk X) 256 5 blkUnd blkSize hsX hr2.out ?_)
        | (with_reducible refine wpList_store rfl 28 _ _ rfl _ rfl _ rfl _ 28 256 blkSize hsX zblk_size (blk_one _) hr3.out ?_))
      exact bodyPost_ret (v := .agg (blk X)) (results_cell_row rfl _ _ (g + 1) 28 (blk X) (0, 0) _ rfl (setRow_heap _ _ _ _ _ _ hr3) blkUnd rfl (by rw [hsX]; exact blkSize)) rfl
        ⟨by rw [HE.out], below_setRow hbel0 (by have := HG.out; omega) _⟩
end Go.Proofs.Ytoibdomcekainaa.Pat
