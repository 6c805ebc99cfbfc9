/- Blocks of 256 bytes. No statement is proved here. -/
import Derived.Test.YtbamhiegabeicaaProg
import Derived.Test.YtbamhiegabeicaaKind
import Derived.KernelRfl
import Derived.Lib.Hide
import Derived.WalkKit
import Derived.Outline
import Derived.WalkSpells
import Derived.Laws.BitsLemmas
import Derived.Laws.StructEq
import Derived.DeepKeys
namespace Go.Proofs.Ytbamhiegabeicaa.Blk
open Go.RowKit Go.Proofs.Ytbamhiegabeicaa.Mem Go.Proofs.Ytbamhiegabeicaa.Open Go.Proofs.Ytbamhiegabeicaa.Kind
theorem ret_bool {a b : Bool} (h : a = b) : Ending.returned (.bool a) = .returned (.bool b) := by rw [h]
theorem blkUnd : Try.prog.underlying 42 = some (.array 256 5) := by kernel_rfl
/-- Two hundred and fifty-six noughts. -/
def zblk : List Nat := List.replicate 256 0
theorem zblk_length : zblk.length = 256 := by unfold zblk; rw [List.length_replicate]
theorem zblk_byte : ∀ x ∈ zblk, x < 256 := by unfold zblk; intro x hx; rw [List.mem_replicate] at hx; omega
theorem zblk_size : (blk zblk).size = 256 := by rw [blk_size]; exact zblk_length
theorem blkInfo : (Try.prog.info? 42).map (fun i => (i.zero, i.size)) = some (some (.agg (blk zblk)), 256) := by kernel_rfl
theorem blkZero : ∀ w, (zeroValue 42).run Try.prog w = .ok (.agg (blk zblk)) w := (zero_of_info blkInfo).1
theorem blkSize : (Try.prog.info? 42).map (·.size) = some 256 := (zero_of_info blkInfo).2
theorem blkSizeL (l : List Nat) (h : l.length = 256) : (Try.prog.info? 42).map (·.size) = some (blk l).toList.length := by rw [Array.length_toList, blk_size, h]; exact blkSize
theorem u8Info : (Try.prog.info? 5).map (fun i => (i.zero, i.size, i.bytes)) = some (some (V8 0), 1, 1) := by kernel_rfl
/-! ### blocks compared -/
theorem run_part8 (L : List Nat) (k : Nat) (hk : k < L.length) (w : World) : (part 5 (blk L) (k * 1)).run Try.prog w = .ok (.int .u8 (L[k] : Int)) w := by
  have ha : ∀ w, (isAgg 5).run Try.prog w = .ok false w := fun w => by kernel_rfl
  rw [Nat.mul_one]
  unfold part
  simp [ha, blk_get L k hk]
theorem run_eqItems_blk (d : Nat) (A B : List Nat) (w : World) : ∀ (is : List Nat), (∀ i ∈ is, i < A.length ∧ i < B.length) →
    (Op.eqItems (d + 1) 5 1 (blk A) (blk B) is).run Try.prog w = .ok (is.all fun i => A.getD i 0 == B.getD i 0) w
  | [], _ => by simp [Op.eqItems]
  | i :: is, h => by
    obtain ⟨h1, h2⟩ := h i List.mem_cons_self
    have e1 : A.getD i 0 = A[i] := by rw [List.getD_eq_getElem?_getD, List.getElem?_eq_getElem h1]; rfl
    have e2 : B.getD i 0 = B[i] := by rw [List.getD_eq_getElem?_getD, List.getElem?_eq_getElem h2]; rfl
    have h3 : (Op.equalIn (d + 1) 5 (.int .u8 (A[i] : Int)) (.int .u8 (B[i] : Int))).run Try.prog w = .ok ((A[i] : Int) == (B[i] : Int)) w := run_equalIn_int w d 5 .u8 .u8 _ _ Try.underlying5
    have h4 : ((A[i] : Int) == (B[i] : Int)) = (A[i] == B[i]) := by rw [Bool.eq_iff_iff, beq_iff_eq, beq_iff_eq]; exact Int.ofNat_inj
    simp only [Op.eqItems, Sem.run_bind, run_part8 A i h1, run_part8 B i h2, h3, h4, Result.andThen_ok, List.all_cons, e1, e2]
    cases hq : (A[i] == B[i])
    · simp
    · simpa using run_eqItems_blk d A B w is (fun j hj => h j (List.mem_cons_of_mem _ hj))
set_option maxRecDepth 100000 in
theorem run_eq_blk (A B : List Nat) (ha : A.length = 256) (hb : B.length = 256) (w : World) : (Op.equalIn 10000 42 (.agg (blk A)) (.agg (blk B))).run Try.prog w = .ok (decide (A = B)) w := by
  obtain ⟨i0, hi, _, hz1, _⟩ := info_parts u8Info
  rw [run_equalIn_array w 9999 (blk A) (blk B) blkUnd hi]
  have hc : Try.prog.cellsOf 5 = 1 := by kernel_rfl
  first | rw [hc] | rw [hz1]
  rw [run_eqItems_blk 9998 A B w (List.range 256) (fun i h => by rw [List.mem_range] at h; omega)]
  congr 1
  rw [Bool.eq_iff_iff, decide_eq_true_iff, List.all_eq_true]
  constructor
  · intro h
    apply List.ext_getElem (by omega)
    intro i h1 h2
    have := h i (List.mem_range.2 (by omega))
    rw [beq_iff_eq, List.getD_eq_getElem?_getD, List.getD_eq_getElem?_getD, List.getElem?_eq_getElem h1, List.getElem?_eq_getElem h2] at this
    exact this
  · rintro rfl i _
    simp
theorem blkGuard : Try.prog.eqGuardType Try.prog.depth 42 = false := by kernel_rfl
end Go.Proofs.Ytbamhiegabeicaa.Blk

