/- The rank of weights: the contract of pick.Rank. No statement is proved here. -/
import Derived.Test.YthgncnpemnlodaaAt2
import Derived.Test.YthgncnpemnlodaaReg
import Derived.Deep.DeepCutAuto
import Derived.Deep.CutBlock
import Derived.Laws.CopyOwn
namespace Go.Proofs.Ythgncnpemnlodaa.Fl
open Go.RowKit Go.Proofs.Ythgncnpemnlodaa.Open Go.Proofs.Ythgncnpemnlodaa.Mem
set_option linter.unusedVariables false
set_option linter.unusedSimpArgs false
theorem intInfo : (Try.prog.info? 3).map (fun i => (i.zero, i.size, i.bytes)) = some (some (.int .i64 0), 1, 8) := by kernel_rfl
theorem intSize : (Try.prog.info? 3).map (·.size) = some 1 := by kernel_rfl
/-- The weight in a place. -/
def wt (l : List Nat) (i : Int) : Nat := l.getD i.toNat 0
/-- From the end, how many are passed. -/
def posF (l : List Nat) (out : List Int) (x : Nat) : Nat → Nat
  | 0 => 0
  | m + 1 => if ord (wt l (out.getD m 0)) x < 0 then posF l out x m else m + 1
def ins (l : List Nat) (out : List Int) (k : Nat) : List Int := out.take (posF l out (wt l k) out.length) ++ (k : Int) :: out.drop (posF l out (wt l k) out.length)
def rk (l : List Nat) : Nat → List Int
  | 0 => []
  | k + 1 => ins l (rk l k) k
theorem posF_le (l : List Nat) (out : List Int) (x m : Nat) : posF l out x m ≤ m := by
  induction m with
  | zero => exact Nat.le_refl _
  | succ m ih => unfold posF; split <;> omega
theorem ins_len (l : List Nat) (out : List Int) (k : Nat) : (ins l out k).length = out.length + 1 := by
  unfold ins
  have := posF_le l out (wt l k) out.length
  simp
  omega
theorem rk_len (l : List Nat) (k : Nat) : (rk l k).length = k := by
  induction k with
  | zero => rfl
  | succ k ih => unfold rk; rw [ins_len, ih]
theorem rk_lt (l : List Nat) (k : Nat) : ∀ x ∈ rk l k, 0 ≤ x ∧ x < k := by
  induction k with
  | zero => intro x hx; simp [rk] at hx
  | succ k ih =>
    intro x hx
    unfold rk ins at hx
    simp only [List.mem_append, List.mem_cons] at hx
    rcases hx with hx | rfl | hx
    · have := ih x (List.mem_of_mem_take hx); omega
    · omega
    · have := ih x (List.mem_of_mem_drop hx); omega
/-- What a copy by one place, and a store, make of a row. -/
theorem ins_splice (cur : List Int) (at' k : Nat) (x : Int) (hk : cur.length = k + 1) (ha : at' ≤ k) :
    (splice cur (at' + 1) ((cur.drop at').take (k - at'))).set at' x = cur.take at' ++ x :: (cur.take k).drop at' := by
  unfold splice
  have h1 : ((cur.drop at').take (k - at')).length = k - at' := by simp; omega
  rw [h1, show at' + 1 + (k - at') = k + 1 from by omega, List.drop_eq_nil_of_le (show cur.length ≤ k + 1 by omega), List.append_nil]
  rw [List.set_append_left _ _ (by simp; omega)]
  have h2 : (cur.take (at' + 1)).set at' x = cur.take at' ++ [x] := by
    apply List.ext_getElem?
    intro i
    rw [List.getElem?_set, List.getElem?_append, List.getElem?_take]
    simp only [List.length_take, List.getElem?_take]
    by_cases h : at' = i
    · subst h
      rw [if_pos rfl, if_pos (by omega), if_neg (by omega), show at' - min at' cur.length = 0 from by omega]
      rfl
    · rw [if_neg h]
      by_cases h3 : i < at'
      · rw [if_pos (by omega), if_pos (by omega), if_pos h3]
      · rw [if_neg (by omega), if_neg (by omega)]
        exact (List.getElem?_eq_none (by simp only [List.length_cons, List.length_nil]; omega)).symm
  rw [h2, List.append_assoc, ← List.drop_take]
  rfl
theorem take_splice {α : Type} (cur : List α) (n off : Nat) (cs : List α) (hn : n ≤ cur.length) (hf : off + cs.length ≤ n) : (splice cur off cs).take n = splice (cur.take n) off cs := by
  obtain ⟨X, Y, rfl, hX⟩ : ∃ X Y, cur = X ++ Y ∧ X.length = n := ⟨cur.take n, cur.drop n, (List.take_append_drop n cur).symm, by rw [List.length_take]; omega⟩
  unfold splice
  rw [List.take_append_of_le_length (by omega : off ≤ X.length), List.drop_append_of_le_length (by omega : off + cs.length ≤ X.length), List.take_left' hX, ← List.append_assoc, ← List.append_assoc]
  rw [List.take_left' (by simp; omega), List.append_assoc]
theorem own_block {w : World} {B g n c : Nat} {E : TypeId} {V : Int → Value} {xs : List Int} (h : Own w B E V (.slice (some ⟨g, 0, none⟩) n c) xs) :
    ∃ cur : List Value, w.heap[g]? = some (.cells cur.toArray E (0, 0)) ∧ xs.length ≤ cur.length ∧ cur.take xs.length = xs.map V ∧ B ≤ g ∧ xs.length ≤ c ∧
      ∀ (w' : World) (off : Nat) (cs : List Int), w'.heap[g]? = some (.cells (splice cur off (cs.map V)).toArray E (0, 0)) → off + cs.length ≤ xs.length → Own w' B E V (.slice (some ⟨g, 0, none⟩) n c) (splice xs off cs) := by
  have hl := h.sl.1
  subst hl
  obtain ⟨h1, h2⟩ := h
  rcases h2 with ⟨h2, _⟩ | ⟨g', cap, cur, e, hb, hg, hn, hm, hs, ht⟩
  · cases h2
  · injection e with e1 e2 e3
    injection e1 with e1
    injection e1 with e1
    subst e1 e3
    rw [Nat.mul_one] at hs ht
    have hlen : xs.length ≤ cur.toList.length := by show xs.length ≤ cur.size; rw [hs]; exact hn
    refine ⟨cur.toList, by simpa using hg, hlen, ht, hb, hn, fun w' off cs hw' hf => ?_⟩
    have hsp : (splice xs off cs).length = xs.length := length_splice xs off cs hf
    refine ⟨by simp, .inr ⟨g, c, _, by rw [hsp], hb, hw', by rw [hsp]; exact hn, hm, ?_, ?_⟩⟩
    · rw [List.size_toArray, length_splice _ _ _ (by rw [List.length_map]; omega), Nat.mul_one]; exact hs
    · rw [hsp, Nat.mul_one]
      rw [take_splice _ _ _ _ hlen (by rw [List.length_map]; exact hf), ht]
      unfold splice
      simp only [List.map_append, List.map_take, List.map_drop, List.length_map]
end Go.Proofs.Ythgncnpemnlodaa.Fl
