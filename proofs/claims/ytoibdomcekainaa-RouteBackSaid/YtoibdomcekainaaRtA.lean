/- route.Join, and the document's. -/
import Derived.Test.YtoibdomcekainaaRt9
namespace Go.Proofs.Ytoibdomcekainaa.Rt
open Go.RowKit Go.Proofs.Ytoibdomcekainaa.Mem Go.Proofs.Ytoibdomcekainaa.Open Go.Proofs.Ytoibdomcekainaa.Same
set_option linter.unusedVariables false
set_option linter.unusedSimpArgs false
/-- Names joined, a stroke ahead of each. -/
def joinS (xs : List ByteArray) : ByteArray := xs.foldl (fun s p => s ++ (slash ++ p)) ⟨#[]⟩
theorem joinS_nil : joinS [] = ⟨#[]⟩ := rfl
theorem joinS_concat (xs : List ByteArray) (p : ByteArray) : joinS (xs ++ [p]) = joinS xs ++ (slash ++ p) := by unfold joinS; rw [List.foldl_append]; rfl
theorem joinS_size (xs : List ByteArray) (p : ByteArray) : (joinS (xs ++ [p])).size = (joinS xs).size + 1 + p.size := by
  rw [joinS_concat, ByteArray.size_append, ByteArray.size_append, show slash.size = 1 from rfl]
  omega
theorem joinS_take (xs : List ByteArray) (k : Nat) (hk : k < xs.length) : joinS (xs.take (k + 1)) = joinS (xs.take k) ++ (slash ++ xs[k]) := by
  rw [List.take_add_one, List.getElem?_eq_getElem hk, Option.toList_some, joinS_concat]
theorem joinS_tsize (xs : List ByteArray) (k : Nat) (hk : k < xs.length) : (joinS (xs.take (k + 1))).size = (joinS (xs.take k)).size + 1 + xs[k].size := by
  rw [List.take_add_one, List.getElem?_eq_getElem hk, Option.toList_some, joinS_size]
theorem joinS_le (xs : List ByteArray) (k : Nat) (hk : k ≤ xs.length) : (joinS (xs.take k)).size ≤ (joinS xs).size := by
  induction h : xs.length - k generalizing k with
  | zero => rw [show k = xs.length from by omega, List.take_length]; exact Nat.le_refl _
  | succ n ih =>
    have := ih (k + 1) (by omega) (by omega)
    have := joinS_tsize xs k (by omega)
    omega
theorem joinS_zero (xs : List ByteArray) : (joinS xs).size = 0 ↔ xs = [] := by
  constructor
  · intro h
    rcases List.eq_nil_or_concat xs with e | ⟨I, p, e⟩
    · exact e
    · rw [e, List.concat_eq_append, joinS_size] at h; omega
  · rintro rfl; rfl
/-- Why names make no path, or nought. -/
def joinE (xs : List ByteArray) : Int := if xs.all nameB then (if 200 < (joinS xs).size then 15 else 0) else 3
def joinT (xs : List ByteArray) : ByteArray := if joinE xs = 0 then (if xs = [] then slash else joinS xs) else ⟨#[]⟩
theorem joinE_bad {xs : List ByteArray} (h : xs.all nameB = false) : joinE xs = 3 ∧ joinT xs = ⟨#[]⟩ := by
  have : joinE xs = 3 := by unfold joinE; rw [h]; rfl
  exact ⟨this, by unfold joinT; rw [this]; rfl⟩
theorem joinE_long {xs : List ByteArray} (h : xs.all nameB = true) (h2 : 200 < (joinS xs).size) : joinE xs = 15 ∧ joinT xs = ⟨#[]⟩ := by
  have : joinE xs = 15 := by unfold joinE; rw [h, if_pos rfl, if_pos h2]
  exact ⟨this, by unfold joinT; rw [this]; rfl⟩
theorem joinE_none {xs : List ByteArray} (h : xs.all nameB = true) (h2 : (joinS xs).size = 0) : joinE xs = 0 ∧ joinT xs = slash := by
  have : joinE xs = 0 := by unfold joinE; rw [h, if_pos rfl, if_neg (by omega)]
  exact ⟨this, by unfold joinT; rw [this, if_pos rfl, if_pos ((joinS_zero xs).1 h2)]⟩
theorem joinE_ok {xs : List ByteArray} (h : xs.all nameB = true) (h2 : ¬ 200 < (joinS xs).size) (h3 : (joinS xs).size ≠ 0) : joinE xs = 0 ∧ joinT xs = joinS xs := by
  have : joinE xs = 0 := by unfold joinE; rw [h, if_pos rfl, if_neg h2]
  exact ⟨this, by unfold joinT; rw [this, if_pos rfl, if_neg (fun e => h3 ((joinS_zero xs).2 e))]⟩
theorem name_size {s : ByteArray} (h : nameB s = true) : s.size ≤ 24 := by
  unfold nameB at h
  simp at h
  exact h.1.1.1.2
theorem ret_join {x y : ByteArray} {a b : Int} (h : a = b) (h2 : x = y) : Ending.returned (.tuple #[.string x, .int .i64 a]) = .returned (.tuple #[.string y, .int .i64 b]) := by rw [h, h2]
set_option maxHeartbeats 1000000 in
set_option maxRecDepth 100000 in
theorem join_any (A : Option Addr) (n c : Nat) (xs : List ByteArray) (w : World) (hx : Sl w Value.string A n xs) (hs : ∀ s ∈ xs, s.size ≤ 9223372036854775807) :
    Calls Try.prog 39 #[.slice A n c] w fun e w' => e = .returned (.tuple #[.string (joinT xs), .int .i64 (joinE xs)]) ∧ w = w' := by
  have hn := hx.1
  have hn2 := hx.2.1
  have HB := Lib.hid (fun h => joinE_bad (xs := xs) h)
  have HL := Lib.hid (fun h h2 => joinE_long (xs := xs) h h2)
  have HN := Lib.hid (fun h h2 => joinE_none (xs := xs) h h2)
  have HO := Lib.hid (fun h h2 h3 => joinE_ok (xs := xs) h h2 h3)
  go_enter Try.func39, Try.ntmps39
  go_wp2
  go_loopw [4, 6, 12] (fun m _ i wr => ∃ k : Nat, k ≤ n ∧ i = .int .i64 k ∧ m = .int .i64 ((min (joinS (xs.take k)).size 201 : Nat) : Int) ∧ (∀ j, (hj : j < xs.length) → j < k → nameB xs[j] = true) ∧ w = wr) (fun _ _ i _ => n - (intOf i).toNat)
  case atStart => exact ⟨0, by omega, rfl, rfl, fun j _ h => by omega, rfl⟩
  case round =>
    obtain ⟨k, hk, rfl, rfl, hall, rfl⟩ := hrel
    have HA := Lib.hid hall
    clear hall
    by_cases hlt : k < n
    · have hkx : k < xs.length := by omega
      obtain ⟨ad, rfl, hadb, hcell⟩ := hx.at_ hkx
      have hsz := hs _ (List.getElem_mem hkx)
      have HJ := Lib.hid (joinS_tsize xs k hkx)
      have CC := Lib.hid (fun w' => check_any xs[k] w' hsz)
      cases hnm : nameB xs[k] with
      | false =>
        have HF := Lib.hid (HB.out (all_at hkx hnm))
        rw [nameE_no hnm] at CC
        clear hnm
        generalize xs[k] = x at *
        go_wp2_with (go_at_call 58; refine (CC.out _).mono ?_; rintro e w' ⟨rfl, rfl⟩)
        go_ret2
        exact ⟨ret_join HF.out.1.symm HF.out.2.symm, rfl⟩
      | true =>
        have h24 := name_size hnm
        rw [nameE_yes hnm] at CC
        have HA2 : Hid (∀ j, (hj : j < xs.length) → j < k + 1 → nameB xs[j] = true) := fun j hj hjk => by
          by_cases e : j = k
          · subst e; exact hnm
          · exact HA.out j hj (by omega)
        clear hnm
        generalize xs[k] = x at *
        generalize (joinS (xs.take k)).size = z at *
        obtain ⟨mz, hmz⟩ : ∃ mz, min z 201 = mz := ⟨_, rfl⟩
        have hm1 : mz ≤ 201 := by omega
        have HM := Lib.hid hmz
        rw [hmz]
        clear hmz
        go_wp2_with (go_at_call 58; refine (CC.out _).mono ?_; rintro e w' ⟨rfl, rfl⟩)
        go_roundw
        case rel => exact ⟨k + 1, by omega, by go_num, by rw [HJ.out]; have hm := HM.out; congr 1; split <;> omega, HA2.out, trivial⟩
        case measure => simp [intOf]; omega
    · have hke : k = xs.length := by omega
      have HAll := Lib.hid (all_each (xs := xs) (f := nameB) fun j hj => HA.out j hj (by omega))
      have HT : Hid (xs.take k = xs) := List.take_of_length_le (by omega)
      rw [HT.out]
      have HZ : Hid ((joinS xs).size = (joinS xs).size) := rfl
      by_cases h2 : 200 < (joinS xs).size
      · have HF := Lib.hid (HL.out HAll.out h2)
        have hm : min (joinS xs).size 201 = 201 := by omega
        rw [hm]
        clear h2 hm
        go_wp2
        go_ret2
        exact ⟨ret_join HF.out.1.symm HF.out.2.symm, rfl⟩
      · have hm : min (joinS xs).size 201 = (joinS xs).size := by omega
        rw [hm]
        clear hm
        by_cases h3 : (joinS xs).size = 0
        · have HF := Lib.hid (HN.out HAll.out h3)
          rw [h3]
          clear h2 h3
          go_wp2
          go_ret2
          exact ⟨ret_join HF.out.1.symm HF.out.2.symm, rfl⟩
        · have HF := Lib.hid (HO.out HAll.out h2 h3)
          have HLe := Lib.hid (fun k hk => joinS_le xs k hk)
          obtain ⟨z, hz⟩ : ∃ z, (joinS xs).size = z := ⟨_, rfl⟩
          rw [hz] at h2 h3 HLe ⊢
          have hz0 : ((z : Int) == 0) = false := by rw [beq_eq_false_iff_ne]; omega
          have hz2 : (z : Int) ≤ 200 := by omega
          clear hz
          go_wp2
          go_loopw [7, 9, 32] (fun t _ i wr => ∃ k : Nat, k ≤ n ∧ i = .int .i64 k ∧ t = .string (joinS (xs.take k)) ∧ w = wr) (fun _ _ i _ => n - (intOf i).toNat)
          case atStart => exact ⟨0, by omega, rfl, rfl, rfl⟩
          case round =>
            obtain ⟨k2, hk2, rfl, rfl, rfl⟩ := hrel
            by_cases hlt2 : k2 < n
            · have hkx : k2 < xs.length := by omega
              obtain ⟨ad, rfl, hadb, hcell⟩ := hx.at_ hkx
              have HJ := Lib.hid (joinS_take xs k2 hkx)
              have hx1 := HLe.out (k2 + 1) (by omega)
              have hx2 := joinS_tsize xs k2 hkx
              have hsx : xs[k2].size ≤ 200 := by omega
              have hsj : (joinS (xs.take k2)).size ≤ 200 := by omega
              clear hx1 hx2
              generalize xs[k2] = x at *
              generalize joinS (xs.take k2) = y at *
              go_wp2
              go_roundw
              case rel => exact ⟨k2 + 1, by omega, by go_num, by rw [HJ.out]; rfl, trivial⟩
              case measure => simp [intOf]; omega
            · have hke : k2 = xs.length := by omega
              have HT2 : Hid (xs.take k2 = xs) := List.take_of_length_le (by omega)
              rw [HT2.out]
              go_wp2
              go_ret2
              exact ⟨ret_join HF.out.1.symm HF.out.2.symm, rfl⟩
end Go.Proofs.Ytoibdomcekainaa.Rt
