/- The document's Join and Within, and the statement RouteJoins. -/
import Derived.Test.YtoibdomcekainaaRtA
import Derived.Test.YtoibdomcekainaaKind
namespace Go.Proofs.Ytoibdomcekainaa.Rt
open Go.RowKit Go.Proofs.Ytoibdomcekainaa.Mem Go.Proofs.Ytoibdomcekainaa.Open Go.Proofs.Ytoibdomcekainaa.Same Go.Proofs.Ytoibdomcekainaa.Kind
set_option linter.unusedVariables false
set_option linter.unusedSimpArgs false
theorem slash_assoc (y x : ByteArray) : y ++ slash ++ x = y ++ (slash ++ x) := ByteArray.append_assoc
set_option maxHeartbeats 1000000 in
set_option maxRecDepth 100000 in
theorem rjoin_any (A : Option Addr) (n c : Nat) (xs : List ByteArray) (w : World) (hx : Sl w Value.string A n xs) (hs : ∀ s ∈ xs, s.size ≤ 9223372036854775807) :
    Calls Try.prog 46 #[.slice A n c] w fun e w' => e = .returned (.tuple #[.string (joinT xs), .int .i64 (joinE xs)]) ∧ w = w' := by
  have hn := hx.1
  have hn2 := hx.2.1
  have HB := Lib.hid (fun h => joinE_bad (xs := xs) h)
  have HL := Lib.hid (fun h h2 => joinE_long (xs := xs) h h2)
  have HN := Lib.hid (fun h h2 => joinE_none (xs := xs) h h2)
  have HO := Lib.hid (fun h h2 h3 => joinE_ok (xs := xs) h h2 h3)
  go_enter Try.func46, Try.ntmps46
  go_wp2
  go_loopw [4, 5] (fun t i wr => ∃ (k : Nat) (y : ByteArray), k ≤ n ∧ i = .int .i64 k ∧ t = .string y ∧ y.size ≤ 300 ∧ (y = joinS (xs.take k) ∨ (200 < y.size ∧ 200 < (joinS (xs.take k)).size)) ∧ (∀ j, (hj : j < xs.length) → j < k → nameB xs[j] = true) ∧ w = wr) (fun _ i _ => n - (intOf i).toNat)
  case atStart => exact ⟨0, ⟨#[]⟩, by omega, rfl, rfl, by decide, .inl rfl, fun j _ h => by omega, rfl⟩
  case round =>
    obtain ⟨k, y, hk, rfl, rfl, hy3, hyc, hall, rfl⟩ := hrel
    have HA := Lib.hid hall
    have HY := Lib.hid hyc
    clear hall hyc
    by_cases hlt : k < n
    · have hkx : k < xs.length := by omega
      obtain ⟨ad, rfl, hadb, hcell⟩ := hx.at_ hkx
      have hsz := hs _ (List.getElem_mem hkx)
      have HJ := Lib.hid (joinS_take xs k hkx)
      have HJ2 := Lib.hid (joinS_tsize xs k hkx)
      have CC := Lib.hid (fun w' => right_any xs[k] w' hsz)
      cases hnm : nameB xs[k] with
      | false =>
        have HF := Lib.hid (HB.out (all_at hkx hnm))
        rw [hnm] at CC
        clear hnm
        generalize xs[k] = x at *
        go_wp2_with (go_at_call 59; refine (CC.out _).mono ?_; rintro e w' ⟨rfl, rfl⟩)
        go_ret2
        exact ⟨ret_join HF.out.1.symm HF.out.2.symm, rfl⟩
      | true =>
        have h24 := name_size hnm
        rw [hnm] at CC
        have HA2 : Hid (∀ j, (hj : j < xs.length) → j < k + 1 → nameB xs[j] = true) := fun j hj hjk => by
          by_cases e : j = k
          · subst e; exact hnm
          · exact HA.out j hj (by omega)
        clear hnm
        generalize xs[k] = x at *
        by_cases h2 : 200 < y.size
        · have HY2 : Hid (y = joinS (xs.take (k + 1)) ∨ (200 < y.size ∧ 200 < (joinS (xs.take (k + 1))).size)) := by
            refine Or.inr ⟨h2, ?_⟩
            rw [HJ2.out]
            rcases HY.out with e | e
            · rw [← e]; omega
            · omega
          go_wp2_with (go_at_call 59; refine (CC.out _).mono ?_; rintro e w' ⟨rfl, rfl⟩)
          go_roundw
          case rel => exact ⟨k + 1, y, by omega, by go_num, rfl, hy3, HY2.out, HA2.out, trivial⟩
          case measure => simp [intOf]; omega
        · have HYs : Hid ((y ++ slash ++ x).size = y.size + 1 + x.size) := by show _ = _; rw [ByteArray.size_append, ByteArray.size_append]; rfl
          have HY2 : Hid (y ++ slash ++ x = joinS (xs.take (k + 1))) := by
            show _ = _
            rw [HJ.out, slash_assoc]
            rcases HY.out with e | e
            · rw [← e]
            · omega
          go_wp2_with (go_at_call 59; refine (CC.out _).mono ?_; rintro e w' ⟨rfl, rfl⟩)
          go_roundw
          case rel => exact ⟨k + 1, _, by omega, by go_num, rfl, by have := HYs.out; show (y ++ slash ++ x).size ≤ 300; omega, .inl HY2.out, HA2.out, trivial⟩
          case measure => simp [intOf]; omega
    · have hke : k = xs.length := by omega
      have HAll := Lib.hid (all_each (xs := xs) (f := nameB) fun j hj => HA.out j hj (by omega))
      have HT : Hid (xs.take k = xs) := List.take_of_length_le (by omega)
      have HY2 := HY.out
      rw [HT.out] at HY2
      by_cases h2 : 200 < y.size
      · have HF := Lib.hid (HL.out HAll.out (by rcases HY2 with e | e; rw [← e]; exact h2; exact e.2))
        clear HY2
        go_wp2
        go_ret2
        exact ⟨ret_join HF.out.1.symm HF.out.2.symm, rfl⟩
      · have HYe : Hid (y = joinS xs) := by
          rcases HY2 with e | e
          · exact e
          · omega
        clear HY2
        by_cases h3 : y.size = 0
        · have HF := Lib.hid (HN.out HAll.out (by rw [← HYe.out]; exact h3))
          have he : (y.toList == []) = true := by rw [em_eq]; exact decide_eq_true h3
          go_wp2
          go_ret2
          exact ⟨ret_join HF.out.1.symm HF.out.2.symm, rfl⟩
        · have HF := Lib.hid (HO.out HAll.out (by rw [← HYe.out]; exact h2) (by rw [← HYe.out]; exact h3))
          have he : (y.toList == []) = false := by rw [em_eq]; exact decide_eq_false h3
          go_wp2
          go_ret2
          exact ⟨ret_join HF.out.1.symm (by rw [HF.out.2]; exact HYe.out), rfl⟩
set_option maxHeartbeats 1000000 in
theorem rwithin_any (A B : Option Addr) (n m c d : Nat) (xs ys : List ByteArray) (w : World) (hx : Sl w Value.string A n xs) (hy : Sl w Value.string B m ys) (hmd : m ≤ d) (hd : d ≤ 9223372036854775807) (hB0 : B = none → d = 0) :
    Calls Try.prog 47 #[.slice A n c, .slice B m d] w fun e w' => e = .returned (.bool (pre xs ys)) ∧ Below w.heap.size w w' := by
  have hn := hx.1
  have hm := hy.1
  have hn2 := hx.2.1
  have hm2 := hy.2.1
  by_cases h : m < n
  · have HF : Hid (pre xs ys = false) := pre_no (by omega)
    go_enter Try.func47, Try.ntmps47
    go_wp2
    go_ret
    exact ⟨ret_bool HF.out.symm, Below.refl _ _⟩
  · have hyt : Sl w Value.string B n (ys.take n) := ⟨by rw [List.length_take]; omega, hn2, fun i x hx => hy.2.2 i x (by
      rw [List.getElem?_take] at hx
      split at hx
      · exact hx
      · cases hx)⟩
    have CT := Lib.hid (fun c' => texts_any A B n n c c' xs (ys.take n) w hx hyt)
    have HP : Hid (decide (xs = ys.take n) = pre xs ys) := by show _ = _; unfold pre; rw [hn]
    rw [HP.out] at CT
    clear hx hy hyt hm hn
    go_enter Try.func47, Try.ntmps47
    go_wp2_with fail
    refine (CT.out _).mono ?_
    rintro e w' ⟨rfl, q, rfl⟩
    go_wp2
    go_ret
    exact ⟨rfl, bdrewN (Below.refl _ _) q⟩
end Go.Proofs.Ytoibdomcekainaa.Rt
