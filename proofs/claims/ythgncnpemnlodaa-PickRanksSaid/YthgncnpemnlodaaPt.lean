/- The contract of the reference's Rank. No statement is proved here. -/
import Derived.Test.YthgncnpemnlodaaPs
namespace Go.Proofs.Ythgncnpemnlodaa.Fl
open Go.RowKit Go.Proofs.Ythgncnpemnlodaa.Open Go.Proofs.Ythgncnpemnlodaa.Mem
set_option linter.unusedVariables false
set_option linter.unusedSimpArgs false
set_option maxHeartbeats 1000000 in
set_option maxRecDepth 100000 in
theorem rank6_any (A : Option Addr) (n c : Nat) (l : List Nat) (w : World) (hx : Sl w F A n l) (hs : ∀ x ∈ l, x < 18446744073709551616) (hn9 : n ≤ 1000) :
    Calls Try.prog 36 #[.slice A n c] w fun e w' => ∃ v, e = .returned v ∧ Own w' w.heap.size 3 (Value.int .i64) v (rk l n) ∧ Below w.heap.size w w' := by
  have hn := hx.1
  rw [← laid_rk l n]
  go_enter Try.func36, Try.ntmps36
  go_wp2_with (at_make; refine wpList_make rfl 45 _ _ rfl w.heap.size 3 (Value.int .i64) 0 8 Try.underlying45 intInfo rfl n (by first | rfl | simp) (by first | rfl | simp) (by omega) (by omega) (Nat.le_refl _) ?_; intro w3 hown hb3 hsz3)
  obtain ⟨gs, hgs⟩ : ∃ gs, w.heap.size = gs := ⟨_, rfl⟩
  have hgs2 : w.heap.size ≤ gs := by omega
  have hown : Own w3 gs 3 (Value.int .i64) (.slice (some ⟨w.heap.size, 0, none⟩) n n) (laid l n 0) := by rw [← hgs]; exact hown
  rw [hgs] at hown hsz3 ⊢
  clear hsz3
  go_loopw [4] (fun a wr => ∃ i : Nat, i ≤ n ∧ a = .int .i64 i ∧ Own wr gs 3 (Value.int .i64) (.slice (some ⟨gs, 0, none⟩) n n) (laid l n i) ∧ Below w.heap.size w wr) (fun a _ => n - (intOf a).toNat)
  case atStart => exact ⟨0, by omega, rfl, hown, hb3⟩
  case round =>
    obtain ⟨i, hi, rfl, hor, hbr⟩ := hrel
    clear hown hb3
    by_cases hlt : i < n
    · go_wp2
      go_loopw [5, 6] (fun cv a wq => ∃ k : Nat, k ≤ n ∧ a = .int .i64 k ∧ cv = .int .i64 (cnt l i k) ∧ Own wq gs 3 (Value.int .i64) (.slice (some ⟨gs, 0, none⟩) n n) (laid l n i) ∧ Below w.heap.size w wq) (fun _ a _ => n - (intOf a).toNat)
      case atStart => exact ⟨0, by omega, rfl, rfl, hor, hbr⟩
      case round =>
        clear hor hbr
        obtain ⟨k, hk, rfl, rfl, hor, hbr⟩ := hrel
        have hle := cnt_le l i k
        have hcn : cnt l i (k + 1) = cnt l i k + (if k ≠ i ∧ ahB l k i = true then 1 else 0) := rfl
        have HCN := Lib.hid hcn
        have HLT := Lib.hid (cnt_lt (l := l) hlt)
        clear hcn
        by_cases hkn : k < n
        · by_cases e : k = i
          · have HC2 : Hid (cnt l i (k + 1) = cnt l i k) := Lib.hid (by rw [HCN.out, if_neg (fun h => h.1 e)]; rfl)
            clear HCN
            have hne : ((k : Int) != (i : Int)) = false := by rw [e]; simp
            obtain ⟨cc, hcc⟩ : ∃ cc, cnt l i k = cc := ⟨_, rfl⟩
            rw [hcc] at HC2 hle ⊢
            clear hcc
            go_wp2
            go_roundw
            case rel => exact ⟨k + 1, by omega, by go_num, by rw [HC2.out], hor, hbr⟩
            case measure => simp [intOf]; omega
          · have hne : ((k : Int) != (i : Int)) = true := by rw [bne_iff_ne]; omega
            have C := Lib.hid (ahead_any A n c l k i wr (hx.below hbr) hs hkn hlt)
            cases hb : ahB l k i with
            | true =>
              have HC2 : Hid (cnt l i (k + 1) = cnt l i k + 1) := Lib.hid (by rw [HCN.out, if_pos ⟨e, hb⟩])
              rw [hb] at C
              clear HCN hb
              obtain ⟨cc, hcc⟩ : ∃ cc, cnt l i k = cc := ⟨_, rfl⟩
              rw [hcc] at HC2 hle ⊢
              clear hcc
              go_wp2_with fail
              refine C.out.mono ?_
              rintro e w5 ⟨rfl, hb5⟩
              go_wp2
              go_roundw
              case rel => exact ⟨k + 1, by omega, by go_num, by rw [HC2.out]; go_num, hor.below hb5, hbr.trans (hb5.mono hbr.size)⟩
              case measure => simp [intOf]; omega
            | false =>
              have HC2 : Hid (cnt l i (k + 1) = cnt l i k) := Lib.hid (by rw [HCN.out, if_neg (fun h => by rw [hb] at h; exact absurd h.2 (by simp))]; rfl)
              rw [hb] at C
              clear HCN hb
              obtain ⟨cc, hcc⟩ : ∃ cc, cnt l i k = cc := ⟨_, rfl⟩
              rw [hcc] at HC2 hle ⊢
              clear hcc
              go_wp2_with fail
              refine C.out.mono ?_
              rintro e w5 ⟨rfl, hb5⟩
              go_wp2
              go_roundw
              case rel => exact ⟨k + 1, by omega, by go_num, by rw [HC2.out], hor.below hb5, hbr.trans (hb5.mono hbr.size)⟩
              case measure => simp [intOf]; omega
        · obtain rfl : k = n := by omega
          have hcl := HLT.out
          obtain ⟨u, hcell⟩ : ∃ u, wr.cell? ⟨gs, cnt l i k, none⟩ = some u := ⟨_, hor.cell (cnt l i k) (by rw [laid_len]; exact hcl)⟩
          have hfr := hor.frozen (cnt l i k)
          have hst := hor.stored (cnt l i k) (i : Int)
          have HST : Hid (Own (wr.setCell ⟨gs, cnt l i k, none⟩ (.int .i64 i)) gs 3 (Value.int .i64) (.slice (some ⟨gs, 0, none⟩) k k) (laid l k (i + 1))) := Lib.hid hst
          clear hst HCN
          obtain ⟨cc, hcc⟩ : ∃ cc, cnt l i k = cc := ⟨_, rfl⟩
          rw [hcc] at HST hcell hfr hle hcl ⊢
          clear hcc HLT
          go_wp2
          go_roundw
          case rel => exact ⟨i + 1, by omega, by go_num, HST.out, hbr.setCell hgs2 _⟩
          case measure => simp [intOf]; omega
    · obtain rfl : i = n := by omega
      go_wp2
      go_ret
      exact ⟨_, rfl, hor.mono hgs2, hbr⟩
end Go.Proofs.Ythgncnpemnlodaa.Fl
