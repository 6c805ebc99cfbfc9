/- The contract of pick.Rank. No statement is proved here. -/
import Derived.Test.YthgncnpemnlodaaRk
import Derived.Deep.RegionLaw
import Derived.Test.YthgncnpemnlodaaKind
namespace Go.Proofs.Ythgncnpemnlodaa.Fl
open Go.RowKit Go.Proofs.Ythgncnpemnlodaa.Open Go.Proofs.Ythgncnpemnlodaa.Mem
set_option linter.unusedVariables false
set_option linter.unusedSimpArgs false
theorem posF_go {l : List Nat} {out : List Int} {x m : Nat} (h : ord (wt l (out.getD m 0)) x < 0) : posF l out x (m + 1) = posF l out x m := by
  rw [posF, if_pos h]
theorem posF_stop {l : List Nat} {out : List Int} {x m : Nat} (h : ¬ ord (wt l (out.getD m 0)) x < 0) : posF l out x (m + 1) = m + 1 := by
  rw [posF, if_neg h]
theorem rk_at (l : List Nat) (k m : Nat) (hm : m < k) : ∃ j : Nat, j < k ∧ (rk l k).getD m 0 = (j : Int) ∧ ∃ h : m < (rk l k).length, (rk l k)[m] = (j : Int) := by
  have hl := rk_len l k
  have h : m < (rk l k).length := by omega
  have h1 := rk_lt l k _ (List.getElem_mem h)
  refine ⟨(rk l k)[m].toNat, by omega, ?_, h, by omega⟩
  rw [List.getD_eq_getElem?_getD, List.getElem?_eq_getElem h]
  show (rk l k)[m] = _
  omega
theorem wt_nat (l : List Nat) (j : Nat) (h : j < l.length) : wt l (j : Int) = l[j] := by
  unfold wt
  rw [Int.toNat_natCast, List.getD_eq_getElem?_getD, List.getElem?_eq_getElem h]
  rfl
set_option maxHeartbeats 1000000 in
set_option maxRecDepth 100000 in
theorem rank_any (A : Option Addr) (n c : Nat) (l : List Nat) (w : World) (hx : Sl w F A n l) (hs : ∀ x ∈ l, x < 18446744073709551616) (hn9 : n ≤ 1000) :
    Calls Try.prog 31 #[.slice A n c] w fun e w' => ∃ v, e = .returned v ∧ Own w' w.heap.size 3 (Value.int .i64) v (rk l n) ∧ Below w.heap.size w w' := by
  have hn := hx.1
  go_enter Try.func31, Try.ntmps31
  go_wp2
  go_loopw [3, 9] (fun v i wr => ∃ (u : Value) (k : Nat), u = v ∧ k ≤ n ∧ i = .int .i64 k ∧ Own wr w.heap.size 3 (Value.int .i64) u (rk l k) ∧ Below w.heap.size w wr) (fun _ i _ => n - (intOf i).toNat)
  case atStart => exact ⟨_, 0, rfl, by omega, rfl, by simpa [rk] using Own.nil _ _ _ _, Below.refl _ _⟩
  case round =>
    obtain ⟨u, k, rfl, hk, rfl, hown, hbel⟩ := hrel
    have hB := hbel.size
    by_cases hlt : k < n
    · have hkx : k < l.length := by omega
      have hxr := hx.below hbel
      obtain ⟨ad, rfl, hadb, hcell⟩ := hxr.at_ hkx
      have hrl := rk_len l k
      have hwk := wt_nat l k hkx
      have hsx := hs _ (List.getElem_mem hkx)
      have HI := Lib.hid (show rk l (k + 1) = ins l (rk l k) k from rfl)
      have HI2 := Lib.hid (show ins l (rk l k) k = (rk l k).take (posF l (rk l k) l[k] k) ++ (k : Int) :: (rk l k).drop (posF l (rk l k) l[k] k) by unfold ins; rw [hwk, hrl])
      obtain ⟨A1, c1, rfl⟩ := hown.slice
      have hlen := hrl
      rw [hrl] at hown ⊢
      generalize l[k] = x at *
      go_wp2
      go_loopw [6] (fun a wq => ∃ m : Nat, a = .int .i64 m ∧ m ≤ k ∧ posF l (rk l k) x m = posF l (rk l k) x k ∧ wr = wq) (fun a _ => (intOf a).toNat)
      case atStart => exact ⟨k, rfl, by omega, rfl, rfl⟩
      case round =>
        obtain ⟨m, rfl, hm, hpos, hw⟩ := hrel
        subst hw
        have HP := Lib.hid hpos
        clear hpos
        by_cases h0 : m = 0
        · subst h0
          have HP0 : Hid (posF l (rk l k) x k = 0) := Lib.hid (HP.out.symm.trans rfl)
          clear hwk hlen hcell hsx
          have hpk : 0 ≤ k := by omega
          have hc1 : (wr.alloc (.cells #[.int .i64 0] 3)).cell? ⟨wr.heap.size, 0, none⟩ = some (.int .i64 0) := by
            rw [cell_of_row _ _ _ _ _ _ (heap_alloc_new wr _)]; rfl
          go_wp2_with (at_builtin; refine wpList_app1 rfl _ _ 45 rfl w.heap.size 3 (.int .i64 0) 8 (Value.int .i64) Try.underlying45 intInfo rfl _ (rk l k) 0 rfl _ wr.heap.size rfl (hown.alloc _) hc1 rfl (by omega) (by omega) (by simp; omega) ?_; intro v1 w2 hown2 hbel2 hg2)
          have hl2 : (rk l k ++ [0]).length = k + 1 := by simp [hrl]
          obtain ⟨g2, c2, rfl⟩ := hown2.slice_pos (by omega)
          rw [hl2] at hown2 ⊢
          obtain ⟨cur, b1, b2, b3, b4, b6, b5⟩ := own_block hown2
          rw [hl2] at b2 b3 b5 b6
          obtain ⟨cs, hcs⟩ : ∃ cs, cs = ((rk l k ++ [0]).drop (0)).take (k - (0)) := ⟨_, rfl⟩
          have hcl : cs.length = k - (0) := by rw [hcs, List.length_take, List.length_drop, hl2]; omega
          have hcc : ∀ (j : Nat) (v : Value), (cs.map (Value.int .i64))[j]? = some v → w2.cell? ((⟨g2, (0), none⟩ : Addr).add j) = some v := by
            intro j v hv
            have hj : j < k - (0) := by
              have := (List.getElem?_eq_some_iff.1 hv).1
              rw [List.length_map, hcl] at this
              exact this
            have hpj : (0) + j < (rk l k ++ [0]).length := by omega
            rw [Kind.addr_add, hown2.cell ((0) + j) hpj]
            rw [List.getElem?_map, hcs, List.getElem?_take, if_pos hj, List.getElem?_drop, List.getElem?_eq_getElem hpj] at hv
            exact hv
          have HCC := Lib.hid hcc
          have B1 := Lib.hid b1
          have B5 := Lib.hid b5
          have HCS := Lib.hid hcs
          have hcm : (cs.map (Value.int .i64)).length = k - (0) := by rw [List.length_map]; exact hcl
          have hone : ∀ v ∈ cs.map (Value.int .i64), v.oneCell' = true := by
            intro v hv
            obtain ⟨z, _, rfl⟩ := List.mem_map.1 hv
            rfl
          have HM := Lib.hid hcm
          have HO := Lib.hid hone
          obtain ⟨vs, hvs⟩ : ∃ vs, cs.map (Value.int .i64) = vs := ⟨_, rfl⟩
          rw [hvs] at HCC HM HO
          have HV := Lib.hid hvs
          clear hvs hcc b1 b3 b5 hcs hcm hone hl2
          have hW1 : IntKind.i64.wrap 1 = 1 := by decide
          have hW2 : (1 : Int) ≤ (k : Int) + 1 := by omega
          have hW3 : (0 : Int) ≤ (k : Int) + 1 := by omega
          go_region_law (refine step_copy_splice rfl (.tmp 39) (.tmp 42) 45 45 rfl 3 Try.underlying45 intSize (if c2 = 1 then some ⟨g2, 0, none⟩ else some ⟨g2, 1, none⟩) (some ⟨g2, 0, none⟩) k (c2 - 1) (k + 1) c2 (by simp [Act.eval, Act.put]) (by simp [Act.eval, Act.put]) g2 (0 + 1) cur 3 B1.out vs (by rw [HM.out]; simp) (fun h0 => by rw [HM.out] at h0; exact ⟨if_neg (by omega), _, rfl, HCC.out⟩) (by rw [HM.out]; omega) HO.out w.heap.size _ (Below.refl _ _) b4 ?_; intro w4 hg4 hb4)
          have hown4 := B5.out w4 (0 + 1) cs (by rw [HV.out]; exact hg4.out) (by omega)
          have hfin : (splice (rk l k ++ [0]) (0 + 1) cs).set (0) (k : Int) = rk l (k + 1) := by
            rw [HCS.out, ins_splice (rk l k ++ [0]) (0) k k (by simp [hrl]) hpk, HI.out, HI2.out, HP0.out, List.take_append_of_le_length (by omega), List.take_append_of_le_length (by omega), List.take_of_length_le (by omega : (rk l k).length ≤ k)]
          have HF := Lib.hid hfin
          have hsl : (splice (rk l k ++ [0]) (0 + 1) cs).length = k + 1 := by rw [length_splice _ _ _ (by simp; omega)]; simp [hrl]
          obtain ⟨u4, hc4⟩ : ∃ u, w4.cell? ⟨g2, 0, none⟩ = some u := ⟨_, hown4.cell 0 (by omega)⟩
          have hf4 := hown4.frozen (0)
          have hst := hown4.stored (0) (k : Int)
          rw [HF.out] at hst
          have hb5 := hown4.base
          clear hfin hsl hg4 B1 B5 HCC HM HO HV HCS hown2 hown4
          go_wp2
          go_roundw
          case rel => exact ⟨_, k + 1, rfl, by omega, by go_num, hst, Below.setCell ((hbel.alloc hB _).trans (hbel2.trans ((Below.refl _ _).drew.trans hb4))) b4 _⟩
          case measure => simp [intOf]; omega
        · obtain ⟨m', rfl⟩ : ∃ m', m = m' + 1 := ⟨m - 1, by omega⟩
          obtain ⟨j, hj, hjd, hj1, hj2⟩ := rk_at l k m' (by omega)
          have hjx : j < l.length := by omega
          obtain ⟨ad', e', hadb', hcj⟩ := hxr.at_ hjx
          injection e' with e'
          subst e'
          obtain ⟨g1, c2, e1⟩ := hown.slice_pos (by omega)
          injection e1 with e1 e2 e3
          subst e1 e3
          have hco := hown.cell m' hj1
          rw [hj2] at hco
          have C := Lib.hid (order_any l[j] x (hs _ (List.getElem_mem _)) hsx wr)
          have HG := Lib.hid (fun h => (posF_go (l := l) (out := rk l k) (x := x) (m := m') h).symm)
          have HS := Lib.hid (fun h => posF_stop (l := l) (out := rk l k) (x := x) (m := m') h)
          rw [hjd, wt_nat l j hjx] at HG HS
          generalize l[j] = y at *
          generalize ord y x = o at *
          clear e2 hjd hj2 hwk hlen hcell hsx
          by_cases ho : o < 0
          · go_wp2_with fail
            refine C.out.mono ?_
            rintro e w1 ⟨rfl, rfl⟩
            go_wp2
            go_roundw
            case rel => exact ⟨m', by go_num, by omega, by rw [← HP.out, HG.out ho], trivial⟩
            case measure => simp [intOf]
          · have HP0 : Hid (posF l (rk l k) x k = m' + 1) := Lib.hid (HP.out.symm.trans (HS.out ho))
            have hpk : m' + 1 ≤ k := hm
            clear HG HS
            go_wp2_with fail
            refine C.out.mono ?_
            rintro e w1 ⟨rfl, hw1⟩
            subst w1
            clear hco hcj C
            have hc1 : (wr.alloc (.cells #[.int .i64 0] 3)).cell? ⟨wr.heap.size, 0, none⟩ = some (.int .i64 0) := by
              rw [cell_of_row _ _ _ _ _ _ (heap_alloc_new wr _)]; rfl
            go_wp2_with (at_builtin; refine wpList_app1 rfl _ _ 45 rfl w.heap.size 3 (.int .i64 0) 8 (Value.int .i64) Try.underlying45 intInfo rfl _ (rk l k) 0 rfl _ wr.heap.size rfl (hown.alloc _) hc1 rfl (by omega) (by omega) (by simp; omega) ?_; intro v1 w2 hown2 hbel2 hg2)
            have hl2 : (rk l k ++ [0]).length = k + 1 := by simp [hrl]
            obtain ⟨g2, c2, rfl⟩ := hown2.slice_pos (by omega)
            rw [hl2] at hown2 ⊢
            obtain ⟨cur, b1, b2, b3, b4, b6, b5⟩ := own_block hown2
            rw [hl2] at b2 b3 b5 b6
            obtain ⟨cs, hcs⟩ : ∃ cs, cs = ((rk l k ++ [0]).drop (m' + 1)).take (k - (m' + 1)) := ⟨_, rfl⟩
            have hcl : cs.length = k - (m' + 1) := by rw [hcs, List.length_take, List.length_drop, hl2]; omega
            have hcc : ∀ (j : Nat) (v : Value), (cs.map (Value.int .i64))[j]? = some v → w2.cell? ((⟨g2, (m' + 1), none⟩ : Addr).add j) = some v := by
              intro j v hv
              have hj : j < k - (m' + 1) := by
                have := (List.getElem?_eq_some_iff.1 hv).1
                rw [List.length_map, hcl] at this
                exact this
              have hpj : (m' + 1) + j < (rk l k ++ [0]).length := by omega
              rw [Kind.addr_add, hown2.cell ((m' + 1) + j) hpj]
              rw [List.getElem?_map, hcs, List.getElem?_take, if_pos hj, List.getElem?_drop, List.getElem?_eq_getElem hpj] at hv
              exact hv
            have HCC := Lib.hid hcc
            have B1 := Lib.hid b1
            have B5 := Lib.hid b5
            have HCS := Lib.hid hcs
            have hcm : (cs.map (Value.int .i64)).length = k - (m' + 1) := by rw [List.length_map]; exact hcl
            have hone : ∀ v ∈ cs.map (Value.int .i64), v.oneCell' = true := by
              intro v hv
              obtain ⟨z, _, rfl⟩ := List.mem_map.1 hv
              rfl
            have HM := Lib.hid hcm
            have HO := Lib.hid hone
            obtain ⟨vs, hvs⟩ : ∃ vs, cs.map (Value.int .i64) = vs := ⟨_, rfl⟩
            rw [hvs] at HCC HM HO
            have HV := Lib.hid hvs
            clear hvs hcc b1 b3 b5 hcs hcm hone hl2
            have hW1 : IntKind.i64.wrap ((m' : Int) + 1 + 1) = (m' : Int) + 1 + 1 := by rw [IntKind.wrap_i64]; omega
            have hW2 : (m' : Int) + 1 + 1 ≤ (k : Int) + 1 := by omega
            have hW3 : (0 : Int) ≤ (m' : Int) + 1 + 1 := by omega
            have hW4 : (m' : Int) + 1 ≤ (k : Int) + 1 := by omega
            have hW5 : (0 : Int) ≤ (m' : Int) + 1 := by omega
            have hT : ((m' : Int) + 1 + 1).toNat = m' + 1 + 1 := by omega
            have HT := Lib.hid hT
            clear hT
            go_region_law (refine step_copy_splice rfl (.tmp 39) (.tmp 42) 45 45 rfl 3 Try.underlying45 intSize (if c2 = ((m' : Int) + 1 + 1).toNat then some ⟨g2, 0, none⟩ else some ⟨g2, ((m' : Int) + 1 + 1).toNat, none⟩) (if c2 = m' + 1 then some ⟨g2, 0, none⟩ else some ⟨g2, m' + 1, none⟩) (k + 1 - ((m' : Int) + 1 + 1).toNat) (c2 - ((m' : Int) + 1 + 1).toNat) (k - m') (c2 - (m' + 1)) (by simp [Act.eval, Act.put]) (by simp [Act.eval, Act.put]) g2 (m' + 1 + 1) cur 3 B1.out vs (by rw [HM.out, HT.out]; show _ = min _ _; omega) (fun h0 => by rw [HM.out] at h0; exact ⟨by rw [HT.out, if_neg (by omega)], _, if_neg (by omega), HCC.out⟩) (by rw [HM.out]; omega) HO.out w.heap.size _ (Below.refl _ _) b4 ?_; intro w4 hg4 hb4)
            have hown4 := B5.out w4 (m' + 1 + 1) cs (by rw [HV.out]; exact hg4.out) (by omega)
            have hfin : (splice (rk l k ++ [0]) (m' + 1 + 1) cs).set (m' + 1) (k : Int) = rk l (k + 1) := by
              rw [HCS.out, ins_splice (rk l k ++ [0]) (m' + 1) k k (by simp [hrl]) hpk, HI.out, HI2.out, HP0.out, List.take_append_of_le_length (by omega), List.take_append_of_le_length (by omega), List.take_of_length_le (by omega : (rk l k).length ≤ k)]
            have HF := Lib.hid hfin
            have hsl : (splice (rk l k ++ [0]) (m' + 1 + 1) cs).length = k + 1 := by rw [length_splice _ _ _ (by simp; omega)]; simp [hrl]
            obtain ⟨u4, hc4⟩ : ∃ u, w4.cell? ⟨g2, m' + 1, none⟩ = some u := ⟨_, hown4.cell (m' + 1) (by omega)⟩
            have hf4 := hown4.frozen (m' + 1)
            have hst := hown4.stored (m' + 1) (k : Int)
            rw [HF.out] at hst
            have hb5 := hown4.base
            clear hfin hsl hg4 B1 B5 HCC HM HO HV HCS hown2 hown4
            go_wp2
            go_roundw
            case rel => exact ⟨_, k + 1, rfl, by omega, by go_num, hst, Below.setCell ((hbel.alloc hB _).trans (hbel2.trans ((Below.refl _ _).drew.trans hb4))) b4 _⟩
            case measure => simp [intOf]; omega
    · obtain rfl : k = n := by omega
      go_wp2
      go_ret
      exact ⟨_, rfl, hown, hbel⟩
end Go.Proofs.Ythgncnpemnlodaa.Fl
