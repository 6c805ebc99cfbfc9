/- The numbers that a change waits for: the contract of needed. No statement is proved here. -/
import Derived.Test.YtbamhiegabeicaaGreatCa
namespace Go.Proofs.YtbamhiegabeicaaGreat.Cb
open Go.RowKit Go.Proofs.YtbamhiegabeicaaGreat.Mem Go.Proofs.YtbamhiegabeicaaGreat.Open Go.Proofs.YtbamhiegabeicaaGreat.Kind Go.Proofs.YtbamhiegabeicaaGreat.Blk Go.Proofs.YtbamhiegabeicaaGreat.App Go.Proofs.YtbamhiegabeicaaGreat.Pat Go.Proofs.YtbamhiegabeicaaGreat.Rd
open Go.Proofs.YtbamhiegabeicaaGreat.Db (Dv Dev Asd)
set_option linter.unusedVariables false
set_option linter.unusedSimpArgs false
/-- From the end, what is passed. -/
def cutG (xs : List Int) (y : Int) : Nat → Nat
  | 0 => 0
  | m + 1 => if y < xs.getD m 0 then cutG xs y m else m + 1
theorem cutG_le (xs : List Int) (y : Int) (m : Nat) : cutG xs y m ≤ m := by
  induction m with
  | zero => exact Nat.le_refl _
  | succ m ih => unfold cutG; split <;> omega
def insG (xs : List Int) (y : Int) : List Int := if 0 < cutG xs y xs.length ∧ xs.getD (cutG xs y xs.length - 1) 0 = y then xs else xs.take (cutG xs y xs.length) ++ y :: xs.drop (cutG xs y xs.length)
theorem insG_len (xs : List Int) (y : Int) : (insG xs y).length ≤ xs.length + 1 := by
  unfold insG
  have := cutG_le xs y xs.length
  split
  · omega
  · simp; omega
/-- Those that are not done, each put in; none: one is none. -/
def neF (last : Int) (dn : Int → Bool) : List Int → List Int → Option (List Int)
  | [], out => some out
  | n :: r, out => if n < 1 ∨ last < n then none else if dn n = true then neF last dn r out else neF last dn r (insG out n)
set_option maxHeartbeats 4000000 in
set_option maxRecDepth 100000 in
theorem needed_any (A2 : Option Addr) (cn : Nat) (ns : List Int) (c d g b : Nat) (N : Nat → Prop) (v : Value) (s : St) (w : World) (h : Ca w c d g b N v s) (hn : Is w A2 ns) (hl : ns.length ≤ 100) :
    Calls Tryz.prog 37 #[.pointer (some ⟨c, 0, none⟩), .slice A2 ns.length cn] w fun e w' => ∃ v2, e = .returned (.tuple #[v2, .bool (neF s.last (doneB s) ns []).isSome]) ∧ Ns w' w.heap.size v2 ((neF s.last (doneB s) ns []).getD []) ∧ Below w.heap.size w w' := by
  obtain ⟨c0, c1, c2, c3⟩ := h.cells
  have hcl := h.row.lt
  have CD := Lib.hid (fun n w' hb => Done_any n c d g b N v s w' (h.below (w' := w') hb))
  generalize doneB s = dn at *
  generalize s.last = last at *
  generalize hRES : neF last dn ns [] = RES
  have HRES := Lib.hid hRES
  clear h hRES c0 c1 c2
  go_enter Tryz.func37, Tryz.ntmps37
  go_wp2
  go_loopw [6, 12] (fun v i wr => ∃ (k : Nat) (out : List Int), k ≤ ns.length ∧ i = .int .i64 k ∧ out.length ≤ k ∧ Hid (RES = neF last dn (ns.drop k) out) ∧ Ns wr w.heap.size v out ∧ Below w.heap.size w wr) (fun _ i _ => ns.length - (intOf i).toNat)
  case atStart => exact ⟨0, [], by omega, rfl, by simp, Lib.hid HRES.out.symm, Own.nil _ _ _ _, Below.refl _ _⟩
  case round =>
    obtain ⟨k, xs, hk, rfl, hol, hv, hown, hbr⟩ := hrel
    by_cases hlt : k < ns.length
    · obtain ⟨g1, o1, rfl, hg1, hc0⟩ := is_at hn k hlt
      have hc := (hbr.cell (p := ⟨g1, o1 + k, none⟩) hg1).trans hc0
      have hv := hv.out
      rw [drop_at hlt] at hv
      generalize ns[k] = y at *
      have c3' := (hbr.cell (p := ⟨c, 3, none⟩) hcl).trans c3
      have CDW := Lib.hid (CD.out y wr hbr)
      have HOWN := Lib.hid hown
      have HBR := Lib.hid hbr
      have hB := hbr.size
      clear hown hbr hc0
      by_cases q1 : y < 1
      · have HV : Hid (RES = none) := Lib.hid (hv.trans (if_pos (.inl q1)))
        clear hv
        go_wp2
        refine bodyPost_ret (results_tmp2 rfl _ _ _) rfl ?_
        exact ⟨_, by rw [HV.out]; rfl, by rw [HV.out]; exact Own.nil _ _ _ _, HBR.out⟩
      by_cases q2 : last < y
      · have HV : Hid (RES = none) := Lib.hid (hv.trans (if_pos (.inr q2)))
        clear hv
        go_wp2
        refine bodyPost_ret (results_tmp2 rfl _ _ _) rfl ?_
        exact ⟨_, by rw [HV.out]; rfl, by rw [HV.out]; exact Own.nil _ _ _ _, HBR.out⟩
      have hv2 : RES = if dn y = true then neF last dn (ns.drop (k + 1)) xs else neF last dn (ns.drop (k + 1)) (insG xs y) := hv.trans (if_neg (by omega))
      clear hv
      cases hd : dn y with
      | true =>
        have HNE : Hid (RES = neF last dn (ns.drop (k + 1)) xs) := Lib.hid (by rw [hv2, if_pos hd])
        rw [hd] at CDW
        clear hv2 hd
        go_wp2_with fail
        refine CDW.out.mono ?_
        rintro e w2 ⟨rfl, hb2⟩
        have HOWN := Lib.hid (HOWN.out.below hb2)
        have HBR := Lib.hid (HBR.out.trans (hb2.mono HBR.out.size))
        clear hb2 CDW
        go_wp2
        go_roundw
        case rel => exact ⟨k + 1, _, by omega, by go_num, by omega, HNE.out, HOWN.out, HBR.out⟩
        case measure => simp [intOf]; omega
      | false =>
        have HNE : Hid (RES = neF last dn (ns.drop (k + 1)) (insG xs y)) := Lib.hid (by rw [hv2, if_neg (by rw [hd]; simp)])
        rw [hd] at CDW
        clear hv2 hd
        go_wp2_with fail
        refine CDW.out.mono ?_
        rintro e wr2 ⟨rfl, hb2⟩
        have HOWN := Lib.hid (HOWN.out.below hb2)
        have HBR := Lib.hid (HBR.out.trans (hb2.mono HBR.out.size))
        clear hb2 CDW hc c3' hB
        have hB := HBR.out.size
        have HP : Hid (insG xs y = if 0 < cutG xs y xs.length ∧ xs.getD (cutG xs y xs.length - 1) 0 = y then xs else xs.take (cutG xs y xs.length) ++ y :: xs.drop (cutG xs y xs.length)) := Lib.hid rfl
        obtain ⟨A, cc, rfl⟩ := HOWN.out.slice
        obtain ⟨n, hrl⟩ : ∃ n, xs.length = n := ⟨_, rfl⟩
        rw [hrl] at HOWN hol HP ⊢
        go_wp2
        go_loopw [9] (fun i wr' => ∃ p : Nat, p ≤ n ∧ i = .int .i64 p ∧ Hid (cutG xs y n = cutG xs y p) ∧ wr' = wr2) (fun i _ => (intOf i).toNat)
        case atStart => exact ⟨n, Nat.le_refl _, rfl, Lib.hid rfl, rfl⟩
        case round =>
          obtain ⟨p, hp, rfl, hc, rfl⟩ := hrel
          by_cases hp0 : p = 0
          · have d0 : decide (0 < p) = false := decide_eq_false (by omega)
            have HC : Hid (cutG xs y n = p) := Lib.hid (by rw [hc.out, hp0]; rfl)
            have HR : Hid (insG xs y = xs.take p ++ y :: xs.drop p) := Lib.hid (by rw [HP.out, HC.out, if_neg (by omega)])
            clear hp0 hc
            have hc1 : (wr.alloc (.cells #[.int .i64 0] 3)).cell? ⟨wr.heap.size, 0, none⟩ = some (.int .i64 0) := by
              rw [cell_of_row _ _ _ _ _ _ (heap_alloc_new wr _)]; rfl
            go_wp2_with (at_builtin; go_loud (refine wpList_app1 rfl _ _ 47 rfl w.heap.size 3 (.int .i64 0) 8 V64 Tryz.underlying47 intInfo3 rfl _ xs 0 rfl _ wr.heap.size rfl (HOWN.out.alloc _) hc1 rfl (by omega) (by omega) (by simp; omega) ?_); intro v1 w2 hown2 hbel2 hg2)
            have hl2 : (xs ++ [0]).length = n + 1 := by simp [hrl]
            obtain ⟨g2, c2, rfl⟩ := hown2.slice_pos (by omega)
            rw [hl2] at hown2 ⊢
            obtain ⟨cur, b1, b2, b3, b4, b6, b5⟩ := own_block hown2
            rw [hl2] at b2 b3 b5 b6
            obtain ⟨cs, hcs⟩ : ∃ cs, cs = ((xs ++ [0]).drop p).take (n - p) := ⟨_, rfl⟩
            have hcl : cs.length = n - p := by rw [hcs, List.length_take, List.length_drop, hl2]; omega
            have hcc : ∀ (j : Nat) (v : Value), (cs.map (Value.int .i64))[j]? = some v → w2.cell? ((⟨g2, p, none⟩ : Addr).add j) = some v := by
              intro j v hv
              have hj : j < n - p := by
                have := (List.getElem?_eq_some_iff.1 hv).1
                rw [List.length_map, hcl] at this
                exact this
              have hpj : p + j < (xs ++ [0]).length := by omega
              rw [Kind.addr_add, hown2.cell (p + j) hpj]
              rw [List.getElem?_map, hcs, List.getElem?_take, if_pos hj, List.getElem?_drop, List.getElem?_eq_getElem hpj] at hv
              exact hv
            have HCC := Lib.hid hcc
            have B1 := Lib.hid b1
            have B5 := Lib.hid b5
            have HCS := Lib.hid hcs
            have hcm : (cs.map (Value.int .i64)).length = n - p := by rw [List.length_map]; exact hcl
            have hone : ∀ v ∈ cs.map (Value.int .i64), v.oneCell' = true := by
              intro v hv
              obtain ⟨z, _, rfl⟩ := List.mem_map.1 hv
              rfl
            have HM := Lib.hid hcm
            have HO := Lib.hid hone
            obtain ⟨vs, hvs⟩ : ∃ vs, cs.map (Value.int .i64) = vs := ⟨_, rfl⟩
            rw [hvs] at HCC HM HO
            have HV := Lib.hid hvs
            clear hvs hcc b1 b3 b5 hcs hcm hone hl2
            have hW1 : IntKind.i64.wrap ((p : Int) + 1) = (p : Int) + 1 := by rw [IntKind.wrap_i64]; omega
            have hW2 : (p : Int) + 1 ≤ (n : Int) + 1 := by omega
            have hW3 : (0 : Int) ≤ (p : Int) + 1 := by omega
            have hW4 : (p : Int) ≤ (n : Int) + 1 := by omega
            have hW5 : (0 : Int) ≤ (p : Int) := by omega
            have hT : ((p : Int) + 1).toNat = p + 1 := by omega
            have HT := Lib.hid hT
            clear hT
            go_region_law (go_loud (refine step_copy_splice rfl (.tmp 61) (.tmp 64) 47 47 rfl 3 Tryz.underlying47 intSize (if c2 = ((p : Int) + 1).toNat then some ⟨g2, 0, none⟩ else some ⟨g2, ((p : Int) + 1).toNat, none⟩) (if c2 = p then some ⟨g2, 0, none⟩ else some ⟨g2, p, none⟩) (n + 1 - ((p : Int) + 1).toNat) (c2 - ((p : Int) + 1).toNat) (n + 1 - p) (c2 - p) (by simp [Act.eval, Act.put]) (by simp [Act.eval, Act.put]) g2 (p + 1) cur 3 B1.out vs (by rw [HM.out, HT.out]; show _ = min _ _; omega) (fun h0 => by rw [HM.out] at h0; exact ⟨by rw [HT.out, if_neg (by omega)], _, if_neg (by omega), HCC.out⟩) (by rw [HM.out]; omega) HO.out w.heap.size _ (Below.refl _ _) b4 ?_); intro w4 hg4 hb4)
            have hown4 := B5.out w4 (p + 1) cs (by rw [HV.out]; exact hg4.out) (by omega)
            have hfin : (splice (xs ++ [0]) (p + 1) cs).set p y = xs.take p ++ y :: xs.drop p := by
              rw [HCS.out, ins_splice (xs ++ [0]) p n y (by simp [hrl]) (by omega), List.take_append_of_le_length (by omega), List.take_append_of_le_length (by omega), List.take_of_length_le (by omega : xs.length ≤ n)]
            have HF := Lib.hid hfin
            have hsl : (splice (xs ++ [0]) (p + 1) cs).length = n + 1 := by rw [length_splice _ _ _ (by simp; omega)]; simp [hrl]
            obtain ⟨u4, hc4⟩ : ∃ u, w4.cell? ⟨g2, p, none⟩ = some u := ⟨_, hown4.cell p (by omega)⟩
            have hf4 := hown4.frozen p
            have hst := hown4.stored p y
            rw [HF.out] at hst
            have hb5 := hown4.base
            have HB5 := Lib.hid (HBR.out.trans (Below.setCell (((Below.refl w.heap.size wr).alloc hB (.cells #[.int .i64 0] 3)).trans (hbel2.trans ((Below.refl _ _).drew.trans hb4))) b4 (p := ⟨g2, p, none⟩) (V64 y)))
            have HST := Lib.hid hst
            clear hfin hsl hg4 B1 B5 HCC HM HO HV HCS hown2 hown4 hst
            go_wp2
            go_roundw
            case rel => exact ⟨k + 1, _, by omega, by go_num, by have := insG_len xs y; omega, HNE.out, by rw [HR.out]; exact HST.out, HB5.out⟩
            case measure => simp [intOf]; omega
          · obtain ⟨g, c', e⟩ := HOWN.out.slice_pos (by omega)
            injection e with e1 e2 e3
            subst e1 e3
            clear e2
            have hm : p - 1 < n := by omega
            have hcell := HOWN.out.cell (p - 1) (by omega)
            have hpn : ((p : Int) - 1).toNat = p - 1 := by omega
            have i1 : (0 : Int) ≤ (p : Int) - 1 := by omega
            have i2 : (p : Int) - 1 < (n : Int) := by omega
            have i3 : 0 < p := by omega
            have hgd : xs.getD (p - 1) 0 = xs[p - 1]'(by omega) := getD_of (by omega)
            by_cases hge : y < xs[p - 1]'(by omega)
            · have hc2 : cutG xs y p = cutG xs y (p - 1) := by
                obtain ⟨m, rfl⟩ : ∃ m, p = m + 1 := ⟨p - 1, by omega⟩
                rw [cutG, if_pos (by rw [getD_of (by omega)]; exact hge)]
                rfl
              have HC := Lib.hid (hc.out.trans hc2)
              generalize xs[p - 1]'(by omega) = x at *
              clear hc hc2 hgd
              go_wp2
              go_roundw
              case rel => exact ⟨p - 1, by omega, by go_num, HC, trivial⟩
              case measure => simp [intOf]; omega
            · have HC : Hid (cutG xs y n = p) := Lib.hid (by
                rw [hc.out]
                obtain ⟨m, rfl⟩ : ∃ m, p = m + 1 := ⟨p - 1, by omega⟩
                rw [cutG, if_neg (by rw [getD_of (by omega)]; exact hge)])
              clear hc
              by_cases hxy : xs[p - 1]'(by omega) = y
              · have HR : Hid (insG xs y = xs) := Lib.hid (by rw [HP.out, HC.out, if_pos ⟨i3, by rw [hgd, hxy]⟩])
                rw [hxy] at hcell hge
                clear hgd hxy
                go_wp2
                go_roundw
                case rel => exact ⟨k + 1, _, by omega, by go_num, by rw [HR.out]; omega, HNE.out, by rw [HR.out]; exact HOWN.out, HBR.out⟩
                case measure => simp [intOf]; omega
              · have HR : Hid (insG xs y = xs.take p ++ y :: xs.drop p) := Lib.hid (by rw [HP.out, HC.out, if_neg (fun e => hxy (by rw [← hgd]; exact e.2))])
                have hne : (xs[p - 1]'(by omega) == y) = false := beq_eq_false_iff_ne.2 hxy
                generalize xs[p - 1]'(by omega) = x at *
                clear hxy hgd
                have hc1 : (wr.alloc (.cells #[.int .i64 0] 3)).cell? ⟨wr.heap.size, 0, none⟩ = some (.int .i64 0) := by
                  rw [cell_of_row _ _ _ _ _ _ (heap_alloc_new wr _)]; rfl
                go_wp2_with (at_builtin; go_loud (refine wpList_app1 rfl _ _ 47 rfl w.heap.size 3 (.int .i64 0) 8 V64 Tryz.underlying47 intInfo3 rfl _ xs 0 rfl _ wr.heap.size rfl (HOWN.out.alloc _) hc1 rfl (by omega) (by omega) (by simp; omega) ?_); intro v1 w2 hown2 hbel2 hg2)
                have hl2 : (xs ++ [0]).length = n + 1 := by simp [hrl]
                obtain ⟨g2, c2, rfl⟩ := hown2.slice_pos (by omega)
                rw [hl2] at hown2 ⊢
                obtain ⟨cur, b1, b2, b3, b4, b6, b5⟩ := own_block hown2
                rw [hl2] at b2 b3 b5 b6
                obtain ⟨cs, hcs⟩ : ∃ cs, cs = ((xs ++ [0]).drop p).take (n - p) := ⟨_, rfl⟩
                have hcl : cs.length = n - p := by rw [hcs, List.length_take, List.length_drop, hl2]; omega
                have hcc : ∀ (j : Nat) (v : Value), (cs.map (Value.int .i64))[j]? = some v → w2.cell? ((⟨g2, p, none⟩ : Addr).add j) = some v := by
                  intro j v hv
                  have hj : j < n - p := by
                    have := (List.getElem?_eq_some_iff.1 hv).1
                    rw [List.length_map, hcl] at this
                    exact this
                  have hpj : p + j < (xs ++ [0]).length := by omega
                  rw [Kind.addr_add, hown2.cell (p + j) hpj]
                  rw [List.getElem?_map, hcs, List.getElem?_take, if_pos hj, List.getElem?_drop, List.getElem?_eq_getElem hpj] at hv
                  exact hv
                have HCC := Lib.hid hcc
                have B1 := Lib.hid b1
                have B5 := Lib.hid b5
                have HCS := Lib.hid hcs
                have hcm : (cs.map (Value.int .i64)).length = n - p := by rw [List.length_map]; exact hcl
                have hone : ∀ v ∈ cs.map (Value.int .i64), v.oneCell' = true := by
                  intro v hv
                  obtain ⟨z, _, rfl⟩ := List.mem_map.1 hv
                  rfl
                have HM := Lib.hid hcm
                have HO := Lib.hid hone
                obtain ⟨vs, hvs⟩ : ∃ vs, cs.map (Value.int .i64) = vs := ⟨_, rfl⟩
                rw [hvs] at HCC HM HO
                have HV := Lib.hid hvs
                clear hvs hcc b1 b3 b5 hcs hcm hone hl2
                have hW1 : IntKind.i64.wrap ((p : Int) + 1) = (p : Int) + 1 := by rw [IntKind.wrap_i64]; omega
                have hW2 : (p : Int) + 1 ≤ (n : Int) + 1 := by omega
                have hW3 : (0 : Int) ≤ (p : Int) + 1 := by omega
                have hW4 : (p : Int) ≤ (n : Int) + 1 := by omega
                have hW5 : (0 : Int) ≤ (p : Int) := by omega
                have hT : ((p : Int) + 1).toNat = p + 1 := by omega
                have HT := Lib.hid hT
                clear hT
                go_region_law (go_loud (refine step_copy_splice rfl (.tmp 61) (.tmp 64) 47 47 rfl 3 Tryz.underlying47 intSize (if c2 = ((p : Int) + 1).toNat then some ⟨g2, 0, none⟩ else some ⟨g2, ((p : Int) + 1).toNat, none⟩) (if c2 = p then some ⟨g2, 0, none⟩ else some ⟨g2, p, none⟩) (n + 1 - ((p : Int) + 1).toNat) (c2 - ((p : Int) + 1).toNat) (n + 1 - p) (c2 - p) (by simp [Act.eval, Act.put]) (by simp [Act.eval, Act.put]) g2 (p + 1) cur 3 B1.out vs (by rw [HM.out, HT.out]; show _ = min _ _; omega) (fun h0 => by rw [HM.out] at h0; exact ⟨by rw [HT.out, if_neg (by omega)], _, if_neg (by omega), HCC.out⟩) (by rw [HM.out]; omega) HO.out w.heap.size _ (Below.refl _ _) b4 ?_); intro w4 hg4 hb4)
                have hown4 := B5.out w4 (p + 1) cs (by rw [HV.out]; exact hg4.out) (by omega)
                have hfin : (splice (xs ++ [0]) (p + 1) cs).set p y = xs.take p ++ y :: xs.drop p := by
                  rw [HCS.out, ins_splice (xs ++ [0]) p n y (by simp [hrl]) (by omega), List.take_append_of_le_length (by omega), List.take_append_of_le_length (by omega), List.take_of_length_le (by omega : xs.length ≤ n)]
                have HF := Lib.hid hfin
                have hsl : (splice (xs ++ [0]) (p + 1) cs).length = n + 1 := by rw [length_splice _ _ _ (by simp; omega)]; simp [hrl]
                obtain ⟨u4, hc4⟩ : ∃ u, w4.cell? ⟨g2, p, none⟩ = some u := ⟨_, hown4.cell p (by omega)⟩
                have hf4 := hown4.frozen p
                have hst := hown4.stored p y
                rw [HF.out] at hst
                have hb5 := hown4.base
                have HB5 := Lib.hid (HBR.out.trans (Below.setCell (((Below.refl w.heap.size wr).alloc hB (.cells #[.int .i64 0] 3)).trans (hbel2.trans ((Below.refl _ _).drew.trans hb4))) b4 (p := ⟨g2, p, none⟩) (V64 y)))
                have HST := Lib.hid hst
                clear hfin hsl hg4 B1 B5 HCC HM HO HV HCS hown2 hown4 hst
                go_wp2
                go_roundw
                case rel => exact ⟨k + 1, _, by omega, by go_num, by have := insG_len xs y; omega, HNE.out, by rw [HR.out]; exact HST.out, HB5.out⟩
                case measure => simp [intOf]; omega
    · obtain rfl : k = ns.length := by omega
      have hv := hv.out
      rw [drop_end] at hv
      have HV : Hid (RES = some xs) := Lib.hid hv
      have HO := Lib.hid hown
      clear hv hown
      go_wp2
      refine bodyPost_ret (results_tmp2 rfl _ _ _) rfl ?_
      exact ⟨_, by rw [HV.out]; rfl, by rw [HV.out]; exact HO.out, hbr⟩
end Go.Proofs.YtbamhiegabeicaaGreat.Cb

