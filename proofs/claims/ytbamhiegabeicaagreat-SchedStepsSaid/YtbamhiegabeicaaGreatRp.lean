/- Laws and contracts of several chapters, laid in one text. No statement is proved here. -/
import Derived.Test.YtbamhiegabeicaaGreatRd2
import Derived.Test.YtbamhiegabeicaaGreatMp
import Derived.Laws.CopyOwn
import Derived.Deep.RegionLaw
import Derived.Deep.DeepCutAuto
import Derived.Deep.CutBlock
import Derived.Deep.RegionHeld3
/- A number into numbers that rise, once: the contract of ready.put. No statement is proved here. -/
namespace Go.Proofs.YtbamhiegabeicaaGreat.Rd
open Go.RowKit Go.Proofs.YtbamhiegabeicaaGreat.Mem Go.Proofs.YtbamhiegabeicaaGreat.Open Go.Proofs.YtbamhiegabeicaaGreat.Kind Go.Proofs.YtbamhiegabeicaaGreat.Blk Go.Proofs.YtbamhiegabeicaaGreat.App
set_option linter.unusedVariables false
set_option linter.unusedSimpArgs false
theorem intSize : (Tryz.prog.info? 3).map (·.size) = some 1 := by kernel_rfl
/-- What a copy by one place, and a store, make of a row. -/
theorem ins_splice (cur : List Int) (at' k : Nat) (x : Int) (hk : cur.length = k + 1) (ha : at' ≤ k) :
    (splice cur (at' + 1) ((cur.drop at').take (k - at'))).set at' x = cur.take at' ++ x :: (cur.take k).drop at' := by
  unfold splice
  have h1 : ((cur.drop at').take (k - at')).length = k - at' := by simp; omega
  rw [h1, show at' + 1 + (k - at') = k + 1 from by omega, List.drop_eq_nil_of_le (show cur.length ≤ k + 1 by omega), List.append_nil]
  rw [List.set_append_left _ _ (by simp; omega)]
  have h2 : (cur.take (at' + 1)).set at' x = cur.take at' ++ [x] := by
    apply List.ext_getElem?
    intro i
    rw [List.getElem?_set, List.getElem?_append, List.getElem?_take]
    simp only [List.length_take, List.getElem?_take]
    by_cases h : at' = i
    · subst h
      rw [if_pos rfl, if_pos (by omega), if_neg (by omega), show at' - min at' cur.length = 0 from by omega]
      rfl
    · rw [if_neg h]
      by_cases h3 : i < at'
      · rw [if_pos (by omega), if_pos (by omega), if_pos h3]
      · rw [if_neg (by omega), if_neg (by omega)]
        exact (List.getElem?_eq_none (by simp only [List.length_cons, List.length_nil]; omega)).symm
  rw [h2, List.append_assoc, ← List.drop_take]
  rfl
theorem take_splice {α : Type} (cur : List α) (n off : Nat) (cs : List α) (hn : n ≤ cur.length) (hf : off + cs.length ≤ n) : (splice cur off cs).take n = splice (cur.take n) off cs := by
  obtain ⟨X, Y, rfl, hX⟩ : ∃ X Y, cur = X ++ Y ∧ X.length = n := ⟨cur.take n, cur.drop n, (List.take_append_drop n cur).symm, by rw [List.length_take]; omega⟩
  unfold splice
  rw [List.take_append_of_le_length (by omega : off ≤ X.length), List.drop_append_of_le_length (by omega : off + cs.length ≤ X.length), List.take_left' hX, ← List.append_assoc, ← List.append_assoc]
  rw [List.take_left' (by simp; omega), List.append_assoc]
theorem own_block {w : World} {B g n c : Nat} {E : TypeId} {V : Int → Value} {xs : List Int} (h : Own w B E V (.slice (some ⟨g, 0, none⟩) n c) xs) :
    ∃ cur : List Value, w.heap[g]? = some (.cells cur.toArray E (0, 0)) ∧ xs.length ≤ cur.length ∧ cur.take xs.length = xs.map V ∧ B ≤ g ∧ xs.length ≤ c ∧
      ∀ (w' : World) (off : Nat) (cs : List Int), w'.heap[g]? = some (.cells (splice cur off (cs.map V)).toArray E (0, 0)) → off + cs.length ≤ xs.length → Own w' B E V (.slice (some ⟨g, 0, none⟩) n c) (splice xs off cs) := by
  have hl := h.sl.1
  subst hl
  obtain ⟨h1, h2⟩ := h
  rcases h2 with ⟨h2, _⟩ | ⟨g', cap, cur, e, hb, hg, hn, hm, hs, ht⟩
  · cases h2
  · injection e with e1 e2 e3
    injection e1 with e1
    injection e1 with e1
    subst e1 e3
    rw [Nat.mul_one] at hs ht
    have hlen : xs.length ≤ cur.toList.length := by show xs.length ≤ cur.size; rw [hs]; exact hn
    refine ⟨cur.toList, by simpa using hg, hlen, ht, hb, hn, fun w' off cs hw' hf => ?_⟩
    have hsp : (splice xs off cs).length = xs.length := length_splice xs off cs hf
    refine ⟨by simp, .inr ⟨g, c, _, by rw [hsp], hb, hw', by rw [hsp]; exact hn, hm, ?_, ?_⟩⟩
    · rw [List.size_toArray, length_splice _ _ _ (by rw [List.length_map]; omega), Nat.mul_one]; exact hs
    · rw [hsp, Nat.mul_one]
      rw [take_splice _ _ _ _ hlen (by rw [List.length_map]; exact hf), ht]
      unfold splice
      simp only [List.map_append, List.map_take, List.map_drop, List.length_map]
/-- From the end, what is not passed. -/
def cutF (xs : List Int) (y : Int) : Nat → Nat
  | 0 => 0
  | m + 1 => if y ≤ xs.getD m 0 then cutF xs y m else m + 1
theorem cutF_le (xs : List Int) (y : Int) (m : Nat) : cutF xs y m ≤ m := by
  induction m with
  | zero => exact Nat.le_refl _
  | succ m ih => unfold cutF; split <;> omega
def putL (xs : List Int) (y : Int) : List Int := if xs[cutF xs y xs.length]? = some y then xs else xs.take (cutF xs y xs.length) ++ y :: xs.drop (cutF xs y xs.length)
theorem putL_len (xs : List Int) (y : Int) : (putL xs y).length ≤ xs.length + 1 := by
  unfold putL
  have := cutF_le xs y xs.length
  split
  · omega
  · simp; omega
abbrev V64 : Int → Value := Value.int .i64
set_option maxHeartbeats 1000000 in
set_option maxRecDepth 100000 in
theorem put_any (B : Nat) (v : Value) (xs : List Int) (y : Int) (w : World) (hown : Own w B 3 V64 v xs) (hB : B ≤ w.heap.size) (hn : xs.length ≤ 1000000) (hy : WfI y) :
    Calls Tryz.prog 74 #[v, .int .i64 y] w fun r w' => ∃ v', r = .returned v' ∧ Own w' B 3 V64 v' (putL xs y) ∧ Below B w w' := by
  obtain ⟨A, c, rfl⟩ := hown.slice
  have HP : Hid (putL xs y = if xs[cutF xs y xs.length]? = some y then xs else xs.take (cutF xs y xs.length) ++ y :: xs.drop (cutF xs y xs.length)) := Lib.hid rfl
  have HOWN := Lib.hid hown
  generalize putL xs y = R at *
  clear hown
  obtain ⟨n, hrl⟩ : ∃ n, xs.length = n := ⟨_, rfl⟩
  rw [hrl] at HOWN hn HP ⊢
  go_enter Tryz.func74, Tryz.ntmps74
  go_wp2
  go_loopw [5] (fun i wr => ∃ p : Nat, p ≤ n ∧ i = .int .i64 p ∧ Hid (cutF xs y n = cutF xs y p) ∧ wr = w) (fun i _ => (intOf i).toNat)
  case atStart => exact ⟨n, Nat.le_refl _, rfl, Lib.hid rfl, rfl⟩
  case round =>
    obtain ⟨p, hp, rfl, hc, rfl⟩ := hrel
    by_cases hp0 : p = 0
    · have d0 : decide (0 < p) = false := decide_eq_false (by omega)
      have HC : Hid (cutF xs y n = p) := Lib.hid (by rw [hc.out, hp0]; rfl)
      clear hp0 hc
      by_cases hpl : p < n
      · obtain ⟨g0, c0, e⟩ := HOWN.out.slice_pos (by omega)
        injection e with e1 e2 e3
        first | subst e1 | (injection e1 with e1; injection e1 with e1; subst e1)
        subst e3
        clear e2
        have hcp := HOWN.out.cell p (by omega)
        by_cases hxy : xs[p] = y
        · have HR : Hid (R = xs) := Lib.hid (by rw [HP.out, HC.out, if_pos (by rw [List.getElem?_eq_getElem (by omega), hxy])])
          rw [hxy] at hcp
          clear hxy
          go_wp2
          go_ret
          exact ⟨_, rfl, by rw [HR.out]; exact HOWN.out, Below.refl _ _⟩
        · have HR : Hid (R = xs.take p ++ y :: xs.drop p) := Lib.hid (by rw [HP.out, HC.out, if_neg (by rw [List.getElem?_eq_getElem (by omega)]; exact fun e => hxy (Option.some.inj e))])
          have hne : (xs[p] == y) = false := beq_eq_false_iff_ne.2 hxy
          generalize xs[p] = x0 at *
          clear hxy
          have hc1 : (wr.alloc (.cells #[.int .i64 0] 3)).cell? ⟨wr.heap.size, 0, none⟩ = some (.int .i64 0) := by
            rw [cell_of_row _ _ _ _ _ _ (heap_alloc_new wr _)]; rfl
          go_wp2_with (at_builtin; go_loud (refine wpList_app1 rfl _ _ 47 rfl B 3 (.int .i64 0) 8 V64 Tryz.underlying47 intInfo3 rfl _ xs 0 rfl _ wr.heap.size rfl (HOWN.out.alloc _) hc1 rfl (by omega) (by omega) (by simp; omega) ?_); intro v1 w2 hown2 hbel2 hg2)
          have hl2 : (xs ++ [0]).length = n + 1 := by simp [hrl]
          obtain ⟨g2, c2, rfl⟩ := hown2.slice_pos (by omega)
          rw [hl2] at hown2 ⊢
          obtain ⟨cur, b1, b2, b3, b4, b6, b5⟩ := own_block hown2
          rw [hl2] at b2 b3 b5 b6
          obtain ⟨cs, hcs⟩ : ∃ cs, cs = ((xs ++ [0]).drop p).take (n - p) := ⟨_, rfl⟩
          have hcl : cs.length = n - p := by rw [hcs, List.length_take, List.length_drop, hl2]; omega
          have hcc : ∀ (j : Nat) (v : Value), (cs.map (Value.int .i64))[j]? = some v → w2.cell? ((⟨g2, p, none⟩ : Addr).add j) = some v := by
            intro j v hv
            have hj : j < n - p := by
              have := (List.getElem?_eq_some_iff.1 hv).1
              rw [List.length_map, hcl] at this
              exact this
            have hpj : p + j < (xs ++ [0]).length := by omega
            rw [Kind.addr_add, hown2.cell (p + j) hpj]
            rw [List.getElem?_map, hcs, List.getElem?_take, if_pos hj, List.getElem?_drop, List.getElem?_eq_getElem hpj] at hv
            exact hv
          have HCC := Lib.hid hcc
          have B1 := Lib.hid b1
          have B5 := Lib.hid b5
          have HCS := Lib.hid hcs
          have hcm : (cs.map (Value.int .i64)).length = n - p := by rw [List.length_map]; exact hcl
          have hone : ∀ v ∈ cs.map (Value.int .i64), v.oneCell' = true := by
            intro v hv
            obtain ⟨z, _, rfl⟩ := List.mem_map.1 hv
            rfl
          have HM := Lib.hid hcm
          have HO := Lib.hid hone
          obtain ⟨vs, hvs⟩ : ∃ vs, cs.map (Value.int .i64) = vs := ⟨_, rfl⟩
          rw [hvs] at HCC HM HO
          have HV := Lib.hid hvs
          clear hvs hcc b1 b3 b5 hcs hcm hone hl2
          have hW1 : IntKind.i64.wrap ((p : Int) + 1) = (p : Int) + 1 := by rw [IntKind.wrap_i64]; omega
          have hW2 : (p : Int) + 1 ≤ (n : Int) + 1 := by omega
          have hW3 : (0 : Int) ≤ (p : Int) + 1 := by omega
          have hW4 : (p : Int) ≤ (n : Int) + 1 := by omega
          have hW5 : (0 : Int) ≤ (p : Int) := by omega
          have hT : ((p : Int) + 1).toNat = p + 1 := by omega
          have HT := Lib.hid hT
          clear hT
          go_region_law (go_loud (refine step_copy_splice rfl (.tmp 40) (.tmp 43) 47 47 rfl 3 Tryz.underlying47 intSize (if c2 = ((p : Int) + 1).toNat then some ⟨g2, 0, none⟩ else some ⟨g2, ((p : Int) + 1).toNat, none⟩) (if c2 = p then some ⟨g2, 0, none⟩ else some ⟨g2, p, none⟩) (n + 1 - ((p : Int) + 1).toNat) (c2 - ((p : Int) + 1).toNat) (n + 1 - p) (c2 - p) (by simp [Act.eval, Act.put]) (by simp [Act.eval, Act.put]) g2 (p + 1) cur 3 B1.out vs (by rw [HM.out, HT.out]; show _ = min _ _; omega) (fun h0 => by rw [HM.out] at h0; exact ⟨by rw [HT.out, if_neg (by omega)], _, if_neg (by omega), HCC.out⟩) (by rw [HM.out]; omega) HO.out B _ (Below.refl _ _) b4 ?_); intro w4 hg4 hb4)
          have hown4 := B5.out w4 (p + 1) cs (by rw [HV.out]; exact hg4.out) (by omega)
          have hfin : (splice (xs ++ [0]) (p + 1) cs).set p y = xs.take p ++ y :: xs.drop p := by
            rw [HCS.out, ins_splice (xs ++ [0]) p n y (by simp [hrl]) (by omega), List.take_append_of_le_length (by omega), List.take_append_of_le_length (by omega), List.take_of_length_le (by omega : xs.length ≤ n)]
          have HF := Lib.hid hfin
          have hsl : (splice (xs ++ [0]) (p + 1) cs).length = n + 1 := by rw [length_splice _ _ _ (by simp; omega)]; simp [hrl]
          obtain ⟨u4, hc4⟩ : ∃ u, w4.cell? ⟨g2, p, none⟩ = some u := ⟨_, hown4.cell p (by omega)⟩
          have hf4 := hown4.frozen p
          have hst := hown4.stored p y
          rw [HF.out] at hst
          have hb5 := hown4.base
          have HB5 := Lib.hid (Below.setCell (((Below.refl B wr).alloc hB (.cells #[.int .i64 0] 3)).trans (hbel2.trans ((Below.refl _ _).drew.trans hb4))) b4 (p := ⟨g2, p, none⟩) (V64 y))
          have HST := Lib.hid hst
          clear hfin hsl hg4 B1 B5 HCC HM HO HV HCS hown2 hown4 hst
          go_wp2
          all_goals
            go_ret
            refine ⟨.slice (some ⟨g2, 0, none⟩) (n + 1) c2, ?_, by rw [HR.out]; exact HST.out, HB5.out⟩
            first | rfl | (clear HP HR HC HST HF HB5 HOWN HT; go_loud (simp [*]))
      · have HR : Hid (R = xs.take p ++ y :: xs.drop p) := Lib.hid (by rw [HP.out, HC.out, if_neg (by rw [List.getElem?_eq_none (by omega)]; simp)])
        have hc1 : (wr.alloc (.cells #[.int .i64 0] 3)).cell? ⟨wr.heap.size, 0, none⟩ = some (.int .i64 0) := by
          rw [cell_of_row _ _ _ _ _ _ (heap_alloc_new wr _)]; rfl
        go_wp2_with (at_builtin; go_loud (refine wpList_app1 rfl _ _ 47 rfl B 3 (.int .i64 0) 8 V64 Tryz.underlying47 intInfo3 rfl _ xs 0 rfl _ wr.heap.size rfl (HOWN.out.alloc _) hc1 rfl (by omega) (by omega) (by simp; omega) ?_); intro v1 w2 hown2 hbel2 hg2)
        have hl2 : (xs ++ [0]).length = n + 1 := by simp [hrl]
        obtain ⟨g2, c2, rfl⟩ := hown2.slice_pos (by omega)
        rw [hl2] at hown2 ⊢
        obtain ⟨cur, b1, b2, b3, b4, b6, b5⟩ := own_block hown2
        rw [hl2] at b2 b3 b5 b6
        obtain ⟨cs, hcs⟩ : ∃ cs, cs = ((xs ++ [0]).drop p).take (n - p) := ⟨_, rfl⟩
        have hcl : cs.length = n - p := by rw [hcs, List.length_take, List.length_drop, hl2]; omega
        have hcc : ∀ (j : Nat) (v : Value), (cs.map (Value.int .i64))[j]? = some v → w2.cell? ((⟨g2, p, none⟩ : Addr).add j) = some v := by
          intro j v hv
          have hj : j < n - p := by
            have := (List.getElem?_eq_some_iff.1 hv).1
            rw [List.length_map, hcl] at this
            exact this
          have hpj : p + j < (xs ++ [0]).length := by omega
          rw [Kind.addr_add, hown2.cell (p + j) hpj]
          rw [List.getElem?_map, hcs, List.getElem?_take, if_pos hj, List.getElem?_drop, List.getElem?_eq_getElem hpj] at hv
          exact hv
        have HCC := Lib.hid hcc
        have B1 := Lib.hid b1
        have B5 := Lib.hid b5
        have HCS := Lib.hid hcs
        have hcm : (cs.map (Value.int .i64)).length = n - p := by rw [List.length_map]; exact hcl
        have hone : ∀ v ∈ cs.map (Value.int .i64), v.oneCell' = true := by
          intro v hv
          obtain ⟨z, _, rfl⟩ := List.mem_map.1 hv
          rfl
        have HM := Lib.hid hcm
        have HO := Lib.hid hone
        obtain ⟨vs, hvs⟩ : ∃ vs, cs.map (Value.int .i64) = vs := ⟨_, rfl⟩
        rw [hvs] at HCC HM HO
        have HV := Lib.hid hvs
        clear hvs hcc b1 b3 b5 hcs hcm hone hl2
        have hW1 : IntKind.i64.wrap ((p : Int) + 1) = (p : Int) + 1 := by rw [IntKind.wrap_i64]; omega
        have hW2 : (p : Int) + 1 ≤ (n : Int) + 1 := by omega
        have hW3 : (0 : Int) ≤ (p : Int) + 1 := by omega
        have hW4 : (p : Int) ≤ (n : Int) + 1 := by omega
        have hW5 : (0 : Int) ≤ (p : Int) := by omega
        have hT : ((p : Int) + 1).toNat = p + 1 := by omega
        have HT := Lib.hid hT
        clear hT
        go_region_law (go_loud (refine step_copy_splice rfl (.tmp 40) (.tmp 43) 47 47 rfl 3 Tryz.underlying47 intSize (if c2 = ((p : Int) + 1).toNat then some ⟨g2, 0, none⟩ else some ⟨g2, ((p : Int) + 1).toNat, none⟩) (if c2 = p then some ⟨g2, 0, none⟩ else some ⟨g2, p, none⟩) (n + 1 - ((p : Int) + 1).toNat) (c2 - ((p : Int) + 1).toNat) (n + 1 - p) (c2 - p) (by simp [Act.eval, Act.put]) (by simp [Act.eval, Act.put]) g2 (p + 1) cur 3 B1.out vs (by rw [HM.out, HT.out]; show _ = min _ _; omega) (fun h0 => by rw [HM.out] at h0; exact ⟨by rw [HT.out, if_neg (by omega)], _, if_neg (by omega), HCC.out⟩) (by rw [HM.out]; omega) HO.out B _ (Below.refl _ _) b4 ?_); intro w4 hg4 hb4)
        have hown4 := B5.out w4 (p + 1) cs (by rw [HV.out]; exact hg4.out) (by omega)
        have hfin : (splice (xs ++ [0]) (p + 1) cs).set p y = xs.take p ++ y :: xs.drop p := by
          rw [HCS.out, ins_splice (xs ++ [0]) p n y (by simp [hrl]) (by omega), List.take_append_of_le_length (by omega), List.take_append_of_le_length (by omega), List.take_of_length_le (by omega : xs.length ≤ n)]
        have HF := Lib.hid hfin
        have hsl : (splice (xs ++ [0]) (p + 1) cs).length = n + 1 := by rw [length_splice _ _ _ (by simp; omega)]; simp [hrl]
        obtain ⟨u4, hc4⟩ : ∃ u, w4.cell? ⟨g2, p, none⟩ = some u := ⟨_, hown4.cell p (by omega)⟩
        have hf4 := hown4.frozen p
        have hst := hown4.stored p y
        rw [HF.out] at hst
        have hb5 := hown4.base
        have HB5 := Lib.hid (Below.setCell (((Below.refl B wr).alloc hB (.cells #[.int .i64 0] 3)).trans (hbel2.trans ((Below.refl _ _).drew.trans hb4))) b4 (p := ⟨g2, p, none⟩) (V64 y))
        have HST := Lib.hid hst
        clear hfin hsl hg4 B1 B5 HCC HM HO HV HCS hown2 hown4 hst
        go_wp2
        all_goals
          go_ret
          refine ⟨.slice (some ⟨g2, 0, none⟩) (n + 1) c2, ?_, by rw [HR.out]; exact HST.out, HB5.out⟩
          first | rfl | (clear HP HR HC HST HF HB5 HOWN HT; go_loud (simp [*]))
    · obtain ⟨g, c', e⟩ := HOWN.out.slice_pos (by omega)
      injection e with e1 e2 e3
      subst e1 e3
      clear e2
      have hm : p - 1 < n := by omega
      have hcell := HOWN.out.cell (p - 1) (by omega)
      have hpn : ((p : Int) - 1).toNat = p - 1 := by omega
      have i1 : (0 : Int) ≤ (p : Int) - 1 := by omega
      have i2 : (p : Int) - 1 < (n : Int) := by omega
      have i3 : 0 < p := by omega
      by_cases hge : y ≤ xs[p - 1]'(by omega)
      · have hc2 : cutF xs y p = cutF xs y (p - 1) := by
          obtain ⟨m, rfl⟩ : ∃ m, p = m + 1 := ⟨p - 1, by omega⟩
          rw [cutF, if_pos (by rw [List.getD_eq_getElem?_getD, List.getElem?_eq_getElem (by omega)]; exact hge)]
          rfl
        have HC := Lib.hid (hc.out.trans hc2)
        generalize xs[p - 1]'(by omega) = x at *
        clear hc hc2
        go_wp2
        go_roundw
        case rel => exact ⟨p - 1, by omega, by go_num, HC, trivial⟩
        case measure => simp [intOf]; omega
      · have HC : Hid (cutF xs y n = p) := Lib.hid (by
          rw [hc.out]
          obtain ⟨m, rfl⟩ : ∃ m, p = m + 1 := ⟨p - 1, by omega⟩
          rw [cutF, if_neg (by rw [List.getD_eq_getElem?_getD, List.getElem?_eq_getElem (by omega)]; exact hge)])
        generalize xs[p - 1]'(by omega) = x at *
        clear hc
        by_cases hpl : p < n
        · obtain ⟨g0, c0, e⟩ := HOWN.out.slice_pos (by omega)
          injection e with e1 e2 e3
          first | subst e1 | (injection e1 with e1; injection e1 with e1; subst e1)
          subst e3
          clear e2
          have hcp := HOWN.out.cell p (by omega)
          by_cases hxy : xs[p] = y
          · have HR : Hid (R = xs) := Lib.hid (by rw [HP.out, HC.out, if_pos (by rw [List.getElem?_eq_getElem (by omega), hxy])])
            rw [hxy] at hcp
            clear hxy
            go_wp2
            go_ret
            exact ⟨_, rfl, by rw [HR.out]; exact HOWN.out, Below.refl _ _⟩
          · have HR : Hid (R = xs.take p ++ y :: xs.drop p) := Lib.hid (by rw [HP.out, HC.out, if_neg (by rw [List.getElem?_eq_getElem (by omega)]; exact fun e => hxy (Option.some.inj e))])
            have hne : (xs[p] == y) = false := beq_eq_false_iff_ne.2 hxy
            generalize xs[p] = x0 at *
            clear hxy
            have hc1 : (wr.alloc (.cells #[.int .i64 0] 3)).cell? ⟨wr.heap.size, 0, none⟩ = some (.int .i64 0) := by
              rw [cell_of_row _ _ _ _ _ _ (heap_alloc_new wr _)]; rfl
            go_wp2_with (at_builtin; go_loud (refine wpList_app1 rfl _ _ 47 rfl B 3 (.int .i64 0) 8 V64 Tryz.underlying47 intInfo3 rfl _ xs 0 rfl _ wr.heap.size rfl (HOWN.out.alloc _) hc1 rfl (by omega) (by omega) (by simp; omega) ?_); intro v1 w2 hown2 hbel2 hg2)
            have hl2 : (xs ++ [0]).length = n + 1 := by simp [hrl]
            obtain ⟨g2, c2, rfl⟩ := hown2.slice_pos (by omega)
            rw [hl2] at hown2 ⊢
            obtain ⟨cur, b1, b2, b3, b4, b6, b5⟩ := own_block hown2
            rw [hl2] at b2 b3 b5 b6
            obtain ⟨cs, hcs⟩ : ∃ cs, cs = ((xs ++ [0]).drop p).take (n - p) := ⟨_, rfl⟩
            have hcl : cs.length = n - p := by rw [hcs, List.length_take, List.length_drop, hl2]; omega
            have hcc : ∀ (j : Nat) (v : Value), (cs.map (Value.int .i64))[j]? = some v → w2.cell? ((⟨g2, p, none⟩ : Addr).add j) = some v := by
              intro j v hv
              have hj : j < n - p := by
                have := (List.getElem?_eq_some_iff.1 hv).1
                rw [List.length_map, hcl] at this
                exact this
              have hpj : p + j < (xs ++ [0]).length := by omega
              rw [Kind.addr_add, hown2.cell (p + j) hpj]
              rw [List.getElem?_map, hcs, List.getElem?_take, if_pos hj, List.getElem?_drop, List.getElem?_eq_getElem hpj] at hv
              exact hv
            have HCC := Lib.hid hcc
            have B1 := Lib.hid b1
            have B5 := Lib.hid b5
            have HCS := Lib.hid hcs
            have hcm : (cs.map (Value.int .i64)).length = n - p := by rw [List.length_map]; exact hcl
            have hone : ∀ v ∈ cs.map (Value.int .i64), v.oneCell' = true := by
              intro v hv
              obtain ⟨z, _, rfl⟩ := List.mem_map.1 hv
              rfl
            have HM := Lib.hid hcm
            have HO := Lib.hid hone
            obtain ⟨vs, hvs⟩ : ∃ vs, cs.map (Value.int .i64) = vs := ⟨_, rfl⟩
            rw [hvs] at HCC HM HO
            have HV := Lib.hid hvs
            clear hvs hcc b1 b3 b5 hcs hcm hone hl2
            have hW1 : IntKind.i64.wrap ((p : Int) + 1) = (p : Int) + 1 := by rw [IntKind.wrap_i64]; omega
            have hW2 : (p : Int) + 1 ≤ (n : Int) + 1 := by omega
            have hW3 : (0 : Int) ≤ (p : Int) + 1 := by omega
            have hW4 : (p : Int) ≤ (n : Int) + 1 := by omega
            have hW5 : (0 : Int) ≤ (p : Int) := by omega
            have hT : ((p : Int) + 1).toNat = p + 1 := by omega
            have HT := Lib.hid hT
            clear hT
            go_region_law (go_loud (refine step_copy_splice rfl (.tmp 40) (.tmp 43) 47 47 rfl 3 Tryz.underlying47 intSize (if c2 = ((p : Int) + 1).toNat then some ⟨g2, 0, none⟩ else some ⟨g2, ((p : Int) + 1).toNat, none⟩) (if c2 = p then some ⟨g2, 0, none⟩ else some ⟨g2, p, none⟩) (n + 1 - ((p : Int) + 1).toNat) (c2 - ((p : Int) + 1).toNat) (n + 1 - p) (c2 - p) (by simp [Act.eval, Act.put]) (by simp [Act.eval, Act.put]) g2 (p + 1) cur 3 B1.out vs (by rw [HM.out, HT.out]; show _ = min _ _; omega) (fun h0 => by rw [HM.out] at h0; exact ⟨by rw [HT.out, if_neg (by omega)], _, if_neg (by omega), HCC.out⟩) (by rw [HM.out]; omega) HO.out B _ (Below.refl _ _) b4 ?_); intro w4 hg4 hb4)
            have hown4 := B5.out w4 (p + 1) cs (by rw [HV.out]; exact hg4.out) (by omega)
            have hfin : (splice (xs ++ [0]) (p + 1) cs).set p y = xs.take p ++ y :: xs.drop p := by
              rw [HCS.out, ins_splice (xs ++ [0]) p n y (by simp [hrl]) (by omega), List.take_append_of_le_length (by omega), List.take_append_of_le_length (by omega), List.take_of_length_le (by omega : xs.length ≤ n)]
            have HF := Lib.hid hfin
            have hsl : (splice (xs ++ [0]) (p + 1) cs).length = n + 1 := by rw [length_splice _ _ _ (by simp; omega)]; simp [hrl]
            obtain ⟨u4, hc4⟩ : ∃ u, w4.cell? ⟨g2, p, none⟩ = some u := ⟨_, hown4.cell p (by omega)⟩
            have hf4 := hown4.frozen p
            have hst := hown4.stored p y
            rw [HF.out] at hst
            have hb5 := hown4.base
            have HB5 := Lib.hid (Below.setCell (((Below.refl B wr).alloc hB (.cells #[.int .i64 0] 3)).trans (hbel2.trans ((Below.refl _ _).drew.trans hb4))) b4 (p := ⟨g2, p, none⟩) (V64 y))
            have HST := Lib.hid hst
            clear hfin hsl hg4 B1 B5 HCC HM HO HV HCS hown2 hown4 hst
            go_wp2
            all_goals
              go_ret
              refine ⟨.slice (some ⟨g2, 0, none⟩) (n + 1) c2, ?_, by rw [HR.out]; exact HST.out, HB5.out⟩
              first | rfl | (clear HP HR HC HST HF HB5 HOWN HT; go_loud (simp [*]))
        · have HR : Hid (R = xs.take p ++ y :: xs.drop p) := Lib.hid (by rw [HP.out, HC.out, if_neg (by rw [List.getElem?_eq_none (by omega)]; simp)])
          have hc1 : (wr.alloc (.cells #[.int .i64 0] 3)).cell? ⟨wr.heap.size, 0, none⟩ = some (.int .i64 0) := by
            rw [cell_of_row _ _ _ _ _ _ (heap_alloc_new wr _)]; rfl
          go_wp2_with (at_builtin; go_loud (refine wpList_app1 rfl _ _ 47 rfl B 3 (.int .i64 0) 8 V64 Tryz.underlying47 intInfo3 rfl _ xs 0 rfl _ wr.heap.size rfl (HOWN.out.alloc _) hc1 rfl (by omega) (by omega) (by simp; omega) ?_); intro v1 w2 hown2 hbel2 hg2)
          have hl2 : (xs ++ [0]).length = n + 1 := by simp [hrl]
          obtain ⟨g2, c2, rfl⟩ := hown2.slice_pos (by omega)
          rw [hl2] at hown2 ⊢
          obtain ⟨cur, b1, b2, b3, b4, b6, b5⟩ := own_block hown2
          rw [hl2] at b2 b3 b5 b6
          obtain ⟨cs, hcs⟩ : ∃ cs, cs = ((xs ++ [0]).drop p).take (n - p) := ⟨_, rfl⟩
          have hcl : cs.length = n - p := by rw [hcs, List.length_take, List.length_drop, hl2]; omega
          have hcc : ∀ (j : Nat) (v : Value), (cs.map (Value.int .i64))[j]? = some v → w2.cell? ((⟨g2, p, none⟩ : Addr).add j) = some v := by
            intro j v hv
            have hj : j < n - p := by
              have := (List.getElem?_eq_some_iff.1 hv).1
              rw [List.length_map, hcl] at this
              exact this
            have hpj : p + j < (xs ++ [0]).length := by omega
            rw [Kind.addr_add, hown2.cell (p + j) hpj]
            rw [List.getElem?_map, hcs, List.getElem?_take, if_pos hj, List.getElem?_drop, List.getElem?_eq_getElem hpj] at hv
            exact hv
          have HCC := Lib.hid hcc
          have B1 := Lib.hid b1
          have B5 := Lib.hid b5
          have HCS := Lib.hid hcs
          have hcm : (cs.map (Value.int .i64)).length = n - p := by rw [List.length_map]; exact hcl
          have hone : ∀ v ∈ cs.map (Value.int .i64), v.oneCell' = true := by
            intro v hv
            obtain ⟨z, _, rfl⟩ := List.mem_map.1 hv
            rfl
          have HM := Lib.hid hcm
          have HO := Lib.hid hone
          obtain ⟨vs, hvs⟩ : ∃ vs, cs.map (Value.int .i64) = vs := ⟨_, rfl⟩
          rw [hvs] at HCC HM HO
          have HV := Lib.hid hvs
          clear hvs hcc b1 b3 b5 hcs hcm hone hl2
          have hW1 : IntKind.i64.wrap ((p : Int) + 1) = (p : Int) + 1 := by rw [IntKind.wrap_i64]; omega
          have hW2 : (p : Int) + 1 ≤ (n : Int) + 1 := by omega
          have hW3 : (0 : Int) ≤ (p : Int) + 1 := by omega
          have hW4 : (p : Int) ≤ (n : Int) + 1 := by omega
          have hW5 : (0 : Int) ≤ (p : Int) := by omega
          have hT : ((p : Int) + 1).toNat = p + 1 := by omega
          have HT := Lib.hid hT
          clear hT
          go_region_law (go_loud (refine step_copy_splice rfl (.tmp 40) (.tmp 43) 47 47 rfl 3 Tryz.underlying47 intSize (if c2 = ((p : Int) + 1).toNat then some ⟨g2, 0, none⟩ else some ⟨g2, ((p : Int) + 1).toNat, none⟩) (if c2 = p then some ⟨g2, 0, none⟩ else some ⟨g2, p, none⟩) (n + 1 - ((p : Int) + 1).toNat) (c2 - ((p : Int) + 1).toNat) (n + 1 - p) (c2 - p) (by simp [Act.eval, Act.put]) (by simp [Act.eval, Act.put]) g2 (p + 1) cur 3 B1.out vs (by rw [HM.out, HT.out]; show _ = min _ _; omega) (fun h0 => by rw [HM.out] at h0; exact ⟨by rw [HT.out, if_neg (by omega)], _, if_neg (by omega), HCC.out⟩) (by rw [HM.out]; omega) HO.out B _ (Below.refl _ _) b4 ?_); intro w4 hg4 hb4)
          have hown4 := B5.out w4 (p + 1) cs (by rw [HV.out]; exact hg4.out) (by omega)
          have hfin : (splice (xs ++ [0]) (p + 1) cs).set p y = xs.take p ++ y :: xs.drop p := by
            rw [HCS.out, ins_splice (xs ++ [0]) p n y (by simp [hrl]) (by omega), List.take_append_of_le_length (by omega), List.take_append_of_le_length (by omega), List.take_of_length_le (by omega : xs.length ≤ n)]
          have HF := Lib.hid hfin
          have hsl : (splice (xs ++ [0]) (p + 1) cs).length = n + 1 := by rw [length_splice _ _ _ (by simp; omega)]; simp [hrl]
          obtain ⟨u4, hc4⟩ : ∃ u, w4.cell? ⟨g2, p, none⟩ = some u := ⟨_, hown4.cell p (by omega)⟩
          have hf4 := hown4.frozen p
          have hst := hown4.stored p y
          rw [HF.out] at hst
          have hb5 := hown4.base
          have HB5 := Lib.hid (Below.setCell (((Below.refl B wr).alloc hB (.cells #[.int .i64 0] 3)).trans (hbel2.trans ((Below.refl _ _).drew.trans hb4))) b4 (p := ⟨g2, p, none⟩) (V64 y))
          have HST := Lib.hid hst
          clear hfin hsl hg4 B1 B5 HCC HM HO HV HCS hown2 hown4 hst
          go_wp2
          all_goals
            go_ret
            refine ⟨.slice (some ⟨g2, 0, none⟩) (n + 1) c2, ?_, by rw [HR.out]; exact HST.out, HB5.out⟩
            first | rfl | (clear HP HR HC HST HF HB5 HOWN HT; go_loud (simp [*]))
end Go.Proofs.YtbamhiegabeicaaGreat.Rd

/- The numbers of a list as a map; for whom a change waits: the contracts of ready.index, ready.waits. No statement is proved here. -/
namespace Go.Proofs.YtbamhiegabeicaaGreat.Rd
open Go.RowKit Go.Proofs.YtbamhiegabeicaaGreat.Mem Go.Proofs.YtbamhiegabeicaaGreat.Open Go.Proofs.YtbamhiegabeicaaGreat.Kind Go.Proofs.YtbamhiegabeicaaGreat.Blk Go.Proofs.YtbamhiegabeicaaGreat.App Go.Proofs.YtbamhiegabeicaaGreat.Pat
set_option linter.unusedVariables false
set_option linter.unusedSimpArgs false
def idxF : List Chg → Nat → (Int → Int) → Int → Int
  | [], _, f => f
  | x :: r, k, f => idxF r (k + 1) (upd f x.id ((k : Int) + 1))
set_option maxHeartbeats 1000000 in
theorem index_any (A : Option Addr) (c : Nat) (xs : List Chg) (w : World) (hx : Chs w A xs) (hn : xs.length ≤ 1000) :
    Calls Tryz.prog 86 #[.slice A xs.length c] w fun r w' => ∃ b, r = .returned (.map (some b)) ∧ Mp w' b xs.length (idxF xs 0 fun _ => 0) ∧ w.heap.size ≤ b ∧ Below w.heap.size w w' := by
  have hl := hx.2.1
  unfold M63 at hl
  have hmm := @run_makeMap Tryz.prog
  have HM0 := Lib.hid (Mp.made w)
  have HB0 := Lib.hid ((Below.refl w.heap.size w).alloc (Nat.le_refl _) (.map #[] 0))
  go_enter Tryz.func86, Tryz.ntmps86
  go_wp2
  go_loopw [9] (fun i wr => ∃ (k : Nat) (f : Int → Int), k ≤ xs.length ∧ i = .int .i64 k ∧ Hid ((idxF xs 0 fun _ => 0) = idxF (xs.drop k) k f) ∧ Mp wr w.heap.size k f ∧ Below w.heap.size w wr) (fun i _ => xs.length - (intOf i).toNat)
  case atStart => exact ⟨0, _, by omega, rfl, Lib.hid rfl, HM0.out, HB0.out⟩
  case round =>
    obtain ⟨k, f, hk, rfl, hv, hm, hbr⟩ := hrel
    by_cases hlt : k < xs.length
    · obtain ⟨g, o, rfl, hg⟩ := ch_form hx (by omega)
      obtain ⟨A1, c1, A2, c2, hat0⟩ := ch_at hx k hlt
      have hat := hat0.below hbr
      have e0 := hat.v0
      have e1 := hat.v1
      have e2 := hat.v2
      have e3 : wr.cell? ⟨g, o + k * 5 + 3, none⟩ = _ := hat.v3
      have e4 := hat.v4
      have hok := hat.ok.1
      have hv := hv.out
      rw [drop_at hlt] at hv
      clear hat0 hat
      generalize xs[k] = x at *
      have HV : Hid ((idxF xs 0 fun _ => 0) = idxF (xs.drop (k + 1)) (k + 1) (upd f x.id ((k : Int) + 1))) := Lib.hid hv
      obtain ⟨⟨b1, b2, b3⟩⟩ : Nonempty (_ ∧ _ ∧ _) := ⟨boxed wr 90 chZ (chC x A1 c1 A2 c2)⟩
      have R0 : Row (wr.alloc (.cells chZ 90)) wr.heap.size 90 chZ := Row.new _ _ _
      have k0 := b1.cell 0 rfl
      have hm2 := hm.below b2
      have hs := hbr.size
      have HB := Lib.hid (hbr.trans (b2.mono hbr.size))
      have hs2 := b2.size
      have hW : WfI ((k : Int) + 1) := (wf_iff _).2 (by omega)
      clear hv hm hbr b1 b2 b3
      go_wp2_with (first
        | (with_reducible refine wpList_allocA rfl 90 rfl _ chZero ?_)
        | (with_reducible refine wpList_storeRow rfl 90 _ _ rfl wr.heap.size rfl (chC x A1 c1 A2 c2) rfl chZ 90 5 chSize rfl rfl (chC_one _ _ _ _ _) R0 ?_)
        | (at_mapUpdate; go_loud (refine wpList_mapPut rfl _ _ _ rfl rfl hm2 (by omega) x.id ((k : Int) + 1) rfl rfl hok hW ?_); intro w3 hm3 hg3))
      go_roundw
      case rel => exact ⟨k + 1, _, by omega, by go_num, HV, hm3, HB.out.grown hg3 (by omega) (fun q hq => by injection hq with hq; omega)⟩
      case measure => simp [intOf]; omega
    · obtain rfl : k = xs.length := by omega
      have hv := hv.out
      rw [drop_end] at hv
      have HV : Hid ((idxF xs 0 fun _ => 0) = f) := Lib.hid hv
      have HM := Lib.hid hm
      clear hv hm
      go_wp2
      go_ret
      exact ⟨_, rfl, by rw [HV.out]; exact HM.out, Nat.le_refl _, hbr⟩
end Go.Proofs.YtbamhiegabeicaaGreat.Rd

/- For whom a change waits: the contract of ready.waits. No statement is proved here. -/
namespace Go.Proofs.YtbamhiegabeicaaGreat.Rd
open Go.RowKit Go.Proofs.YtbamhiegabeicaaGreat.Mem Go.Proofs.YtbamhiegabeicaaGreat.Open Go.Proofs.YtbamhiegabeicaaGreat.Kind Go.Proofs.YtbamhiegabeicaaGreat.Blk Go.Proofs.YtbamhiegabeicaaGreat.App Go.Proofs.YtbamhiegabeicaaGreat.Pat
set_option linter.unusedVariables false
set_option linter.unusedSimpArgs false
/-- Those of some numbers that a map has, put in. -/
def wN (f : Int → Int) : List Int → List Int → List Int
  | [], out => out
  | n :: r, out => wN f r (if f n = 0 then out else putL out n)
/-- Does a change meet one of its block? -/
def metC (x t : Chg) : Bool := decide (x.blk = t.blk) && meetB x.pa x.pd.length t.pa t.pd.length
def wM (t : Chg) : List Chg → List Int → List Int
  | [], out => out
  | x :: r, out => wM t r (if metC x t then putL out x.id else out)
def wP (xs : List Chg) (k : Nat) (t : Chg) (f : Int → Int) : List Int := wM t (xs.take k) (wN f t.needs [])
theorem chs_take {w : World} {A : Option Addr} {xs : List Chg} (h : Chs w A xs) (m : Nat) (hm : m ≤ xs.length) : Chs w A (xs.take m) := by
  have e : (xs.take m).length = m := by rw [List.length_take]; omega
  show Rw kChg w (All w) A (xs.take m).length (xs.take m)
  rw [e]
  exact h.take m hm
set_option maxHeartbeats 4000000 in
set_option maxRecDepth 100000 in
theorem waits_core (A : Option Addr) (c : Nat) (xs : List Chg) (k : Nat) (hk : k < xs.length) (b m : Nat) (f : Int → Int) (w : World) (hx : Chs w A xs) (hcap : xs.length ≤ c) (hcm : c ≤ M63) (hmp : Mp w b m f) (hn : xs.length ≤ 1000) (hs : Small xs) :
    Calls Tryz.prog 88 #[.slice A xs.length c, .int .i64 k, .map (some b)] w fun r w' => ∃ v, r = .returned v ∧ Own w' w.heap.size 3 V64 v (wP xs k xs[k] f) ∧ (wP xs k xs[k] f).length ≤ 2000 ∧ Below w.heap.size w w' := by
  have hl := hx.2.1
  unfold M63 at hl hcm
  obtain ⟨g, o, rfl, hg⟩ := ch_form hx (by omega)
  obtain ⟨T1, d1, T2, d2, hat⟩ := ch_at hx k hk
  have hsm := (hs _ (List.getElem_mem hk)).2
  have hxt := chs_take hx k (by omega)
  have hlt : (xs.take k).length = k := by rw [List.length_take]; omega
  have HP : Hid (wP xs k xs[k] f = wM xs[k] (xs.take k) (wN f xs[k].needs [])) := Lib.hid rfl
  have hisn := hat.n.2.2.2
  have hwfn := is_wf hisn
  have h4 := hat.v4
  have hpl : xs[k].pd.length ≤ M63 := hat.p.2.2.2.2.1
  have HAT := Lib.hid hat
  clear hat
  generalize xs.take k = ys at *
  generalize xs[k] = t at *
  generalize wP xs k t f = R at *
  go_enter Tryz.func88, Tryz.ntmps88
  go_wp2
  go_loopw [7, 18] (fun v i wr => ∃ (j : Nat) (out : List Int), j ≤ t.needs.length ∧ i = .int .i64 j ∧ out.length ≤ j ∧ Hid (wN f t.needs [] = wN f (t.needs.drop j) out) ∧ Own wr w.heap.size 3 V64 v out ∧ Below w.heap.size w wr) (fun _ i _ => t.needs.length - (intOf i).toNat)
  case atStart => exact ⟨0, [], by omega, rfl, by simp, Lib.hid rfl, Own.nil _ _ _ _, Below.refl _ _⟩
  case round =>
    obtain ⟨j, out, hj, rfl, hol, hv, hown, hbr⟩ := hrel
    by_cases hjl : j < t.needs.length
    · obtain ⟨g2, o2, rfl, hg2, hc0⟩ := is_at hisn j hjl
      have hc := (hbr.cell (p := ⟨g2, o2 + j, none⟩) hg2).trans hc0
      have hv := hv.out
      rw [drop_at hjl] at hv
      have hwx := hwfn _ (List.getElem_mem hjl)
      have hm := hmp.below hbr
      have hbs := hbr.size
      clear hc0
      generalize t.needs[j] = x at *
      by_cases hf : f x = 0
      · have HV : Hid (wN f t.needs [] = wN f (t.needs.drop (j + 1)) out) := Lib.hid (by rw [hv, wN, if_pos hf])
        have hne : (f x != 0) = false := by rw [hf]; rfl
        have HO := Lib.hid hown
        clear hv hf hown
        go_wp2_with (at_lookup; go_loud (refine wpList_mapGet rfl _ _ rfl rfl hm x rfl hwx ?_))
        go_roundw
        case rel => exact ⟨j + 1, out, by omega, by go_num, by omega, HV, HO.out, hbr⟩
        case measure => simp [intOf]; omega
      · have HV : Hid (wN f t.needs [] = wN f (t.needs.drop (j + 1)) (putL out x)) := Lib.hid (by rw [hv, wN, if_neg hf])
        have hne : (f x != 0) = true := bne_iff_ne.2 hf
        have CP := Lib.hid (put_any w.heap.size _ out x wr hown hbr.size (by omega) hwx)
        have hpl2 := putL_len out x
        generalize putL out x = out2 at *
        clear hv hf hown
        go_wp2_with (at_lookup; go_loud (refine wpList_mapGet rfl _ _ rfl rfl hm x rfl hwx ?_))
        refine CP.out.mono ?_
        rintro e wb ⟨v2, rfl, hown2, hbl⟩
        have HO := Lib.hid hown2
        have hb2 := hbr.trans hbl
        clear hown2 hbl CP
        go_wp2_with fail
        go_roundw
        case rel => exact ⟨j + 1, out2, by omega, by go_num, by omega, HV, HO.out, hb2⟩
        case measure => simp [intOf]; omega
    · obtain rfl : j = t.needs.length := by omega
      have hv := hv.out
      rw [drop_end] at hv
      have HV : Hid (wN f t.needs [] = out) := Lib.hid hv
      have HO := Lib.hid hown
      clear hv hown hisn hwfn h4
      have hkc : k ≤ c := by omega
      go_wp2_with fail
      have hol2 : out.length ≤ 60 := by omega
      generalize u7 = v7 at *
      clear hjl hj hol
      go_loopw [7, 34] (fun v i wr => ∃ (j : Nat) (out2 : List Int), j ≤ k ∧ i = .int .i64 j ∧ out2.length ≤ 60 + j ∧ Hid (wM t ys out = wM t (ys.drop j) out2) ∧ Own wr w.heap.size 3 V64 v out2 ∧ Below w.heap.size w wr) (fun _ i _ => k - (intOf i).toNat)
      case atStart => exact ⟨0, out, by omega, rfl, by omega, Lib.hid rfl, HO.out, hbr⟩
      case round =>
        clear hbr HO
        obtain ⟨j, out2, hj, rfl, hol, hv, hown, hbr⟩ := hrel
        by_cases hjk : j < k
        · obtain ⟨A1, c1, A2, c2, hat0⟩ := ch_at hxt j (by omega)
          have hat := hat0.below hbr
          have e0 := hat.v0
          have e1 := hat.v1
          have e2 := hat.v2
          have e3 : wr.cell? ⟨g, o + j * 5 + 3, none⟩ = _ := hat.v3
          have e4 := hat.v4
          have hp1 : ys[j].pd.length ≤ M63 := hat.p.2.2.2.2.1
          have hid := hat.ok.1
          have hv := hv.out
          rw [drop_at (by omega : j < ys.length)] at hv
          clear hat0 hat
          generalize ys[j]'(by omega) = x at *
          obtain ⟨⟨b1, b2, b3⟩⟩ : Nonempty (_ ∧ _ ∧ _) := ⟨boxed wr 90 chZ (chC x A1 c1 A2 c2)⟩
          have R0 : Row (wr.alloc (.cells chZ 90)) wr.heap.size 90 chZ := Row.new _ _ _
          have KB := Lib.hid b1
          have S := Lib.hid ((HAT.out.below hbr).below b2)
          have HOB := Lib.hid (hown.below b2)
          have HBB := Lib.hid (hbr.trans (b2.mono hbr.size))
          have hgB : g < ((wr.alloc (.cells chZ 90)).setRow wr.heap.size (chC x A1 c1 A2 c2)).heap.size := by have := hbr.size; have := b2.size; omega
          have hsz := hbr.size
          have hltB : wr.heap.size < ((wr.alloc (.cells chZ 90)).setRow wr.heap.size (chC x A1 c1 A2 c2)).heap.size := b3
          clear b1 b2 b3 hown hbr
          by_cases hblk : x.blk = t.blk
          · have hq : (x.blk == t.blk) = true := by rw [hblk]; exact beq_self_eq_true _
            have CM := Lib.hid (fun w' => meet_any x.pa A1 x.pd.length c1 t.pa T1 t.pd.length d1 w' hp1 hpl)
            cases hmt : meetB x.pa x.pd.length t.pa t.pd.length with
            | true =>
              have HV : Hid (wM t ys out = wM t (ys.drop (j + 1)) (putL out2 x.id)) := Lib.hid (by rw [hv, wM, if_pos (by unfold metC; rw [decide_eq_true hblk, hmt]; rfl)])
              rw [hmt] at CM
              have CP0 := Lib.hid (fun (u : Value) (w9 : World) (h1 : Own w9 w.heap.size 3 V64 u out2) (h2 : w.heap.size ≤ w9.heap.size) => put_any w.heap.size u out2 x.id w9 h1 h2 (by omega) hid)
              have hpl2 := putL_len out2 x.id
              obtain ⟨out3, ho3⟩ : ∃ o, putL out2 x.id = o := ⟨_, rfl⟩
              rw [ho3] at HV CP0 hpl2
              clear hv hblk hmt ho3
              go_wp2_with (first
                | (with_reducible refine wpList_allocA rfl 90 rfl _ chZero ?_)
                | (with_reducible refine wpList_storeRow rfl 90 _ _ rfl wr.heap.size rfl (chC x A1 c1 A2 c2) rfl chZ 90 5 chSize rfl rfl (chC_one _ _ _ _ _) R0 ?_))
              generalize (wr.alloc (.cells chZ 90)).setRow wr.heap.size (chC x A1 c1 A2 c2) = wB at *
              have hkb : Row wB.drew wr.heap.size 90 (chC x A1 c1 A2 c2) := KB.out
              have s1 : wB.drew.cell? ⟨g, o + k * 5 + 1, none⟩ = some (.int .i64 t.blk) := S.out.v1
              have s2 : wB.drew.cell? ⟨g, o + k * 5 + 2, none⟩ = some (.int .i64 t.pa) := S.out.v2
              have s3 : wB.drew.cell? ⟨g, o + k * 5 + 2 + 1, none⟩ = some (.slice T1 t.pd.length d1) := S.out.v3
              have hgl : g < wB.drew.heap.size := hgB
              have hkt := hkb
              refine wp_region_held_drew (S := Go.RowKit.Below ((wB.drew).heap.size) (wB.drew)) (by kernel_rfl) ?hb18 (fun hHeld => ?rest18)
              case hb18 =>
                exact Go.RowKit.Below.refl _ _
              case' rest18 => skip
              have hCl := fun (wS : World) (hSw : Go.RowKit.Below ((wB.drew).heap.size) (wB.drew) wS) => And.intro ((Mem.bl_row hSw hkb (by first | exact Mem.Row.lt hkb | omega | (simp <;> omega))).cell 0 rfl) <| And.intro ((Mem.bl_row hSw hkb (by first | exact Mem.Row.lt hkb | omega | (simp <;> omega))).cell 1 rfl) <| And.intro ((Mem.bl_row hSw hkb (by first | exact Mem.Row.lt hkb | omega | (simp <;> omega))).cell 2 rfl) <| And.intro ((Mem.bl_row hSw hkb (by first | exact Mem.Row.lt hkb | omega | (simp <;> omega))).cell 3 rfl) <| And.intro (Mem.bl_cell hSw s1 (by first | omega | (dsimp only; omega) | exact World.block_lt_of_cell? _ _ s1 | (simp <;> omega))) <| And.intro (Mem.bl_cell hSw s2 (by first | omega | (dsimp only; omega) | exact World.block_lt_of_cell? _ _ s2 | (simp <;> omega))) <| Mem.bl_cell hSw s3 (by first | omega | (dsimp only; omega) | exact World.block_lt_of_cell? _ _ s3 | (simp <;> omega))
              replace hCl := Go.Lib.hid hCl
              refine Mem.tkV 0 ?v19 ?y19 ?r19
              case y19 => (intro w hSw; clear hSw; go_simp; try with_reducible rfl)
              refine Mem.tkV 1 ?v20 ?y20 ?r20
              case y20 => (intro w hSw; obtain ⟨hT0, hT1, hT2, hT3, hT4, hT5, hT6⟩ := hCl.out w hSw; clear hSw; go_simp; try with_reducible rfl)
              refine Mem.tkV 2 ?v21 ?y21 ?r21
              case y21 => (intro w hSw; clear hSw; go_simp; try with_reducible rfl)
              try simp only [Mem.pa, Mem.pb, Mem.pc, Act.put, Mem.pd, Mem.pe, Mem.pf]
              refine Mem.tkV 3 ?v22 ?y22 ?r22
              case y22 => (intro w hSw; clear hSw; go_simp; try with_reducible rfl)
              refine Mem.tkV 4 ?v23 ?y23 ?r23
              case y23 => (intro w hSw; clear hSw; go_simp; try with_reducible rfl)
              refine Mem.tkV 5 ?v24 ?y24 ?r24
              case y24 => (intro w hSw; clear hSw; go_simp; try with_reducible rfl)
              try simp only [Mem.pa, Mem.pb, Mem.pc, Act.put, Mem.pd, Mem.pe, Mem.pf]
              refine Mem.tkV 6 ?v25 ?y25 ?r25
              case y25 => (intro w hSw; obtain ⟨hT0, hT1, hT2, hT3, hT4, hT5, hT6⟩ := hCl.out w hSw; clear hSw; go_simp; try with_reducible rfl)
              refine Mem.tkV 7 ?v26 ?y26 ?r26
              case y26 => (intro w hSw; clear hSw; go_simp; try with_reducible rfl)
              refine Mem.tkV 8 ?v27 ?y27 ?r27
              case y27 => (intro w hSw; clear hSw; go_simp; try with_reducible rfl)
              try simp only [Mem.pa, Mem.pb, Mem.pc, Act.put, Mem.pd, Mem.pe, Mem.pf]
              first | refine Mem.tkN 9 ?r28 | (refine Mem.tkV 9 ?v28 ?y28 ?r28; case y28 => (intro w hSw; clear hSw; go_simp; try with_reducible rfl))
              try simp only [Mem.pa, Mem.pb, Mem.pc, Act.put, Mem.pd, Mem.pe, Mem.pf]
              first | refine Mem.tkN 10 ?r29 | (refine Mem.tkV 10 ?v29 ?y29 ?r29; case y29 => (intro w hSw; obtain ⟨hT0, hT1, hT2, hT3, hT4, hT5, hT6⟩ := hCl.out w hSw; clear hSw; go_simp; try with_reducible rfl))
              try simp only [Mem.pa, Mem.pb, Mem.pc, Act.put, Mem.pd, Mem.pe, Mem.pf]
              first | refine Mem.tkN 11 ?r30 | (refine Mem.tkV 11 ?v30 ?y30 ?r30; case y30 => (intro w hSw; clear hSw; go_simp; try with_reducible rfl))
              try simp only [Mem.pa, Mem.pb, Mem.pc, Act.put, Mem.pd, Mem.pe, Mem.pf]
              first | refine Mem.tkN 12 ?r31 | (refine Mem.tkV 12 ?v31 ?y31 ?r31; case y31 => (intro w hSw; clear hSw; go_simp; try with_reducible rfl))
              try simp only [Mem.pa, Mem.pb, Mem.pc, Act.put, Mem.pd, Mem.pe, Mem.pf]
              first | refine Mem.tkN 13 ?r32 | (refine Mem.tkV 13 ?v32 ?y32 ?r32; case y32 => (intro w hSw; clear hSw; go_simp; try with_reducible rfl))
              try simp only [Mem.pa, Mem.pb, Mem.pc, Act.put, Mem.pd, Mem.pe, Mem.pf]
              first | refine Mem.tkN 14 ?r33 | (refine Mem.tkV 14 ?v33 ?y33 ?r33; case y33 => (intro w hSw; clear hSw; go_simp; try with_reducible rfl))
              try simp only [Mem.pa, Mem.pb, Mem.pc, Act.put, Mem.pd, Mem.pe, Mem.pf]
              first | refine Mem.tkN 15 ?r34 | (refine Mem.tkV 15 ?v34 ?y34 ?r34; case y34 => (intro w hSw; obtain ⟨hT0, hT1, hT2, hT3, hT4, hT5, hT6⟩ := hCl.out w hSw; clear hSw; go_simp; try with_reducible rfl))
              try simp only [Mem.pa, Mem.pb, Mem.pc, Act.put, Mem.pd, Mem.pe, Mem.pf]
              refine wpAnyH_ready (rs := [16]) (by kernel_rfl) (by simp) ?_
              refine AllReadyH.cons rfl (fun K hK => ?_) AllReadyH.nil
              go_simp
              (refine (CM.out _).mono ?_; rintro e wb ⟨rfl, hbl⟩)
              try go_wp2_with fail
              have hSnew := Mem.bl_step hHeld hbl (by first | exact Nat.le_refl _ | omega | (simp <;> omega))
              refine hK.out _ _ ?_ (fun hHeld2 => ?_)
              · exact hSnew
              try replace hkt := hkt.below hbl
              clear hbl
              clear hK K hHeld hSnew
              have hHeld := hHeld2
              clear hHeld2
              try simp only [Mem.pa, Mem.pb, Mem.pc, Act.put, Mem.pd, Mem.pe, Mem.pf]
              refine Mem.tkV 17 ?v35 ?y35 ?r35
              case y35 => (intro w hSw; clear hSw; go_simp; try with_reducible rfl)
              try simp only [Mem.pa, Mem.pb, Mem.pc, Act.put, Mem.pd, Mem.pe, Mem.pf]
              refine wpAnyH_done (by kernel_rfl) ?_ _
              clear hCl
              have q0 : World.cell? _ ⟨wr.heap.size, 0, none⟩ = some (.int .i64 x.id) := hkt.cell 0 rfl
              have hb5 := (Below.refl wB.heap.size wB).drew.trans hHeld
              have CP := Lib.hid (CP0.out _ _ (HOB.out.below hb5) (Nat.le_trans HBB.out.size hb5.size))
              have HB6 := Lib.hid (HBB.out.trans (hb5.mono HBB.out.size))
              clear s1 s2 s3 hb5 hkb hkt HOB
              go_wp2_with fail
              refine CP.out.mono ?_
              rintro e wd ⟨v2, rfl, hown2, hbl2⟩
              have HO2 := Lib.hid hown2
              have HB7 := Lib.hid (HB6.out.trans hbl2)
              clear hown2 hbl2 CP HB6
              go_wp2_with fail
              go_roundw
              case rel => exact ⟨j + 1, out3, by omega, by go_num, by omega, HV, HO2.out, HB7.out⟩
              case measure => simp [intOf]; omega
            | false =>
              have HV : Hid (wM t ys out = wM t (ys.drop (j + 1)) out2) := Lib.hid (by rw [hv, wM, if_neg (by unfold metC; rw [hmt, Bool.and_false]; simp)])
              rw [hmt] at CM
              clear hv hblk hmt
              go_wp2_with (first
                | (with_reducible refine wpList_allocA rfl 90 rfl _ chZero ?_)
                | (with_reducible refine wpList_storeRow rfl 90 _ _ rfl wr.heap.size rfl (chC x A1 c1 A2 c2) rfl chZ 90 5 chSize rfl rfl (chC_one _ _ _ _ _) R0 ?_))
              generalize (wr.alloc (.cells chZ 90)).setRow wr.heap.size (chC x A1 c1 A2 c2) = wB at *
              have hkb : Row wB.drew wr.heap.size 90 (chC x A1 c1 A2 c2) := KB.out
              have s1 : wB.drew.cell? ⟨g, o + k * 5 + 1, none⟩ = some (.int .i64 t.blk) := S.out.v1
              have s2 : wB.drew.cell? ⟨g, o + k * 5 + 2, none⟩ = some (.int .i64 t.pa) := S.out.v2
              have s3 : wB.drew.cell? ⟨g, o + k * 5 + 2 + 1, none⟩ = some (.slice T1 t.pd.length d1) := S.out.v3
              have hgl : g < wB.drew.heap.size := hgB
              have hkt := hkb
              refine wp_region_held_drew (S := Go.RowKit.Below ((wB.drew).heap.size) (wB.drew)) (by kernel_rfl) ?hb46 (fun hHeld => ?rest46)
              case hb46 =>
                exact Go.RowKit.Below.refl _ _
              case' rest46 => skip
              have hCl := fun (wS : World) (hSw : Go.RowKit.Below ((wB.drew).heap.size) (wB.drew) wS) => And.intro ((Mem.bl_row hSw hkb (by first | exact Mem.Row.lt hkb | omega | (simp <;> omega))).cell 0 rfl) <| And.intro ((Mem.bl_row hSw hkb (by first | exact Mem.Row.lt hkb | omega | (simp <;> omega))).cell 1 rfl) <| And.intro ((Mem.bl_row hSw hkb (by first | exact Mem.Row.lt hkb | omega | (simp <;> omega))).cell 2 rfl) <| And.intro ((Mem.bl_row hSw hkb (by first | exact Mem.Row.lt hkb | omega | (simp <;> omega))).cell 3 rfl) <| And.intro (Mem.bl_cell hSw s1 (by first | omega | (dsimp only; omega) | exact World.block_lt_of_cell? _ _ s1 | (simp <;> omega))) <| And.intro (Mem.bl_cell hSw s2 (by first | omega | (dsimp only; omega) | exact World.block_lt_of_cell? _ _ s2 | (simp <;> omega))) <| Mem.bl_cell hSw s3 (by first | omega | (dsimp only; omega) | exact World.block_lt_of_cell? _ _ s3 | (simp <;> omega))
              replace hCl := Go.Lib.hid hCl
              refine Mem.tkV 0 ?v47 ?y47 ?r47
              case y47 => (intro w hSw; clear hSw; go_simp; try with_reducible rfl)
              refine Mem.tkV 1 ?v48 ?y48 ?r48
              case y48 => (intro w hSw; obtain ⟨hT0, hT1, hT2, hT3, hT4, hT5, hT6⟩ := hCl.out w hSw; clear hSw; go_simp; try with_reducible rfl)
              refine Mem.tkV 2 ?v49 ?y49 ?r49
              case y49 => (intro w hSw; clear hSw; go_simp; try with_reducible rfl)
              try simp only [Mem.pa, Mem.pb, Mem.pc, Act.put, Mem.pd, Mem.pe, Mem.pf]
              refine Mem.tkV 3 ?v50 ?y50 ?r50
              case y50 => (intro w hSw; clear hSw; go_simp; try with_reducible rfl)
              refine Mem.tkV 4 ?v51 ?y51 ?r51
              case y51 => (intro w hSw; clear hSw; go_simp; try with_reducible rfl)
              refine Mem.tkV 5 ?v52 ?y52 ?r52
              case y52 => (intro w hSw; clear hSw; go_simp; try with_reducible rfl)
              try simp only [Mem.pa, Mem.pb, Mem.pc, Act.put, Mem.pd, Mem.pe, Mem.pf]
              refine Mem.tkV 6 ?v53 ?y53 ?r53
              case y53 => (intro w hSw; obtain ⟨hT0, hT1, hT2, hT3, hT4, hT5, hT6⟩ := hCl.out w hSw; clear hSw; go_simp; try with_reducible rfl)
              refine Mem.tkV 7 ?v54 ?y54 ?r54
              case y54 => (intro w hSw; clear hSw; go_simp; try with_reducible rfl)
              refine Mem.tkV 8 ?v55 ?y55 ?r55
              case y55 => (intro w hSw; clear hSw; go_simp; try with_reducible rfl)
              try simp only [Mem.pa, Mem.pb, Mem.pc, Act.put, Mem.pd, Mem.pe, Mem.pf]
              first | refine Mem.tkN 9 ?r56 | (refine Mem.tkV 9 ?v56 ?y56 ?r56; case y56 => (intro w hSw; clear hSw; go_simp; try with_reducible rfl))
              try simp only [Mem.pa, Mem.pb, Mem.pc, Act.put, Mem.pd, Mem.pe, Mem.pf]
              first | refine Mem.tkN 10 ?r57 | (refine Mem.tkV 10 ?v57 ?y57 ?r57; case y57 => (intro w hSw; obtain ⟨hT0, hT1, hT2, hT3, hT4, hT5, hT6⟩ := hCl.out w hSw; clear hSw; go_simp; try with_reducible rfl))
              try simp only [Mem.pa, Mem.pb, Mem.pc, Act.put, Mem.pd, Mem.pe, Mem.pf]
              first | refine Mem.tkN 11 ?r58 | (refine Mem.tkV 11 ?v58 ?y58 ?r58; case y58 => (intro w hSw; clear hSw; go_simp; try with_reducible rfl))
              try simp only [Mem.pa, Mem.pb, Mem.pc, Act.put, Mem.pd, Mem.pe, Mem.pf]
              first | refine Mem.tkN 12 ?r59 | (refine Mem.tkV 12 ?v59 ?y59 ?r59; case y59 => (intro w hSw; clear hSw; go_simp; try with_reducible rfl))
              try simp only [Mem.pa, Mem.pb, Mem.pc, Act.put, Mem.pd, Mem.pe, Mem.pf]
              first | refine Mem.tkN 13 ?r60 | (refine Mem.tkV 13 ?v60 ?y60 ?r60; case y60 => (intro w hSw; clear hSw; go_simp; try with_reducible rfl))
              try simp only [Mem.pa, Mem.pb, Mem.pc, Act.put, Mem.pd, Mem.pe, Mem.pf]
              first | refine Mem.tkN 14 ?r61 | (refine Mem.tkV 14 ?v61 ?y61 ?r61; case y61 => (intro w hSw; clear hSw; go_simp; try with_reducible rfl))
              try simp only [Mem.pa, Mem.pb, Mem.pc, Act.put, Mem.pd, Mem.pe, Mem.pf]
              first | refine Mem.tkN 15 ?r62 | (refine Mem.tkV 15 ?v62 ?y62 ?r62; case y62 => (intro w hSw; obtain ⟨hT0, hT1, hT2, hT3, hT4, hT5, hT6⟩ := hCl.out w hSw; clear hSw; go_simp; try with_reducible rfl))
              try simp only [Mem.pa, Mem.pb, Mem.pc, Act.put, Mem.pd, Mem.pe, Mem.pf]
              refine wpAnyH_ready (rs := [16]) (by kernel_rfl) (by simp) ?_
              refine AllReadyH.cons rfl (fun K hK => ?_) AllReadyH.nil
              go_simp
              (refine (CM.out _).mono ?_; rintro e wb ⟨rfl, hbl⟩)
              try go_wp2_with fail
              have hSnew := Mem.bl_step hHeld hbl (by first | exact Nat.le_refl _ | omega | (simp <;> omega))
              refine hK.out _ _ ?_ (fun hHeld2 => ?_)
              · exact hSnew
              try replace hkt := hkt.below hbl
              clear hbl
              clear hK K hHeld hSnew
              have hHeld := hHeld2
              clear hHeld2
              try simp only [Mem.pa, Mem.pb, Mem.pc, Act.put, Mem.pd, Mem.pe, Mem.pf]
              refine Mem.tkV 17 ?v63 ?y63 ?r63
              case y63 => (intro w hSw; clear hSw; go_simp; try with_reducible rfl)
              try simp only [Mem.pa, Mem.pb, Mem.pc, Act.put, Mem.pd, Mem.pe, Mem.pf]
              refine wpAnyH_done (by kernel_rfl) ?_ _
              clear hCl
              have hb5 := (Below.refl wB.heap.size wB).drew.trans hHeld
              have HB6 := Lib.hid (HBB.out.trans (hb5.mono HBB.out.size))
              have HO2 := Lib.hid (HOB.out.below hb5)
              clear s1 s2 s3 hb5 hkb hkt
              go_wp2_with fail
              go_roundw
              case rel => exact ⟨j + 1, out2, by omega, by go_num, by omega, HV, HO2.out, HB6.out⟩
              case measure => simp [intOf]; omega
          · have hq : (x.blk == t.blk) = false := beq_eq_false_iff_ne.2 hblk
            have HV : Hid (wM t ys out = wM t (ys.drop (j + 1)) out2) := Lib.hid (by rw [hv, wM, if_neg (by unfold metC; rw [decide_eq_false hblk]; simp)])
            clear hv hblk
            go_wp2_with (first
              | (with_reducible refine wpList_allocA rfl 90 rfl _ chZero ?_)
              | (with_reducible refine wpList_storeRow rfl 90 _ _ rfl wr.heap.size rfl (chC x A1 c1 A2 c2) rfl chZ 90 5 chSize rfl rfl (chC_one _ _ _ _ _) R0 ?_))
            generalize (wr.alloc (.cells chZ 90)).setRow wr.heap.size (chC x A1 c1 A2 c2) = wB at *
            have hkb : Row wB.drew wr.heap.size 90 (chC x A1 c1 A2 c2) := KB.out
            have s1 : wB.drew.cell? ⟨g, o + k * 5 + 1, none⟩ = some (.int .i64 t.blk) := S.out.v1
            have s2 : wB.drew.cell? ⟨g, o + k * 5 + 2, none⟩ = some (.int .i64 t.pa) := S.out.v2
            have s3 : wB.drew.cell? ⟨g, o + k * 5 + 2 + 1, none⟩ = some (.slice T1 t.pd.length d1) := S.out.v3
            have hgl : g < wB.drew.heap.size := hgB
            have hkt := hkb
            refine wp_region_held_drew (S := Go.RowKit.Below ((wB.drew).heap.size) (wB.drew)) (by kernel_rfl) ?hb73 (fun hHeld => ?rest73)
            case hb73 =>
              exact Go.RowKit.Below.refl _ _
            case' rest73 => skip
            have hCl := fun (wS : World) (hSw : Go.RowKit.Below ((wB.drew).heap.size) (wB.drew) wS) => And.intro ((Mem.bl_row hSw hkb (by first | exact Mem.Row.lt hkb | omega | (simp <;> omega))).cell 0 rfl) <| And.intro ((Mem.bl_row hSw hkb (by first | exact Mem.Row.lt hkb | omega | (simp <;> omega))).cell 1 rfl) <| And.intro ((Mem.bl_row hSw hkb (by first | exact Mem.Row.lt hkb | omega | (simp <;> omega))).cell 2 rfl) <| And.intro ((Mem.bl_row hSw hkb (by first | exact Mem.Row.lt hkb | omega | (simp <;> omega))).cell 3 rfl) <| And.intro (Mem.bl_cell hSw s1 (by first | omega | (dsimp only; omega) | exact World.block_lt_of_cell? _ _ s1 | (simp <;> omega))) <| And.intro (Mem.bl_cell hSw s2 (by first | omega | (dsimp only; omega) | exact World.block_lt_of_cell? _ _ s2 | (simp <;> omega))) <| Mem.bl_cell hSw s3 (by first | omega | (dsimp only; omega) | exact World.block_lt_of_cell? _ _ s3 | (simp <;> omega))
            replace hCl := Go.Lib.hid hCl
            refine Mem.tkV 0 ?v74 ?y74 ?r74
            case y74 => (intro w hSw; clear hSw; go_simp; try with_reducible rfl)
            refine Mem.tkV 1 ?v75 ?y75 ?r75
            case y75 => (intro w hSw; obtain ⟨hT0, hT1, hT2, hT3, hT4, hT5, hT6⟩ := hCl.out w hSw; clear hSw; go_simp; try with_reducible rfl)
            refine Mem.tkV 2 ?v76 ?y76 ?r76
            case y76 => (intro w hSw; clear hSw; go_simp; try with_reducible rfl)
            try simp only [Mem.pa, Mem.pb, Mem.pc, Act.put, Mem.pd, Mem.pe, Mem.pf]
            refine Mem.tkV 3 ?v77 ?y77 ?r77
            case y77 => (intro w hSw; clear hSw; go_simp; try with_reducible rfl)
            refine Mem.tkV 4 ?v78 ?y78 ?r78
            case y78 => (intro w hSw; clear hSw; go_simp; try with_reducible rfl)
            refine Mem.tkV 5 ?v79 ?y79 ?r79
            case y79 => (intro w hSw; clear hSw; go_simp; try with_reducible rfl)
            try simp only [Mem.pa, Mem.pb, Mem.pc, Act.put, Mem.pd, Mem.pe, Mem.pf]
            refine Mem.tkV 6 ?v80 ?y80 ?r80
            case y80 => (intro w hSw; obtain ⟨hT0, hT1, hT2, hT3, hT4, hT5, hT6⟩ := hCl.out w hSw; clear hSw; go_simp; try with_reducible rfl)
            refine Mem.tkV 7 ?v81 ?y81 ?r81
            case y81 => (intro w hSw; clear hSw; go_simp; try with_reducible rfl)
            refine Mem.tkV 8 ?v82 ?y82 ?r82
            case y82 => (intro w hSw; clear hSw; go_simp; try with_reducible rfl)
            try simp only [Mem.pa, Mem.pb, Mem.pc, Act.put, Mem.pd, Mem.pe, Mem.pf]
            first | refine Mem.tkN 9 ?r83 | (refine Mem.tkV 9 ?v83 ?y83 ?r83; case y83 => (intro w hSw; clear hSw; go_simp; try with_reducible rfl))
            try simp only [Mem.pa, Mem.pb, Mem.pc, Act.put, Mem.pd, Mem.pe, Mem.pf]
            first | refine Mem.tkN 10 ?r84 | (refine Mem.tkV 10 ?v84 ?y84 ?r84; case y84 => (intro w hSw; obtain ⟨hT0, hT1, hT2, hT3, hT4, hT5, hT6⟩ := hCl.out w hSw; clear hSw; go_simp; try with_reducible rfl))
            try simp only [Mem.pa, Mem.pb, Mem.pc, Act.put, Mem.pd, Mem.pe, Mem.pf]
            first | refine Mem.tkN 11 ?r85 | (refine Mem.tkV 11 ?v85 ?y85 ?r85; case y85 => (intro w hSw; clear hSw; go_simp; try with_reducible rfl))
            try simp only [Mem.pa, Mem.pb, Mem.pc, Act.put, Mem.pd, Mem.pe, Mem.pf]
            first | refine Mem.tkN 12 ?r86 | (refine Mem.tkV 12 ?v86 ?y86 ?r86; case y86 => (intro w hSw; clear hSw; go_simp; try with_reducible rfl))
            try simp only [Mem.pa, Mem.pb, Mem.pc, Act.put, Mem.pd, Mem.pe, Mem.pf]
            first | refine Mem.tkN 13 ?r87 | (refine Mem.tkV 13 ?v87 ?y87 ?r87; case y87 => (intro w hSw; clear hSw; go_simp; try with_reducible rfl))
            try simp only [Mem.pa, Mem.pb, Mem.pc, Act.put, Mem.pd, Mem.pe, Mem.pf]
            first | refine Mem.tkN 14 ?r88 | (refine Mem.tkV 14 ?v88 ?y88 ?r88; case y88 => (intro w hSw; clear hSw; go_simp; try with_reducible rfl))
            try simp only [Mem.pa, Mem.pb, Mem.pc, Act.put, Mem.pd, Mem.pe, Mem.pf]
            first | refine Mem.tkN 15 ?r89 | (refine Mem.tkV 15 ?v89 ?y89 ?r89; case y89 => (intro w hSw; obtain ⟨hT0, hT1, hT2, hT3, hT4, hT5, hT6⟩ := hCl.out w hSw; clear hSw; go_simp; try with_reducible rfl))
            try simp only [Mem.pa, Mem.pb, Mem.pc, Act.put, Mem.pd, Mem.pe, Mem.pf]
            first | refine Mem.tkN 16 ?r90 | (refine Mem.tkV 16 ?v90 ?y90 ?r90; case y90 => (intro w hSw; clear hSw; go_simp; try with_reducible rfl))
            refine Mem.tkV 17 ?v91 ?y91 ?r91
            case y91 => (intro w hSw; clear hSw; go_simp; try with_reducible rfl)
            try simp only [Mem.pa, Mem.pb, Mem.pc, Act.put, Mem.pd, Mem.pe, Mem.pf]
            refine wpAnyH_done (by kernel_rfl) ?_ _
            clear hCl
            have hb5 := (Below.refl wB.heap.size wB).drew.trans hHeld
            have HB6 := Lib.hid (HBB.out.trans (hb5.mono HBB.out.size))
            have HO2 := Lib.hid (HOB.out.below hb5)
            clear s1 s2 s3 hb5 hkb hkt
            go_wp2_with fail
            go_roundw
            case rel => exact ⟨j + 1, out2, by omega, by go_num, by omega, HV, HO2.out, HB6.out⟩
            case measure => simp [intOf]; omega
        · obtain rfl : j = k := by omega
          have hv := hv.out
          rw [List.drop_of_length_le (by omega : ys.length ≤ j)] at hv
          have HR : Hid (R = out2) := Lib.hid (by rw [HP.out, HV.out, hv]; rfl)
          have HO2 := Lib.hid hown
          clear hv hown
          go_wp2
          go_ret
          exact ⟨_, rfl, by rw [HR.out]; exact HO2.out, by rw [HR.out]; omega, hbr⟩
end Go.Proofs.YtbamhiegabeicaaGreat.Rd

/- Plain laws on lists of changes. No program in sight; no statement is proved here. -/
namespace Go.Proofs.YtbamhiegabeicaaGreat.Rd
open Go.Proofs.YtbamhiegabeicaaGreat.Pat
set_option linter.unusedVariables false
set_option linter.unusedSimpArgs false
theorem riseF_iff {e : Int} : ∀ {was : Int} {l : List Int}, riseF e was l = true ↔ l.Pairwise (· < ·) ∧ ∀ n ∈ l, was < n ∧ n < e := by
  intro was l
  induction l generalizing was with
  | nil => simp [riseF]
  | cons n r ih =>
    simp only [riseF, Bool.and_eq_true, Bool.not_eq_true', decide_eq_false_iff_not, ih, List.pairwise_cons, List.mem_cons]
    constructor
    · rintro ⟨⟨h1, h2⟩, h3, h4⟩
      refine ⟨⟨fun a ha => (h4 a ha).1, h3⟩, fun a ha => ?_⟩
      rcases ha with rfl | ha
      · omega
      · have := h4 a ha; omega
    · rintro ⟨⟨h1, h2⟩, h3⟩
      have := h3 n (.inl rfl)
      exact ⟨⟨by omega, by omega⟩, h2, fun a ha => ⟨h1 a ha, (h3 a (.inr ha)).2⟩⟩
/-- What each change of a list that may be is. -/
def okC (x : Chg) : Prop := 0 ≤ x.blk ∧ rightN x.pa x.pd.length = true ∧ riseF x.id 0 x.needs = true
theorem mayF_iff : ∀ {was : Int} {xs : List Chg}, mayF was xs = true ↔ (xs.map (·.id)).Pairwise (· < ·) ∧ (∀ x ∈ xs, was < x.id) ∧ ∀ x ∈ xs, okC x := by
  intro was xs
  induction xs generalizing was with
  | nil => simp [mayF]
  | cons n r ih =>
    simp only [mayF, Bool.and_eq_true, Bool.not_eq_true', decide_eq_false_iff_not, ih, List.map_cons, List.pairwise_cons, List.mem_cons, List.mem_map]
    constructor
    · rintro ⟨⟨⟨⟨h1, h2⟩, h3⟩, h4⟩, h5, h6, h7⟩
      refine ⟨⟨?_, h5⟩, ?_, ?_⟩
      · rintro a ⟨x, hx, rfl⟩; exact h6 x hx
      · rintro x (rfl | hx)
        · omega
        · have := h6 x hx; omega
      · rintro x (rfl | hx)
        · exact ⟨by omega, h3, h4⟩
        · exact h7 x hx
    · rintro ⟨⟨h1, h2⟩, h3, h4⟩
      obtain ⟨a1, a2, a3⟩ := h4 n (.inl rfl)
      exact ⟨⟨⟨⟨by have := h3 n (.inl rfl); omega, by omega⟩, a2⟩, a3⟩, h2, fun x hx => h1 _ ⟨x, hx, rfl⟩, fun x hx => h4 x (.inr hx)⟩
theorem sorted_ext {l1 l2 : List Int} (h1 : l1.Pairwise (· < ·)) (h2 : l2.Pairwise (· < ·)) (h : ∀ x, x ∈ l1 ↔ x ∈ l2) : l1 = l2 := by
  induction l1 generalizing l2 with
  | nil =>
    cases l2 with
    | nil => rfl
    | cons b r => exact absurd ((h b).2 List.mem_cons_self) (by simp)
  | cons a r ih =>
    cases l2 with
    | nil => exact absurd ((h a).1 List.mem_cons_self) (by simp)
    | cons b s =>
      obtain ⟨p1, p2⟩ := List.pairwise_cons.1 h1
      obtain ⟨q1, q2⟩ := List.pairwise_cons.1 h2
      have hab : a = b := by
        rcases List.mem_cons.1 ((h a).1 List.mem_cons_self) with e | e
        · exact e
        · rcases List.mem_cons.1 ((h b).2 List.mem_cons_self) with e' | e'
          · exact e'.symm
          · have := q1 a e; have := p1 b e'; omega
      subst hab
      rw [ih p2 q2 fun x => ⟨fun hx => ?_, fun hx => ?_⟩]
      · rcases List.mem_cons.1 ((h x).1 (List.mem_cons_of_mem _ hx)) with e | e
        · have := p1 x hx; omega
        · exact e
      · rcases List.mem_cons.1 ((h x).2 (List.mem_cons_of_mem _ hx)) with e | e
        · have := q1 x hx; omega
        · exact e
/-! ### a number into numbers that rise -/
theorem mem_putL {l : List Int} {y x : Int} : x ∈ putL l y ↔ x = y ∨ x ∈ l := by
  unfold putL
  split
  · rename_i h
    have hy := List.mem_of_getElem? h
    exact ⟨.inr, fun h => h.elim (fun e => e ▸ hy) id⟩
  · rw [List.mem_append, List.mem_cons]
    have : x ∈ l ↔ x ∈ l.take (cutF l y l.length) ∨ x ∈ l.drop (cutF l y l.length) := by rw [← List.mem_append, List.take_append_drop]
    rw [this]
    constructor
    · rintro (h | rfl | h)
      · exact .inr (.inl h)
      · exact .inl rfl
      · exact .inr (.inr h)
    · rintro (rfl | h | h)
      · exact .inr (.inl rfl)
      · exact .inl h
      · exact .inr (.inr h)
theorem cutF_ge (l : List Int) (y : Int) : ∀ m, m ≤ l.length → ∀ i, cutF l y m ≤ i → i < m → y ≤ l.getD i 0 := by
  intro m
  induction m with
  | zero => intro _ i _ h; omega
  | succ m ih =>
    intro hm i h1 h2
    unfold cutF at h1
    split at h1
    · rename_i hy
      by_cases e : i = m
      · rw [e]; exact hy
      · exact ih (by omega) i h1 (by omega)
    · omega
theorem cutF_lt (l : List Int) (y : Int) : ∀ m, 0 < cutF l y m → l.getD (cutF l y m - 1) 0 < y := by
  intro m
  induction m with
  | zero => intro h; simp [cutF] at h
  | succ m ih =>
    unfold cutF
    split
    · exact ih
    · rename_i hy; intro _; rw [Nat.add_sub_cancel]; omega
theorem getD_of {l : List Int} {i : Nat} (h : i < l.length) : l.getD i 0 = l[i] := by rw [List.getD_eq_getElem?_getD, List.getElem?_eq_getElem h]; rfl
theorem sorted_putL {l : List Int} (y : Int) (h : l.Pairwise (· < ·)) : (putL l y).Pairwise (· < ·) := by
  unfold putL
  split
  · exact h
  · rename_i hne
    have hle := cutF_le l y l.length
    have hlt := cutF_lt l y l.length
    have hge := cutF_ge l y l.length (Nat.le_refl _)
    have hp := List.pairwise_iff_getElem.1 h
    generalize cutF l y l.length = p at *
    have hlow : ∀ a ∈ l.take p, a < y := by
      intro a ha
      obtain ⟨i, hi, rfl⟩ := List.mem_iff_getElem.1 ha
      rw [List.length_take] at hi
      rw [List.getElem_take]
      have h1 := hlt (by omega)
      rw [getD_of (by omega)] at h1
      by_cases e : i = p - 1
      · subst e; exact h1
      · have := hp i (p - 1) (by omega) (by omega) (by omega); omega
    have hhigh : ∀ a ∈ l.drop p, y < a := by
      intro a ha
      obtain ⟨i, hi, rfl⟩ := List.mem_iff_getElem.1 ha
      rw [List.length_drop] at hi
      rw [List.getElem_drop]
      have h1 := hge p (Nat.le_refl _) (by omega)
      rw [getD_of (by omega)] at h1
      have h2 : l[p]'(by omega) ≠ y := fun e => hne (by rw [List.getElem?_eq_getElem (by omega), e])
      by_cases e : i = 0
      · subst e; simp only [Nat.add_zero]; omega
      · have := hp p (p + i) (by omega) (by omega) (by omega); omega
    rw [List.pairwise_append, List.pairwise_cons]
    refine ⟨h.sublist (List.take_sublist _ _), ⟨hhigh, h.sublist (List.drop_sublist _ _)⟩, fun a ha b hb => ?_⟩
    rcases List.mem_cons.1 hb with rfl | hb
    · exact hlow a ha
    · have := hlow a ha; have := hhigh b hb; omega
theorem wN_spec {f : Int → Int} : ∀ {l out : List Int}, out.Pairwise (· < ·) → (wN f l out).Pairwise (· < ·) ∧ ∀ x, x ∈ wN f l out ↔ x ∈ out ∨ x ∈ l ∧ f x ≠ 0 := by
  intro l
  induction l with
  | nil => intro out h; exact ⟨h, fun x => by simp [wN]⟩
  | cons n r ih =>
    intro out h
    unfold wN
    by_cases hf : f n = 0
    · rw [if_pos hf]
      refine ⟨(ih h).1, fun x => ?_⟩
      rw [(ih h).2 x, List.mem_cons]
      constructor
      · rintro (h1 | ⟨h1, h2⟩)
        · exact .inl h1
        · exact .inr ⟨.inr h1, h2⟩
      · rintro (h1 | ⟨rfl | h1, h2⟩)
        · exact .inl h1
        · exact absurd hf h2
        · exact .inr ⟨h1, h2⟩
    · rw [if_neg hf]
      have hs := sorted_putL n h
      refine ⟨(ih hs).1, fun x => ?_⟩
      rw [(ih hs).2 x, mem_putL, List.mem_cons]
      constructor
      · rintro ((rfl | h1) | ⟨h1, h2⟩)
        · exact .inr ⟨.inl rfl, hf⟩
        · exact .inl h1
        · exact .inr ⟨.inr h1, h2⟩
      · rintro (h1 | ⟨rfl | h1, h2⟩)
        · exact .inl (.inr h1)
        · exact .inl (.inl rfl)
        · exact .inr ⟨h1, h2⟩
theorem wM_spec {t : Chg} : ∀ {l : List Chg} {out : List Int}, out.Pairwise (· < ·) → (wM t l out).Pairwise (· < ·) ∧ ∀ x, x ∈ wM t l out ↔ x ∈ out ∨ ∃ c ∈ l, metC c t = true ∧ c.id = x := by
  intro l
  induction l with
  | nil => intro out h; exact ⟨h, fun x => by simp [wM]⟩
  | cons n r ih =>
    intro out h
    unfold wM
    cases hf : metC n t
    · rw [if_neg (by simp)]
      refine ⟨(ih h).1, fun x => ?_⟩
      rw [(ih h).2 x]
      constructor
      · rintro (h1 | ⟨c, h1, h2⟩)
        · exact .inl h1
        · exact .inr ⟨c, List.mem_cons_of_mem _ h1, h2⟩
      · rintro (h1 | ⟨c, h1, h2, h3⟩)
        · exact .inl h1
        · rcases List.mem_cons.1 h1 with rfl | h1
          · rw [hf] at h2; cases h2
          · exact .inr ⟨c, h1, h2, h3⟩
    · rw [if_pos rfl]
      have hs := sorted_putL n.id h
      refine ⟨(ih hs).1, fun x => ?_⟩
      rw [(ih hs).2 x, mem_putL]
      constructor
      · rintro ((rfl | h1) | ⟨c, h1, h2⟩)
        · exact .inr ⟨n, List.mem_cons_self, hf, rfl⟩
        · exact .inl h1
        · exact .inr ⟨c, List.mem_cons_of_mem _ h1, h2⟩
      · rintro (h1 | ⟨c, h1, h2, h3⟩)
        · exact .inl (.inr h1)
        · rcases List.mem_cons.1 h1 with rfl | h1
          · exact .inl (.inl h3.symm)
          · exact .inr ⟨c, h1, h2, h3⟩
/-! ### places -/
theorem idxF_not {id : Int} : ∀ {xs : List Chg} {k : Nat} {f : Int → Int}, (∀ x ∈ xs, x.id ≠ id) → idxF xs k f id = f id := by
  intro xs
  induction xs with
  | nil => intro k f _; rfl
  | cons x r ih =>
    intro k f h
    unfold idxF
    rw [ih fun y hy => h y (List.mem_cons_of_mem _ hy), upd_ne _ _ (h x List.mem_cons_self).symm]
theorem idxF_at : ∀ {xs : List Chg} {k : Nat} {f : Int → Int} {i : Nat}, (xs.map (·.id)).Pairwise (· < ·) → (h : i < xs.length) → idxF xs k f xs[i].id = (k + i : Nat) + 1 := by
  intro xs
  induction xs with
  | nil => intro k f i _ h; simp at h
  | cons x r ih =>
    intro k f i hp h
    rw [List.map_cons, List.pairwise_cons] at hp
    unfold idxF
    cases i with
    | zero =>
      rw [List.getElem_cons_zero, idxF_not, upd_same]
      · simp
      · intro y hy e
        have := hp.1 y.id (List.mem_map.2 ⟨y, hy, rfl⟩)
        omega
    | succ i =>
      rw [List.getElem_cons_succ, ih hp.2 (by simpa using h)]
      rw [show k + 1 + i = k + (i + 1) from by omega]
theorem placeF_not {id : Int} : ∀ {xs : List Chg} {k : Nat}, (∀ x ∈ xs, x.id ≠ id) → placeF id xs k = -1 := by
  intro xs
  induction xs with
  | nil => intro k _; rfl
  | cons x r ih =>
    intro k h
    unfold placeF
    rw [if_neg (h x List.mem_cons_self), ih fun y hy => h y (List.mem_cons_of_mem _ hy)]
theorem placeF_at : ∀ {xs : List Chg} {k i : Nat}, (xs.map (·.id)).Pairwise (· < ·) → (h : i < xs.length) → placeF xs[i].id xs k = (k + i : Nat) := by
  intro xs
  induction xs with
  | nil => intro k i _ h; simp at h
  | cons x r ih =>
    intro k i hp h
    rw [List.map_cons, List.pairwise_cons] at hp
    unfold placeF
    cases i with
    | zero => rw [List.getElem_cons_zero, if_pos rfl]; simp
    | succ i =>
      rw [List.getElem_cons_succ, if_neg, ih hp.2 (by simpa using h), show k + 1 + i = k + (i + 1) from by omega]
      intro e
      have := hp.1 (r[i]'(by simpa using h)).id (List.mem_map.2 ⟨_, List.getElem_mem _, rfl⟩)
      omega
theorem has_or {xs : List Chg} (id : Int) : (∀ x ∈ xs, x.id ≠ id) ∨ ∃ i, ∃ h : i < xs.length, xs[i].id = id := by
  by_cases h : ∃ x ∈ xs, x.id = id
  · obtain ⟨x, hx, e⟩ := h
    obtain ⟨i, hi, rfl⟩ := List.mem_iff_getElem.1 hx
    exact .inr ⟨i, hi, e⟩
  · exact .inl fun x hx e => h ⟨x, hx, e⟩
/-! ### for whom a change waits -/
def waitK (xs : List Chg) (k : Nat) (t : Chg) : List Int := ((xs.take k).filter fun x => metC x t || decide (x.id ∈ t.needs)).map (·.id)
theorem mem_waitK {xs : List Chg} {k : Nat} {t : Chg} {n : Int} : n ∈ waitK xs k t ↔ ∃ x ∈ xs.take k, (metC x t = true ∨ x.id ∈ t.needs) ∧ x.id = n := by
  unfold waitK
  simp only [List.mem_map, List.mem_filter, Bool.or_eq_true, decide_eq_true_eq]
  constructor
  · rintro ⟨x, ⟨h1, h2⟩, h3⟩; exact ⟨x, h1, h2, h3⟩
  · rintro ⟨x, h1, h2, h3⟩; exact ⟨x, ⟨h1, h2⟩, h3⟩
theorem ids_get {xs : List Chg} (h : (xs.map (·.id)).Pairwise (· < ·)) {i j : Nat} (hj : j < xs.length) (hij : i < j) : (xs[i]'(by omega)).id < xs[j].id := by
  have := List.pairwise_iff_getElem.1 h i j (by simp; omega) (by simpa using hj) hij
  simpa using this
theorem waits_eq {xs : List Chg} (hm : mayF 0 xs = true) {k : Nat} (hk : k < xs.length) : wP xs k xs[k] (idxF xs 0 fun _ => 0) = waitK xs k xs[k] := by
  obtain ⟨h1, h2, h3⟩ := mayF_iff.1 hm
  obtain ⟨_, _, hr⟩ := h3 _ (List.getElem_mem hk)
  obtain ⟨_, hn⟩ := riseF_iff.1 hr
  have s1 := wN_spec (f := idxF xs 0 fun _ => 0) (l := xs[k].needs) (out := []) List.Pairwise.nil
  have s2 := wM_spec (t := xs[k]) (l := xs.take k) s1.1
  refine sorted_ext s2.1 ?_ fun n => ?_
  · unfold waitK
    refine (List.Pairwise.sublist (List.Sublist.map _ ((List.filter_sublist).trans (List.take_sublist _ _))) h1)
  · rw [wP, s2.2 n, s1.2 n, mem_waitK]
    constructor
    · rintro ((h | ⟨h, hf⟩) | ⟨c, hc, hmt, e⟩)
      · simp at h
      · rcases has_or (xs := xs) n with hno | ⟨i, hi, e⟩
        · exact absurd (idxF_not hno) hf
        · refine ⟨xs[i], ?_, .inr (e ▸ h), e⟩
          have := (hn n h).2
          have hik : i < k := by
            rcases Nat.lt_trichotomy i k with h | rfl | h
            · exact h
            · omega
            · have := ids_get h1 hi h; omega
          rw [List.mem_take_iff_getElem]
          exact ⟨i, by omega, rfl⟩
      · exact ⟨c, hc, .inl hmt, e⟩
    · rintro ⟨x, hx, hor, rfl⟩
      rcases hor with h | h
      · exact .inr ⟨x, hx, h, rfl⟩
      · refine .inl (.inr ⟨h, ?_⟩)
        obtain ⟨i, hi, rfl⟩ := List.mem_iff_getElem.1 (List.mem_of_mem_take hx)
        rw [idxF_at h1 hi]
        omega
/-- For whom the change of a number waits. -/
def waitsS (xs : List Chg) (id : Int) : List Int := if mayF 0 xs = true ∧ 0 ≤ placeF id xs 0 then waitK xs (placeF id xs 0).toNat (xs.getD (placeF id xs 0).toNat ⟨0, 0, 0, [], []⟩) else []
theorem waitsS_at {xs : List Chg} (hm : mayF 0 xs = true) {k : Nat} (hk : k < xs.length) : waitsS xs xs[k].id = waitK xs k xs[k] := by
  unfold waitsS
  rw [placeF_at (mayF_iff.1 hm).1 hk, if_pos ⟨hm, by omega⟩, Nat.zero_add, Int.toNat_natCast, List.getD_eq_getElem?_getD, List.getElem?_eq_getElem hk]
  rfl
theorem waitsS_not {xs : List Chg} {id : Int} (h : ∀ x ∈ xs, x.id ≠ id) : waitsS xs id = [] := by
  unfold waitsS
  rw [placeF_not h, if_neg (by omega)]
theorem waitsS_may {xs : List Chg} {id : Int} (h : mayF 0 xs = false) : waitsS xs id = [] := by
  unfold waitsS
  rw [if_neg (by rw [h]; simp)]
/-- Those of the first k that are ready. -/
def rdy (xs : List Chg) (b : Int) : Nat → List Int
  | 0 => []
  | k + 1 => match xs[k]? with
    | none => rdy xs b k
    | some t => if t.blk = b ∧ ∀ n ∈ waitK xs k t, n ∈ rdy xs b k then rdy xs b k ++ [t.id] else rdy xs b k
def readyS (xs : List Chg) (b : Int) : List Int := if mayF 0 xs = true then rdy xs b xs.length else []
theorem rdy_yes {xs : List Chg} {b : Int} {k : Nat} (hk : k < xs.length) (h1 : xs[k].blk = b) (h2 : ∀ n ∈ waitK xs k xs[k], n ∈ rdy xs b k) : rdy xs b (k + 1) = rdy xs b k ++ [xs[k].id] := by
  rw [rdy, List.getElem?_eq_getElem hk]
  exact if_pos ⟨h1, h2⟩
theorem rdy_no {xs : List Chg} {b : Int} {k : Nat} (hk : k < xs.length) (h : ¬ (xs[k].blk = b ∧ ∀ n ∈ waitK xs k xs[k], n ∈ rdy xs b k)) : rdy xs b (k + 1) = rdy xs b k := by
  rw [rdy, List.getElem?_eq_getElem hk]
  exact if_neg h
theorem rdy_len (xs : List Chg) (b : Int) (k : Nat) : (rdy xs b k).length ≤ k := by
  induction k with
  | zero => simp [rdy]
  | succ k ih =>
    rw [rdy]
    split
    · omega
    · split
      · simp; omega
      · omega
theorem mem_rdy {xs : List Chg} {b : Int} {k : Nat} {n : Int} (h : n ∈ rdy xs b k) : ∃ i, ∃ hi : i < xs.length, i < k ∧ xs[i].id = n ∧ xs[i].blk = b ∧ ∀ m ∈ waitK xs i xs[i], m ∈ rdy xs b i := by
  induction k with
  | zero => simp [rdy] at h
  | succ k ih =>
    rw [rdy] at h
    split at h
    · obtain ⟨i, hi, h1, h2⟩ := ih h
      exact ⟨i, hi, by omega, h2⟩
    · rename_i t ht
      obtain ⟨hk, rfl⟩ := List.getElem?_eq_some_iff.1 ht
      split at h
      · rename_i hc
        rcases List.mem_append.1 h with h | h
        · obtain ⟨i, hi, h1, h2⟩ := ih h
          exact ⟨i, hi, by omega, h2⟩
        · simp at h
          exact ⟨k, hk, by omega, h.symm, hc.1, hc.2⟩
      · obtain ⟨i, hi, h1, h2⟩ := ih h
        exact ⟨i, hi, by omega, h2⟩
end Go.Proofs.YtbamhiegabeicaaGreat.Rd


