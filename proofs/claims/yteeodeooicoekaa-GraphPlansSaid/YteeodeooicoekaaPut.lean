/- A number into numbers that rise, once: the contract of ready.put. No statement is proved here. -/
import Derived.Test.YteeodeooicoekaaRd2
import Derived.Test.YteeodeooicoekaaTo
import Derived.Laws.CopyOwn
import Derived.Deep.RegionLaw
import Derived.Deep.DeepCutAuto
import Derived.Deep.CutBlock
namespace Go.Proofs.Yteeodeooicoekaa.Rd
open Go.RowKit Go.Proofs.Yteeodeooicoekaa.Mem Go.Proofs.Yteeodeooicoekaa.Open Go.Proofs.Yteeodeooicoekaa.Kind Go.Proofs.Yteeodeooicoekaa.Blk Go.Proofs.Yteeodeooicoekaa.App
set_option linter.unusedVariables false
set_option linter.unusedSimpArgs false
theorem intSize : (Try.prog.info? 3).map (·.size) = some 1 := by kernel_rfl
/-- What a copy by one place, and a store, make of a row. -/
theorem ins_splice (cur : List Int) (at' k : Nat) (x : Int) (hk : cur.length = k + 1) (ha : at' ≤ k) :
    (splice cur (at' + 1) ((cur.drop at').take (k - at'))).set at' x = cur.take at' ++ x :: (cur.take k).drop at' := by
  unfold splice
  have h1 : ((cur.drop at').take (k - at')).length = k - at' := by simp; omega
  rw [h1, show at' + 1 + (k - at') = k + 1 from by omega, List.drop_eq_nil_of_le (show cur.length ≤ k + 1 by omega), List.append_nil]
  rw [List.set_append_left _ _ (by simp; omega)]
  have h2 : (cur.take (at' + 1)).set at' x = cur.take at' ++ [x] := by
    apply List.ext_getElem?
    intro i
    rw [List.getElem?_set, List.getElem?_append, List.getElem?_take]
    simp only [List.length_take, List.getElem?_take]
    by_cases h : at' = i
    · subst h
      rw [if_pos rfl, if_pos (by omega), if_neg (by omega), show at' - min at' cur.length = 0 from by omega]
      rfl
    · rw [if_neg h]
      by_cases h3 : i < at'
      · rw [if_pos (by omega), if_pos (by omega), if_pos h3]
      · rw [if_neg (by omega), if_neg (by omega)]
        exact (List.getElem?_eq_none (by simp only [List.length_cons, List.length_nil]; omega)).symm
  rw [h2, List.append_assoc, ← List.drop_take]
  rfl
theorem take_splice {α : Type} (cur : List α) (n off : Nat) (cs : List α) (hn : n ≤ cur.length) (hf : off + cs.length ≤ n) : (splice cur off cs).take n = splice (cur.take n) off cs := by
  obtain ⟨X, Y, rfl, hX⟩ : ∃ X Y, cur = X ++ Y ∧ X.length = n := ⟨cur.take n, cur.drop n, (List.take_append_drop n cur).symm, by rw [List.length_take]; omega⟩
  unfold splice
  rw [List.take_append_of_le_length (by omega : off ≤ X.length), List.drop_append_of_le_length (by omega : off + cs.length ≤ X.length), List.take_left' hX, ← List.append_assoc, ← List.append_assoc]
  rw [List.take_left' (by simp; omega), List.append_assoc]
theorem own_block {w : World} {B g n c : Nat} {E : TypeId} {V : Int → Value} {xs : List Int} (h : Own w B E V (.slice (some ⟨g, 0, none⟩) n c) xs) :
    ∃ cur : List Value, w.heap[g]? = some (.cells cur.toArray E (0, 0)) ∧ xs.length ≤ cur.length ∧ cur.take xs.length = xs.map V ∧ B ≤ g ∧ xs.length ≤ c ∧
      ∀ (w' : World) (off : Nat) (cs : List Int), w'.heap[g]? = some (.cells (splice cur off (cs.map V)).toArray E (0, 0)) → off + cs.length ≤ xs.length → Own w' B E V (.slice (some ⟨g, 0, none⟩) n c) (splice xs off cs) := by
  have hl := h.sl.1
  subst hl
  obtain ⟨h1, h2⟩ := h
  rcases h2 with ⟨h2, _⟩ | ⟨g', cap, cur, e, hb, hg, hn, hm, hs, ht⟩
  · cases h2
  · injection e with e1 e2 e3
    injection e1 with e1
    injection e1 with e1
    subst e1 e3
    rw [Nat.mul_one] at hs ht
    have hlen : xs.length ≤ cur.toList.length := by show xs.length ≤ cur.size; rw [hs]; exact hn
    refine ⟨cur.toList, by simpa using hg, hlen, ht, hb, hn, fun w' off cs hw' hf => ?_⟩
    have hsp : (splice xs off cs).length = xs.length := length_splice xs off cs hf
    refine ⟨by simp, .inr ⟨g, c, _, by rw [hsp], hb, hw', by rw [hsp]; exact hn, hm, ?_, ?_⟩⟩
    · rw [List.size_toArray, length_splice _ _ _ (by rw [List.length_map]; omega), Nat.mul_one]; exact hs
    · rw [hsp, Nat.mul_one]
      rw [take_splice _ _ _ _ hlen (by rw [List.length_map]; exact hf), ht]
      unfold splice
      simp only [List.map_append, List.map_take, List.map_drop, List.length_map]
/-- From the end, what is not passed. -/
def cutF (xs : List Int) (y : Int) : Nat → Nat
  | 0 => 0
  | m + 1 => if y ≤ xs.getD m 0 then cutF xs y m else m + 1
theorem cutF_le (xs : List Int) (y : Int) (m : Nat) : cutF xs y m ≤ m := by
  induction m with
  | zero => exact Nat.le_refl _
  | succ m ih => unfold cutF; split <;> omega
def putL (xs : List Int) (y : Int) : List Int := if xs[cutF xs y xs.length]? = some y then xs else xs.take (cutF xs y xs.length) ++ y :: xs.drop (cutF xs y xs.length)
theorem putL_len (xs : List Int) (y : Int) : (putL xs y).length ≤ xs.length + 1 := by
  unfold putL
  have := cutF_le xs y xs.length
  split
  · omega
  · simp; omega
abbrev V64 : Int → Value := Value.int .i64
set_option maxHeartbeats 1000000 in
set_option maxRecDepth 100000 in
theorem put_any (B : Nat) (v : Value) (xs : List Int) (y : Int) (w : World) (hown : Own w B 3 V64 v xs) (hB : B ≤ w.heap.size) (hn : xs.length ≤ 1000000) (hy : WfI y) :
    Calls Try.prog 80 #[v, .int .i64 y] w fun r w' => ∃ v', r = .returned v' ∧ Own w' B 3 V64 v' (putL xs y) ∧ Below B w w' := by
  obtain ⟨A, c, rfl⟩ := hown.slice
  have HP : Hid (putL xs y = if xs[cutF xs y xs.length]? = some y then xs else xs.take (cutF xs y xs.length) ++ y :: xs.drop (cutF xs y xs.length)) := Lib.hid rfl
  have HOWN := Lib.hid hown
  generalize putL xs y = R at *
  clear hown
  obtain ⟨n, hrl⟩ : ∃ n, xs.length = n := ⟨_, rfl⟩
  rw [hrl] at HOWN hn HP ⊢
  go_enter Try.func80, Try.ntmps80
  go_wp2
  go_loopw [5] (fun i wr => ∃ p : Nat, p ≤ n ∧ i = .int .i64 p ∧ Hid (cutF xs y n = cutF xs y p) ∧ wr = w) (fun i _ => (intOf i).toNat)
  case atStart => exact ⟨n, Nat.le_refl _, rfl, Lib.hid rfl, rfl⟩
  case round =>
    obtain ⟨p, hp, rfl, hc, rfl⟩ := hrel
    by_cases hp0 : p = 0
    · have d0 : decide (0 < p) = false := decide_eq_false (by omega)
      have HC : Hid (cutF xs y n = p) := Lib.hid (by rw [hc.out, hp0]; rfl)
      clear hp0 hc
      by_cases hpl : p < n
      · obtain ⟨g0, c0, e⟩ := HOWN.out.slice_pos (by omega)
        injection e with e1 e2 e3
        first | subst e1 | (injection e1 with e1; injection e1 with e1; subst e1)
        subst e3
        clear e2
        have hcp := HOWN.out.cell p (by omega)
        by_cases hxy : xs[p] = y
        · have HR : Hid (R = xs) := Lib.hid (by rw [HP.out, HC.out, if_pos (by rw [List.getElem?_eq_getElem (by omega), hxy])])
          rw [hxy] at hcp
          clear hxy
          go_wp2
          go_ret
          exact ⟨_, rfl, by rw [HR.out]; exact HOWN.out, Below.refl _ _⟩
        · have HR : Hid (R = xs.take p ++ y :: xs.drop p) := Lib.hid (by rw [HP.out, HC.out, if_neg (by rw [List.getElem?_eq_getElem (by omega)]; exact fun e => hxy (Option.some.inj e))])
          have hne : (xs[p] == y) = false := beq_eq_false_iff_ne.2 hxy
          generalize xs[p] = x0 at *
          clear hxy
          have hc1 : (wr.alloc (.cells #[.int .i64 0] 3)).cell? ⟨wr.heap.size, 0, none⟩ = some (.int .i64 0) := by
            rw [cell_of_row _ _ _ _ _ _ (heap_alloc_new wr _)]; rfl
          go_wp2_with (at_builtin; go_loud (refine wpList_app1 rfl _ _ 28 rfl B 3 (.int .i64 0) 8 V64 Try.underlying28 intInfo3 rfl _ xs 0 rfl _ wr.heap.size rfl (HOWN.out.alloc _) hc1 rfl (by omega) (by omega) (by simp; omega) ?_); intro v1 w2 hown2 hbel2 hg2)
          have hl2 : (xs ++ [0]).length = n + 1 := by simp [hrl]
          obtain ⟨g2, c2, rfl⟩ := hown2.slice_pos (by omega)
          rw [hl2] at hown2 ⊢
          obtain ⟨cur, b1, b2, b3, b4, b6, b5⟩ := own_block hown2
          rw [hl2] at b2 b3 b5 b6
          obtain ⟨cs, hcs⟩ : ∃ cs, cs = ((xs ++ [0]).drop p).take (n - p) := ⟨_, rfl⟩
          have hcl : cs.length = n - p := by rw [hcs, List.length_take, List.length_drop, hl2]; omega
          have hcc : ∀ (j : Nat) (v : Value), (cs.map (Value.int .i64))[j]? = some v → w2.cell? ((⟨g2, p, none⟩ : Addr).add j) = some v := by
            intro j v hv
            have hj : j < n - p := by
              have := (List.getElem?_eq_some_iff.1 hv).1
              rw [List.length_map, hcl] at this
              exact this
            have hpj : p + j < (xs ++ [0]).length := by omega
            rw [Kind.addr_add, hown2.cell (p + j) hpj]
            rw [List.getElem?_map, hcs, List.getElem?_take, if_pos hj, List.getElem?_drop, List.getElem?_eq_getElem hpj] at hv
            exact hv
          have HCC := Lib.hid hcc
          have B1 := Lib.hid b1
          have B5 := Lib.hid b5
          have HCS := Lib.hid hcs
          have hcm : (cs.map (Value.int .i64)).length = n - p := by rw [List.length_map]; exact hcl
          have hone : ∀ v ∈ cs.map (Value.int .i64), v.oneCell' = true := by
            intro v hv
            obtain ⟨z, _, rfl⟩ := List.mem_map.1 hv
            rfl
          have HM := Lib.hid hcm
          have HO := Lib.hid hone
          obtain ⟨vs, hvs⟩ : ∃ vs, cs.map (Value.int .i64) = vs := ⟨_, rfl⟩
          rw [hvs] at HCC HM HO
          have HV := Lib.hid hvs
          clear hvs hcc b1 b3 b5 hcs hcm hone hl2
          have hW1 : IntKind.i64.wrap ((p : Int) + 1) = (p : Int) + 1 := by rw [IntKind.wrap_i64]; omega
          have hW2 : (p : Int) + 1 ≤ (n : Int) + 1 := by omega
          have hW3 : (0 : Int) ≤ (p : Int) + 1 := by omega
          have hW4 : (p : Int) ≤ (n : Int) + 1 := by omega
          have hW5 : (0 : Int) ≤ (p : Int) := by omega
          have hT : ((p : Int) + 1).toNat = p + 1 := by omega
          have HT := Lib.hid hT
          clear hT
          go_region_law (go_loud (refine step_copy_splice rfl (.tmp 40) (.tmp 43) 28 28 rfl 3 Try.underlying28 intSize (if c2 = ((p : Int) + 1).toNat then some ⟨g2, 0, none⟩ else some ⟨g2, ((p : Int) + 1).toNat, none⟩) (if c2 = p then some ⟨g2, 0, none⟩ else some ⟨g2, p, none⟩) (n + 1 - ((p : Int) + 1).toNat) (c2 - ((p : Int) + 1).toNat) (n + 1 - p) (c2 - p) (by simp [Act.eval, Act.put]) (by simp [Act.eval, Act.put]) g2 (p + 1) cur 3 B1.out vs (by rw [HM.out, HT.out]; show _ = min _ _; omega) (fun h0 => by rw [HM.out] at h0; exact ⟨by rw [HT.out, if_neg (by omega)], _, if_neg (by omega), HCC.out⟩) (by rw [HM.out]; omega) HO.out B _ (Below.refl _ _) b4 ?_); intro w4 hg4 hb4)
          have hown4 := B5.out w4 (p + 1) cs (by rw [HV.out]; exact hg4.out) (by omega)
          have hfin : (splice (xs ++ [0]) (p + 1) cs).set p y = xs.take p ++ y :: xs.drop p := by
            rw [HCS.out, ins_splice (xs ++ [0]) p n y (by simp [hrl]) (by omega), List.take_append_of_le_length (by omega), List.take_append_of_le_length (by omega), List.take_of_length_le (by omega : xs.length ≤ n)]
          have HF := Lib.hid hfin
          have hsl : (splice (xs ++ [0]) (p + 1) cs).length = n + 1 := by rw [length_splice _ _ _ (by simp; omega)]; simp [hrl]
          obtain ⟨u4, hc4⟩ : ∃ u, w4.cell? ⟨g2, p, none⟩ = some u := ⟨_, hown4.cell p (by omega)⟩
          have hf4 := hown4.frozen p
          have hst := hown4.stored p y
          rw [HF.out] at hst
          have hb5 := hown4.base
          have HB5 := Lib.hid (Below.setCell (((Below.refl B wr).alloc hB (.cells #[.int .i64 0] 3)).trans (hbel2.trans ((Below.refl _ _).drew.trans hb4))) b4 (p := ⟨g2, p, none⟩) (V64 y))
          have HST := Lib.hid hst
          clear hfin hsl hg4 B1 B5 HCC HM HO HV HCS hown2 hown4 hst
          go_wp2
          all_goals
            go_ret
            refine ⟨.slice (some ⟨g2, 0, none⟩) (n + 1) c2, ?_, by rw [HR.out]; exact HST.out, HB5.out⟩
            first | rfl | (clear HP HR HC HST HF HB5 HOWN HT; go_loud (simp [*]))
      · have HR : Hid (R = xs.take p ++ y :: xs.drop p) := Lib.hid (by rw [HP.out, HC.out, if_neg (by rw [List.getElem?_eq_none (by omega)]; simp)])
        have hc1 : (wr.alloc (.cells #[.int .i64 0] 3)).cell? ⟨wr.heap.size, 0, none⟩ = some (.int .i64 0) := by
          rw [cell_of_row _ _ _ _ _ _ (heap_alloc_new wr _)]; rfl
        go_wp2_with (at_builtin; go_loud (refine wpList_app1 rfl _ _ 28 rfl B 3 (.int .i64 0) 8 V64 Try.underlying28 intInfo3 rfl _ xs 0 rfl _ wr.heap.size rfl (HOWN.out.alloc _) hc1 rfl (by omega) (by omega) (by simp; omega) ?_); intro v1 w2 hown2 hbel2 hg2)
        have hl2 : (xs ++ [0]).length = n + 1 := by simp [hrl]
        obtain ⟨g2, c2, rfl⟩ := hown2.slice_pos (by omega)
        rw [hl2] at hown2 ⊢
        obtain ⟨cur, b1, b2, b3, b4, b6, b5⟩ := own_block hown2
        rw [hl2] at b2 b3 b5 b6
        obtain ⟨cs, hcs⟩ : ∃ cs, cs = ((xs ++ [0]).drop p).take (n - p) := ⟨_, rfl⟩
        have hcl : cs.length = n - p := by rw [hcs, List.length_take, List.length_drop, hl2]; omega
        have hcc : ∀ (j : Nat) (v : Value), (cs.map (Value.int .i64))[j]? = some v → w2.cell? ((⟨g2, p, none⟩ : Addr).add j) = some v := by
          intro j v hv
          have hj : j < n - p := by
            have := (List.getElem?_eq_some_iff.1 hv).1
            rw [List.length_map, hcl] at this
            exact this
          have hpj : p + j < (xs ++ [0]).length := by omega
          rw [Kind.addr_add, hown2.cell (p + j) hpj]
          rw [List.getElem?_map, hcs, List.getElem?_take, if_pos hj, List.getElem?_drop, List.getElem?_eq_getElem hpj] at hv
          exact hv
        have HCC := Lib.hid hcc
        have B1 := Lib.hid b1
        have B5 := Lib.hid b5
        have HCS := Lib.hid hcs
        have hcm : (cs.map (Value.int .i64)).length = n - p := by rw [List.length_map]; exact hcl
        have hone : ∀ v ∈ cs.map (Value.int .i64), v.oneCell' = true := by
          intro v hv
          obtain ⟨z, _, rfl⟩ := List.mem_map.1 hv
          rfl
        have HM := Lib.hid hcm
        have HO := Lib.hid hone
        obtain ⟨vs, hvs⟩ : ∃ vs, cs.map (Value.int .i64) = vs := ⟨_, rfl⟩
        rw [hvs] at HCC HM HO
        have HV := Lib.hid hvs
        clear hvs hcc b1 b3 b5 hcs hcm hone hl2
        have hW1 : IntKind.i64.wrap ((p : Int) + 1) = (p : Int) + 1 := by rw [IntKind.wrap_i64]; omega
        have hW2 : (p : Int) + 1 ≤ (n : Int) + 1 := by omega
        have hW3 : (0 : Int) ≤ (p : Int) + 1 := by omega
        have hW4 : (p : Int) ≤ (n : Int) + 1 := by omega
        have hW5 : (0 : Int) ≤ (p : Int) := by omega
        have hT : ((p : Int) + 1).toNat = p + 1 := by omega
        have HT := Lib.hid hT
        clear hT
        go_region_law (go_loud (refine step_copy_splice rfl (.tmp 40) (.tmp 43) 28 28 rfl 3 Try.underlying28 intSize (if c2 = ((p : Int) + 1).toNat then some ⟨g2, 0, none⟩ else some ⟨g2, ((p : Int) + 1).toNat, none⟩) (if c2 = p then some ⟨g2, 0, none⟩ else some ⟨g2, p, none⟩) (n + 1 - ((p : Int) + 1).toNat) (c2 - ((p : Int) + 1).toNat) (n + 1 - p) (c2 - p) (by simp [Act.eval, Act.put]) (by simp [Act.eval, Act.put]) g2 (p + 1) cur 3 B1.out vs (by rw [HM.out, HT.out]; show _ = min _ _; omega) (fun h0 => by rw [HM.out] at h0; exact ⟨by rw [HT.out, if_neg (by omega)], _, if_neg (by omega), HCC.out⟩) (by rw [HM.out]; omega) HO.out B _ (Below.refl _ _) b4 ?_); intro w4 hg4 hb4)
        have hown4 := B5.out w4 (p + 1) cs (by rw [HV.out]; exact hg4.out) (by omega)
        have hfin : (splice (xs ++ [0]) (p + 1) cs).set p y = xs.take p ++ y :: xs.drop p := by
          rw [HCS.out, ins_splice (xs ++ [0]) p n y (by simp [hrl]) (by omega), List.take_append_of_le_length (by omega), List.take_append_of_le_length (by omega), List.take_of_length_le (by omega : xs.length ≤ n)]
        have HF := Lib.hid hfin
        have hsl : (splice (xs ++ [0]) (p + 1) cs).length = n + 1 := by rw [length_splice _ _ _ (by simp; omega)]; simp [hrl]
        obtain ⟨u4, hc4⟩ : ∃ u, w4.cell? ⟨g2, p, none⟩ = some u := ⟨_, hown4.cell p (by omega)⟩
        have hf4 := hown4.frozen p
        have hst := hown4.stored p y
        rw [HF.out] at hst
        have hb5 := hown4.base
        have HB5 := Lib.hid (Below.setCell (((Below.refl B wr).alloc hB (.cells #[.int .i64 0] 3)).trans (hbel2.trans ((Below.refl _ _).drew.trans hb4))) b4 (p := ⟨g2, p, none⟩) (V64 y))
        have HST := Lib.hid hst
        clear hfin hsl hg4 B1 B5 HCC HM HO HV HCS hown2 hown4 hst
        go_wp2
        all_goals
          go_ret
          refine ⟨.slice (some ⟨g2, 0, none⟩) (n + 1) c2, ?_, by rw [HR.out]; exact HST.out, HB5.out⟩
          first | rfl | (clear HP HR HC HST HF HB5 HOWN HT; go_loud (simp [*]))
    · obtain ⟨g, c', e⟩ := HOWN.out.slice_pos (by omega)
      injection e with e1 e2 e3
      subst e1 e3
      clear e2
      have hm : p - 1 < n := by omega
      have hcell := HOWN.out.cell (p - 1) (by omega)
      have hpn : ((p : Int) - 1).toNat = p - 1 := by omega
      have i1 : (0 : Int) ≤ (p : Int) - 1 := by omega
      have i2 : (p : Int) - 1 < (n : Int) := by omega
      have i3 : 0 < p := by omega
      by_cases hge : y ≤ xs[p - 1]'(by omega)
      · have hc2 : cutF xs y p = cutF xs y (p - 1) := by
          obtain ⟨m, rfl⟩ : ∃ m, p = m + 1 := ⟨p - 1, by omega⟩
          rw [cutF, if_pos (by rw [List.getD_eq_getElem?_getD, List.getElem?_eq_getElem (by omega)]; exact hge)]
          rfl
        have HC := Lib.hid (hc.out.trans hc2)
        generalize xs[p - 1]'(by omega) = x at *
        clear hc hc2
        go_wp2
        go_roundw
        case rel => exact ⟨p - 1, by omega, by go_num, HC, trivial⟩
        case measure => simp [intOf]; omega
      · have HC : Hid (cutF xs y n = p) := Lib.hid (by
          rw [hc.out]
          obtain ⟨m, rfl⟩ : ∃ m, p = m + 1 := ⟨p - 1, by omega⟩
          rw [cutF, if_neg (by rw [List.getD_eq_getElem?_getD, List.getElem?_eq_getElem (by omega)]; exact hge)])
        generalize xs[p - 1]'(by omega) = x at *
        clear hc
        by_cases hpl : p < n
        · obtain ⟨g0, c0, e⟩ := HOWN.out.slice_pos (by omega)
          injection e with e1 e2 e3
          first | subst e1 | (injection e1 with e1; injection e1 with e1; subst e1)
          subst e3
          clear e2
          have hcp := HOWN.out.cell p (by omega)
          by_cases hxy : xs[p] = y
          · have HR : Hid (R = xs) := Lib.hid (by rw [HP.out, HC.out, if_pos (by rw [List.getElem?_eq_getElem (by omega), hxy])])
            rw [hxy] at hcp
            clear hxy
            go_wp2
            go_ret
            exact ⟨_, rfl, by rw [HR.out]; exact HOWN.out, Below.refl _ _⟩
          · have HR : Hid (R = xs.take p ++ y :: xs.drop p) := Lib.hid (by rw [HP.out, HC.out, if_neg (by rw [List.getElem?_eq_getElem (by omega)]; exact fun e => hxy (Option.some.inj e))])
            have hne : (xs[p] == y) = false := beq_eq_false_iff_ne.2 hxy
            generalize xs[p] = x0 at *
            clear hxy
            have hc1 : (wr.alloc (.cells #[.int .i64 0] 3)).cell? ⟨wr.heap.size, 0, none⟩ = some (.int .i64 0) := by
              rw [cell_of_row _ _ _ _ _ _ (heap_alloc_new wr _)]; rfl
            go_wp2_with (at_builtin; go_loud (refine wpList_app1 rfl _ _ 28 rfl B 3 (.int .i64 0) 8 V64 Try.underlying28 intInfo3 rfl _ xs 0 rfl _ wr.heap.size rfl (HOWN.out.alloc _) hc1 rfl (by omega) (by omega) (by simp; omega) ?_); intro v1 w2 hown2 hbel2 hg2)
            have hl2 : (xs ++ [0]).length = n + 1 := by simp [hrl]
            obtain ⟨g2, c2, rfl⟩ := hown2.slice_pos (by omega)
            rw [hl2] at hown2 ⊢
            obtain ⟨cur, b1, b2, b3, b4, b6, b5⟩ := own_block hown2
            rw [hl2] at b2 b3 b5 b6
            obtain ⟨cs, hcs⟩ : ∃ cs, cs = ((xs ++ [0]).drop p).take (n - p) := ⟨_, rfl⟩
            have hcl : cs.length = n - p := by rw [hcs, List.length_take, List.length_drop, hl2]; omega
            have hcc : ∀ (j : Nat) (v : Value), (cs.map (Value.int .i64))[j]? = some v → w2.cell? ((⟨g2, p, none⟩ : Addr).add j) = some v := by
              intro j v hv
              have hj : j < n - p := by
                have := (List.getElem?_eq_some_iff.1 hv).1
                rw [List.length_map, hcl] at this
                exact this
              have hpj : p + j < (xs ++ [0]).length := by omega
              rw [Kind.addr_add, hown2.cell (p + j) hpj]
              rw [List.getElem?_map, hcs, List.getElem?_take, if_pos hj, List.getElem?_drop, List.getElem?_eq_getElem hpj] at hv
              exact hv
            have HCC := Lib.hid hcc
            have B1 := Lib.hid b1
            have B5 := Lib.hid b5
            have HCS := Lib.hid hcs
            have hcm : (cs.map (Value.int .i64)).length = n - p := by rw [List.length_map]; exact hcl
            have hone : ∀ v ∈ cs.map (Value.int .i64), v.oneCell' = true := by
              intro v hv
              obtain ⟨z, _, rfl⟩ := List.mem_map.1 hv
              rfl
            have HM := Lib.hid hcm
            have HO := Lib.hid hone
            obtain ⟨vs, hvs⟩ : ∃ vs, cs.map (Value.int .i64) = vs := ⟨_, rfl⟩
            rw [hvs] at HCC HM HO
            have HV := Lib.hid hvs
            clear hvs hcc b1 b3 b5 hcs hcm hone hl2
            have hW1 : IntKind.i64.wrap ((p : Int) + 1) = (p : Int) + 1 := by rw [IntKind.wrap_i64]; omega
            have hW2 : (p : Int) + 1 ≤ (n : Int) + 1 := by omega
            have hW3 : (0 : Int) ≤ (p : Int) + 1 := by omega
            have hW4 : (p : Int) ≤ (n : Int) + 1 := by omega
            have hW5 : (0 : Int) ≤ (p : Int) := by omega
            have hT : ((p : Int) + 1).toNat = p + 1 := by omega
            have HT := Lib.hid hT
            clear hT
            go_region_law (go_loud (refine step_copy_splice rfl (.tmp 40) (.tmp 43) 28 28 rfl 3 Try.underlying28 intSize (if c2 = ((p : Int) + 1).toNat then some ⟨g2, 0, none⟩ else some ⟨g2, ((p : Int) + 1).toNat, none⟩) (if c2 = p then some ⟨g2, 0, none⟩ else some ⟨g2, p, none⟩) (n + 1 - ((p : Int) + 1).toNat) (c2 - ((p : Int) + 1).toNat) (n + 1 - p) (c2 - p) (by simp [Act.eval, Act.put]) (by simp [Act.eval, Act.put]) g2 (p + 1) cur 3 B1.out vs (by rw [HM.out, HT.out]; show _ = min _ _; omega) (fun h0 => by rw [HM.out] at h0; exact ⟨by rw [HT.out, if_neg (by omega)], _, if_neg (by omega), HCC.out⟩) (by rw [HM.out]; omega) HO.out B _ (Below.refl _ _) b4 ?_); intro w4 hg4 hb4)
            have hown4 := B5.out w4 (p + 1) cs (by rw [HV.out]; exact hg4.out) (by omega)
            have hfin : (splice (xs ++ [0]) (p + 1) cs).set p y = xs.take p ++ y :: xs.drop p := by
              rw [HCS.out, ins_splice (xs ++ [0]) p n y (by simp [hrl]) (by omega), List.take_append_of_le_length (by omega), List.take_append_of_le_length (by omega), List.take_of_length_le (by omega : xs.length ≤ n)]
            have HF := Lib.hid hfin
            have hsl : (splice (xs ++ [0]) (p + 1) cs).length = n + 1 := by rw [length_splice _ _ _ (by simp; omega)]; simp [hrl]
            obtain ⟨u4, hc4⟩ : ∃ u, w4.cell? ⟨g2, p, none⟩ = some u := ⟨_, hown4.cell p (by omega)⟩
            have hf4 := hown4.frozen p
            have hst := hown4.stored p y
            rw [HF.out] at hst
            have hb5 := hown4.base
            have HB5 := Lib.hid (Below.setCell (((Below.refl B wr).alloc hB (.cells #[.int .i64 0] 3)).trans (hbel2.trans ((Below.refl _ _).drew.trans hb4))) b4 (p := ⟨g2, p, none⟩) (V64 y))
            have HST := Lib.hid hst
            clear hfin hsl hg4 B1 B5 HCC HM HO HV HCS hown2 hown4 hst
            go_wp2
            all_goals
              go_ret
              refine ⟨.slice (some ⟨g2, 0, none⟩) (n + 1) c2, ?_, by rw [HR.out]; exact HST.out, HB5.out⟩
              first | rfl | (clear HP HR HC HST HF HB5 HOWN HT; go_loud (simp [*]))
        · have HR : Hid (R = xs.take p ++ y :: xs.drop p) := Lib.hid (by rw [HP.out, HC.out, if_neg (by rw [List.getElem?_eq_none (by omega)]; simp)])
          have hc1 : (wr.alloc (.cells #[.int .i64 0] 3)).cell? ⟨wr.heap.size, 0, none⟩ = some (.int .i64 0) := by
            rw [cell_of_row _ _ _ _ _ _ (heap_alloc_new wr _)]; rfl
          go_wp2_with (at_builtin; go_loud (refine wpList_app1 rfl _ _ 28 rfl B 3 (.int .i64 0) 8 V64 Try.underlying28 intInfo3 rfl _ xs 0 rfl _ wr.heap.size rfl (HOWN.out.alloc _) hc1 rfl (by omega) (by omega) (by simp; omega) ?_); intro v1 w2 hown2 hbel2 hg2)
          have hl2 : (xs ++ [0]).length = n + 1 := by simp [hrl]
          obtain ⟨g2, c2, rfl⟩ := hown2.slice_pos (by omega)
          rw [hl2] at hown2 ⊢
          obtain ⟨cur, b1, b2, b3, b4, b6, b5⟩ := own_block hown2
          rw [hl2] at b2 b3 b5 b6
          obtain ⟨cs, hcs⟩ : ∃ cs, cs = ((xs ++ [0]).drop p).take (n - p) := ⟨_, rfl⟩
          have hcl : cs.length = n - p := by rw [hcs, List.length_take, List.length_drop, hl2]; omega
          have hcc : ∀ (j : Nat) (v : Value), (cs.map (Value.int .i64))[j]? = some v → w2.cell? ((⟨g2, p, none⟩ : Addr).add j) = some v := by
            intro j v hv
            have hj : j < n - p := by
              have := (List.getElem?_eq_some_iff.1 hv).1
              rw [List.length_map, hcl] at this
              exact this
            have hpj : p + j < (xs ++ [0]).length := by omega
            rw [Kind.addr_add, hown2.cell (p + j) hpj]
            rw [List.getElem?_map, hcs, List.getElem?_take, if_pos hj, List.getElem?_drop, List.getElem?_eq_getElem hpj] at hv
            exact hv
          have HCC := Lib.hid hcc
          have B1 := Lib.hid b1
          have B5 := Lib.hid b5
          have HCS := Lib.hid hcs
          have hcm : (cs.map (Value.int .i64)).length = n - p := by rw [List.length_map]; exact hcl
          have hone : ∀ v ∈ cs.map (Value.int .i64), v.oneCell' = true := by
            intro v hv
            obtain ⟨z, _, rfl⟩ := List.mem_map.1 hv
            rfl
          have HM := Lib.hid hcm
          have HO := Lib.hid hone
          obtain ⟨vs, hvs⟩ : ∃ vs, cs.map (Value.int .i64) = vs := ⟨_, rfl⟩
          rw [hvs] at HCC HM HO
          have HV := Lib.hid hvs
          clear hvs hcc b1 b3 b5 hcs hcm hone hl2
          have hW1 : IntKind.i64.wrap ((p : Int) + 1) = (p : Int) + 1 := by rw [IntKind.wrap_i64]; omega
          have hW2 : (p : Int) + 1 ≤ (n : Int) + 1 := by omega
          have hW3 : (0 : Int) ≤ (p : Int) + 1 := by omega
          have hW4 : (p : Int) ≤ (n : Int) + 1 := by omega
          have hW5 : (0 : Int) ≤ (p : Int) := by omega
          have hT : ((p : Int) + 1).toNat = p + 1 := by omega
          have HT := Lib.hid hT
          clear hT
          go_region_law (go_loud (refine step_copy_splice rfl (.tmp 40) (.tmp 43) 28 28 rfl 3 Try.underlying28 intSize (if c2 = ((p : Int) + 1).toNat then some ⟨g2, 0, none⟩ else some ⟨g2, ((p : Int) + 1).toNat, none⟩) (if c2 = p then some ⟨g2, 0, none⟩ else some ⟨g2, p, none⟩) (n + 1 - ((p : Int) + 1).toNat) (c2 - ((p : Int) + 1).toNat) (n + 1 - p) (c2 - p) (by simp [Act.eval, Act.put]) (by simp [Act.eval, Act.put]) g2 (p + 1) cur 3 B1.out vs (by rw [HM.out, HT.out]; show _ = min _ _; omega) (fun h0 => by rw [HM.out] at h0; exact ⟨by rw [HT.out, if_neg (by omega)], _, if_neg (by omega), HCC.out⟩) (by rw [HM.out]; omega) HO.out B _ (Below.refl _ _) b4 ?_); intro w4 hg4 hb4)
          have hown4 := B5.out w4 (p + 1) cs (by rw [HV.out]; exact hg4.out) (by omega)
          have hfin : (splice (xs ++ [0]) (p + 1) cs).set p y = xs.take p ++ y :: xs.drop p := by
            rw [HCS.out, ins_splice (xs ++ [0]) p n y (by simp [hrl]) (by omega), List.take_append_of_le_length (by omega), List.take_append_of_le_length (by omega), List.take_of_length_le (by omega : xs.length ≤ n)]
          have HF := Lib.hid hfin
          have hsl : (splice (xs ++ [0]) (p + 1) cs).length = n + 1 := by rw [length_splice _ _ _ (by simp; omega)]; simp [hrl]
          obtain ⟨u4, hc4⟩ : ∃ u, w4.cell? ⟨g2, p, none⟩ = some u := ⟨_, hown4.cell p (by omega)⟩
          have hf4 := hown4.frozen p
          have hst := hown4.stored p y
          rw [HF.out] at hst
          have hb5 := hown4.base
          have HB5 := Lib.hid (Below.setCell (((Below.refl B wr).alloc hB (.cells #[.int .i64 0] 3)).trans (hbel2.trans ((Below.refl _ _).drew.trans hb4))) b4 (p := ⟨g2, p, none⟩) (V64 y))
          have HST := Lib.hid hst
          clear hfin hsl hg4 B1 B5 HCC HM HO HV HCS hown2 hown4 hst
          go_wp2
          all_goals
            go_ret
            refine ⟨.slice (some ⟨g2, 0, none⟩) (n + 1) c2, ?_, by rw [HR.out]; exact HST.out, HB5.out⟩
            first | rfl | (clear HP HR HC HST HF HB5 HOWN HT; go_loud (simp [*]))
end Go.Proofs.Yteeodeooicoekaa.Rd
