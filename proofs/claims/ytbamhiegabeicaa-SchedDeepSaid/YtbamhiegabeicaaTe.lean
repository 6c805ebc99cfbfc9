/- Laws and contracts of several chapters, laid in one text. No statement is proved here. -/
import Derived.Test.YtbamhiegabeicaaTa
import Derived.Test.YtbamhiegabeicaaTc
/- Rounds make what is left less deep: plain laws. No statement is proved here. -/
namespace Go.Proofs.Ytbamhiegabeicaa.Cb
open Go.RowKit Go.Proofs.Ytbamhiegabeicaa.Mem Go.Proofs.Ytbamhiegabeicaa.Open Go.Proofs.Ytbamhiegabeicaa.Kind Go.Proofs.Ytbamhiegabeicaa.Blk Go.Proofs.Ytbamhiegabeicaa.App Go.Proofs.Ytbamhiegabeicaa.Pat Go.Proofs.Ytbamhiegabeicaa.Rd
open Go.Proofs.Ytbamhiegabeicaa.Db (Dv Dev Asd Bks)
set_option linter.unusedVariables false
set_option linter.unusedSimpArgs false
theorem Lit.rdG : ∀ (l : List Int) {s : St} (h : Lit s) (hi : Inv s), (rdG l s).2 = 0 ∧ Lit (rdG l s).1
  | [], s, h, hi => ⟨rfl, h⟩
  | n :: r, s, h, hi => by
    unfold Cb.rdG
    rw [if_pos (h.flE hi n)]
    exact Lit.rdG r (h.flS n) (flS_inv hi n)
theorem mxD_ge (xs : List Chg) : ∀ (l : List Chg) (m : Int), m ≤ mxD xs l m ∧ ∀ x ∈ l, depS xs x.id ≤ mxD xs l m
  | [], m => ⟨Int.le_refl _, fun x hx => (by cases hx)⟩
  | y :: r, m => by
    obtain ⟨h1, h2⟩ := mxD_ge xs r (max m (depS xs y.id))
    refine ⟨?_, fun x hx => ?_⟩
    · show m ≤ mxD xs r (max m (depS xs y.id)); omega
    · show depS xs x.id ≤ mxD xs r (max m (depS xs y.id))
      rcases List.mem_cons.1 hx with rfl | hx
      · omega
      · exact h2 x hx
theorem mxD_lt (xs : List Chg) : ∀ (l : List Chg) (m k : Int), m < k → (∀ x ∈ l, depS xs x.id < k) → mxD xs l m < k
  | [], m, k, h, _ => h
  | y :: r, m, k, h, hl => mxD_lt xs r _ k (by have := hl y (List.mem_cons_self ..); omega) (fun x hx => hl x (List.mem_cons_of_mem _ hx))
theorem dpS_le {s : St} (hi : Inv s) : dpS s ≤ 1000 := by
  have := mxD_lt s.xs s.xs 0 1001 (by omega) (fun x hx => by have h1 := depS_le s.xs x.id; have h2 := all_len s.xs x.id; have h3 := hi.xl; omega)
  unfold dpS
  omega
theorem dpS_nonneg (s : St) : 0 ≤ dpS s := (mxD_ge s.xs s.xs 0).1
theorem dG_two (xs : List Chg) : ∀ (a b : List Int) (g : Int → Int), dG xs g (a ++ b) = dG xs (dG xs g a) b
  | [], b, g => rfl
  | n :: r, b, g => by rw [List.cons_append, dG, dG]; exact dG_two xs r b _
theorem dG_stay (xs : List Chg) {n : Int} : ∀ (l : List Int) (g : Int → Int), n ∉ l → dG xs g l n = g n
  | [], g, _ => rfl
  | m :: r, g, h => by
    rw [dG, dG_stay xs r _ (fun e => h (List.mem_cons_of_mem _ e))]
    unfold upd
    rw [if_neg (fun e => h (by rw [e]; exact List.mem_cons_self))]
theorem depS_rec {xs : List Chg} (hm : mayF 0 xs = true) {k : Nat} (hk : k < xs.length) : depS xs xs[k].id = mxG (depS xs) (waitsS xs xs[k].id) + 1 := by
  have hd : (xs.map (·.id)).Pairwise (· < ·) := (mayF_iff.1 hm).1
  have hs : xs.map (·.id) = (xs.take k).map (·.id) ++ xs[k].id :: (xs.drop (k + 1)).map (·.id) := by
    conv => lhs; rw [← List.take_append_drop k xs, List.drop_eq_getElem_cons hk]
    rw [List.map_append, List.map_cons]
  rw [hs] at hd
  obtain ⟨d1, d2, d3⟩ := List.pairwise_append.1 hd
  obtain ⟨d4, d5⟩ := List.pairwise_cons.1 d2
  have hn : xs[k].id ∉ (xs.drop (k + 1)).map (·.id) := fun e => by have := d4 _ e; omega
  have hw : ∀ n, depS xs n = dG xs (dG xs (fun _ => 0) ((xs.take k).map (·.id))) (xs[k].id :: (xs.drop (k + 1)).map (·.id)) n := fun n => by
    rw [← depS_whole hm n, hs, dG_two]
  rw [hw, dG, dG_stay _ _ _ hn]
  unfold upd
  rw [if_pos rfl]
  congr 1
  refine mxG_congr fun m hmm => ?_
  obtain ⟨j, hj, hjk, rfl⟩ := waits_lt hm hk hmm
  rw [hw]
  symm
  refine dG_stay _ _ _ fun e => ?_
  have := d3 xs[j].id (List.mem_map.2 ⟨xs[j], List.mem_take_iff_getElem.2 ⟨j, by omega, rfl⟩, rfl⟩) xs[j].id e
  omega
theorem dpS_nil {s : St} (hi : Inv s) (h : dpS s ≤ 0) : s.xs = [] := by
  cases hx : s.xs with
  | nil => rfl
  | cons x r =>
    have h0 : 0 < s.xs.length := by rw [hx]; simp
    have h1 := depS_rec hi.may h0
    have h2 := (mxG_foldb (g := depS s.xs) (W := waitsS s.xs s.xs[0].id) (a := 0) (c := 1000) (by omega) (by omega) (fun m _ => by have := depS_le s.xs m; have := all_len s.xs m; have := hi.xl; omega)).1
    have h3 := (mxD_ge s.xs s.xs 0).2 s.xs[0] (List.getElem_mem h0)
    unfold dpS at h
    have h4 : 0 ≤ mxG (depS s.xs) (waitsS s.xs s.xs[0].id) := h2
    omega
end Go.Proofs.Ytbamhiegabeicaa.Cb

/- A round makes what is left less deep. No statement is proved here. -/
namespace Go.Proofs.Ytbamhiegabeicaa.Cb
open Go.RowKit Go.Proofs.Ytbamhiegabeicaa.Mem Go.Proofs.Ytbamhiegabeicaa.Open Go.Proofs.Ytbamhiegabeicaa.Kind Go.Proofs.Ytbamhiegabeicaa.Blk Go.Proofs.Ytbamhiegabeicaa.App Go.Proofs.Ytbamhiegabeicaa.Pat Go.Proofs.Ytbamhiegabeicaa.Rd
open Go.Proofs.Ytbamhiegabeicaa.Db (Dv Dev Asd Bks)
set_option linter.unusedVariables false
set_option linter.unusedSimpArgs false
/-- What is left of a list: nothing waits for more than it did. -/
structure Lf (xs ys : List Chg) : Prop where
  sub : ∀ x ∈ ys, x ∈ xs
  waits : ∀ x ∈ ys, ∀ m ∈ waitsS ys x.id, m ∈ waitsS xs x.id
theorem Lf.refl (xs : List Chg) : Lf xs xs := ⟨fun x h => h, fun x _ m h => h⟩
theorem Lf.trans {xs ys zs : List Chg} (h : Lf xs ys) (h' : Lf ys zs) : Lf xs zs := ⟨fun x hx => h.sub x (h'.sub x hx), fun x hx m hm => h.waits x (h'.sub x hx) m (h'.waits x hx m hm)⟩
theorem Lf.fl {s : St} (hi : Inv s) (n : Int) : Lf s.xs (flS s n).xs := by
  unfold flS
  split
  · split
    · exact Lf.refl _
    · exact ⟨fun x hx => (List.mem_filter.1 hx).1, fun x hx => wo_waits hi.may _ hx⟩
  · exact Lf.refl _
theorem fl_gone {s : St} (h : Lit s) (hi : Inv s) {x : Chg} (hx : x ∈ s.xs) (hw : waitsS s.xs x.id = []) : ∀ y ∈ (flS s x.blk).xs, y.id ≠ x.id := by
  obtain ⟨i, hil, rfl⟩ := List.mem_iff_getElem.1 hx
  have hr := ready_of hi.may hil hw
  have hE := h.flE hi s.xs[i].blk
  have hc : s.K s.xs[i].blk = true ∧ readyS s.xs s.xs[i].blk ≠ [] := ⟨hi.xk _ hx, fun e => by rw [e] at hr; cases hr⟩
  unfold flE at hE
  rw [if_pos hc] at hE
  unfold flS
  rw [if_pos hc, if_neg (fun e => e hE)]
  intro y hy e
  have := (List.mem_filter.1 hy).2
  rw [e, decide_eq_true hr] at this
  cases this
theorem Lf.rdG : ∀ (l : List Int) {s : St} (h : Lit s) (hi : Inv s), Lf s.xs (rdG l s).1.xs ∧ ∀ x ∈ s.xs, x.blk ∈ l → waitsS s.xs x.id = [] → ∀ y ∈ (rdG l s).1.xs, y.id ≠ x.id
  | [], s, h, hi => ⟨Lf.refl _, fun x _ hb => (by cases hb)⟩
  | n :: r, s, h, hi => by
    have h1 := Lf.fl hi n
    obtain ⟨i1, i2⟩ := Lf.rdG r (h.flS n) (flS_inv hi n)
    unfold Cb.rdG
    rw [if_pos (h.flE hi n)]
    refine ⟨h1.trans i1, fun x hx hb hw y hy e => ?_⟩
    by_cases hq : x.blk = n
    · subst hq
      exact fl_gone h hi hx hw y (i1.sub y hy) e
    · have hyx := i1.sub y hy
      have hyf := h1.sub y hyx
      have hwy : waitsS (Cb.flS s n).xs y.id = [] := by
        cases hz : waitsS (Cb.flS s n).xs y.id with
        | nil => rfl
        | cons m t => have := h1.waits y hyx m (by rw [hz]; exact List.mem_cons_self); rw [e, hw] at this; cases this
      have hyb : y = x := by
        obtain ⟨j, hj, rfl⟩ := List.mem_iff_getElem.1 hyf
        obtain ⟨k, hk, rfl⟩ := List.mem_iff_getElem.1 hx
        have hd := (mayF_iff.1 hi.may).1
        rw [List.pairwise_iff_getElem] at hd
        rcases Nat.lt_trichotomy j k with q | q | q
        · have := hd j k (by simpa using hj) (by simpa using hk) q; simp at this; omega
        · subst q; rfl
        · have := hd k j (by simpa using hk) (by simpa using hj) q; simp at this; omega
      subst hyb
      exact i2 y hyx ((List.mem_cons.1 hb).resolve_left hq) hwy y hy rfl
theorem mxG_geF {g : Int → Int} : ∀ {W : List Int} {a : Int}, a ≤ W.foldl (fun m n => max m (g n)) a ∧ ∀ m ∈ W, g m ≤ W.foldl (fun m n => max m (g n)) a
  | [], a => ⟨Int.le_refl _, fun m hm => (by cases hm)⟩
  | x :: W, a => by
    obtain ⟨h1, h2⟩ := mxG_geF (g := g) (W := W) (a := max a (g x))
    rw [List.foldl_cons]
    refine ⟨by omega, fun m hm => ?_⟩
    rcases List.mem_cons.1 hm with rfl | hm
    · omega
    · exact h2 m hm
theorem dep_one {xs : List Chg} (hm : mayF 0 xs = true) {k : Nat} (hk : k < xs.length) : 1 ≤ depS xs xs[k].id := by
  rw [depS_rec hm hk]
  have := (mxG_geF (g := depS xs) (W := waitsS xs xs[k].id) (a := 0)).1
  unfold mxG
  omega
theorem dep_less {xs ys : List Chg} (hm : mayF 0 xs = true) (hm' : mayF 0 ys = true) (hl : Lf xs ys) (hw : ∀ x ∈ ys, waitsS xs x.id ≠ []) : ∀ (n k : Nat) (hk : k < ys.length), k < n → depS ys ys[k].id + 1 ≤ depS xs ys[k].id
  | 0, k, hk, h => by omega
  | n + 1, k, hk, h => by
    have hx := hl.sub _ (List.getElem_mem hk)
    have hne := hw _ (List.getElem_mem hk)
    have hws := hl.waits _ (List.getElem_mem hk)
    rw [depS_rec hm' hk]
    obtain ⟨i, hi, he⟩ := List.mem_iff_getElem.1 hx
    have hr := depS_rec hm hi
    have hwl := fun m h => waits_lt hm hi (n := m) h
    rw [he] at hr hwl
    rw [hr]
    have h1 : ∀ m ∈ waitsS xs ys[k].id, 1 ≤ depS xs m ∧ depS xs m ≤ mxG (depS xs) (waitsS xs ys[k].id) := fun m hmm => by
      refine ⟨?_, (mxG_geF (g := depS xs) (a := 0)).2 m hmm⟩
      obtain ⟨j, hj, _, rfl⟩ := hwl m hmm
      exact dep_one hm hj
    have h2 : 1 ≤ mxG (depS xs) (waitsS xs ys[k].id) := by
      cases hz : waitsS xs ys[k].id with
      | nil => exact absurd hz hne
      | cons m r => rw [← hz]; have := h1 m (by rw [hz]; exact List.mem_cons_self); omega
    have h3 := (mxG_foldb (g := depS ys) (W := waitsS ys ys[k].id) (a := 0) (c := mxG (depS xs) (waitsS xs ys[k].id) - 1) (by omega) (by omega) (fun m hmm => by
      obtain ⟨j, hj, hjk, rfl⟩ := waits_lt hm' hk hmm
      have ih := dep_less hm hm' hl hw n j hj (by omega)
      have := (h1 _ (hws _ hmm)).2
      omega)).2
    have h4 : mxG (depS ys) (waitsS ys ys[k].id) ≤ mxG (depS xs) (waitsS xs ys[k].id) - 1 := h3
    omega
theorem rdG_may : ∀ (l : List Int) {s : St} (hi : Inv s), mayF 0 (rdG l s).1.xs = true
  | [], s, hi => hi.may
  | n :: r, s, hi => by
    unfold Cb.rdG
    split
    · exact rdG_may r (flS_inv hi n)
    · exact (flS_inv hi n).may
theorem rdS_may {s : St} (h : Lit s) (hi : Inv s) : mayF 0 (rdS s).xs = true := rdG_may _ hi
theorem deep_less {s : St} (h : Lit s) (hi : Inv s) (hp : 0 < dpS s) : dpS (rdS s) < dpS s := by
  obtain ⟨hl, hg⟩ := Lf.rdG (dty s) h hi
  refine mxD_lt (rdS s).xs (rdS s).xs 0 _ hp fun x hx => ?_
  have hw : ∀ y ∈ (rdS s).xs, waitsS s.xs y.id ≠ [] := fun y hy e =>
    hg y (hl.sub y hy) (((blkP_spec (xs := s.xs) List.Pairwise.nil).2 _).2 (.inr ⟨y, hl.sub y hy, rfl⟩)) e y hy rfl
  obtain ⟨k, hk, rfl⟩ := List.mem_iff_getElem.1 hx
  have h1 := dep_less hi.may (rdS_may h hi) hl hw (k + 1) k hk (by omega)
  have h2 := (mxD_ge s.xs s.xs 0).2 _ (hl.sub _ hx)
  unfold dpS
  omega
end Go.Proofs.Ytbamhiegabeicaa.Cb

/- SchedDeep. -/
namespace Go.Proofs.Ytbamhiegabeicaa.Cb
open Go.RowKit Go.Proofs.Ytbamhiegabeicaa.Mem Go.Proofs.Ytbamhiegabeicaa.Open Go.Proofs.Ytbamhiegabeicaa.Kind Go.Proofs.Ytbamhiegabeicaa.Blk Go.Proofs.Ytbamhiegabeicaa.App Go.Proofs.Ytbamhiegabeicaa.Pat Go.Proofs.Ytbamhiegabeicaa.Rd
open Go.Proofs.Ytbamhiegabeicaa.Db (Dv Dev Asd Bks)
set_option linter.unusedVariables false
set_option linter.unusedSimpArgs false
set_option maxHeartbeats 1000000 in
set_option maxRecDepth 100000 in
theorem deep_walk13 (A : Option Addr) (n : Nat) (xs : List Chg) (w : World) (hx : Chs w A xs) (hA : A = none → n = 0) :
    Calls Try.prog 3 #[.slice A xs.length n] w fun e w' => e = .returned (.bool true) ∧ Below w.heap.size w w' := by
  have CM := Lib.hid (muchT_any A n xs 16 w hx (by omega))
  have hl9 : xs.length ≤ 9223372036854775807 := hx.2.1
  cases hm : muchT xs 16 with
  | true =>
    rw [hm] at CM
    go_enter Try.func3, Try.ntmps3
    go_wp2_with fail
    refine CM.out.mono ?_
    rintro e w1 ⟨rfl, hb1⟩
    go_wp2_with fail
    refine (works13 _).mono ?_
    rintro e w2 ⟨rfl, hb2⟩
    go_wp2
    go_ret
    exact ⟨rfl, hb1.trans (hb2.mono hb1.size)⟩
  | false =>
    obtain ⟨hl16, hsm⟩ := muchT_no hm
    have CB := Lib.hid (fun w' h' => Begin_any A n xs w' h' (by omega) hsm)
    rw [hm] at CM
    go_enter Try.func3, Try.ntmps3
    go_wp2_with fail
    refine CM.out.mono ?_
    rintro e w1 ⟨rfl, hb1⟩
    have HB1 := Lib.hid hb1
    have C1 := Lib.hid (CB.out w1 (hx.below hb1))
    clear hb1 CM CB
    go_wp2_with fail
    refine C1.out.mono ?_
    rintro e w2 ⟨c, d, g, b, N, X, v, S, ⟨AB, cB, AL, cL, AK, cK⟩, rfl, hc2, hi2, hrd, hls, hbd, -, -, hb2⟩
    have hs1 := HB1.out.size
    have hs2 := hb2.size
    have hb3 : Below w2.heap.size w2 (w2.alloc (.cells (rcP ⟨AB, cB, AL, cL, AK, cK⟩ S) 31)) := bb0 _ _
    have HC3 := Lib.hid (hc2.below hb3)
    have HB3 := Lib.hid ((HB1.out.trans (hb2.mono hs1)).trans (hb3.mono (by omega)))
    have HBD : Hid (Bd w.heap.size c d g b N) := Lib.hid ⟨by have := hbd.c; omega, by have := hbd.d; omega, by have := hbd.g; omega, by have := hbd.b; omega, fun k hk => hbd.n k (by omega)⟩
    have CU := Lib.hid (Db.up_any d g S.dv _ HC3.out.dev)
    have HI2 := Lib.hid hi2
    clear hc2 hi2 hbd hb2 hb3 C1
    go_wp2_with fail
    refine CU.out.mono ?_
    rintro e w5 ⟨rfl, hd5, ha5⟩
    have HC5 := Lib.hid (HC3.out.dev' ha5 hd5 (Nat.le_refl _) (fun _ => rfl))
    have HB5 := Lib.hid (Tn.bel HB3.out (HC3.out.tnd ha5) HBD.out)
    have HI5 := Lib.hid (dv_inv HI2.out (dv := { S.dv with fuse := 0, lit := false, off := false }) rfl rfl rfl (up_ok HI2.out.ok))
    have HL5 : Hid (Lit { S with dv := { S.dv with fuse := 0, lit := false, off := false } }) := Lib.hid ⟨rfl, rfl⟩
    clear hd5 ha5 CU HC3 HB3 HI2 hrd hls
    obtain ⟨s, hs⟩ : ∃ s, { S with dv := { S.dv with fuse := 0, lit := false, off := false } } = s := ⟨_, rfl⟩
    rw [hs] at HC5 HI5 HL5
    clear hs
    have CD := Lib.hid (Deep_any c d g b N v s w5 HC5.out HI5.out)
    have hnn := dpS_nonneg s
    go_wp2_with fail
    refine CD.out.mono ?_
    rintro e w6 ⟨rfl, hb6⟩
    have HC6 := Lib.hid (HC5.out.below hb6)
    have HB6 := Lib.hid (HB5.out.trans (hb6.mono HB5.out.size))
    clear hb6 CD HC5 HB5
    obtain ⟨D, hD⟩ : ∃ D : Nat, dpS s = (D : Int) := ⟨(dpS s).toNat, by omega⟩
    have hD1 : D ≤ 1000 := by have := dpS_le HI5.out; omega
    rw [hD]
    go_wp2_with fail
    go_loopw [7] (fun i wr => ∃ (k : Nat) (v' : Value) (S' : St), k ≤ D ∧ i = .int .i64 k ∧ Ca wr c d g b N v' S' ∧ Hid (Inv S') ∧ Hid (Lit S') ∧ Hid (dpS S' ≤ (D : Int) - k) ∧ Below w.heap.size w wr) (fun i _ => D - (intOf i).toNat)
    case atStart => exact ⟨0, v, s, by omega, rfl, HC6.out, HI5, HL5, Lib.hid (by omega), HB6.out⟩
    case round =>
      obtain ⟨k, v', S', hk, rfl, hc, HIS, HLS, HDS, hbr⟩ := hrel
      by_cases hlt : k < D
      · have hnn' := dpS_nonneg S'
        have hE : rdE S' = 0 := (Lit.rdG _ HLS.out HIS.out).1
        have HL2 : Hid (Lit (rdS S')) := Lib.hid (Lit.rdG _ HLS.out HIS.out).2
        have HI2 := Lib.hid (rdS_inv HIS.out)
        have HD2 : Hid (dpS (rdS S') ≤ (D : Int) - ((k + 1 : Nat) : Int)) := Lib.hid (by
          have h1 := HDS.out
          by_cases q : 0 < dpS S'
          · have := deep_less HLS.out HIS.out q; omega
          · have hnil := dpS_nil HIS.out (by omega)
            have : rdS S' = S' := by unfold rdS; rw [show dty S' = [] from by unfold dty; rw [hnil]; rfl]; rfl
            rw [this]; omega)
        have HQ : Hid (0 < dpS S' → dpS (rdS S') < dpS S') := Lib.hid (deep_less HLS.out HIS.out)
        have CDa := Lib.hid (Deep_any c d g b N v' S' wr hc HIS.out)
        have HC := Lib.hid hc
        have HBR := Lib.hid hbr
        clear hc hbr
        go_wp2_with fail
        refine CDa.out.mono ?_
        rintro e w7 ⟨rfl, hb7⟩
        have CR := Round_any c d g b N v' S' w7 (HC.out.below hb7) HIS.out
        rw [hE] at CR
        have HCR := Lib.hid CR
        have HB7 := Lib.hid (HBR.out.trans (hb7.mono HBR.out.size))
        clear hb7 CDa CR hE HC HBR
        generalize hd1 : dpS S' = d1 at *
        generalize rdS S' = S2 at *
        go_wp2_with fail
        refine HCR.out.mono ?_
        rintro e w8 ⟨v8, rfl, hc8, ht8⟩
        have HB8 := Lib.hid (Tn.bel HB7.out ht8 HBD.out)
        have CDb := Lib.hid (Deep_any c d g b N v8 S2 w8 hc8 HI2.out)
        have HC8 := Lib.hid hc8
        clear hc8 ht8 HCR HB7 HIS HLS HDS hd1
        by_cases q : 0 < d1
        · have hq := HQ.out q
          generalize hd2 : dpS S2 = d2 at *
          have hle : ¬ d1 ≤ d2 := by omega
          go_wp2_with fail
          refine CDb.out.mono ?_
          rintro e w9 ⟨rfl, hb9⟩
          have HC9 := Lib.hid (HC8.out.below hb9)
          have HB9 := Lib.hid (HB8.out.trans (hb9.mono HB8.out.size))
          clear hb9 CDb HC8
          go_wp2
          go_roundw
          case rel => exact ⟨k + 1, v8, S2, by omega, by go_num, HC9.out, HI2, HL2, hd2 ▸ HD2, HB9.out⟩
          case measure => simp [intOf]; omega
        · clear CDb
          go_wp2
          go_roundw
          case rel => exact ⟨k + 1, v8, S2, by omega, by go_num, HC8.out, HI2, HL2, HD2, HB8.out⟩
          case measure => simp [intOf]; omega
      · obtain rfl : k = D := by omega
        have hnil := dpS_nil HIS.out (by have := HDS.out; omega)
        have CL := Left_any c d g b N v' S' wr hc HIS.out
        rw [hnil] at CL
        have HCL := Lib.hid CL
        have HBR := Lib.hid hbr
        clear hc hbr CL
        go_wp2_with fail
        refine HCL.out.mono ?_
        rintro e w7 ⟨v7, rfl, ho7, hb7⟩
        obtain ⟨A7, c7, rfl, -, -, -, -⟩ := OwnK.rw_ ho7
        have HB7 := Lib.hid (HBR.out.trans (hb7.mono HBR.out.size))
        clear ho7 hb7 HCL
        go_wp2_with (refine (works13 _).mono ?_; rintro e w9 ⟨rfl, hb9⟩)
        go_ret
        exact ⟨rfl, HB7.out.trans (hb9.mono HB7.out.size)⟩
end Go.Proofs.Ytbamhiegabeicaa.Cb


namespace Go.Proofs.Ytbamhiegabeicaa.Mem
open Go.RowKit
section
theorem u8_nats (xs : List Int) (h : ∀ x ∈ xs, (Lit.int .u8 x).wf = true) : ∃ l : List Nat, xs = l.map (fun n : Nat => (n : Int)) ∧ ∀ x ∈ l, x < 256 := by
  have hb : ∀ x ∈ xs, 0 ≤ x ∧ x ≤ 255 := by
    intro x hx
    have := h x hx
    simp [Lit.wf, IntKind.min, IntKind.max, IntKind.signed, IntKind.bits] at this
    omega
  refine ⟨xs.map Int.toNat, ?_, ?_⟩
  · rw [List.map_map]
    conv => lhs; rw [← List.map_id xs]
    apply List.map_congr_left
    intro x hx
    have := hb x hx
    simp
    omega
  · intro x hx
    obtain ⟨y, hy, rfl⟩ := List.mem_map.1 hx
    have := hb y hy
    omega
end
end Go.Proofs.Ytbamhiegabeicaa.Mem
namespace Go.Proofs.Ytbamhiegabeicaa.Kind
open Go.RowKit Go.Proofs.Ytbamhiegabeicaa.Mem Go.Proofs.Ytbamhiegabeicaa.Open
open Go.ChangeShapes Go.WideShapes Go.ChangeAt
section
variable {H : Type} {enc : TypeId × Value → H} {P : Program} {w : World}
theorem opens_int {t : TypeId} {ik : IntKind} (ht : P.underlying t = some (.int ik)) : Opens H enc P w (kInt ik) t := fun fuel cs y h => by
  obtain ⟨z, h1, _, h3⟩ := DataW.trod_int ht h
  exact ⟨z, h1, h3⟩
end
end Go.Proofs.Ytbamhiegabeicaa.Kind
namespace Go.Proofs.Ytbamhiegabeicaa.Kind
open Go.RowKit Go.Proofs.Ytbamhiegabeicaa.Mem Go.Proofs.Ytbamhiegabeicaa.Open
open Go.ChangeShapes Go.WideShapes Go.ChangeAt
section
variable {H : Type} {enc : TypeId × Value → H} {P : Program} {w : World}
theorem opens_byte {t : TypeId} (ht : P.underlying t = some (.int .u8)) : Opens H enc P w kByte t := fun fuel cs y h => by
  obtain ⟨z, h1, _, h3⟩ := DataW.trod_int ht h
  obtain ⟨l, hl, hb⟩ := u8_nats [z] (by simpa using h3)
  match l, hl, hb with
  | [m], hl, hb =>
    simp at hl
    subst hl
    exact ⟨m, h1, by simpa using hb⟩
  | [], hl, _ => simp at hl
  | _ :: _ :: _, hl, _ => simp at hl
end
end Go.Proofs.Ytbamhiegabeicaa.Kind
namespace Go.Proofs.Ytbamhiegabeicaa.Kind
open Go.RowKit Go.Proofs.Ytbamhiegabeicaa.Mem Go.Proofs.Ytbamhiegabeicaa.Open
open Go.ChangeShapes Go.WideShapes Go.ChangeAt
section
variable {H : Type} {enc : TypeId × Value → H} {P : Program} {w : World}
theorem cells?_spot {b : Nat} {a : Addr} {n : Nat} {cs : List Value} (h : w.cells? b a n = some cs) (hn : 0 < n) : a.spot = none := by
  obtain ⟨_, hl, hat⟩ := World.cells?_some h
  obtain ⟨v, hv⟩ : ∃ v, cs[0]? = some v := ⟨_, List.getElem?_eq_getElem (by omega)⟩
  have h1 := hat 0 hn
  rw [hv, Addr.add_zero'] at h1
  unfold World.cell? at h1
  split at h1
  · split at h1
    · cases h1
    · rename_i hs
      cases hq : a.spot with
      | none => rfl
      | some q => rw [hq] at hs; simp at hs
  · cases h1
end
end Go.Proofs.Ytbamhiegabeicaa.Kind
namespace Go.Proofs.Ytbamhiegabeicaa.Kind
open Go.RowKit Go.Proofs.Ytbamhiegabeicaa.Mem Go.Proofs.Ytbamhiegabeicaa.Open
open Go.ChangeShapes Go.WideShapes Go.ChangeAt
section
variable {H : Type} {enc : TypeId × Value → H} {P : Program} {w : World}
theorem opens_slice {α : Type} {k : Kd α} {t e : TypeId} (ht : P.underlying t = some (.slice e)) (he : Opens H enc P w k e) (hc : P.cellsOf e = k.sz) (hpos : 0 < k.sz) : Opens H enc P w (kSlice k) t := fun fuel cs y h => by
  rcases DataW.trod_slice ht h with ⟨rfl, _⟩ | ⟨a, len, cap, elems, rest, m, _, rfl, _, _, hl, hm, _, hel, _, _⟩
  · exact ⟨[], none, 0, rfl, by simp, by simp, fun _ => rfl, Rw.nil _ _ _ _⟩
  · simp only [maxLen] at hm
    have hsp' : 0 < len → a.spot = none := fun h0 => by
      have h1 := hel 0 h0
      obtain ⟨ys, hys⟩ : ∃ ys, elems[0]? = some ys := ⟨_, List.getElem?_eq_getElem (by omega)⟩
      rw [hys, Nat.zero_mul, Addr.add_zero'] at h1
      obtain ⟨cs, h2, h3⟩ := Option.bind_eq_some_iff.1 h1
      exact cells?_spot h2 (by omega)
    have each : ∀ i, i < len → ∃ x cs, k.K w (All w) x cs ∧ a.spot = none ∧ a.block < w.heap.size ∧ ∀ j v, cs[j]? = some v → w.cell? ⟨a.block, a.off + i * k.sz + j, none⟩ = some v := by
      intro i hi
      have h1 := hel i hi
      obtain ⟨ys, hys⟩ : ∃ ys, elems[i]? = some ys := ⟨_, List.getElem?_eq_getElem (by omega)⟩
      rw [hys] at h1
      obtain ⟨cs, h2, h3⟩ := Option.bind_eq_some_iff.1 h1
      obtain ⟨x, hx⟩ := he _ _ _ h3
      have hsp' : a.spot = none := hsp' (by omega)
      obtain ⟨_, hcl, hat⟩ := World.cells?_some h2
      have hcell : ∀ j v, cs[j]? = some v → w.cell? ⟨a.block, a.off + i * k.sz + j, none⟩ = some v := by
        intro j v hv
        have hj : j < P.cellsOf e := by rw [← hcl]; exact (List.getElem?_eq_some_iff.1 hv).1
        have := hat j hj
        rw [hv] at this
        have ea : (a.add (i * P.cellsOf e)).add j = ⟨a.block, a.off + i * k.sz + j, none⟩ := by
          rw [hc]
          obtain ⟨b, o, s⟩ := a
          simp only at hsp'
          subst hsp'
          rw [addr_add, addr_add]
        rwa [ea] at this
      refine ⟨x, cs, hx, hsp', ?_, hcell⟩
      obtain ⟨v, hv⟩ : ∃ v, cs[0]? = some v := ⟨_, List.getElem?_eq_getElem (by rw [hcl, hc]; exact hpos)⟩
      exact World.block_lt_of_cell? w ⟨a.block, a.off + i * k.sz + 0, none⟩ (hcell 0 v hv)
    have build : ∀ m, m ≤ len → ∃ xs : List α, xs.length = m ∧ ∀ i x, xs[i]? = some x → ∃ cs, k.K w (All w) x cs ∧ ∀ j v, cs[j]? = some v → w.cell? ⟨a.block, a.off + i * k.sz + j, none⟩ = some v := by
      intro m
      induction m with
      | zero => intro _; exact ⟨[], rfl, fun i x hx => by simp at hx⟩
      | succ m ih =>
        intro hm
        obtain ⟨xs, hxl, hxs⟩ := ih (by omega)
        obtain ⟨x, cs, h1, _, _, h2⟩ := each m (by omega)
        refine ⟨xs ++ [x], by simp [hxl], fun i y hy => ?_⟩
        by_cases hi : i < m
        · rw [List.getElem?_append_left (by omega)] at hy
          exact hxs i y hy
        · rw [List.getElem?_append_right (by omega)] at hy
          have : i = m := by
            have := (List.getElem?_eq_some_iff.1 hy).1
            simp at this; omega
          subst this
          rw [hxl, Nat.sub_self] at hy
          simp at hy
          subst hy
          exact ⟨cs, h1, h2⟩
    obtain ⟨xs, hxl, hxs⟩ := build len (Nat.le_refl _)
    refine ⟨xs, some a, cap, by rw [hxl], by omega, hm, fun h => (by cases h), hxl ▸ rfl, by show xs.length ≤ 9223372036854775807; omega, ?_⟩
    by_cases h0 : len = 0
    · exact .inl (by omega)
    · obtain ⟨_, _, _, hsp, hlt, _⟩ := each 0 (by omega)
      refine .inr ⟨a.block, a.off, ?_, hlt, hlt, hxs⟩
      obtain ⟨b, o, s⟩ := a
      simp only at hsp
      subst hsp
      rfl
end
end Go.Proofs.Ytbamhiegabeicaa.Kind
namespace Go.Proofs.Ytbamhiegabeicaa.Kind
open Go.RowKit Go.Proofs.Ytbamhiegabeicaa.Mem Go.Proofs.Ytbamhiegabeicaa.Open
open Go.ChangeShapes Go.WideShapes Go.ChangeAt
section
variable {H : Type} {enc : TypeId × Value → H} {P : Program} {w : World} {α β : Type} {k : Kd α}
theorem open_slice {t : TypeId} {A : Option Addr} {n c : Nat} {d : DataW H} {p : List MemPlace} (h : DataW.Trod enc P w 0 (fun _ => true) true t (.slice A n c) d p) (ho : Opens H enc P w (kSlice k) t) :
    ∃ xs : List α, n = xs.length ∧ xs.length ≤ c ∧ c ≤ M63 ∧ (A = none → c = 0) ∧ Rw k w (All w) A xs.length xs := by
  obtain ⟨fuel, hf⟩ := h
  obtain ⟨xs, A', c', e, h1, h2, h3, h4⟩ := ho _ _ _ hf
  simp only [Value.cells, List.toList_toArray, List.cons.injEq, Value.slice.injEq, and_true] at e
  obtain ⟨rfl, rfl, rfl⟩ := e
  exact ⟨xs, rfl, h1, h2, h3, h4⟩
end
end Go.Proofs.Ytbamhiegabeicaa.Kind
namespace Go.Proofs.Ytbamhiegabeicaa.Kind
open Go.RowKit Go.Proofs.Ytbamhiegabeicaa.Mem Go.Proofs.Ytbamhiegabeicaa.Open
open Go.ChangeShapes Go.WideShapes Go.ChangeAt
section
variable {H : Type} {enc : TypeId × Value → H} {P : Program} {w : World} {α β : Type} {k : Kd α}
/-- A struct of two fields, one behind the other. -/
theorem opens_pair {a : Kd α} {b : Kd β} {t : TypeId} {f0 f1 : Field} (ht : P.underlying t = some (.struct #[f0, f1])) (ha : Opens H enc P w a f0.type) (hb : Opens H enc P w b f1.type)
    (o0 : f0.offset = 0) (o1 : f1.offset = P.cellsOf f0.type) (hc : P.cellsOf t = P.cellsOf f0.type + P.cellsOf f1.type) : Opens H enc P w (kPair a b) t := fun fuel cs y h => by
  obtain ⟨y0, y1, n, _, hl, h0, h1⟩ := trod_struct2 ht h
  obtain ⟨x0, hx0⟩ := ha _ _ _ h0
  obtain ⟨x1, hx1⟩ := hb _ _ _ h1
  refine ⟨(x0, x1), _, _, ?_, hx0, hx1⟩
  rw [o0, o1, List.drop_zero]
  have : (cs.drop (P.cellsOf f0.type)).take (P.cellsOf f1.type) = cs.drop (P.cellsOf f0.type) := List.take_of_length_le (by rw [List.length_drop]; omega)
  rw [this, List.take_append_drop]
end
end Go.Proofs.Ytbamhiegabeicaa.Kind
namespace Go.Proofs.Ytbamhiegabeicaa.Kind
open Go.RowKit Go.Proofs.Ytbamhiegabeicaa.Mem Go.Proofs.Ytbamhiegabeicaa.Open
open Go.ChangeShapes Go.WideShapes Go.ChangeAt
section
variable {H : Type} {enc : TypeId × Value → H} {P : Program} {w : World} {α β : Type} {k : Kd α}
theorem flds_one {f : Field} {off : Nat} (ho : f.offset = off) (h : Opens H enc P w k f.type) (hc : P.cellsOf f.type = k.sz) : Flds H enc P w k [f] off := fun n cs hf => by
  obtain ⟨y, hy⟩ := hf f List.mem_cons_self
  obtain ⟨x, hx⟩ := h _ _ _ hy
  rw [ho, hc] at hx
  exact ⟨x, hx⟩
end
end Go.Proofs.Ytbamhiegabeicaa.Kind
namespace Go.Proofs.Ytbamhiegabeicaa.Kind
open Go.RowKit Go.Proofs.Ytbamhiegabeicaa.Mem Go.Proofs.Ytbamhiegabeicaa.Open
open Go.ChangeShapes Go.WideShapes Go.ChangeAt
section
variable {H : Type} {enc : TypeId × Value → H} {P : Program} {w : World} {α β : Type} {k : Kd α}
theorem flds_cons {a : Kd α} {b : Kd β} {f : Field} {fs : List Field} {off : Nat} (ho : f.offset = off) (h : Opens H enc P w a f.type) (hc : P.cellsOf f.type = a.sz) (hs : Flds H enc P w b fs (off + a.sz)) : Flds H enc P w (kPair a b) (f :: fs) off := fun n cs hf => by
  obtain ⟨y, hy⟩ := hf f List.mem_cons_self
  obtain ⟨x, hx⟩ := h _ _ _ hy
  obtain ⟨z, hz⟩ := hs n cs (fun g hg => hf g (List.mem_cons_of_mem _ hg))
  rw [ho, hc] at hx
  refine ⟨(x, z), _, _, ?_, hx, hz⟩
  show (cs.drop off).take (a.sz + b.sz) = _
  rw [List.take_add, List.drop_drop]
end
end Go.Proofs.Ytbamhiegabeicaa.Kind
namespace Go.Proofs.Ytbamhiegabeicaa.Kind
open Go.RowKit Go.Proofs.Ytbamhiegabeicaa.Mem Go.Proofs.Ytbamhiegabeicaa.Open
open Go.ChangeShapes Go.WideShapes Go.ChangeAt
section
variable {H : Type} {enc : TypeId × Value → H} {P : Program} {w : World} {α β : Type} {k : Kd α}
theorem opens_struct {t : TypeId} {fs : Array Field} (ht : P.underlying t = some (.struct fs)) (h : Flds H enc P w k fs.toList 0) (hc : P.cellsOf t = k.sz) : Opens H enc P w k t := fun fuel cs y hy => by
  obtain ⟨xs, n, _, _, hl, hlen, hf⟩ := DataW.trod_struct ht hy
  obtain ⟨x, hx⟩ := h n cs (fun f hm => by
    obtain ⟨i, hi, rfl⟩ := List.mem_iff_getElem.1 hm
    have hi2 : i < fs.size := by simpa using hi
    have := hf i fs.toList[i] (by simp [hi2])
    rw [this]
    exact ⟨_, List.getElem?_eq_getElem (by omega)⟩)
  rw [List.drop_zero, ← hc, ← hl, List.take_length] at hx
  exact ⟨x, hx⟩
end
end Go.Proofs.Ytbamhiegabeicaa.Kind
namespace Go.Proofs.Ytbamhiegabeicaa.Pat
open Go.RowKit Go.Proofs.Ytbamhiegabeicaa.Mem Go.Proofs.Ytbamhiegabeicaa.Open Go.Proofs.Ytbamhiegabeicaa.Kind Go.Proofs.Ytbamhiegabeicaa.Blk
section
theorem opens_rpat {H : Type} {enc : TypeId × Value → H} {w : World} : Opens H enc Try.prog w kPat 53 :=
  opens_pair Try.underlying53 (opens_int Try.underlying3) (opens_slice Try.underlying51 (opens_byte Try.underlying5) (by kernel_rfl) (by decide)) rfl (by kernel_rfl) (by kernel_rfl)
end
end Go.Proofs.Ytbamhiegabeicaa.Pat
namespace Go.Proofs.Ytbamhiegabeicaa.Cb
open Go.RowKit Go.Proofs.Ytbamhiegabeicaa.Mem Go.Proofs.Ytbamhiegabeicaa.Open Go.Proofs.Ytbamhiegabeicaa.Kind Go.Proofs.Ytbamhiegabeicaa.Blk Go.Proofs.Ytbamhiegabeicaa.App Go.Proofs.Ytbamhiegabeicaa.Pat Go.Proofs.Ytbamhiegabeicaa.Rd
section
/-- A step's cells are a change's: what is done, where, the patch, the needs. -/
theorem opens_stp {H : Type} {enc : TypeId × Value → H} {w : World} : Opens H enc Try.prog w kChg 56 := by
  have h : Opens H enc Try.prog w (kPair (kInt .i64) (kPair (kInt .i64) (kPair kPat (kSlice (kInt .i64))))) 56 :=
    opens_struct Try.underlying56 (flds_cons rfl (opens_int Try.underlying3) (by kernel_rfl) (flds_cons rfl (opens_int Try.underlying3) (by kernel_rfl) (flds_cons rfl opens_rpat (by kernel_rfl) (flds_one rfl (opens_slice Try.underlying54 (opens_int Try.underlying3) (by kernel_rfl) (by decide)) (by kernel_rfl))))) (by kernel_rfl)
  intro fuel cs y hy
  obtain ⟨⟨x1, x2, ⟨x3, x4⟩, x5⟩, hx⟩ := h fuel cs y hy
  exact ⟨⟨x1, x2, x3, x4, x5⟩, hx⟩
end
end Go.Proofs.Ytbamhiegabeicaa.Cb
namespace Go.Proofs.Ytbamhiegabeicaa.Cb
open Go.RowKit Go.Proofs.Ytbamhiegabeicaa.Mem Go.Proofs.Ytbamhiegabeicaa.Open Go.Proofs.Ytbamhiegabeicaa.Kind Go.Proofs.Ytbamhiegabeicaa.Blk Go.Proofs.Ytbamhiegabeicaa.App Go.Proofs.Ytbamhiegabeicaa.Pat Go.Proofs.Ytbamhiegabeicaa.Rd
section
theorem opens_stps {H : Type} {enc : TypeId × Value → H} {w : World} : Opens H enc Try.prog w (kSlice kChg) 22 :=
  opens_slice Try.underlying22 opens_stp (by kernel_rfl) (by decide)
end
end Go.Proofs.Ytbamhiegabeicaa.Cb
