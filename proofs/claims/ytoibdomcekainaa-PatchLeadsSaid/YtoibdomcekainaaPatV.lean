/- Lists of patches: how many bytes are in any of them. -/
import Derived.Test.YtoibdomcekainaaPatR
namespace Go.Proofs.Ytoibdomcekainaa.Pat
open Go.RowKit Go.Proofs.Ytoibdomcekainaa.Mem Go.Proofs.Ytoibdomcekainaa.Open Go.Proofs.Ytoibdomcekainaa.Kind Go.Proofs.Ytoibdomcekainaa.Blk Go.Proofs.Ytoibdomcekainaa.App
set_option linter.unusedVariables false
set_option linter.unusedSimpArgs false
/-- Truths as cells. -/
def bls (l : List Bool) : Array Value := (l.map Value.bool).toArray
theorem bls_size (l : List Bool) : (bls l).size = l.length := by simp [bls]
theorem bls_get (l : List Bool) (i : Nat) (hi : i < l.length) : (bls l)[i]? = some (.bool l[i]) := by simp [bls, hi]
theorem bls_set (l : List Bool) (i : Nat) (n : Bool) : (bls l).setIfInBounds i (.bool n) = bls (l.set i n) := by
  apply Array.ext'
  simp [bls, List.map_set]
def zbls : List Bool := List.replicate 256 false
theorem zbls_length : zbls.length = 256 := by unfold zbls; rw [List.length_replicate]
theorem blsInfo : (Try.prog.info? 93).map (fun i => (i.zero, i.size)) = some (some (.agg (bls zbls)), 256) := by kernel_rfl
theorem blsZero : ∀ w, (zeroValue 93).run Try.prog w = .ok (.agg (bls zbls)) w := (zero_of_info blsInfo).1
/-- The bytes q .. q+m are marked. -/
def markK (S : List Bool) (q : Nat) : Nat → List Bool
  | 0 => S
  | m + 1 => (markK S q m).set (q + m) true
def markP (S : List Bool) (p : Pt) : List Bool := if rightN p.1 p.2.length then markK S p.1.toNat p.2.length else S
def markL (S : List Bool) : List Pt → List Bool
  | [] => S
  | p :: xs => markL (markP S p) xs
theorem markK_length (S : List Bool) (q m : Nat) : (markK S q m).length = S.length := by
  induction m with
  | zero => rfl
  | succ m ih => rw [markK, List.length_set, ih]
theorem markP_length (S : List Bool) (p : Pt) : (markP S p).length = S.length := by unfold markP; split <;> first | rfl | exact markK_length _ _ _
theorem markL_length (S : List Bool) (xs : List Pt) : (markL S xs).length = S.length := by
  induction xs generalizing S with
  | nil => rfl
  | cons p xs ih => exact (ih _).trans (markP_length _ _)
theorem markL_concat (S : List Bool) (xs : List Pt) (p : Pt) : markL S (xs ++ [p]) = markP (markL S xs) p := by
  induction xs generalizing S with
  | nil => rfl
  | cons q xs ih => exact ih _
theorem markK_get (S : List Bool) (q m i : Nat) (hi : i < S.length) : (markK S q m)[i]? = some (S.getD i false || decide (q ≤ i ∧ i < q + m)) := by
  have hd : S[i]? = some (S.getD i false) := by rw [List.getD_eq_getElem?_getD, List.getElem?_eq_getElem hi]; rfl
  induction m with
  | zero => rw [markK, hd, decide_eq_false (by omega), Bool.or_false]
  | succ m ih =>
    rw [markK, List.getElem?_set, markK_length]
    by_cases h : q + m = i
    · rw [if_pos h, if_pos (by omega), decide_eq_true (by omega), Bool.or_true]
    · rw [if_neg h, ih]
      congr 2
      exact decide_eq_decide.2 (by omega)
theorem markP_get (S : List Bool) (p : Pt) (i : Nat) (hi : i < S.length) : (markP S p)[i]? = some (S.getD i false || inB p.1 p.2.length i) := by
  unfold markP inB
  cases h : rightN p.1 p.2.length with
  | false => rw [if_neg (by simp), Bool.false_and, Bool.or_false, List.getD_eq_getElem?_getD, List.getElem?_eq_getElem hi]; rfl
  | true =>
    have hr := (right_iff _ _).1 h
    rw [if_pos rfl, markK_get _ _ _ _ hi, Bool.true_and]
    congr 2
    exact decide_eq_decide.2 (by omega)
def covB (xs : List Pt) (i : Nat) : Bool := xs.any fun p => inB p.1 p.2.length i
theorem markL_get (S : List Bool) (xs : List Pt) (i : Nat) (hi : i < S.length) : (markL S xs)[i]? = some (S.getD i false || covB xs i) := by
  induction xs generalizing S with
  | nil => rw [markL, covB, List.any_nil, Bool.or_false, List.getD_eq_getElem?_getD, List.getElem?_eq_getElem hi]; rfl
  | cons p xs ih =>
    rw [markL, ih _ (by rw [markP_length]; exact hi), List.getD_eq_getElem?_getD, markP_get _ _ _ hi]
    unfold covB
    rw [List.any_cons, Option.getD_some, Bool.or_assoc]
/-- How many bytes of a block are in any of them. -/
def bytesN (xs : List Pt) : Nat := (List.range 256).countP (covB xs)
theorem bytesN_eq (xs : List Pt) : (markL zbls xs).countP id = bytesN xs := by
  have : markL zbls xs = (List.range 256).map (covB xs) := by
    apply List.ext_getElem?
    intro i
    by_cases hi : i < 256
    · rw [markL_get _ _ _ (by rw [zbls_length]; exact hi), List.getElem?_map, List.getElem?_range hi]
      unfold zbls
      rw [List.getD_eq_getElem?_getD, List.getElem?_replicate, if_pos hi]
      rfl
    · rw [List.getElem?_eq_none (by rw [markL_length, zbls_length]; omega), List.getElem?_eq_none (by rw [List.length_map, List.length_range]; omega)]
  rw [this, List.countP_map]
  rfl
theorem count_set (S : List Bool) (i : Nat) (h : S[i]? = some false) : (S.set i true).countP id = S.countP id + 1 := by
  induction S generalizing i with
  | nil => simp at h
  | cons b S ih =>
    cases i with
    | zero => simp at h; subst h; simp [List.countP_cons]
    | succ i =>
      simp at h
      rw [List.set_cons_succ, List.countP_cons, List.countP_cons, ih _ h]
      omega
theorem set_same (S : List Bool) (i : Nat) (h : S[i]? = some true) : S.set i true = S := by
  apply List.ext_getElem?
  intro j
  rw [List.getElem?_set]
  by_cases e : i = j
  · subst e
    have := (List.getElem?_eq_some_iff.1 h).1
    rw [if_pos rfl, if_pos this, h]
  · rw [if_neg e]
theorem count_le (S : List Bool) : S.countP id ≤ S.length := List.countP_le_length
set_option maxHeartbeats 1000000 in
set_option maxRecDepth 100000 in
theorem pbytes_any (A : Option Addr) (c : Nat) (xs : List Pt) (w : World) (hx : Ps w A xs) (hn : xs.length ≤ 1000) :
    Calls Try.prog 44 #[.slice A xs.length c] w fun e w' => e = .returned (.int .i64 (bytesN xs : Int)) ∧ Below w.heap.size w w' := by
  have hr := Row.new w 93 (bls zbls)
  have hbel := (Below.refl w.heap.size w).alloc (Nat.le_refl _) (.cells (bls zbls) 93)
  have HB := Lib.hid (bytesN_eq xs)
  go_enter Try.func44, Try.ntmps44
  go_wp2_with (first
    | (with_reducible refine wpList_allocA rfl 93 rfl _ blsZero ?_))
  generalize w.alloc (.cells (bls zbls) 93) = w1 at *
  obtain ⟨g, hg⟩ : ∃ g, w.heap.size = g := ⟨_, rfl⟩
  have HG := Lib.hid hg
  rw [hg] at hr hbel ⊢
  clear hg
  try simp only [Act.put, List.setIfInBounds_toArray, List.set_cons_zero, List.set_cons_succ]
  go_loopw [4, 10] (fun n i wr => ∃ k : Nat, k ≤ xs.length ∧ i = .int .i64 k ∧ n = .int .i64 (((markL zbls (xs.take k)).countP id : Nat) : Int) ∧ Row wr g 93 (bls (markL zbls (xs.take k))) ∧ Below g w wr) (fun _ i _ => xs.length - (intOf i).toNat)
  case atStart => exact ⟨0, by omega, rfl, rfl, hr, hbel⟩
  case round =>
    clear hr hbel
    obtain ⟨k, hk, rfl, rfl, hr, hbel⟩ := hrel
    have hgs : g ≤ wr.heap.size := by have := hr.lt; omega
    have hbel0 : Below w.heap.size w wr := by rw [HG.out]; exact hbel
    have hXl : (markL zbls (xs.take k)).length = 256 := (markL_length _ _).trans zbls_length
    by_cases hlt : k < xs.length
    · obtain ⟨g', o, rfl⟩ := pat_form hx (by omega)
      obtain ⟨A', c', q0, q1, q2, q3, q4, q5, q6, q7⟩ := pat_at hx k hlt
      have d0 := (hbel0.cell (p := ⟨g', o + k * 2, none⟩) q0).trans q1
      have d1 := (hbel0.cell (p := ⟨g', o + k * 2 + 1, none⟩) q0).trans q2
      have HT : Hid (markL zbls (xs.take (k + 1)) = markP (markL zbls (xs.take k)) xs[k]) := by show _ = _; rw [List.take_add_one, List.getElem?_eq_getElem hlt, Option.toList_some, markL_concat]
      generalize markL zbls (xs.take k) = S at *
      generalize xs[k] = p at *
      obtain ⟨a, d⟩ := p
      have CC := Lib.hid (fun w' => check_any a A' d.length c' w' q7.2.1)
      have hra := hr.alloc (.cells #[.int .i64 a, .slice A' d.length c'] 36)
      have hrp := Row.new wr 36 #[.int .i64 a, .slice A' d.length c']
      have hbel1 := hbel.alloc hgs (.cells #[.int .i64 a, .slice A' d.length c'] 36)
      have hgp : g < wr.heap.size := hr.lt
      cases h : rightN a d.length with
      | false =>
        have HT2 : Hid (markL zbls (xs.take (k + 1)) = S) := by show _ = _; rw [HT.out]; unfold markP; rw [if_neg (by simp [h])]
        rw [h] at CC
        simp only [Bool.false_eq_true, if_false] at CC
        clear h
        go_wp2_with fail
        refine (CC.out _).mono ?_
        rintro e w2 ⟨rfl, hbl⟩
        have hr2 := hra.below hbl
        have hb2 := hbel1.trans (hbl.mono (by simp; omega))
        clear hr hra hrp hbel hbel1 hbl d0 d1
        go_wp2
        go_roundw
        case rel => exact ⟨k + 1, by omega, by go_num, by rw [HT2.out], by rw [HT2.out]; exact hr2, hb2⟩
        case measure => simp [intOf]; omega
      | true =>
        obtain ⟨e1, e2, e3, e4⟩ := (right_iff _ _).1 h
        obtain ⟨q, rfl⟩ := Int.eq_ofNat_of_zero_le e3
        have HT2 : Hid (markL zbls (xs.take (k + 1)) = markK S q d.length) := by
          show _ = _
          rw [HT.out]
          unfold markP
          rw [if_pos h]
          rfl
        rw [h] at CC
        simp only [if_true] at CC
        clear h
        go_wp2_with fail
        refine (CC.out _).mono ?_
        rintro e w2 ⟨rfl, hbl⟩
        have hr2 := hra.below hbl
        have hp2 := hrp.below hbl
        have hb2 := hbel1.trans (hbl.mono (by simp; omega))
        clear hr hra hrp hbel hbel1 hbl d0 d1
        have c1 := hp2.cell 1 rfl
        obtain ⟨gp, hgpe⟩ : ∃ gp, wr.heap.size = gp := ⟨_, rfl⟩
        rw [hgpe] at hgp hp2 c1 ⊢
        clear hgpe hgs hbel0
        go_wp2
        go_loopw [4, 20] (fun n i wi => ∃ m : Nat, m ≤ d.length ∧ i = .int .i64 m ∧ n = .int .i64 (((markK S q m).countP id : Nat) : Int) ∧ Row wi g 93 (bls (markK S q m)) ∧ Row wi gp 36 #[.int .i64 (q : Int), .slice A' d.length c'] ∧ Below g w wi) (fun _ i _ => d.length - (intOf i).toNat)
        case atStart => exact ⟨0, by omega, rfl, rfl, by first | exact hr2 | exact hr2.drewN _, by first | exact hp2 | exact hp2.drewN _, by first | exact hb2 | exact bdrewN hb2 _⟩
        case round =>
          clear hr2 hp2 hb2 c1
          obtain ⟨m, hm, rfl, rfl, hr2, hp2, hb2⟩ := hrel
          have hSl : (markK S q m).length = 256 := (markK_length _ _ _).trans hXl
          have hSc : (markK S q m).countP id ≤ 256 := by have := count_le (markK S q m); omega
          have c0 := hp2.cell 0 rfl
          by_cases hlm : m < d.length
          · have hi : q + m < (markK S q m).length := by omega
            have cs := hr2.cell (q + m) (bls_get _ _ hi)
            have i0 : (0 : Int) ≤ (q : Int) + (m : Int) := by omega
            have i1 : (q : Int) + (m : Int) < 256 := by omega
            have i4 : IntKind.i64.wrap ((q : Int) + (m : Int)) = (q : Int) + (m : Int) := by
              unfold IntKind.wrap; simp [IntKind.signed, IntKind.bits]; omega
            have hge : (markK S q m)[q + m]? = some (markK S q m)[q + m] := List.getElem?_eq_getElem hi
            cases hb : (markK S q m)[q + m] with
            | false =>
              rw [hb] at hge cs
              have HC := Lib.hid (count_set _ _ hge)
              have HS : Hid ((markK S q m).set (q + m) true = markK S q (m + 1)) := rfl
              clear hge hb
              have hset := bls_set (markK S q m) (q + m) true
              rw [HS.out] at hset
              rw [HS.out] at HC
              have hr3 := hr2.put (q + m) (.bool true)
              rw [hset] at hr3
              have hp3 := hp2.farCell (a := ⟨g, q + m, none⟩) (by show gp ≠ g; omega) (.bool true)
              have hb3 := hb2.setCell (p := ⟨g, q + m, none⟩) (Nat.le_refl _) (.bool true)
              have hfz := hr2.frozen (q + m)
              go_wp2
              go_roundw
              case rel => exact ⟨m + 1, by omega, by go_num, by rw [HC.out]; go_num, hr3, hp3, hb3⟩
              case measure => simp [intOf]; omega
            | true =>
              rw [hb] at hge cs
              have HS : Hid (markK S q m = markK S q (m + 1)) := (set_same _ _ hge).symm
              clear hge hb
              go_wp2
              go_roundw
              case rel => exact ⟨m + 1, by omega, by go_num, by rw [← HS.out], by rw [← HS.out]; exact hr2, hp2, hb2⟩
              case measure => simp [intOf]; omega
          · have hme : m = d.length := by omega
            subst hme
            go_wp2
            go_roundw
            case rel => exact ⟨k + 1, by omega, by go_num, by rw [HT2.out], by rw [HT2.out]; exact hr2, hb2⟩
            case measure => simp [intOf]; omega
    · have hke : k = xs.length := by omega
      subst hke
      rw [List.take_length]
      rw [HB.out]
      go_wp2
      go_ret
      exact ⟨rfl, hbel0⟩
end Go.Proofs.Ytoibdomcekainaa.Pat
