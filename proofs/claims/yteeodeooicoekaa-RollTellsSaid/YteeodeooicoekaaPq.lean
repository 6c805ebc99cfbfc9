/- Lists of patches: the document's Diff, OfAll, SameAll (out of XPatW .. XPatRd, what seat E has of them, in one text). No statement is proved here. -/
import Derived.Test.YteeodeooicoekaaPatD
import Derived.Deep.DeepCutAuto
import Derived.Deep.CutBlock
import Derived.Test.YteeodeooicoekaaPat6
namespace Go.Proofs.Yteeodeooicoekaa.Pat
open Go.RowKit Go.Proofs.Yteeodeooicoekaa.Mem Go.Proofs.Yteeodeooicoekaa.Open Go.Proofs.Yteeodeooicoekaa.Kind Go.Proofs.Yteeodeooicoekaa.Blk Go.Proofs.Yteeodeooicoekaa.App
/- The page's examples of patches; the document's Was and Same. -/
set_option linter.unusedVariables false
set_option linter.unusedSimpArgs false
/-- The first element of a list of patches, and so on. -/
theorem pat_at {w : World} {S : Nat → Prop} {g o n : Nat} {xs : List Pt} (h : Rw kPat w S (some ⟨g, o, none⟩) n xs) (i : Nat) (hi : i < xs.length) : ∃ A' c, g < w.heap.size ∧ w.cell? ⟨g, o + i * 2, none⟩ = some (.int .i64 xs[i].1) ∧ w.cell? ⟨g, o + i * 2 + 1, none⟩ = some (.slice A' xs[i].2.length c) ∧
    (Lit.int .i64 xs[i].1).wf = true ∧ xs[i].2.length ≤ c ∧ c ≤ M63 ∧ (A' = none → c = 0) ∧ Rw kByte w S A' xs[i].2.length xs[i].2 := by
  obtain ⟨g', o', cs, e, hS, hlt, hK, hc⟩ := h.at_ hi
  injection e with e
  injection e with e1 e2
  subst e1 e2
  obtain ⟨A', c, rfl, k1, k2, k3, k4, k5⟩ := kPat_open hK
  exact ⟨A', c, hlt, hc 0 _ rfl, hc 1 _ rfl, k1, k2, k3, k4, k5⟩
theorem pat_form {w : World} {S : Nat → Prop} {A : Option Addr} {n : Nat} {xs : List Pt} (h : Rw kPat w S A n xs) (hn : 0 < n) : ∃ g o, A = some ⟨g, o, none⟩ := by
  rcases h.2.2 with h0 | ⟨g, o, hA, _⟩
  · omega
  · exact ⟨g, o, hA⟩
def bw : List Nat := ((zblk.set 3 7).set 4 7).set 9 7
theorem bw_length : bw.length = 256 := by unfold bw; rw [List.length_set, List.length_set, List.length_set]; exact zblk_length
theorem bw_byte : ∀ x ∈ bw, x < 256 := by
  have : ∀ (l : List Nat) (i v : Nat), v < 256 → (∀ x ∈ l, x < 256) → ∀ x ∈ l.set i v, x < 256 := fun l i v hv hl x hx => by
    rcases List.mem_or_eq_of_mem_set hx with h | h
    · exact hl x h
    · omega
  exact this _ _ _ (by decide) (this _ _ _ (by decide) (this _ _ _ (by decide) zblk_byte))
theorem bw_diff : diffL zblk bw = [(3, [7, 7]), (9, [7])] := by decide +kernel
theorem bw_lay : (layL zblk 3 [7, 7])[4]? = some 7 := by decide +kernel
theorem bw_meet : meetB 3 2 5 2 = false := by decide +kernel

theorem run_index_blk {L : List Nat} {k : Nat} {x : Nat} (hk : k < 256) (h : L[k]? = some x) (w : World) : (Instr.index 26 (.agg (blk L)) (.int .i64 (k : Int))).run Try.prog w = .ok (.int .u8 (x : Int)) w := by
  have h2 : (blk L)[k]? = some (.int .u8 (x : Int)) := by
    obtain ⟨hi, e⟩ := List.getElem?_eq_some_iff.1 h
    rw [blk_get L k hi, e]
  unfold Instr.index
  simp [asIntOf, run_underlying blkUnd, sizeOf]
  rw [if_pos hk, show k * Try.t5.size = k from Nat.mul_one k]
  have ha : ∀ w, (isAgg 5).run Try.prog w = .ok false w := fun w => by kernel_rfl
  unfold part
  simp [ha, h2]

/- The statement PatchBack. -/
set_option linter.unusedVariables false
set_option linter.unusedSimpArgs false
theorem ext256 {l m : List Nat} (hl : l.length = 256) (hm : m.length = 256) (h : ∀ j, j < 256 → l[j]? = m[j]?) : l = m := by
  apply List.ext_getElem?
  intro j
  by_cases hj : j < 256
  · exact h j hj
  · rw [List.getElem?_eq_none (by omega), List.getElem?_eq_none (by omega)]
theorem back_law (l : List Nat) (a : Int) (d : List Nat) (hl : l.length = 256) : layL (layL l a d) (wasA a d.length) (wasD l a d.length) = l := by
  refine ext256 (by rw [layL_length, layL_length]; exact hl) hl fun j hj => ?_
  rw [layL_get _ _ _ (by rw [layL_length]; exact hl), layL_get _ _ _ hl]
  have hwl := wasD_length l a d.length hl
  cases h : rightN a d.length with
  | false =>
    have e2 : wasD l a d.length = [] := by unfold wasD; rw [h]; rfl
    rw [e2]
    have : rightN (wasA a d.length) ([] : List Nat).length = false := (right_not _ _).2 (by simp)
    rw [this]
    simp
  | true =>
    rw [h, if_pos rfl] at hwl
    have e1 : wasA a d.length = a := by unfold wasA; rw [h]; rfl
    have e2 : wasD l a d.length = (l.drop a.toNat).take d.length := by unfold wasD; rw [h]; rfl
    have := (right_iff _ _).1 h
    rw [e1, hwl, h]
    by_cases h2 : a ≤ (j : Int) ∧ (j : Int) < a + d.length
    · rw [if_pos ⟨rfl, h2.1, h2.2⟩, e2, List.getD_eq_getElem?_getD, List.getElem?_take, if_pos (by omega), List.getElem?_drop, show a.toNat + (j - a.toNat) = j from by omega, List.getElem?_eq_getElem (by omega)]; rfl
    · rw [if_neg (fun h3 => h2 h3.2), if_neg (fun h3 => h2 h3.2)]
theorem twice_law (l : List Nat) (a : Int) (d : List Nat) (hl : l.length = 256) : layL (layL l a d) a d = layL l a d := by
  refine ext256 (by rw [layL_length, layL_length]; exact hl) (by rw [layL_length]; exact hl) fun j hj => ?_
  rw [layL_get _ _ _ (by rw [layL_length]; exact hl), layL_get _ _ _ hl]
  split <;> rfl


/- The statement PatchSwaps. -/
set_option linter.unusedVariables false
set_option linter.unusedSimpArgs false
theorem swap_law (l : List Nat) (a : Int) (d : List Nat) (b : Int) (f : List Nat) (hl : l.length = 256) (hm : meetB a d.length b f.length = false) : layL (layL l a d) b f = layL (layL l b f) a d := by
  refine ext256 (by rw [layL_length, layL_length]; exact hl) (by rw [layL_length, layL_length]; exact hl) fun j hj => ?_
  rw [layL_get _ _ _ (by rw [layL_length]; exact hl), layL_get _ _ _ hl, layL_get _ _ _ (by rw [layL_length]; exact hl), layL_get _ _ _ hl]
  by_cases h1 : rightN a d.length = true ∧ a ≤ j ∧ (j : Int) < a + d.length
  · by_cases h2 : rightN b f.length = true ∧ b ≤ j ∧ (j : Int) < b + f.length
    · exfalso
      unfold meetB at hm
      rw [h1.1, h2.1] at hm
      simp at hm
      omega
    · rw [if_neg h2, if_pos h1, if_pos h1]
  · rw [if_neg h1, if_neg h1]
theorem last_law (l : List Nat) (b : Int) (f : List Nat) (hl : l.length = 256) (h : rightN b f.length = true) : psameB (wasA b f.length) (wasD (layL l b f) b f.length) b f = true := by
  have e1 : wasA b f.length = b := by unfold wasA; rw [h]; rfl
  have e2 : wasD (layL l b f) b f.length = ((layL l b f).drop b.toNat).take f.length := by unfold wasD; rw [h]; rfl
  have hr := (right_iff _ _).1 h
  refine decide_eq_true ⟨e1, ?_⟩
  rw [e2]
  apply List.ext_getElem?
  intro j
  rw [List.getElem?_take]
  by_cases hj : j < f.length
  · rw [if_pos hj, List.getElem?_drop, layL_get _ _ _ hl, if_pos ⟨h, by omega, by omega⟩, show b.toNat + j - b.toNat = j from by omega, getD_at _ _ hj, List.getElem?_eq_getElem hj]
  · rw [if_neg hj, List.getElem?_eq_none (by omega)]


/- The statement PatchSwaps, its walk. -/

/- The statement PatchLays. -/
set_option linter.unusedVariables false
set_option linter.unusedSimpArgs false
theorem row_by {w : World} {g : Nat} {T : TypeId} {l : List Nat} (h : Row w g T (blk l)) (hl : l.length = 256) (hb : ∀ x ∈ l, x < 256) : By w (some ⟨g, 0, none⟩) l := by
  refine ⟨rfl, by rw [hl]; decide, .inr ⟨g, 0, rfl, h.lt, h.lt, fun i x hx => ⟨[V8 x], ⟨rfl, hb x (List.mem_of_getElem? hx)⟩, fun j v hv => ?_⟩⟩⟩
  cases j with
  | succ j => simp at hv
  | zero =>
    simp at hv
    subst hv
    obtain ⟨hi, rfl⟩ := List.getElem?_eq_some_iff.1 hx
    rw [show 0 + i * kByte.sz + 0 = i from by show 0 + i * 1 + 0 = i; omega]
    exact h.cell i (by rw [blk_get _ _ hi]; rfl)
theorem psame_refl (a : Int) (d : List Nat) : psameB a d a d = true := decide_eq_true ⟨rfl, rfl⟩

theorem same_yes (A B : Option Addr) (n m c d : Nat) (xs : List Nat) (w : World) (hx : Sl w V8 A n xs) (hy : Sl w V8 B m xs) :
    Calls Try.prog 17 #[.slice A n c, .slice B m d] w fun e w' => e = .returned (.bool true) ∧ Below w.heap.size w w' := by
  refine (Same.same_any A B n m c d xs xs w hx hy).mono ?_
  rintro e w' ⟨rfl, q, rfl⟩
  exact ⟨ret_bool (decide_eq_true rfl), bdrewN (Below.refl _ _) q⟩


/- Lists of patches: Much. -/
set_option linter.unusedVariables false
set_option linter.unusedSimpArgs false
/-- Patches that are read. -/
abbrev Ps (w : World) (A : Option Addr) (xs : List Pt) : Prop := Rw kPat w (All w) A xs.length xs
def muchB (xs : List Pt) (m : Nat) : Bool := decide (m < xs.length) || xs.any (fun p => decide (600 < p.2.length))
theorem muchB_no {xs : List Pt} {m : Nat} (h : muchB xs m = false) : xs.length ≤ m ∧ ∀ p ∈ xs, p.2.length ≤ 600 := by
  unfold muchB at h
  rw [Bool.or_eq_false_iff] at h
  refine ⟨by have := of_decide_eq_false h.1; omega, fun p hp => ?_⟩
  have := List.any_eq_false.1 h.2 p hp
  simp at this
  exact this
theorem muchB_mk {xs : List Pt} {m : Nat} (h1 : xs.length ≤ m) (h2 : ∀ p ∈ xs.take xs.length, p.2.length ≤ 600) : muchB xs m = false := by
  unfold muchB
  rw [List.take_length] at h2
  rw [Bool.or_eq_false_iff]
  exact ⟨decide_eq_false (by omega), List.any_eq_false.2 fun p hp => by have := h2 p hp; simp; omega⟩
theorem muchB_at {xs : List Pt} {m k : Nat} (hk : k < xs.length) (h : 600 < xs[k].2.length) : muchB xs m = true := by
  unfold muchB
  rw [Bool.or_eq_true]
  exact .inr (List.any_eq_true.2 ⟨xs[k], List.getElem_mem _, by simpa using h⟩)
theorem take_all_succ {α : Type} {xs : List α} {k : Nat} {P : α → Prop} (hk : k < xs.length) (h : ∀ p ∈ xs.take k, P p) (h2 : P xs[k]) : ∀ p ∈ xs.take (k + 1), P p := by
  rw [List.take_add_one, List.getElem?_eq_getElem hk]
  intro p hp
  rcases List.mem_append.1 hp with hp | hp
  · exact h p hp
  · simp at hp; subst hp; exact h2


/- Lists of patches: ToAll. -/
set_option linter.unusedVariables false
set_option linter.unusedSimpArgs false

/- Lists of patches: patch.All. -/
set_option linter.unusedVariables false
set_option linter.unusedSimpArgs false
/-- Patches laid, one behind the other. -/
def allL (l : List Nat) : List Pt → List Nat
  | [] => l
  | p :: xs => allL (layL l p.1 p.2) xs
theorem allL_concat (l : List Nat) (xs : List Pt) (p : Pt) : allL l (xs ++ [p]) = layL (allL l xs) p.1 p.2 := by
  induction xs generalizing l with
  | nil => rfl
  | cons q xs ih => exact ih _
theorem allL_length (l : List Nat) (xs : List Pt) : (allL l xs).length = l.length := by
  induction xs generalizing l with
  | nil => rfl
  | cons q xs ih => exact (ih _).trans (layL_length _ _ _)

/- Lists of patches: the document's All. -/
set_option linter.unusedVariables false
set_option linter.unusedSimpArgs false
theorem rlay256 (A : Option Addr) (c : Nat) (b : List Nat) (a : Int) (A2 : Option Addr) (c2 : Nat) (d : List Nat) (w : World) (hb : By w A b) (hd : By w A2 d) (hb2 : b.length = 256) (hcc : 256 ≤ c) (hcm : c ≤ M63) (hc : A = none → c = 0) :
    Calls Try.prog 74 #[.slice A 256 c, patV a A2 d.length c2] w fun e w' => ∃ A' c', e = .returned (.slice A' 256 c') ∧ 256 ≤ c' ∧ c' ≤ M63 ∧ (A' = none → c' = 0) ∧ By w' A' (layL b a d) ∧ Below w.heap.size w w' := by
  have h := rlay_any A c b a A2 c2 d w hb hd hb2 (by omega) hcm hc
  simp only [hb2] at h
  exact h

/- Lists of patches: how many bytes are in any of them. -/
set_option linter.unusedVariables false
set_option linter.unusedSimpArgs false
/-- Truths as cells. -/
def bls (l : List Bool) : Array Value := (l.map Value.bool).toArray
theorem bls_size (l : List Bool) : (bls l).size = l.length := by simp [bls]
theorem bls_get (l : List Bool) (i : Nat) (hi : i < l.length) : (bls l)[i]? = some (.bool l[i]) := by simp [bls, hi]
theorem bls_set (l : List Bool) (i : Nat) (n : Bool) : (bls l).setIfInBounds i (.bool n) = bls (l.set i n) := by
  apply Array.ext'
  simp [bls, List.map_set]
def zbls : List Bool := List.replicate 256 false
theorem zbls_length : zbls.length = 256 := by unfold zbls; rw [List.length_replicate]
/-- The bytes q .. q+m are marked. -/
def markK (S : List Bool) (q : Nat) : Nat → List Bool
  | 0 => S
  | m + 1 => (markK S q m).set (q + m) true
def markP (S : List Bool) (p : Pt) : List Bool := if rightN p.1 p.2.length then markK S p.1.toNat p.2.length else S
def markL (S : List Bool) : List Pt → List Bool
  | [] => S
  | p :: xs => markL (markP S p) xs
theorem markK_length (S : List Bool) (q m : Nat) : (markK S q m).length = S.length := by
  induction m with
  | zero => rfl
  | succ m ih => rw [markK, List.length_set, ih]
theorem markP_length (S : List Bool) (p : Pt) : (markP S p).length = S.length := by unfold markP; split <;> first | rfl | exact markK_length _ _ _
theorem markL_length (S : List Bool) (xs : List Pt) : (markL S xs).length = S.length := by
  induction xs generalizing S with
  | nil => rfl
  | cons p xs ih => exact (ih _).trans (markP_length _ _)
theorem markL_concat (S : List Bool) (xs : List Pt) (p : Pt) : markL S (xs ++ [p]) = markP (markL S xs) p := by
  induction xs generalizing S with
  | nil => rfl
  | cons q xs ih => exact ih _
theorem markK_get (S : List Bool) (q m i : Nat) (hi : i < S.length) : (markK S q m)[i]? = some (S.getD i false || decide (q ≤ i ∧ i < q + m)) := by
  have hd : S[i]? = some (S.getD i false) := by rw [List.getD_eq_getElem?_getD, List.getElem?_eq_getElem hi]; rfl
  induction m with
  | zero => rw [markK, hd, decide_eq_false (by omega), Bool.or_false]
  | succ m ih =>
    rw [markK, List.getElem?_set, markK_length]
    by_cases h : q + m = i
    · rw [if_pos h, if_pos (by omega), decide_eq_true (by omega), Bool.or_true]
    · rw [if_neg h, ih]
      congr 2
      exact decide_eq_decide.2 (by omega)
theorem markP_get (S : List Bool) (p : Pt) (i : Nat) (hi : i < S.length) : (markP S p)[i]? = some (S.getD i false || inB p.1 p.2.length i) := by
  unfold markP inB
  cases h : rightN p.1 p.2.length with
  | false => rw [if_neg (by simp), Bool.false_and, Bool.or_false, List.getD_eq_getElem?_getD, List.getElem?_eq_getElem hi]; rfl
  | true =>
    have hr := (right_iff _ _).1 h
    rw [if_pos rfl, markK_get _ _ _ _ hi, Bool.true_and]
    congr 2
    exact decide_eq_decide.2 (by omega)
def covB (xs : List Pt) (i : Nat) : Bool := xs.any fun p => inB p.1 p.2.length i
theorem markL_get (S : List Bool) (xs : List Pt) (i : Nat) (hi : i < S.length) : (markL S xs)[i]? = some (S.getD i false || covB xs i) := by
  induction xs generalizing S with
  | nil => rw [markL, covB, List.any_nil, Bool.or_false, List.getD_eq_getElem?_getD, List.getElem?_eq_getElem hi]; rfl
  | cons p xs ih =>
    rw [markL, ih _ (by rw [markP_length]; exact hi), List.getD_eq_getElem?_getD, markP_get _ _ _ hi]
    unfold covB
    rw [List.any_cons, Option.getD_some, Bool.or_assoc]
/-- How many bytes of a block are in any of them. -/
def bytesN (xs : List Pt) : Nat := (List.range 256).countP (covB xs)
theorem bytesN_eq (xs : List Pt) : (markL zbls xs).countP id = bytesN xs := by
  have : markL zbls xs = (List.range 256).map (covB xs) := by
    apply List.ext_getElem?
    intro i
    by_cases hi : i < 256
    · rw [markL_get _ _ _ (by rw [zbls_length]; exact hi), List.getElem?_map, List.getElem?_range hi]
      unfold zbls
      rw [List.getD_eq_getElem?_getD, List.getElem?_replicate, if_pos hi]
      rfl
    · rw [List.getElem?_eq_none (by rw [markL_length, zbls_length]; omega), List.getElem?_eq_none (by rw [List.length_map, List.length_range]; omega)]
  rw [this, List.countP_map]
  rfl
theorem count_set (S : List Bool) (i : Nat) (h : S[i]? = some false) : (S.set i true).countP id = S.countP id + 1 := by
  induction S generalizing i with
  | nil => simp at h
  | cons b S ih =>
    cases i with
    | zero => simp at h; subst h; simp [List.countP_cons]
    | succ i =>
      simp at h
      rw [List.set_cons_succ, List.countP_cons, List.countP_cons, ih _ h]
      omega
theorem set_same (S : List Bool) (i : Nat) (h : S[i]? = some true) : S.set i true = S := by
  apply List.ext_getElem?
  intro j
  rw [List.getElem?_set]
  by_cases e : i = j
  · subst e
    have := (List.getElem?_eq_some_iff.1 h).1
    rw [if_pos rfl, if_pos this, h]
  · rw [if_neg e]
theorem count_le (S : List Bool) : S.countP id ≤ S.length := List.countP_le_length

/- Lists of patches: the document's Bytes. -/
set_option linter.unusedVariables false
set_option linter.unusedSimpArgs false
theorem covB_take (xs : List Pt) (k i : Nat) (hk : k < xs.length) : covB (xs.take (k + 1)) i = (covB (xs.take k) i || inB xs[k].1 xs[k].2.length i) := by
  unfold covB
  rw [List.take_add_one, List.getElem?_eq_getElem hk, Option.toList_some, List.any_append, List.any_cons, List.any_nil, Bool.or_false]
theorem bytes_succ (xs : List Pt) (i : Nat) : (List.range (i + 1)).countP (covB xs) = (List.range i).countP (covB xs) + if covB xs i then 1 else 0 := by
  rw [List.range_succ, List.countP_append, List.countP_cons, List.countP_nil]
  omega
theorem bytes_le (xs : List Pt) (i : Nat) : (List.range i).countP (covB xs) ≤ i := by
  have := List.countP_le_length (p := covB xs) (l := List.range i)
  rwa [List.length_range] at this

/- The statement PatchAll. -/
set_option linter.unusedVariables false
set_option linter.unusedSimpArgs false
theorem allL_byte {l : List Nat} (hb : ∀ x ∈ l, x < 256) : ∀ (xs : List Pt), (∀ p ∈ xs, ∀ x ∈ p.2, x < 256) → ∀ x ∈ allL l xs, x < 256 := by
  intro xs
  induction xs generalizing l with
  | nil => intro _; exact hb
  | cons p xs ih => exact fun h => ih (layL_byte _ _ _ hb (h p List.mem_cons_self)) (fun q hq => h q (List.mem_cons_of_mem _ hq))
theorem ps_bytes {w : World} {A : Option Addr} {xs : List Pt} (h : Ps w A xs) : ∀ p ∈ xs, ∀ x ∈ p.2, x < 256 := by
  intro p hp
  obtain ⟨i, hi, rfl⟩ := List.mem_iff_getElem.1 hp
  obtain ⟨g, o, rfl⟩ := pat_form h (by omega)
  obtain ⟨A', c', _, _, _, _, _, _, _, q⟩ := pat_at h i hi
  exact q.lt_byte

/- Lists of patches whose last one still grows: plain laws. -/
set_option linter.unusedVariables false
set_option linter.unusedSimpArgs false
/-- A row of the call's own of patches, of whose last one the bytes lie in a row of the call's own too, apart from all others. -/
structure DSt (w : World) (B : Nat) (E U : TypeId) (g c : Nat) (I : List Pt) (a : Int) (d : List Nat) (u : Value) (R : List (List Value)) : Prop where
  len : R.length = I.length
  each : ∀ (i : Nat) (x : Pt), I[i]? = some x → ∃ cs, R[i]? = some cs ∧ kPat.K w (fun b => some b ≠ some g ∧ some b ≠ u.ownBlock ∧ b < w.heap.size) x cs
  row : w.ownsRow B E 2 (.slice (some ⟨g, 0, none⟩) (I.length + 1) c) (I.length + 1) (R.flatten ++ [.int .i64 a, u])
  own : Own w B U V8 u d
  apart : ∀ q, u.ownBlock = some q → q ≠ g
  wf : (Lit.int .i64 a).wf = true
  byte : ∀ x ∈ d, x < 256
section
variable {w w' : World} {B : Nat} {E U : TypeId} {g c : Nat} {I : List Pt} {a : Int} {d : List Nat} {u : Value} {R : List (List Value)}
theorem DSt.flat (h : DSt w B E U g c I a d u R) : R.flatten.length = I.length * 2 := by
  have := h.row.1
  rw [List.length_append] at this
  have e : ([Value.int .i64 a, u] : List Value).length = 2 := rfl
  omega
theorem DSt.lt (h : DSt w B E U g c I a d u R) : B ≤ g ∧ g < w.heap.size := World.ownsRow.lt h.row g rfl
theorem DSt.below (h : DSt w B E U g c I a d u R) (hb : Below w.heap.size w w') : DSt w' B E U g c I a d u R where
  len := h.len
  each := fun i x hx => by
    obtain ⟨cs, h1, h2⟩ := h.each i x hx
    exact ⟨cs, h1, kPat.mono (fun b hb' => ⟨hb'.1, hb'.2.1, Nat.lt_of_lt_of_le hb'.2.2 hb.size⟩) (kPat.stay (fun b hb' => hb.block b hb'.2.2) h2)⟩
  row := World.ownsRow.kept (row := none) h.row ⟨hb.os, hb.tape, hb.output, hb.size, fun i hi _ => hb.block i hi⟩ (by simp [Value.ownBlock])
  own := h.own.below hb
  apart := h.apart
  wf := h.wf
  byte := h.byte
theorem DSt.drewN (h : DSt w B E U g c I a d u R) (n : Nat) : DSt (w.drewN n) B E U g c I a d u R := h.below (bdrewN (Below.refl _ _) n)
theorem DSt.cellU (h : DSt w B E U g c I a d u R) : w.cell? ⟨g, I.length * 2 + 1, none⟩ = some u := by
  rw [World.ownsRow.cellAt h.row _ (by omega), List.getElem?_append_right (by rw [h.flat]; omega), h.flat]
  rw [show I.length * 2 + 1 - I.length * 2 = 1 from by omega]
  rfl
theorem DSt.frozen (h : DSt w B E U g c I a d u R) (j : Nat) : w.frozen? ⟨g, j, none⟩ = false := World.ownsRow.frozenAt h.row j
/-- One byte more, behind the last one's. -/
theorem DSt.step (h : DSt w B E U g c I a d u R) {x : Nat} (hx : x < 256) {u' : Value} (hg : w.grownBy w' u.ownBlock) (ho : Own w' B U V8 u' (d ++ [x])) (hu : u'.ownBlock = u.ownBlock ∨ u'.ownBlock = some w.heap.size) :
    DSt (w'.setCell ⟨g, I.length * 2 + 1, none⟩ u') B E U g c I a (d ++ [x]) u' R := by
  have hgl := h.lt
  have hap : ∀ q, u'.ownBlock = some q → q ≠ g := fun q hq => by
    rcases hu with e | e
    · exact h.apart q (e ▸ hq)
    · rw [e] at hq; injection hq with hq; omega
  have hrow : w'.ownsRow B E 2 (.slice (some ⟨g, 0, none⟩) (I.length + 1) c) (I.length + 1) (R.flatten ++ [.int .i64 a, u]) :=
    World.ownsRow.kept h.row hg (.inr fun e => h.apart g e.symm rfl)
  refine ⟨h.len, fun i y hy => ?_, ?_, ?_, hap, h.wf, ?_⟩
  · obtain ⟨cs, h1, h2⟩ := h.each i y hy
    refine ⟨cs, h1, kPat.mono (S := fun b => some b ≠ some g ∧ some b ≠ u.ownBlock ∧ b < w.heap.size) (fun b hb => ⟨hb.1, ?_, ?_⟩) (kPat.stay (fun b hb => ?_) h2)⟩
    · rcases hu with e | e <;> rw [e]
      · exact hb.2.1
      · intro e2; injection e2 with e2; omega
    · have := hg.size; simp; omega
    · rw [heap_setCell_other _ _ _ _ (fun e => hb.1 (by rw [e])), hg.block b hb.2.2 hb.2.1]
  · have := (World.ownsRow.stored hrow (I.length * 2 + 1) u').1
    rw [List.set_append_right _ _ (by rw [h.flat]; omega), h.flat, show I.length * 2 + 1 - I.length * 2 = 1 from by omega] at this
    exact this
  · exact own_grown ho (grown_setCell _ _ _) (fun q hq e => hap q hq (by injection e))
  · intro y hy
    rcases List.mem_append.1 hy with hy | hy
    · exact h.byte y hy
    · simp at hy; omega
theorem DSt.ownK (h : DSt w B E U g c I a d u R) : OwnK kPat w B E (.slice (some ⟨g, 0, none⟩) (I.length + 1) c) (I ++ [(a, d)]) := by
  obtain ⟨A, c', rfl, k1, k2, k3, k4⟩ := own_byF h.own h.byte
  have hl := h.own.lt
  refine ⟨R ++ [[.int .i64 a, .slice A d.length c']], by simp [h.len], fun i x hx => ?_, ?_⟩
  · by_cases hi : i < I.length
    · rw [List.getElem?_append_left hi] at hx
      obtain ⟨cs, h1, h2⟩ := h.each i x hx
      exact ⟨cs, by rw [List.getElem?_append_left (by rw [h.len]; exact hi)]; exact h1, kPat.mono (fun b hb => ⟨hb.1, hb.2.2⟩) h2⟩
    · have hil := (List.getElem?_eq_some_iff.1 hx).1
      rw [List.length_append, List.length_singleton] at hil
      have : i = I.length := by omega
      subst this
      rw [List.getElem?_append_right (Nat.le_refl _), Nat.sub_self, List.getElem?_cons_zero] at hx
      injection hx with hx
      subst hx
      refine ⟨_, by rw [← h.len, List.getElem?_append_right (Nat.le_refl _), Nat.sub_self, List.getElem?_cons_zero], kPat_mk h.wf k1 k2 k3 ?_⟩
      rcases k4.2.2 with h0 | ⟨gb, ob, hA, hS, hlt, hc⟩
      · exact ⟨k4.1, k4.2.1, .inl h0⟩
      · subst hA
        exact ⟨k4.1, k4.2.1, .inr ⟨gb, ob, rfl, ⟨fun e => h.apart gb rfl (by injection e), hlt⟩, hlt, fun i x hx => by
          obtain ⟨cs, q1, q2⟩ := hc i x hx
          exact ⟨cs, q1, q2⟩⟩⟩
  · rw [List.length_append, List.length_singleton, List.flatten_append, List.flatten_cons, List.flatten_nil, List.append_nil]
    exact h.row
end
/-- As it is between two rounds. -/
def Sta (w : World) (B : Nat) (E U : TypeId) (v : Value) (D : List Pt) : Prop :=
  (v = .slice none 0 0 ∧ D = []) ∨ ∃ g c I a d u R, v = .slice (some ⟨g, 0, none⟩) (I.length + 1) c ∧ D = I ++ [(a, d)] ∧ DSt w B E U g c I a d u R
section
variable {w w' : World} {B : Nat} {E U : TypeId} {v : Value} {D : List Pt}
theorem Sta.ownK (h : Sta w B E U v D) : OwnK kPat w B E v D := by
  rcases h with ⟨rfl, rfl⟩ | ⟨g, c, I, a, d, u, R, rfl, rfl, h⟩
  · exact OwnK.nil _ _ _ _
  · exact h.ownK
theorem Sta.below (h : Sta w B E U v D) (hb : Below w.heap.size w w') : Sta w' B E U v D := by
  rcases h with ⟨rfl, rfl⟩ | ⟨g, c, I, a, d, u, R, rfl, rfl, h⟩
  · exact .inl ⟨rfl, rfl⟩
  · exact .inr ⟨g, c, I, a, d, u, R, rfl, rfl, h.below hb⟩
theorem Sta.drewN (h : Sta w B E U v D) (n : Nat) : Sta (w.drewN n) B E U v D := h.below (bdrewN (Below.refl _ _) n)
end
section
variable {P : Program} {w : World} {B : Nat} {E U : TypeId} {v : Value} {D : List Pt}
/-- One patch more, without bytes. -/
theorem run_appD (t ty : TypeId) (z : Value) (bytes : Nat) (ht : P.underlying t = some (.slice E)) (hi : (P.info? E).map (fun i => (i.zero, i.size, i.bytes)) = some (some z, 2, bytes)) (hzs : z.cells.size = 2)
    (hown : OwnK kPat w B E v D) (g c : Nat) (T : TypeId) (a : Int) (hr : Row w g T #[.int .i64 a, .slice none 0 0]) (hw : (Lit.int .i64 a).wf = true)
    (hbytes : (D.length + 1) * bytes ≤ 140737488355328) (h63 : D.length + 1 ≤ 9223372036854775807) (hB : B ≤ w.heap.size) :
    ∃ v' w', (Builtin.append_ #[t, t] ty #[v, .slice (some ⟨g, 0, none⟩) 1 c]).run P w = .ok v' w' ∧ (∃ g' c' R, v' = .slice (some ⟨g', 0, none⟩) (D.length + 1) c' ∧ DSt w' B E U g' c' D a [] (.slice none 0 0) R) ∧ w.grownBy w' v.ownBlock := by
  obtain ⟨i0, hi, hz, hz1, hz2⟩ := info_parts hi
  obtain ⟨rows, h1, h2, h3⟩ := hown
  obtain ⟨v', w', hr, q2, q3, q4, q5⟩ := run_append_own_at (P := P) w B t ty E i0 z 2 bytes ht hi hz hz1 hz2 hzs (by decide) v D.length rows.flatten h3 ⟨g, 0, none⟩ 1 c [.int .i64 a, .slice none 0 0] rfl
    (fun j u hu => by rw [addr_add, Nat.zero_add]; exact hr.cell j (by simpa using hu)) (by intro u hu; simp at hu; rcases hu with rfl | rfl <;> rfl) (by simp only [maxLen]; omega) hbytes hB
  refine ⟨v', w', hr, ?_, q3⟩
  obtain ⟨g', c', rfl⟩ : ∃ g' c', v' = .slice (some ⟨g', 0, none⟩) (D.length + 1) c' := by
    rcases q2.2 with ⟨_, h0⟩ | ⟨g', c', _, e, _⟩
    · omega
    · exact ⟨g', c', e⟩
  refine ⟨g', c', rows, rfl, h1, fun i y hy => ?_, q2, Own.nil _ _ _ _, fun q hq => by simp [Value.ownBlock] at hq, hw, fun x hx => by simp at hx⟩
  obtain ⟨ds, d1, d2⟩ := h2 i y hy
  refine ⟨ds, d1, kPat.mono (fun b hb => ⟨?_, by simp [Value.ownBlock], Nat.lt_of_lt_of_le hb.2 q3.size⟩) (kPat.stay (fun b hb => q3.block b hb.2 hb.1) d2)⟩
  rcases q5 with e | e
  · rw [← e] at hb; exact hb.1
  · simp [Value.ownBlock] at e; intro e2; injection e2 with e2; omega
theorem wpList_appD {ops : Array Oper} {rest : List Oper} {o : Oper} {a' : Act} {Q : Exit → Act → World → Prop} (hgd : o.guard = none) (s x : Operand) (t : TypeId) (ho : o.op = .call { callee := .builtin .append, args := #[s, x], argTypes := #[t, t] })
    (z : Value) (bytes : Nat) (ht : P.underlying t = some (.slice E)) (hi : (P.info? E).map (fun i => (i.zero, i.size, i.bytes)) = some (some z, 2, bytes)) (hzs : z.cells.size = 2)
    (hs : a'.eval s = v) (g c : Nat) (hxv : a'.eval x = .slice (some ⟨g, 0, none⟩) 1 c) (hown : OwnK kPat w B E v D) (T : TypeId) (a : Int) (hr : Row w g T #[.int .i64 a, .slice none 0 0]) (hw : (Lit.int .i64 a).wf = true)
    (hbytes : (D.length + 1) * bytes ≤ 140737488355328) (h63 : D.length + 1 ≤ 9223372036854775807) (hB : B ≤ w.heap.size)
    (h : ∀ g' c' R w', DSt w' B E U g' c' D a [] (.slice none 0 0) R → w.grownBy w' v.ownBlock → wpList P ops Q rest (a'.put o.dst (.slice (some ⟨g', 0, none⟩) (D.length + 1) c')) w') : wpList P ops Q (o :: rest) a' w :=
  wpList_plain hgd fun _ hK => by
    obtain ⟨v', w', hrun, ⟨g', c', R, rfl, h2⟩, h3⟩ := run_appD (P := P) (U := U) t o.type z bytes ht hi hzs hown g c T a hr hw hbytes h63 hB
    unfold Oper.wp execOp
    simp only [ho, resolve, invoke, builtin, Sem.run_bind, Sem.run_pure, Result.andThen_ok, List.map_toArray, List.map_cons, List.map_nil, hs, hxv, hrun]
    exact hK _ _ (h g' c' R w' h2 h3)
end
/-! ### plain: the last one is there -/
theorem addLast_concat (I : List Pt) (a : Int) (d : List Nat) (x : Nat) : addLast (I ++ [(a, d)]) x = I ++ [(a, d ++ [x])] := by
  unfold addLast
  rw [List.dropLast_concat, List.getLast?_concat]
theorem diffK_ne (a b : List Nat) (k : Nat) (h : neqB a b k = true) : diffK a b (k + 1) ≠ [] := by
  induction k with
  | zero =>
    show (if neqB a b 0 then _ else _) ≠ _
    rw [h, if_pos rfl]
    simp [startB]
  | succ k ih =>
    show (if neqB a b (k + 1) then _ else _) ≠ _
    rw [h, if_pos rfl]
    cases hs : startB a b (k + 1) with
    | true => simp
    | false =>
      have h2 : neqB a b k = true := by
        unfold startB at hs
        simp at hs
        exact hs
      have := ih h2
      obtain ⟨I, p, hI⟩ : ∃ I p, diffK a b (k + 1) = I ++ [p] := ⟨_, _, (List.dropLast_concat_getLast this).symm⟩
      rw [hI]
      obtain ⟨q, d⟩ := p
      rw [addLast_concat]
      simp

/- Lists of patches: OfAll, SameAll. -/
set_option linter.unusedVariables false
set_option linter.unusedSimpArgs false
theorem rpatInfo : (Try.prog.info? 57).map (fun i => (i.zero, i.size, i.bytes)) = some (some (.agg #[.int .i64 0, .slice none 0 0]), 2, 32) := by kernel_rfl
set_option maxHeartbeats 1000000 in
set_option maxRecDepth 100000 in
theorem ofall_any (A : Option Addr) (c : Nat) (xs : List Pt) (w : World) (hx : Ps w A xs) (hn : xs.length ≤ 1000) :
    Calls Try.prog 29 #[.slice A xs.length c] w fun e w' => ∃ v, e = .returned v ∧ OwnK kPat w' w.heap.size 57 v xs ∧ Below w.heap.size w w' := by
  go_enter Try.func29, Try.ntmps29
  go_wp2
  go_loopw [3, 4] (fun v i wr => ∃ (u : Value) (k : Nat), u = v ∧ k ≤ xs.length ∧ i = .int .i64 k ∧ Below w.heap.size w wr ∧ OwnK kPat wr w.heap.size 57 u (xs.take k)) (fun _ i _ => xs.length - (intOf i).toNat)
  case atStart => exact ⟨_, 0, rfl, by omega, rfl, by first | exact Below.refl _ _ | exact bdrewN (Below.refl _ _) _, by first | exact OwnK.nil _ _ _ _ | exact (OwnK.nil _ _ _ _).drewN _⟩
  case round =>
    obtain ⟨u, k, rfl, hk, rfl, hbel, hown⟩ := hrel
    by_cases hlt : k < xs.length
    · obtain ⟨g, o, rfl⟩ := pat_form hx (by omega)
      obtain ⟨A', c', q0, q1, q2, q3, q4, q5, q6, q7⟩ := pat_at hx k hlt
      have d0 := (hbel.cell (p := ⟨g, o + k * 2, none⟩) q0).trans q1
      have d1 := (hbel.cell (p := ⟨g, o + k * 2 + 1, none⟩) q0).trans q2
      have HT : Hid (xs.take (k + 1) = xs.take k ++ [xs[k]]) := by show _ = _; rw [List.take_add_one, List.getElem?_eq_getElem hlt]; rfl
      have hlk : (xs.take k).length = k := by rw [List.length_take]; omega
      have hwx : w.heap.size ≤ wr.heap.size := hbel.size
      generalize xs[k] = p at *
      obtain ⟨a, d⟩ := p
      go_wp2_with fail
      refine (of_any a A' d.length c' _).mono ?_
      rintro e wB ⟨rfl, hbl⟩
      have hownB := hown.below hbl
      have hbelB := hbel.trans (hbl.mono hwx)
      have hwx2 : w.heap.size ≤ wB.heap.size := hbelB.size
      have hlt2 := hownB.lt
      have q7b : Rw kByte wB (All w) A' d.length d := q7.stay fun b hb => hbelB.block b hb
      have hK2 := kPat_mk (w := wB.alloc (.cells #[.int .i64 a, .slice A' d.length c'] 57)) q3 q4 q5 q6 (q7b.stay fun x hx => Below.heap_alloc _ _ _ (Nat.lt_of_lt_of_le hx hwx2))
      have hrow := Row.new wB 57 #[.int .i64 a, .slice A' d.length c']
      clear hown hbel hbl d0 d1
      go_wp2_with (at_builtin; refine wpList_appK rfl _ _ 48 rfl (.agg #[.int .i64 0, .slice none 0 0]) 32 Try.underlying48 rpatInfo rfl (by decide) rfl _ _ rfl (hownB.alloc _) 57 [.int .i64 a, .slice A' d.length c'] hrow (a, d) _ hK2 (fun x hx => ⟨fun e => by have := hlt2 x e.symm; have hx : x < w.heap.size := hx; omega, by have hx : x < w.heap.size := hx; simp; omega⟩) (by omega) (by omega) (by simp; omega) ?_; intro v4 w4 hown4 hg4 hat4)
      have hb4 := (hbelB.alloc hwx2 (.cells #[.int .i64 a, .slice A' d.length c'] 57)).grown hg4 (by simp; omega) (fun q hq => by have := hlt2 q hq; omega)
      rw [← HT.out] at hown4
      go_roundw
      case rel => exact ⟨v4, k + 1, rfl, by omega, by go_num, hb4, hown4⟩
      case measure => simp [intOf]; omega
    · have hke : k = xs.length := by omega
      subst hke
      rw [List.take_length] at hown
      go_wp2
      go_ret
      exact ⟨_, rfl, by first | exact hown | exact hown.drewN _, by first | exact hbel | exact bdrewN hbel _⟩
set_option maxHeartbeats 1000000 in
set_option maxRecDepth 100000 in
/-- Two lists of the same patches. -/
theorem sameall_yes (A A2 : Option Addr) (c c2 : Nat) (xs : List Pt) (w : World) (hx : Ps w A xs) (hy : Ps w A2 xs) (hn : xs.length ≤ 1000) :
    Calls Try.prog 28 #[.slice A xs.length c, .slice A2 xs.length c2] w fun e w' => e = .returned (.bool true) ∧ Below w.heap.size w w' := by
  go_enter Try.func28, Try.ntmps28
  go_wp2
  go_loopw [5] (fun i wr => ∃ k : Nat, k ≤ xs.length ∧ i = .int .i64 k ∧ Below w.heap.size w wr) (fun i _ => xs.length - (intOf i).toNat)
  case atStart => exact ⟨0, by omega, rfl, by first | exact Below.refl _ _ | exact bdrewN (Below.refl _ _) _⟩
  case round =>
    obtain ⟨k, hk, rfl, hbel⟩ := hrel
    by_cases hlt : k < xs.length
    · obtain ⟨g, o, rfl⟩ := pat_form hx (by omega)
      obtain ⟨g2, o2, rfl⟩ := pat_form hy (by omega)
      obtain ⟨A3, c3, p0, p1, p2, p3, p4, p5, p6, p7⟩ := pat_at hx k hlt
      obtain ⟨A4, c4, q0, q1, q2, q3, q4, q5, q6, q7⟩ := pat_at hy k hlt
      have d0 : wr.drew.cell? ⟨g, o + k * 2, none⟩ = _ := (hbel.cell (p := ⟨g, o + k * 2, none⟩) p0).trans p1
      have d1 : wr.drew.cell? ⟨g, o + k * 2 + 1, none⟩ = _ := (hbel.cell (p := ⟨g, o + k * 2 + 1, none⟩) p0).trans p2
      have f0 : wr.drew.cell? ⟨g2, o2 + k * 2, none⟩ = _ := (hbel.cell (p := ⟨g2, o2 + k * 2, none⟩) q0).trans q1
      have f1 : wr.drew.cell? ⟨g2, o2 + k * 2 + 1, none⟩ = _ := (hbel.cell (p := ⟨g2, o2 + k * 2 + 1, none⟩) q0).trans q2
      have hd1 := p7.below hbel
      have hd2 := q7.below hbel
      have hd1d := hd1.drew
      have hd2d := hd2.drew
      have l1 : g < wr.drew.heap.size := Nat.lt_of_lt_of_le p0 hbel.size
      have l2 : g2 < wr.drew.heap.size := Nat.lt_of_lt_of_le q0 hbel.size
      have hsz := hbel.size
      generalize xs[k] = p at *
      obtain ⟨a, d⟩ := p
      have CS := Lib.hid (fun w' h1 h2 => rsame_any a A3 c3 d a A4 c4 d w' h1 h2)
      rw [psame_refl] at CS
      go_wp2_with fail
      refine wp_region_held_drew (S := Go.RowKit.Below ((wr.drew).heap.size) (wr.drew)) (by kernel_rfl) ?hb7 (fun hHeld => ?rest7)
      case hb7 =>
        exact Go.RowKit.Below.refl _ _
      case' rest7 => skip
      have hCl := fun (wS : World) (hSw : Go.RowKit.Below ((wr.drew).heap.size) (wr.drew) wS) => And.intro (Mem.bl_cell hSw d0 (by first | omega | (dsimp only; omega) | exact World.block_lt_of_cell? _ _ d0 | (simp <;> omega))) <| And.intro (Mem.bl_cell hSw d1 (by first | omega | (dsimp only; omega) | exact World.block_lt_of_cell? _ _ d1 | (simp <;> omega))) <| And.intro (Mem.bl_cell hSw f0 (by first | omega | (dsimp only; omega) | exact World.block_lt_of_cell? _ _ f0 | (simp <;> omega))) <| Mem.bl_cell hSw f1 (by first | omega | (dsimp only; omega) | exact World.block_lt_of_cell? _ _ f1 | (simp <;> omega))
      replace hCl := Go.Lib.hid hCl
      refine Mem.tkY 0 ?v8 (hy := Or.inl ⟨by rfl, ?y8⟩) (hS := by assumption) (h := ?r8)
      case y8 => (intro w hSw; clear hSw; go_simp; try with_reducible rfl)
      case' r8 => skip
      refine Mem.tkY 1 ?v9 (hy := Or.inl ⟨by rfl, ?y9⟩) (hS := by assumption) (h := ?r9)
      case y9 => (intro w hSw; clear hSw; go_simp; try with_reducible rfl)
      case' r9 => skip
      refine Mem.tkY 2 ?v10 (hy := Or.inl ⟨by rfl, ?y10⟩) (hS := by assumption) (h := ?r10)
      case y10 => (intro w hSw; clear hSw; go_simp; try with_reducible rfl)
      case' r10 => skip
      try simp only [List.getElem_toArray, List.getElem_cons_succ, List.getElem_cons_zero, Act.put, List.setIfInBounds_toArray, List.set_cons_zero, List.set_cons_succ]
      refine Mem.tkY 3 ?v11 (hy := Or.inl ⟨by rfl, ?y11⟩) (hS := by assumption) (h := ?r11)
      case y11 => (intro w hSw; obtain ⟨hT0, hT1, hT2, hT3⟩ := hCl.out w hSw; clear hSw; go_simp; try with_reducible rfl)
      case' r11 => skip
      refine Mem.tkY 4 ?v12 (hy := Or.inl ⟨by rfl, ?y12⟩) (hS := by assumption) (h := ?r12)
      case y12 => (intro w hSw; clear hSw; go_simp; try with_reducible rfl)
      case' r12 => skip
      refine Mem.tkY 5 ?v13 (hy := Or.inl ⟨by rfl, ?y13⟩) (hS := by assumption) (h := ?r13)
      case y13 => (intro w hSw; clear hSw; go_simp; try with_reducible rfl)
      case' r13 => skip
      try simp only [List.getElem_toArray, List.getElem_cons_succ, List.getElem_cons_zero, Act.put, List.setIfInBounds_toArray, List.set_cons_zero, List.set_cons_succ]
      refine Mem.tkY 6 ?v14 (hy := Or.inl ⟨by rfl, ?y14⟩) (hS := by assumption) (h := ?r14)
      case y14 => (intro w hSw; clear hSw; go_simp; try with_reducible rfl)
      case' r14 => skip
      refine Mem.tkY 7 ?v15 (hy := Or.inl ⟨by rfl, ?y15⟩) (hS := by assumption) (h := ?r15)
      case y15 => (intro w hSw; obtain ⟨hT0, hT1, hT2, hT3⟩ := hCl.out w hSw; clear hSw; go_simp; try with_reducible rfl)
      case' r15 => skip
      try simp only [List.getElem_toArray, List.getElem_cons_succ, List.getElem_cons_zero, Act.put, List.setIfInBounds_toArray, List.set_cons_zero, List.set_cons_succ]
      refine wpAnyH_ready (rs := [8]) (by kernel_rfl) (by simp) ?_
      refine AllReadyH.cons rfl (fun K hK => ?_) AllReadyH.nil
      go_simp
      (refine (CS.out _ (hd1d.below hHeld) (hd2d.below hHeld)).mono ?_; rintro e w4 ⟨rfl, hbl⟩)
      try go_wp2_with fail
      have hSnew := Mem.bl_step hHeld hbl (by first | exact Nat.le_refl _ | omega | (simp <;> omega))
      refine hK.out _ _ ?_ (fun hHeld2 => ?_)
      · exact hSnew
      clear hbl
      clear hK K hHeld hSnew
      have hHeld := hHeld2
      clear hHeld2
      try simp only [List.getElem_toArray, List.getElem_cons_succ, List.getElem_cons_zero, Act.put, List.setIfInBounds_toArray, List.set_cons_zero, List.set_cons_succ]
      refine Mem.tkY 9 ?v16 (hy := Or.inl ⟨by rfl, ?y16⟩) (hS := by assumption) (h := ?r16)
      case y16 => (intro w hSw; clear hSw; go_simp; try with_reducible rfl)
      case' r16 => skip
      try simp only [List.getElem_toArray, List.getElem_cons_succ, List.getElem_cons_zero, Act.put, List.setIfInBounds_toArray, List.set_cons_zero, List.set_cons_succ]
      refine wpAnyH_done (by kernel_rfl) ?_ _
      clear hCl
      go_wp2
      go_roundw
      case rel => exact ⟨k + 1, by omega, by go_num, hbel.trans (((Below.refl _ _).drew.trans hHeld).mono hsz)⟩
      case measure => simp [intOf]; omega
    · have hke : k = xs.length := by omega
      subst hke
      go_wp2
      go_ret
      exact ⟨rfl, by first | exact hbel | exact bdrewN hbel _⟩

/- The document's Diff. -/
set_option linter.unusedVariables false
set_option linter.unusedSimpArgs false
theorem by_cells {w : World} {A : Option Addr} {l : List Nat} (h : By w A l) (hn : 0 < l.length) : ∃ g o, A = some ⟨g, o, none⟩ ∧ g < w.heap.size ∧ ∀ (i : Nat) (hi : i < l.length), w.cell? ⟨g, o + i, none⟩ = some (.int .u8 (l[i] : Int)) ∧ l[i] < 256 := by
  rcases h.2.2 with h0 | ⟨g, o, hA, hS, hlt, hc⟩
  · omega
  · refine ⟨g, o, hA, hlt, fun i hi => ?_⟩
    obtain ⟨cs, ⟨rfl, h1⟩, h2⟩ := hc i _ (List.getElem?_eq_getElem hi)
    have := h2 0 _ rfl
    rw [show o + i * kByte.sz + 0 = o + i from by show o + i * 1 + 0 = o + i; omega] at this
    exact ⟨this, h1⟩
theorem diffK_dlen (a b : List Nat) (k : Nat) : ∀ p ∈ diffK a b k, p.2.length ≤ k := by
  induction k with
  | zero => intro p hp; simp [diffK] at hp
  | succ k ih =>
    intro p hp
    change p ∈ (if neqB a b k then (if startB a b k then diffK a b k ++ [((k : Int), [b.getD k 0])] else addLast (diffK a b k) (b.getD k 0)) else diffK a b k) at hp
    split at hp
    · split at hp
      · rcases List.mem_append.1 hp with hp | hp
        · have := ih p hp; omega
        · simp at hp; subst hp; simp
      · rcases List.eq_nil_or_concat (diffK a b k) with h | ⟨I, q, h⟩
        · rw [h] at hp; simp [addLast] at hp
        · rw [List.concat_eq_append] at h
          rw [h] at hp ih
          obtain ⟨q1, q2⟩ := q
          rw [addLast_concat] at hp
          rcases List.mem_append.1 hp with hp | hp
          · have := ih p (List.mem_append_left _ hp); omega
          · simp at hp
            subst hp
            have := ih (q1, q2) (List.mem_append_right _ (by simp))
            simp at this ⊢
            omega
    · have := ih p hp; omega
set_option maxHeartbeats 2000000 in
set_option maxRecDepth 100000 in
theorem rdiff_any (A : Option Addr) (c : Nat) (A2 : Option Addr) (c2 : Nat) (a b : List Nat) (w : World) (ha : a.length = 256) (hb : b.length = 256) (hA : By w A a) (hB : By w A2 b) :
    Calls Try.prog 31 #[.slice A 256 c, .slice A2 256 c2] w fun e w' => ∃ v, e = .returned v ∧ OwnK kPat w' w.heap.size 57 v (diffL a b) ∧ Below w.heap.size w w' := by
  have hE : Hid (∀ i, diffK a b (i + 1) = if neqB a b i then (if startB a b i then diffK a b i ++ [((i : Int), [b.getD i 0])] else addLast (diffK a b i) (b.getD i 0)) else diffK a b i) := fun i => rfl
  obtain ⟨ga, oa, rfl, hga, hca⟩ := by_cells hA (by omega)
  obtain ⟨gb, ob, rfl, hgb, hcb⟩ := by_cells hB (by omega)
  have HA := Lib.hid ha
  have HB := Lib.hid hb
  clear ha hb hA hB
  go_enter Try.func31, Try.ntmps31
  go_wp2
  go_loopw [5, 6] (fun v i wr => ∃ (u : Value) (k : Nat), u = v ∧ k ≤ 256 ∧ i = .int .i64 k ∧ Sta wr w.heap.size 57 5 u (diffK a b k) ∧ Below w.heap.size w wr) (fun _ i _ => 256 - (intOf i).toNat)
  case atStart => exact ⟨_, 0, rfl, by omega, rfl, .inl ⟨rfl, rfl⟩, by first | exact Below.refl _ _ | exact bdrewN (Below.refl _ _) _⟩
  case round =>
    obtain ⟨v, k, rfl, hk, rfl, hst, hbel⟩ := hrel
    by_cases hlt : k < 256
    · have hka : k < a.length := by rw [HA.out]; exact hlt
      have hkb : k < b.length := by rw [HB.out]; exact hlt
      have h1k : (k : Int) < 256 := by omega
      have ca := (hbel.cell (p := ⟨ga, oa + k, none⟩) hga).trans (hca k hka).1
      have cb := (hbel.cell (p := ⟨gb, ob + k, none⟩) hgb).trans (hcb k hkb).1
      have hyb := (hcb k hkb).2
      have hne := neqB_at a b k hka hkb
      have hgd := getD_at b k hkb
      cases hq : neqB a b k with
      | false =>
        rw [hq] at hne
        have hc : (((a[k] : Nat) : Int) == ((b[k] : Nat) : Int)) = true := by
          rw [beq_iff_eq]
          exact (bne_eq_false_iff_eq.1 hne.symm)
        have HD := Lib.hid (diffK_eq a b k hq)
        generalize a[k] = x at *
        generalize b[k] = y at *
        clear hne hq hgd
        go_wp2
        go_quiet (fail)
        go_wp2
        go_roundw
        case rel => exact ⟨_, k + 1, rfl, by omega, by go_num, by rw [HD.out]; exact hst.drewN nq, bdrewN hbel nq⟩
        case measure => simp [intOf]; omega
      | true =>
        rw [hq] at hne
        have hc : (((a[k] : Nat) : Int) == ((b[k] : Nat) : Int)) = false := by
          rw [beq_eq_false_iff_ne]
          exact (bne_iff_ne.1 hne.symm)
        have HQ := Lib.hid hq
        have HE := Lib.hid (hE.out k)
        rw [hq, if_pos rfl, hgd] at HE
        have hlen := diffK_len a b k
        cases k with
        | zero =>
          have HS : Hid (startB a b 0 = true) := rfl
          rw [HS.out, if_pos rfl] at HE
          have HK0 : Hid (((0 : Nat) : Int) = 0) := rfl
          rw [HK0.out] at HE
          generalize diffK a b 0 = I at *
          generalize a[0] = x at *
          generalize b[0] = y at *
          rw [Nat.add_zero] at ca cb
          clear hne hq hgd
          go_wp2
          go_quiet (fail)
          go_wp2
          have hst2 := hst.drewN nq
          have hbel2 := bdrewN hbel nq
          have cb2 : (wr.drewN nq).cell? ⟨gb, ob, none⟩ = some (.int .u8 (y : Int)) := cb
          clear hst hbel ca cb
          generalize wr.drewN nq = w2 at *
          go_quiet (fail)
          have hst3 := (hst2.drewN nq).ownK
          have hbel3 := bdrewN hbel2 nq
          have cb3 : (w2.drewN nq).cell? ⟨gb, ob, none⟩ = some (.int .u8 (y : Int)) := cb2
          clear hst2 hbel2 cb2
          generalize w2.drewN nq = w3 at *
          have hwx := hbel3.size
          have hltv := hst3.lt
          have hrow := Row.new w3 57 #[.int .i64 0, .slice none 0 0]
          go_wp2_with (at_builtin; refine wpList_appD (U := 5) rfl _ _ 48 rfl (.agg #[.int .i64 0, .slice none 0 0]) 32 Try.underlying48 rpatInfo rfl rfl _ _ rfl (hst3.alloc _) 57 0 hrow (by decide) (by omega) (by omega) (by simp; omega) ?_; intro gv cv R wq hst4 hg4)
          have hbelq := (hbel3.alloc hwx (.cells #[.int .i64 0, .slice none 0 0] 57)).grown hg4 (by simp; omega) (fun q hq => (hltv q hq).1)
          have cbq : wq.drew.cell? ⟨gb, ob, none⟩ = some (.int .u8 (y : Int)) := (hg4.cell (a := ⟨gb, ob, none⟩) ((Below.heap_alloc w3 _ gb (by omega) |> fun h => (World.cell?_of_block (w := w3) h).trans cb3)) (fun e => by have := hltv gb e.symm; omega))
          clear hst3 hbel3 cb3 hrow hg4
          obtain ⟨a0, ha0⟩ : ∃ a0 : Int, a0 = 0 := ⟨_, rfl⟩
          obtain ⟨d, hd0⟩ : ∃ d : List Nat, d = [] := ⟨_, rfl⟩
          obtain ⟨u, hu0⟩ : ∃ u : Value, u = .slice none 0 0 := ⟨_, rfl⟩
          have hdl : d.length ≤ 256 := by rw [hd0]; decide
          have HD : Hid (diffK a b (0 + 1) = I ++ [(a0, d ++ [y])]) := by show _ = _; rw [HE.out, ha0, hd0]; rfl
          rw [← ha0, ← hd0, ← hu0] at hst4
          have hst := hst4
          clear hst4 ha0 hd0 hu0 HE
          have hlt := hst.lt
          have hcu : wq.drew.cell? ⟨gv, I.length * 2 + 1, none⟩ = some u := hst.cellU
          have hgbl : gb < wq.drew.heap.size := Nat.lt_of_lt_of_le hgb hbelq.size
          have hwq := hbelq.size
          have hfz := hst.frozen (I.length * 2 + 1)
          have hsta := hst.below ((Below.refl wq.heap.size wq).drew.alloc (Nat.le_refl _) (.cells #[.int .u8 (y : Int)] 5))
          have hcu2 := hsta.cellU
          have hcu3 : (wq.alloc (.cells #[.int .u8 (y : Int)] 5)).drew.cell? ⟨gv, I.length * 2 + 1, none⟩ = some u := hsta.cellU
          have hl3 : (d ++ [y]).length = d.length + 1 := by rw [List.length_append, List.length_singleton]
          have hsl1 : Sl (wq.drew.alloc (.cells #[.int .u8 (y : Int)] 5)) V8 (some ⟨wq.heap.size, 0, none⟩) 1 [y] := sl_block (Row.new wq.drew 5 #[.int .u8 (y : Int)]) rfl (by simp)
          have hil : ((I.length : Nat) : Int) < (I.length : Int) + 1 := by omega
          refine wp_region_held_drew (S := Go.RowKit.Below (w.heap.size) (wq.drew)) (by kernel_rfl) ?hb27 (fun hHeld => ?rest27)
          case hb27 =>
            exact Go.RowKit.Below.refl _ _
          case' rest27 => skip
          have hCl := fun (wS : World) (hSw : Go.RowKit.Below (w.heap.size) (wq.drew) wS) =>  Mem.bl_cell hSw cbq (by first | omega | (dsimp only; omega) | exact World.block_lt_of_cell? _ _ cbq | (simp <;> omega))
          replace hCl := Go.Lib.hid hCl
          refine Mem.tkY 0 ?v28 (hy := Or.inl ⟨by rfl, ?y28⟩) (hS := by assumption) (h := ?r28)
          case y28 => (intro w hSw; clear hSw; go_simp; try with_reducible rfl)
          case' r28 => skip
          refine Mem.tkY 1 ?v29 (hy := Or.inl ⟨by rfl, ?y29⟩) (hS := by assumption) (h := ?r29)
          case y29 => (intro w hSw; clear hSw; go_simp; try with_reducible rfl)
          case' r29 => skip
          refine Mem.tkY 2 ?v30 (hy := Or.inl ⟨by rfl, ?y30⟩) (hS := by assumption) (h := ?r30)
          case y30 => (intro w hSw; clear hSw; go_simp; try with_reducible rfl)
          case' r30 => skip
          try simp only [List.getElem_toArray, List.getElem_cons_succ, List.getElem_cons_zero, Act.put, List.setIfInBounds_toArray, List.set_cons_zero, List.set_cons_succ]
          refine Mem.tkY 3 ?v31 (hy := Or.inl ⟨by rfl, ?y31⟩) (hS := by assumption) (h := ?r31)
          case y31 => (intro w hSw; clear hSw; go_simp; try with_reducible rfl)
          case' r31 => skip
          refine Mem.tkY 4 ?v32 (hy := Or.inl ⟨by rfl, ?y32⟩) (hS := by assumption) (h := ?r32)
          case y32 => (intro w hSw; clear hSw; go_simp; try with_reducible rfl)
          case' r32 => skip
          refine Mem.tkY 5 ?v33 (hy := Or.inl ⟨by rfl, ?y33⟩) (hS := by assumption) (h := ?r33)
          case y33 => (intro w hSw; clear hSw; go_simp; try with_reducible rfl)
          case' r33 => skip
          try simp only [List.getElem_toArray, List.getElem_cons_succ, List.getElem_cons_zero, Act.put, List.setIfInBounds_toArray, List.set_cons_zero, List.set_cons_succ]
          refine Mem.tkY 7 ?v34 (hy := Or.inl ⟨by rfl, ?y34⟩) (hS := by assumption) (h := ?r34)
          case y34 => (intro w hSw; clear hSw; go_simp; try with_reducible rfl)
          case' r34 => skip
          refine Mem.tkY 8 ?v35 (hy := Or.inl ⟨by rfl, ?y35⟩) (hS := by assumption) (h := ?r35)
          case y35 => (intro w hSw; clear hSw; go_simp; try with_reducible rfl)
          case' r35 => skip
          refine Mem.tkY 9 ?v36 (hy := Or.inl ⟨by rfl, ?y36⟩) (hS := by assumption) (h := ?r36)
          case y36 => (intro w hSw; clear hSw; go_simp; try with_reducible rfl)
          case' r36 => skip
          try simp only [List.getElem_toArray, List.getElem_cons_succ, List.getElem_cons_zero, Act.put, List.setIfInBounds_toArray, List.set_cons_zero, List.set_cons_succ]
          refine Mem.tkY 10 ?v37 (hy := Or.inl ⟨by rfl, ?y37⟩) (hS := by assumption) (h := ?r37)
          case y37 => (intro w hSw; have hT0 := hCl.out w hSw; clear hSw; go_simp; try with_reducible rfl)
          case' r37 => skip
          try simp only [List.getElem_toArray, List.getElem_cons_succ, List.getElem_cons_zero, Act.put, List.setIfInBounds_toArray, List.set_cons_zero, List.set_cons_succ]
          refine wpAnyH_ready (rs := [6, 11]) (by kernel_rfl) (by simp) ?_
          refine AllReadyH.cons rfl (fun K hK => ?_) ?_
          · skip
            go_simp
            have hSnew := hHeld
            try go_wp2_with fail
            refine hK.out _ _ ?_ (fun hHeld2 => ?_)
            · exact hSnew
            clear hK K hHeld hSnew
            have hHeld := hHeld2
            clear hHeld2
            try simp only [List.getElem_toArray, List.getElem_cons_succ, List.getElem_cons_zero, Act.put, List.setIfInBounds_toArray, List.set_cons_zero, List.set_cons_succ]
            refine wpAnyH_ready (rs := [11]) (by kernel_rfl) (by simp) ?_
            refine AllReadyH.cons rfl (fun K hK => ?_) AllReadyH.nil
            go_simp
            have hbl := (Below.refl _ wq.drew).alloc (Nat.le_refl _) (.cells #[.int .u8 (y : Int)] 5)
            try go_wp2_with fail
            have hSnew := Mem.bl_step hHeld hbl (by first | exact Nat.le_refl _ | omega | (simp <;> omega))
            refine hK.out _ _ ?_ (fun hHeld2 => ?_)
            · exact hSnew
            clear hbl
            clear hK K hHeld hSnew
            have hHeld := hHeld2
            clear hHeld2
            try simp only [List.getElem_toArray, List.getElem_cons_succ, List.getElem_cons_zero, Act.put, List.setIfInBounds_toArray, List.set_cons_zero, List.set_cons_succ]
            refine wpAnyH_ready (rs := [12]) (by kernel_rfl) (by simp) ?_
            refine AllReadyH.cons rfl (fun K hK => ?_) AllReadyH.nil
            rw [if_pos (by rfl)]
            refine wp_app _ _ _ (by rfl) (V8 0) 1 Try.underlying34 u8Info rfl (by rfl) (by rfl) hsta.own hsl1 (fun h => by cases h) V8_one (by simp; omega) (by simp; omega) (by simp; omega) ?_; intro v3 w3 hown3 hg3 hat3; have hs3 := hsta.step hyb hg3 hown3 hat3; obtain ⟨A3, cp3, hv3⟩ := hown3.slice; rw [hl3] at hv3; subst hv3; have hblk := hsta.own.lt; have hSnew := hHeld.grown hg3 (by simp; omega) (fun q hq => (hblk q hq).1); have hfz3 : w3.frozen? ⟨gv, I.length * 2 + 1, none⟩ = false := (World.ownsRow.frozenAt hsta.row (I.length * 2 + 1) |> fun h => by rw [World.frozen?_of_block (hg3.block gv (by simp; omega) (fun e => hsta.apart gv e.symm rfl))]; exact h); have hcu3 : w3.cell? ⟨gv, I.length * 2 + 1, none⟩ = some u := hg3.cell (hsta.cellU) (fun e => hsta.apart gv e.symm rfl)
            refine hK.out _ _ ?_ (fun hHeld2 => ?_)
            · exact hSnew
            clear hK K hHeld hSnew
            have hHeld := hHeld2
            clear hHeld2
            try simp only [List.getElem_toArray, List.getElem_cons_succ, List.getElem_cons_zero, Act.put, List.setIfInBounds_toArray, List.set_cons_zero, List.set_cons_succ]
            refine Mem.tkY 13 ?v38 (hy := Or.inl ⟨by rfl, ?y38⟩) (hS := by assumption) (h := ?r38)
            case y38 => (intro w hSw; clear hSw; go_simp; try with_reducible rfl)
            case' r38 => skip
            refine Mem.tkY 14 ?v39 (hy := Or.inl ⟨by rfl, ?y39⟩) (hS := by assumption) (h := ?r39)
            case y39 => (intro w hSw; clear hSw; go_simp; try with_reducible rfl)
            case' r39 => skip
            try simp only [List.getElem_toArray, List.getElem_cons_succ, List.getElem_cons_zero, Act.put, List.setIfInBounds_toArray, List.set_cons_zero, List.set_cons_succ]
            refine wpAnyH_ready (rs := [15]) (by kernel_rfl) (by simp) ?_
            refine AllReadyH.cons rfl (fun K hK => ?_) AllReadyH.nil
            go_simp
            have hSnew := hHeld.setCell (p := ⟨gv, I.length * 2 + 1, none⟩) hlt.1 (.slice A3 (d.length + 1) cp3)
            try go_wp2_with fail
            refine hK.out _ _ ?_ (fun hHeld2 => ?_)
            · exact hSnew
            clear hK K hHeld hSnew
            have hHeld := hHeld2
            clear hHeld2
            try simp only [List.getElem_toArray, List.getElem_cons_succ, List.getElem_cons_zero, Act.put, List.setIfInBounds_toArray, List.set_cons_zero, List.set_cons_succ]
            refine wpAnyH_done (by kernel_rfl) ?_ _
            clear hCl
            go_wp2
            have hbq2 := hbelq.drew.trans hHeld
            go_roundw
            case rel => first | exact ⟨_, 1, rfl, by omega, by go_num, .inr ⟨gv, cv, I, a0, _, _, R, rfl, HD.out, hs3⟩, hbq2⟩ | exact ⟨_, j + 1 + 1, rfl, by omega, by go_num, .inr ⟨gv, cv, I, a0, _, _, R, rfl, HD.out, hs3⟩, hbq2⟩
            case measure => simp [intOf] <;> omega
          refine AllReadyH.cons rfl (fun K hK => ?_) ?_
          · skip
            go_simp
            have hbl := (Below.refl _ wq.drew).alloc (Nat.le_refl _) (.cells #[.int .u8 (y : Int)] 5)
            try go_wp2_with fail
            have hSnew := Mem.bl_step hHeld hbl (by first | exact Nat.le_refl _ | omega | (simp <;> omega))
            refine hK.out _ _ ?_ (fun hHeld2 => ?_)
            · exact hSnew
            clear hbl
            clear hK K hHeld hSnew
            have hHeld := hHeld2
            clear hHeld2
            try simp only [List.getElem_toArray, List.getElem_cons_succ, List.getElem_cons_zero, Act.put, List.setIfInBounds_toArray, List.set_cons_zero, List.set_cons_succ]
            refine wpAnyH_ready (rs := [6]) (by kernel_rfl) (by simp) ?_
            refine AllReadyH.cons rfl (fun K hK => ?_) AllReadyH.nil
            go_simp
            have hSnew := hHeld
            try go_wp2_with fail
            refine hK.out _ _ ?_ (fun hHeld2 => ?_)
            · exact hSnew
            clear hK K hHeld hSnew
            have hHeld := hHeld2
            clear hHeld2
            try simp only [List.getElem_toArray, List.getElem_cons_succ, List.getElem_cons_zero, Act.put, List.setIfInBounds_toArray, List.set_cons_zero, List.set_cons_succ]
            refine wpAnyH_ready (rs := [12]) (by kernel_rfl) (by simp) ?_
            refine AllReadyH.cons rfl (fun K hK => ?_) AllReadyH.nil
            rw [if_pos (by rfl)]
            refine wp_app _ _ _ (by rfl) (V8 0) 1 Try.underlying34 u8Info rfl (by rfl) (by rfl) hsta.own hsl1 (fun h => by cases h) V8_one (by simp; omega) (by simp; omega) (by simp; omega) ?_; intro v3 w3 hown3 hg3 hat3; have hs3 := hsta.step hyb hg3 hown3 hat3; obtain ⟨A3, cp3, hv3⟩ := hown3.slice; rw [hl3] at hv3; subst hv3; have hblk := hsta.own.lt; have hSnew := hHeld.grown hg3 (by simp; omega) (fun q hq => (hblk q hq).1); have hfz3 : w3.frozen? ⟨gv, I.length * 2 + 1, none⟩ = false := (World.ownsRow.frozenAt hsta.row (I.length * 2 + 1) |> fun h => by rw [World.frozen?_of_block (hg3.block gv (by simp; omega) (fun e => hsta.apart gv e.symm rfl))]; exact h); have hcu3 : w3.cell? ⟨gv, I.length * 2 + 1, none⟩ = some u := hg3.cell (hsta.cellU) (fun e => hsta.apart gv e.symm rfl)
            refine hK.out _ _ ?_ (fun hHeld2 => ?_)
            · exact hSnew
            clear hK K hHeld hSnew
            have hHeld := hHeld2
            clear hHeld2
            try simp only [List.getElem_toArray, List.getElem_cons_succ, List.getElem_cons_zero, Act.put, List.setIfInBounds_toArray, List.set_cons_zero, List.set_cons_succ]
            refine Mem.tkY 13 ?v40 (hy := Or.inl ⟨by rfl, ?y40⟩) (hS := by assumption) (h := ?r40)
            case y40 => (intro w hSw; clear hSw; go_simp; try with_reducible rfl)
            case' r40 => skip
            refine Mem.tkY 14 ?v41 (hy := Or.inl ⟨by rfl, ?y41⟩) (hS := by assumption) (h := ?r41)
            case y41 => (intro w hSw; clear hSw; go_simp; try with_reducible rfl)
            case' r41 => skip
            try simp only [List.getElem_toArray, List.getElem_cons_succ, List.getElem_cons_zero, Act.put, List.setIfInBounds_toArray, List.set_cons_zero, List.set_cons_succ]
            refine wpAnyH_ready (rs := [15]) (by kernel_rfl) (by simp) ?_
            refine AllReadyH.cons rfl (fun K hK => ?_) AllReadyH.nil
            go_simp
            have hSnew := hHeld.setCell (p := ⟨gv, I.length * 2 + 1, none⟩) hlt.1 (.slice A3 (d.length + 1) cp3)
            try go_wp2_with fail
            refine hK.out _ _ ?_ (fun hHeld2 => ?_)
            · exact hSnew
            clear hK K hHeld hSnew
            have hHeld := hHeld2
            clear hHeld2
            try simp only [List.getElem_toArray, List.getElem_cons_succ, List.getElem_cons_zero, Act.put, List.setIfInBounds_toArray, List.set_cons_zero, List.set_cons_succ]
            refine wpAnyH_done (by kernel_rfl) ?_ _
            clear hCl
            go_wp2
            have hbq2 := hbelq.drew.trans hHeld
            go_roundw
            case rel => first | exact ⟨_, 1, rfl, by omega, by go_num, .inr ⟨gv, cv, I, a0, _, _, R, rfl, HD.out, hs3⟩, hbq2⟩ | exact ⟨_, j + 1 + 1, rfl, by omega, by go_num, .inr ⟨gv, cv, I, a0, _, _, R, rfl, HD.out, hs3⟩, hbq2⟩
            case measure => simp [intOf] <;> omega
          exact AllReadyH.nil
        | succ j =>
          have hj : (j : Int) < 256 := by omega
          have hj2 : j < 256 := by omega
          have hj00 : (0 : Int) ≤ (j : Int) + 1 := by omega
          have hjk : (j : Int) + 1 < 256 := by omega
          have hwj : IntKind.i64.wrap (j : Int) = (j : Int) := by
            unfold IntKind.wrap; simp [IntKind.signed, IntKind.bits]; omega
          have hj0 : ((j : Int) + 1 == 0) = false := by rw [beq_eq_false_iff_ne]; omega
          have hk1 : IntKind.i64.wrap ((j : Int) + 1) = (j : Int) + 1 := by
            unfold IntKind.wrap; simp [IntKind.signed, IntKind.bits]; omega
          have ca1 := (hbel.cell (p := ⟨ga, oa + j, none⟩) hga).trans (hca j (by omega)).1
          have cb1 := (hbel.cell (p := ⟨gb, ob + j, none⟩) hgb).trans (hcb j (by omega)).1
          have hne1 := neqB_at a b j (by omega) (by omega)
          have HSe : Hid (startB a b (j + 1) = !neqB a b j) := rfl
          cases hq1 : neqB a b j with
          | false =>
            have HS : Hid (startB a b (j + 1) = true) := by show _ = _; rw [HSe.out, hq1]; rfl
            rw [HS.out, if_pos rfl] at HE
            rw [hq1] at hne1
            have hc1 : (((a[j] : Nat) : Int) == ((b[j] : Nat) : Int)) = true := by
              rw [beq_iff_eq]
              exact (bne_eq_false_iff_eq.1 hne1.symm)
            generalize a[j] = x1 at *
            generalize b[j] = y1 at *
            generalize a[j + 1] = x at *
            generalize b[j + 1] = y at *
            clear hne hq hgd hne1 hq1
            go_wp2
            go_quiet (fail)
            go_wp2
            have hst2 := hst.drewN nq
            have hbel2 := bdrewN hbel nq
            have cb2 : (wr.drewN nq).cell? ⟨gb, ob + (j + 1), none⟩ = some (.int .u8 (y : Int)) := cb
            have ca2 : (wr.drewN nq).cell? ⟨ga, oa + j, none⟩ = some (.int .u8 (x1 : Int)) := ca1
            have cb3 : (wr.drewN nq).cell? ⟨gb, ob + j, none⟩ = some (.int .u8 (y1 : Int)) := cb1
            clear hst hbel ca cb ca1 cb1
            generalize wr.drewN nq = w2 at *
            go_quiet (fail)
            have HK0 : Hid (((j + 1 : Nat) : Int) = (j : Int) + 1) := by show _ = _; simp
            rw [HK0.out] at HE
            have hwfk := wf_nat (j + 1) (by omega)
            rw [HK0.out] at hwfk
            have hst3 := (hst2.drewN nq).ownK
            have hbel3 := bdrewN hbel2 nq
            have cb4 : (w2.drewN nq).cell? ⟨gb, ob + (j + 1), none⟩ = some (.int .u8 (y : Int)) := cb2
            clear hst2 hbel2 cb2 ca2 cb3
            generalize diffK a b (j + 1) = I at *
            generalize w2.drewN nq = w3 at *
            have hwx := hbel3.size
            have hltv := hst3.lt
            have hrow := Row.new w3 57 #[.int .i64 ((j : Int) + 1), .slice none 0 0]
            go_wp2_with (at_builtin; refine wpList_appD (U := 5) rfl _ _ 48 rfl (.agg #[.int .i64 0, .slice none 0 0]) 32 Try.underlying48 rpatInfo rfl rfl _ _ rfl (hst3.alloc _) 57 ((j : Int) + 1) hrow hwfk (by omega) (by omega) (by simp; omega) ?_; intro gv cv R wq hst4 hg4)
            have hbelq := (hbel3.alloc hwx (.cells #[.int .i64 ((j : Int) + 1), .slice none 0 0] 57)).grown hg4 (by simp; omega) (fun q hq => (hltv q hq).1)
            have cbq : wq.drew.cell? ⟨gb, ob + (j + 1), none⟩ = some (.int .u8 (y : Int)) := (hg4.cell (a := ⟨gb, ob + (j + 1), none⟩) ((Below.heap_alloc w3 _ gb (by omega) |> fun h => (World.cell?_of_block (w := w3) h).trans cb4)) (fun e => by have := hltv gb e.symm; omega))
            clear hst3 hbel3 cb4 hrow hg4
            obtain ⟨a0, ha0⟩ : ∃ a0 : Int, a0 = (j : Int) + 1 := ⟨_, rfl⟩
            obtain ⟨d, hd0⟩ : ∃ d : List Nat, d = [] := ⟨_, rfl⟩
            obtain ⟨u, hu0⟩ : ∃ u : Value, u = .slice none 0 0 := ⟨_, rfl⟩
            have hdl : d.length ≤ 256 := by rw [hd0]; decide
            have HD : Hid (diffK a b (j + 1 + 1) = I ++ [(a0, d ++ [y])]) := by show _ = _; rw [HE.out, ha0, hd0]; rfl
            rw [← ha0, ← hd0, ← hu0] at hst4
            have hst := hst4
            clear hst4 ha0 hd0 hu0 HE
            have hlt := hst.lt
            have hcu : wq.drew.cell? ⟨gv, I.length * 2 + 1, none⟩ = some u := hst.cellU
            have hgbl : gb < wq.drew.heap.size := Nat.lt_of_lt_of_le hgb hbelq.size
            have hwq := hbelq.size
            have hfz := hst.frozen (I.length * 2 + 1)
            have hsta := hst.below ((Below.refl wq.heap.size wq).drew.alloc (Nat.le_refl _) (.cells #[.int .u8 (y : Int)] 5))
            have hcu2 := hsta.cellU
            have hcu3 : (wq.alloc (.cells #[.int .u8 (y : Int)] 5)).drew.cell? ⟨gv, I.length * 2 + 1, none⟩ = some u := hsta.cellU
            have hl3 : (d ++ [y]).length = d.length + 1 := by rw [List.length_append, List.length_singleton]
            have hsl1 : Sl (wq.drew.alloc (.cells #[.int .u8 (y : Int)] 5)) V8 (some ⟨wq.heap.size, 0, none⟩) 1 [y] := sl_block (Row.new wq.drew 5 #[.int .u8 (y : Int)]) rfl (by simp)
            have hil : ((I.length : Nat) : Int) < (I.length : Int) + 1 := by omega
            refine wp_region_held_drew (S := Go.RowKit.Below (w.heap.size) (wq.drew)) (by kernel_rfl) ?hb52 (fun hHeld => ?rest52)
            case hb52 =>
              exact Go.RowKit.Below.refl _ _
            case' rest52 => skip
            have hCl := fun (wS : World) (hSw : Go.RowKit.Below (w.heap.size) (wq.drew) wS) =>  Mem.bl_cell hSw cbq (by first | omega | (dsimp only; omega) | exact World.block_lt_of_cell? _ _ cbq | (simp <;> omega))
            replace hCl := Go.Lib.hid hCl
            refine Mem.tkY 0 ?v53 (hy := Or.inl ⟨by rfl, ?y53⟩) (hS := by assumption) (h := ?r53)
            case y53 => (intro w hSw; clear hSw; go_simp; try with_reducible rfl)
            case' r53 => skip
            refine Mem.tkY 1 ?v54 (hy := Or.inl ⟨by rfl, ?y54⟩) (hS := by assumption) (h := ?r54)
            case y54 => (intro w hSw; clear hSw; go_simp; try with_reducible rfl)
            case' r54 => skip
            refine Mem.tkY 2 ?v55 (hy := Or.inl ⟨by rfl, ?y55⟩) (hS := by assumption) (h := ?r55)
            case y55 => (intro w hSw; clear hSw; go_simp; try with_reducible rfl)
            case' r55 => skip
            try simp only [List.getElem_toArray, List.getElem_cons_succ, List.getElem_cons_zero, Act.put, List.setIfInBounds_toArray, List.set_cons_zero, List.set_cons_succ]
            refine Mem.tkY 3 ?v56 (hy := Or.inl ⟨by rfl, ?y56⟩) (hS := by assumption) (h := ?r56)
            case y56 => (intro w hSw; clear hSw; go_simp; try with_reducible rfl)
            case' r56 => skip
            refine Mem.tkY 4 ?v57 (hy := Or.inl ⟨by rfl, ?y57⟩) (hS := by assumption) (h := ?r57)
            case y57 => (intro w hSw; clear hSw; go_simp; try with_reducible rfl)
            case' r57 => skip
            refine Mem.tkY 5 ?v58 (hy := Or.inl ⟨by rfl, ?y58⟩) (hS := by assumption) (h := ?r58)
            case y58 => (intro w hSw; clear hSw; go_simp; try with_reducible rfl)
            case' r58 => skip
            try simp only [List.getElem_toArray, List.getElem_cons_succ, List.getElem_cons_zero, Act.put, List.setIfInBounds_toArray, List.set_cons_zero, List.set_cons_succ]
            refine Mem.tkY 7 ?v59 (hy := Or.inl ⟨by rfl, ?y59⟩) (hS := by assumption) (h := ?r59)
            case y59 => (intro w hSw; clear hSw; go_simp; try with_reducible rfl)
            case' r59 => skip
            refine Mem.tkY 8 ?v60 (hy := Or.inl ⟨by rfl, ?y60⟩) (hS := by assumption) (h := ?r60)
            case y60 => (intro w hSw; clear hSw; go_simp; try with_reducible rfl)
            case' r60 => skip
            refine Mem.tkY 9 ?v61 (hy := Or.inl ⟨by rfl, ?y61⟩) (hS := by assumption) (h := ?r61)
            case y61 => (intro w hSw; clear hSw; go_simp; try with_reducible rfl)
            case' r61 => skip
            try simp only [List.getElem_toArray, List.getElem_cons_succ, List.getElem_cons_zero, Act.put, List.setIfInBounds_toArray, List.set_cons_zero, List.set_cons_succ]
            refine Mem.tkY 10 ?v62 (hy := Or.inl ⟨by rfl, ?y62⟩) (hS := by assumption) (h := ?r62)
            case y62 => (intro w hSw; have hT0 := hCl.out w hSw; clear hSw; go_simp; try with_reducible rfl)
            case' r62 => skip
            try simp only [List.getElem_toArray, List.getElem_cons_succ, List.getElem_cons_zero, Act.put, List.setIfInBounds_toArray, List.set_cons_zero, List.set_cons_succ]
            refine wpAnyH_ready (rs := [6, 11]) (by kernel_rfl) (by simp) ?_
            refine AllReadyH.cons rfl (fun K hK => ?_) ?_
            · skip
              go_simp
              have hSnew := hHeld
              try go_wp2_with fail
              refine hK.out _ _ ?_ (fun hHeld2 => ?_)
              · exact hSnew
              clear hK K hHeld hSnew
              have hHeld := hHeld2
              clear hHeld2
              try simp only [List.getElem_toArray, List.getElem_cons_succ, List.getElem_cons_zero, Act.put, List.setIfInBounds_toArray, List.set_cons_zero, List.set_cons_succ]
              refine wpAnyH_ready (rs := [11]) (by kernel_rfl) (by simp) ?_
              refine AllReadyH.cons rfl (fun K hK => ?_) AllReadyH.nil
              go_simp
              have hbl := (Below.refl _ wq.drew).alloc (Nat.le_refl _) (.cells #[.int .u8 (y : Int)] 5)
              try go_wp2_with fail
              have hSnew := Mem.bl_step hHeld hbl (by first | exact Nat.le_refl _ | omega | (simp <;> omega))
              refine hK.out _ _ ?_ (fun hHeld2 => ?_)
              · exact hSnew
              clear hbl
              clear hK K hHeld hSnew
              have hHeld := hHeld2
              clear hHeld2
              try simp only [List.getElem_toArray, List.getElem_cons_succ, List.getElem_cons_zero, Act.put, List.setIfInBounds_toArray, List.set_cons_zero, List.set_cons_succ]
              refine wpAnyH_ready (rs := [12]) (by kernel_rfl) (by simp) ?_
              refine AllReadyH.cons rfl (fun K hK => ?_) AllReadyH.nil
              rw [if_pos (by rfl)]
              refine wp_app _ _ _ (by rfl) (V8 0) 1 Try.underlying34 u8Info rfl (by rfl) (by rfl) hsta.own hsl1 (fun h => by cases h) V8_one (by simp; omega) (by simp; omega) (by simp; omega) ?_; intro v3 w3 hown3 hg3 hat3; have hs3 := hsta.step hyb hg3 hown3 hat3; obtain ⟨A3, cp3, hv3⟩ := hown3.slice; rw [hl3] at hv3; subst hv3; have hblk := hsta.own.lt; have hSnew := hHeld.grown hg3 (by simp; omega) (fun q hq => (hblk q hq).1); have hfz3 : w3.frozen? ⟨gv, I.length * 2 + 1, none⟩ = false := (World.ownsRow.frozenAt hsta.row (I.length * 2 + 1) |> fun h => by rw [World.frozen?_of_block (hg3.block gv (by simp; omega) (fun e => hsta.apart gv e.symm rfl))]; exact h); have hcu3 : w3.cell? ⟨gv, I.length * 2 + 1, none⟩ = some u := hg3.cell (hsta.cellU) (fun e => hsta.apart gv e.symm rfl)
              refine hK.out _ _ ?_ (fun hHeld2 => ?_)
              · exact hSnew
              clear hK K hHeld hSnew
              have hHeld := hHeld2
              clear hHeld2
              try simp only [List.getElem_toArray, List.getElem_cons_succ, List.getElem_cons_zero, Act.put, List.setIfInBounds_toArray, List.set_cons_zero, List.set_cons_succ]
              refine Mem.tkY 13 ?v63 (hy := Or.inl ⟨by rfl, ?y63⟩) (hS := by assumption) (h := ?r63)
              case y63 => (intro w hSw; clear hSw; go_simp; try with_reducible rfl)
              case' r63 => skip
              refine Mem.tkY 14 ?v64 (hy := Or.inl ⟨by rfl, ?y64⟩) (hS := by assumption) (h := ?r64)
              case y64 => (intro w hSw; clear hSw; go_simp; try with_reducible rfl)
              case' r64 => skip
              try simp only [List.getElem_toArray, List.getElem_cons_succ, List.getElem_cons_zero, Act.put, List.setIfInBounds_toArray, List.set_cons_zero, List.set_cons_succ]
              refine wpAnyH_ready (rs := [15]) (by kernel_rfl) (by simp) ?_
              refine AllReadyH.cons rfl (fun K hK => ?_) AllReadyH.nil
              go_simp
              have hSnew := hHeld.setCell (p := ⟨gv, I.length * 2 + 1, none⟩) hlt.1 (.slice A3 (d.length + 1) cp3)
              try go_wp2_with fail
              refine hK.out _ _ ?_ (fun hHeld2 => ?_)
              · exact hSnew
              clear hK K hHeld hSnew
              have hHeld := hHeld2
              clear hHeld2
              try simp only [List.getElem_toArray, List.getElem_cons_succ, List.getElem_cons_zero, Act.put, List.setIfInBounds_toArray, List.set_cons_zero, List.set_cons_succ]
              refine wpAnyH_done (by kernel_rfl) ?_ _
              clear hCl
              go_wp2
              have hbq2 := hbelq.drew.trans hHeld
              go_roundw
              case rel => first | exact ⟨_, 1, rfl, by omega, by go_num, .inr ⟨gv, cv, I, a0, _, _, R, rfl, HD.out, hs3⟩, hbq2⟩ | exact ⟨_, j + 1 + 1, rfl, by omega, by go_num, .inr ⟨gv, cv, I, a0, _, _, R, rfl, HD.out, hs3⟩, hbq2⟩
              case measure => simp [intOf] <;> omega
            refine AllReadyH.cons rfl (fun K hK => ?_) ?_
            · skip
              go_simp
              have hbl := (Below.refl _ wq.drew).alloc (Nat.le_refl _) (.cells #[.int .u8 (y : Int)] 5)
              try go_wp2_with fail
              have hSnew := Mem.bl_step hHeld hbl (by first | exact Nat.le_refl _ | omega | (simp <;> omega))
              refine hK.out _ _ ?_ (fun hHeld2 => ?_)
              · exact hSnew
              clear hbl
              clear hK K hHeld hSnew
              have hHeld := hHeld2
              clear hHeld2
              try simp only [List.getElem_toArray, List.getElem_cons_succ, List.getElem_cons_zero, Act.put, List.setIfInBounds_toArray, List.set_cons_zero, List.set_cons_succ]
              refine wpAnyH_ready (rs := [6]) (by kernel_rfl) (by simp) ?_
              refine AllReadyH.cons rfl (fun K hK => ?_) AllReadyH.nil
              go_simp
              have hSnew := hHeld
              try go_wp2_with fail
              refine hK.out _ _ ?_ (fun hHeld2 => ?_)
              · exact hSnew
              clear hK K hHeld hSnew
              have hHeld := hHeld2
              clear hHeld2
              try simp only [List.getElem_toArray, List.getElem_cons_succ, List.getElem_cons_zero, Act.put, List.setIfInBounds_toArray, List.set_cons_zero, List.set_cons_succ]
              refine wpAnyH_ready (rs := [12]) (by kernel_rfl) (by simp) ?_
              refine AllReadyH.cons rfl (fun K hK => ?_) AllReadyH.nil
              rw [if_pos (by rfl)]
              refine wp_app _ _ _ (by rfl) (V8 0) 1 Try.underlying34 u8Info rfl (by rfl) (by rfl) hsta.own hsl1 (fun h => by cases h) V8_one (by simp; omega) (by simp; omega) (by simp; omega) ?_; intro v3 w3 hown3 hg3 hat3; have hs3 := hsta.step hyb hg3 hown3 hat3; obtain ⟨A3, cp3, hv3⟩ := hown3.slice; rw [hl3] at hv3; subst hv3; have hblk := hsta.own.lt; have hSnew := hHeld.grown hg3 (by simp; omega) (fun q hq => (hblk q hq).1); have hfz3 : w3.frozen? ⟨gv, I.length * 2 + 1, none⟩ = false := (World.ownsRow.frozenAt hsta.row (I.length * 2 + 1) |> fun h => by rw [World.frozen?_of_block (hg3.block gv (by simp; omega) (fun e => hsta.apart gv e.symm rfl))]; exact h); have hcu3 : w3.cell? ⟨gv, I.length * 2 + 1, none⟩ = some u := hg3.cell (hsta.cellU) (fun e => hsta.apart gv e.symm rfl)
              refine hK.out _ _ ?_ (fun hHeld2 => ?_)
              · exact hSnew
              clear hK K hHeld hSnew
              have hHeld := hHeld2
              clear hHeld2
              try simp only [List.getElem_toArray, List.getElem_cons_succ, List.getElem_cons_zero, Act.put, List.setIfInBounds_toArray, List.set_cons_zero, List.set_cons_succ]
              refine Mem.tkY 13 ?v65 (hy := Or.inl ⟨by rfl, ?y65⟩) (hS := by assumption) (h := ?r65)
              case y65 => (intro w hSw; clear hSw; go_simp; try with_reducible rfl)
              case' r65 => skip
              refine Mem.tkY 14 ?v66 (hy := Or.inl ⟨by rfl, ?y66⟩) (hS := by assumption) (h := ?r66)
              case y66 => (intro w hSw; clear hSw; go_simp; try with_reducible rfl)
              case' r66 => skip
              try simp only [List.getElem_toArray, List.getElem_cons_succ, List.getElem_cons_zero, Act.put, List.setIfInBounds_toArray, List.set_cons_zero, List.set_cons_succ]
              refine wpAnyH_ready (rs := [15]) (by kernel_rfl) (by simp) ?_
              refine AllReadyH.cons rfl (fun K hK => ?_) AllReadyH.nil
              go_simp
              have hSnew := hHeld.setCell (p := ⟨gv, I.length * 2 + 1, none⟩) hlt.1 (.slice A3 (d.length + 1) cp3)
              try go_wp2_with fail
              refine hK.out _ _ ?_ (fun hHeld2 => ?_)
              · exact hSnew
              clear hK K hHeld hSnew
              have hHeld := hHeld2
              clear hHeld2
              try simp only [List.getElem_toArray, List.getElem_cons_succ, List.getElem_cons_zero, Act.put, List.setIfInBounds_toArray, List.set_cons_zero, List.set_cons_succ]
              refine wpAnyH_done (by kernel_rfl) ?_ _
              clear hCl
              go_wp2
              have hbq2 := hbelq.drew.trans hHeld
              go_roundw
              case rel => first | exact ⟨_, 1, rfl, by omega, by go_num, .inr ⟨gv, cv, I, a0, _, _, R, rfl, HD.out, hs3⟩, hbq2⟩ | exact ⟨_, j + 1 + 1, rfl, by omega, by go_num, .inr ⟨gv, cv, I, a0, _, _, R, rfl, HD.out, hs3⟩, hbq2⟩
              case measure => simp [intOf] <;> omega
            exact AllReadyH.nil
          | true =>
            have HS : Hid (startB a b (j + 1) = false) := by show _ = _; rw [HSe.out, hq1]; rfl
            rw [HS.out, if_neg (by simp)] at HE
            have hnn := diffK_ne a b j hq1
            have hdd := diffK_dlen a b (j + 1)
            rw [hq1] at hne1
            have hc1 : (((a[j] : Nat) : Int) == ((b[j] : Nat) : Int)) = false := by
              rw [beq_eq_false_iff_ne]
              exact (bne_iff_ne.1 hne1.symm)
            generalize a[j] = x1 at *
            generalize b[j] = y1 at *
            generalize a[j + 1] = x at *
            generalize b[j + 1] = y at *
            clear hne hq hgd hne1 hq1
            rcases hst with ⟨rfl, h0⟩ | ⟨gv, cv, I, a0, d, u, R, rfl, hDe, hst⟩
            · exact absurd h0 hnn
            rw [hDe] at hdd hlen HE
            have hdl : d.length ≤ 256 := by have := hdd (a0, d) (by simp); simp at this; omega
            rw [addLast_concat] at HE
            have HD : Hid (diffK a b (j + 1 + 1) = I ++ [(a0, d ++ [y])]) := HE.out
            rw [List.length_append, List.length_singleton] at hlen
            clear hnn hdd hDe HE
            go_wp2
            go_quiet (fail)
            go_wp2
            have hst2 := hst.drewN nq
            have hbel2 := bdrewN hbel nq
            have cb2 : (wr.drewN nq).cell? ⟨gb, ob + (j + 1), none⟩ = some (.int .u8 (y : Int)) := cb
            have ca2 : (wr.drewN nq).cell? ⟨ga, oa + j, none⟩ = some (.int .u8 (x1 : Int)) := ca1
            have cb3 : (wr.drewN nq).cell? ⟨gb, ob + j, none⟩ = some (.int .u8 (y1 : Int)) := cb1
            clear hst hbel ca cb ca1 cb1
            generalize wr.drewN nq = w2 at *
            go_quiet (fail)
            have hst := hst2.drewN nq
            have hbelq := bdrewN hbel2 nq
            have cbq : (w2.drewN nq).drew.cell? ⟨gb, ob + (j + 1), none⟩ = some (.int .u8 (y : Int)) := cb2
            clear hst2 hbel2 cb2 ca2 cb3
            generalize w2.drewN nq = wq at *
            go_wp2_with fail
            have hlt := hst.lt
            have hcu : wq.drew.cell? ⟨gv, I.length * 2 + 1, none⟩ = some u := hst.cellU
            have hgbl : gb < wq.drew.heap.size := Nat.lt_of_lt_of_le hgb hbelq.size
            have hwq := hbelq.size
            have hfz := hst.frozen (I.length * 2 + 1)
            have hsta := hst.below ((Below.refl wq.heap.size wq).drew.alloc (Nat.le_refl _) (.cells #[.int .u8 (y : Int)] 5))
            have hcu2 := hsta.cellU
            have hcu3 : (wq.alloc (.cells #[.int .u8 (y : Int)] 5)).drew.cell? ⟨gv, I.length * 2 + 1, none⟩ = some u := hsta.cellU
            have hl3 : (d ++ [y]).length = d.length + 1 := by rw [List.length_append, List.length_singleton]
            have hsl1 : Sl (wq.drew.alloc (.cells #[.int .u8 (y : Int)] 5)) V8 (some ⟨wq.heap.size, 0, none⟩) 1 [y] := sl_block (Row.new wq.drew 5 #[.int .u8 (y : Int)]) rfl (by simp)
            have hil : ((I.length : Nat) : Int) < (I.length : Int) + 1 := by omega
            refine wp_region_held_drew (S := Go.RowKit.Below (w.heap.size) (wq.drew)) (by kernel_rfl) ?hb77 (fun hHeld => ?rest77)
            case hb77 =>
              exact Go.RowKit.Below.refl _ _
            case' rest77 => skip
            have hCl := fun (wS : World) (hSw : Go.RowKit.Below (w.heap.size) (wq.drew) wS) =>  Mem.bl_cell hSw cbq (by first | omega | (dsimp only; omega) | exact World.block_lt_of_cell? _ _ cbq | (simp <;> omega))
            replace hCl := Go.Lib.hid hCl
            refine Mem.tkY 0 ?v78 (hy := Or.inl ⟨by rfl, ?y78⟩) (hS := by assumption) (h := ?r78)
            case y78 => (intro w hSw; clear hSw; go_simp; try with_reducible rfl)
            case' r78 => skip
            refine Mem.tkY 1 ?v79 (hy := Or.inl ⟨by rfl, ?y79⟩) (hS := by assumption) (h := ?r79)
            case y79 => (intro w hSw; clear hSw; go_simp; try with_reducible rfl)
            case' r79 => skip
            refine Mem.tkY 2 ?v80 (hy := Or.inl ⟨by rfl, ?y80⟩) (hS := by assumption) (h := ?r80)
            case y80 => (intro w hSw; clear hSw; go_simp; try with_reducible rfl)
            case' r80 => skip
            try simp only [List.getElem_toArray, List.getElem_cons_succ, List.getElem_cons_zero, Act.put, List.setIfInBounds_toArray, List.set_cons_zero, List.set_cons_succ]
            refine Mem.tkY 3 ?v81 (hy := Or.inl ⟨by rfl, ?y81⟩) (hS := by assumption) (h := ?r81)
            case y81 => (intro w hSw; clear hSw; go_simp; try with_reducible rfl)
            case' r81 => skip
            refine Mem.tkY 4 ?v82 (hy := Or.inl ⟨by rfl, ?y82⟩) (hS := by assumption) (h := ?r82)
            case y82 => (intro w hSw; clear hSw; go_simp; try with_reducible rfl)
            case' r82 => skip
            refine Mem.tkY 5 ?v83 (hy := Or.inl ⟨by rfl, ?y83⟩) (hS := by assumption) (h := ?r83)
            case y83 => (intro w hSw; clear hSw; go_simp; try with_reducible rfl)
            case' r83 => skip
            try simp only [List.getElem_toArray, List.getElem_cons_succ, List.getElem_cons_zero, Act.put, List.setIfInBounds_toArray, List.set_cons_zero, List.set_cons_succ]
            refine Mem.tkY 7 ?v84 (hy := Or.inl ⟨by rfl, ?y84⟩) (hS := by assumption) (h := ?r84)
            case y84 => (intro w hSw; clear hSw; go_simp; try with_reducible rfl)
            case' r84 => skip
            refine Mem.tkY 8 ?v85 (hy := Or.inl ⟨by rfl, ?y85⟩) (hS := by assumption) (h := ?r85)
            case y85 => (intro w hSw; clear hSw; go_simp; try with_reducible rfl)
            case' r85 => skip
            refine Mem.tkY 9 ?v86 (hy := Or.inl ⟨by rfl, ?y86⟩) (hS := by assumption) (h := ?r86)
            case y86 => (intro w hSw; clear hSw; go_simp; try with_reducible rfl)
            case' r86 => skip
            try simp only [List.getElem_toArray, List.getElem_cons_succ, List.getElem_cons_zero, Act.put, List.setIfInBounds_toArray, List.set_cons_zero, List.set_cons_succ]
            refine Mem.tkY 10 ?v87 (hy := Or.inl ⟨by rfl, ?y87⟩) (hS := by assumption) (h := ?r87)
            case y87 => (intro w hSw; have hT0 := hCl.out w hSw; clear hSw; go_simp; try with_reducible rfl)
            case' r87 => skip
            try simp only [List.getElem_toArray, List.getElem_cons_succ, List.getElem_cons_zero, Act.put, List.setIfInBounds_toArray, List.set_cons_zero, List.set_cons_succ]
            refine wpAnyH_ready (rs := [6, 11]) (by kernel_rfl) (by simp) ?_
            refine AllReadyH.cons rfl (fun K hK => ?_) ?_
            · skip
              go_simp
              have hSnew := hHeld
              try go_wp2_with fail
              refine hK.out _ _ ?_ (fun hHeld2 => ?_)
              · exact hSnew
              clear hK K hHeld hSnew
              have hHeld := hHeld2
              clear hHeld2
              try simp only [List.getElem_toArray, List.getElem_cons_succ, List.getElem_cons_zero, Act.put, List.setIfInBounds_toArray, List.set_cons_zero, List.set_cons_succ]
              refine wpAnyH_ready (rs := [11]) (by kernel_rfl) (by simp) ?_
              refine AllReadyH.cons rfl (fun K hK => ?_) AllReadyH.nil
              go_simp
              have hbl := (Below.refl _ wq.drew).alloc (Nat.le_refl _) (.cells #[.int .u8 (y : Int)] 5)
              try go_wp2_with fail
              have hSnew := Mem.bl_step hHeld hbl (by first | exact Nat.le_refl _ | omega | (simp <;> omega))
              refine hK.out _ _ ?_ (fun hHeld2 => ?_)
              · exact hSnew
              clear hbl
              clear hK K hHeld hSnew
              have hHeld := hHeld2
              clear hHeld2
              try simp only [List.getElem_toArray, List.getElem_cons_succ, List.getElem_cons_zero, Act.put, List.setIfInBounds_toArray, List.set_cons_zero, List.set_cons_succ]
              refine wpAnyH_ready (rs := [12]) (by kernel_rfl) (by simp) ?_
              refine AllReadyH.cons rfl (fun K hK => ?_) AllReadyH.nil
              rw [if_pos (by rfl)]
              refine wp_app _ _ _ (by rfl) (V8 0) 1 Try.underlying34 u8Info rfl (by rfl) (by rfl) hsta.own hsl1 (fun h => by cases h) V8_one (by simp; omega) (by simp; omega) (by simp; omega) ?_; intro v3 w3 hown3 hg3 hat3; have hs3 := hsta.step hyb hg3 hown3 hat3; obtain ⟨A3, cp3, hv3⟩ := hown3.slice; rw [hl3] at hv3; subst hv3; have hblk := hsta.own.lt; have hSnew := hHeld.grown hg3 (by simp; omega) (fun q hq => (hblk q hq).1); have hfz3 : w3.frozen? ⟨gv, I.length * 2 + 1, none⟩ = false := (World.ownsRow.frozenAt hsta.row (I.length * 2 + 1) |> fun h => by rw [World.frozen?_of_block (hg3.block gv (by simp; omega) (fun e => hsta.apart gv e.symm rfl))]; exact h); have hcu3 : w3.cell? ⟨gv, I.length * 2 + 1, none⟩ = some u := hg3.cell (hsta.cellU) (fun e => hsta.apart gv e.symm rfl)
              refine hK.out _ _ ?_ (fun hHeld2 => ?_)
              · exact hSnew
              clear hK K hHeld hSnew
              have hHeld := hHeld2
              clear hHeld2
              try simp only [List.getElem_toArray, List.getElem_cons_succ, List.getElem_cons_zero, Act.put, List.setIfInBounds_toArray, List.set_cons_zero, List.set_cons_succ]
              refine Mem.tkY 13 ?v88 (hy := Or.inl ⟨by rfl, ?y88⟩) (hS := by assumption) (h := ?r88)
              case y88 => (intro w hSw; clear hSw; go_simp; try with_reducible rfl)
              case' r88 => skip
              refine Mem.tkY 14 ?v89 (hy := Or.inl ⟨by rfl, ?y89⟩) (hS := by assumption) (h := ?r89)
              case y89 => (intro w hSw; clear hSw; go_simp; try with_reducible rfl)
              case' r89 => skip
              try simp only [List.getElem_toArray, List.getElem_cons_succ, List.getElem_cons_zero, Act.put, List.setIfInBounds_toArray, List.set_cons_zero, List.set_cons_succ]
              refine wpAnyH_ready (rs := [15]) (by kernel_rfl) (by simp) ?_
              refine AllReadyH.cons rfl (fun K hK => ?_) AllReadyH.nil
              go_simp
              have hSnew := hHeld.setCell (p := ⟨gv, I.length * 2 + 1, none⟩) hlt.1 (.slice A3 (d.length + 1) cp3)
              try go_wp2_with fail
              refine hK.out _ _ ?_ (fun hHeld2 => ?_)
              · exact hSnew
              clear hK K hHeld hSnew
              have hHeld := hHeld2
              clear hHeld2
              try simp only [List.getElem_toArray, List.getElem_cons_succ, List.getElem_cons_zero, Act.put, List.setIfInBounds_toArray, List.set_cons_zero, List.set_cons_succ]
              refine wpAnyH_done (by kernel_rfl) ?_ _
              clear hCl
              go_wp2
              have hbq2 := hbelq.drew.trans hHeld
              go_roundw
              case rel => first | exact ⟨_, 1, rfl, by omega, by go_num, .inr ⟨gv, cv, I, a0, _, _, R, rfl, HD.out, hs3⟩, hbq2⟩ | exact ⟨_, j + 1 + 1, rfl, by omega, by go_num, .inr ⟨gv, cv, I, a0, _, _, R, rfl, HD.out, hs3⟩, hbq2⟩
              case measure => simp [intOf] <;> omega
            refine AllReadyH.cons rfl (fun K hK => ?_) ?_
            · skip
              go_simp
              have hbl := (Below.refl _ wq.drew).alloc (Nat.le_refl _) (.cells #[.int .u8 (y : Int)] 5)
              try go_wp2_with fail
              have hSnew := Mem.bl_step hHeld hbl (by first | exact Nat.le_refl _ | omega | (simp <;> omega))
              refine hK.out _ _ ?_ (fun hHeld2 => ?_)
              · exact hSnew
              clear hbl
              clear hK K hHeld hSnew
              have hHeld := hHeld2
              clear hHeld2
              try simp only [List.getElem_toArray, List.getElem_cons_succ, List.getElem_cons_zero, Act.put, List.setIfInBounds_toArray, List.set_cons_zero, List.set_cons_succ]
              refine wpAnyH_ready (rs := [6]) (by kernel_rfl) (by simp) ?_
              refine AllReadyH.cons rfl (fun K hK => ?_) AllReadyH.nil
              go_simp
              have hSnew := hHeld
              try go_wp2_with fail
              refine hK.out _ _ ?_ (fun hHeld2 => ?_)
              · exact hSnew
              clear hK K hHeld hSnew
              have hHeld := hHeld2
              clear hHeld2
              try simp only [List.getElem_toArray, List.getElem_cons_succ, List.getElem_cons_zero, Act.put, List.setIfInBounds_toArray, List.set_cons_zero, List.set_cons_succ]
              refine wpAnyH_ready (rs := [12]) (by kernel_rfl) (by simp) ?_
              refine AllReadyH.cons rfl (fun K hK => ?_) AllReadyH.nil
              rw [if_pos (by rfl)]
              refine wp_app _ _ _ (by rfl) (V8 0) 1 Try.underlying34 u8Info rfl (by rfl) (by rfl) hsta.own hsl1 (fun h => by cases h) V8_one (by simp; omega) (by simp; omega) (by simp; omega) ?_; intro v3 w3 hown3 hg3 hat3; have hs3 := hsta.step hyb hg3 hown3 hat3; obtain ⟨A3, cp3, hv3⟩ := hown3.slice; rw [hl3] at hv3; subst hv3; have hblk := hsta.own.lt; have hSnew := hHeld.grown hg3 (by simp; omega) (fun q hq => (hblk q hq).1); have hfz3 : w3.frozen? ⟨gv, I.length * 2 + 1, none⟩ = false := (World.ownsRow.frozenAt hsta.row (I.length * 2 + 1) |> fun h => by rw [World.frozen?_of_block (hg3.block gv (by simp; omega) (fun e => hsta.apart gv e.symm rfl))]; exact h); have hcu3 : w3.cell? ⟨gv, I.length * 2 + 1, none⟩ = some u := hg3.cell (hsta.cellU) (fun e => hsta.apart gv e.symm rfl)
              refine hK.out _ _ ?_ (fun hHeld2 => ?_)
              · exact hSnew
              clear hK K hHeld hSnew
              have hHeld := hHeld2
              clear hHeld2
              try simp only [List.getElem_toArray, List.getElem_cons_succ, List.getElem_cons_zero, Act.put, List.setIfInBounds_toArray, List.set_cons_zero, List.set_cons_succ]
              refine Mem.tkY 13 ?v90 (hy := Or.inl ⟨by rfl, ?y90⟩) (hS := by assumption) (h := ?r90)
              case y90 => (intro w hSw; clear hSw; go_simp; try with_reducible rfl)
              case' r90 => skip
              refine Mem.tkY 14 ?v91 (hy := Or.inl ⟨by rfl, ?y91⟩) (hS := by assumption) (h := ?r91)
              case y91 => (intro w hSw; clear hSw; go_simp; try with_reducible rfl)
              case' r91 => skip
              try simp only [List.getElem_toArray, List.getElem_cons_succ, List.getElem_cons_zero, Act.put, List.setIfInBounds_toArray, List.set_cons_zero, List.set_cons_succ]
              refine wpAnyH_ready (rs := [15]) (by kernel_rfl) (by simp) ?_
              refine AllReadyH.cons rfl (fun K hK => ?_) AllReadyH.nil
              go_simp
              have hSnew := hHeld.setCell (p := ⟨gv, I.length * 2 + 1, none⟩) hlt.1 (.slice A3 (d.length + 1) cp3)
              try go_wp2_with fail
              refine hK.out _ _ ?_ (fun hHeld2 => ?_)
              · exact hSnew
              clear hK K hHeld hSnew
              have hHeld := hHeld2
              clear hHeld2
              try simp only [List.getElem_toArray, List.getElem_cons_succ, List.getElem_cons_zero, Act.put, List.setIfInBounds_toArray, List.set_cons_zero, List.set_cons_succ]
              refine wpAnyH_done (by kernel_rfl) ?_ _
              clear hCl
              go_wp2
              have hbq2 := hbelq.drew.trans hHeld
              go_roundw
              case rel => first | exact ⟨_, 1, rfl, by omega, by go_num, .inr ⟨gv, cv, I, a0, _, _, R, rfl, HD.out, hs3⟩, hbq2⟩ | exact ⟨_, j + 1 + 1, rfl, by omega, by go_num, .inr ⟨gv, cv, I, a0, _, _, R, rfl, HD.out, hs3⟩, hbq2⟩
              case measure => simp [intOf] <;> omega
            exact AllReadyH.nil
    · have hke : k = 256 := by omega
      subst hke
      have HL : Hid (diffL a b = diffK a b 256) := rfl
      go_wp2
      go_ret
      exact ⟨_, rfl, by rw [HL.out]; first | exact hst.ownK | exact (hst.drewN _).ownK, by first | exact hbel | exact bdrewN hbel _⟩

end Go.Proofs.Yteeodeooicoekaa.Pat
