/- Laws and contracts of several chapters, laid in one text. No statement is proved here. -/
import Derived.Test.YtbamhiegabeicaaGreatLg
import Derived.Maps.AppendAt
import Derived.Laws.EntriesVeiled
import Derived.Test.YtbamhiegabeicaaGreatLh
/- Plain laws: all that a change needs, how deep that goes, by which blocks it is done. No program in sight; no statement is proved here. -/
namespace Go.Proofs.YtbamhiegabeicaaGreat.Rd
open Go.Proofs.YtbamhiegabeicaaGreat.Pat
set_option linter.unusedVariables false
set_option linter.unusedSimpArgs false
def rcN (xs : List Chg) : Nat → List Int → List Int
  | 0, S => S
  | k + 1, S => rcN xs k (match xs[k]? with | some x => if x.id ∈ S then S ++ waitsS xs x.id else S | none => S)
def allS (xs : List Chg) (id : Int) : List Int := if mayF 0 xs = true then (xs.map (·.id)).filter (fun n => decide (n ∈ rcN xs xs.length [id])) else []
inductive Rch (xs : List Chg) (id : Int) : Int → Prop
  | here : Rch xs id id
  | step {n m : Int} : Rch xs id n → m ∈ waitsS xs n → Rch xs id m
theorem Rch.trans {xs : List Chg} {a b c : Int} (h1 : Rch xs a b) (h2 : Rch xs b c) : Rch xs a c := by
  induction h2 with
  | here => exact h1
  | step _ hm ih => exact ih.step hm
theorem rcN_sub {xs : List Chg} : ∀ (k : Nat) (S : List Int), ∀ n ∈ S, n ∈ rcN xs k S
  | 0, S, n, h => h
  | k + 1, S, n, h => by
    rw [rcN]
    refine rcN_sub k _ n ?_
    split
    · split
      · exact List.mem_append_left _ h
      · exact h
    · exact h
theorem rcN_rch {xs : List Chg} {id : Int} : ∀ (k : Nat) (S : List Int), (∀ n ∈ S, Rch xs id n) → ∀ n ∈ rcN xs k S, Rch xs id n
  | 0, S, h, n, hn => h n hn
  | k + 1, S, h, n, hn => by
    rw [rcN] at hn
    refine rcN_rch k _ ?_ n hn
    split
    · split
      · rename_i x _ hx
        intro m hm
        rcases List.mem_append.1 hm with hm | hm
        · exact h m hm
        · exact (h _ hx).step hm
      · exact h
    · exact h
theorem waits_lt {xs : List Chg} (hm : mayF 0 xs = true) {k : Nat} (hk : k < xs.length) {n : Int} (hn : n ∈ waitsS xs xs[k].id) : ∃ j, ∃ h : j < xs.length, j < k ∧ xs[j].id = n := by
  rw [waitsS_at hm hk] at hn
  obtain ⟨x, hx, _, rfl⟩ := mem_waitK.1 hn
  obtain ⟨j, hj, rfl⟩ := List.mem_take_iff_getElem.1 hx
  exact ⟨j, by omega, by omega, rfl⟩
theorem rcN_old {xs : List Chg} (hm : mayF 0 xs = true) : ∀ (k : Nat) (S : List Int), k ≤ xs.length → ∀ n ∈ rcN xs k S, n ∈ S ∨ ∃ j, ∃ h : j < xs.length, j < k ∧ xs[j].id = n
  | 0, S, _, n, h => .inl h
  | k + 1, S, hk, n, h => by
    rw [rcN, List.getElem?_eq_getElem (show k < xs.length by omega)] at h
    rcases rcN_old hm k _ (by omega) n h with h | ⟨j, hj, h1, h2⟩
    · simp only at h
      split at h
      · rcases List.mem_append.1 h with h | h
        · exact .inl h
        · obtain ⟨j, hj, h1, h2⟩ := waits_lt hm (show k < xs.length by omega) h
          exact .inr ⟨j, hj, by omega, h2⟩
      · exact .inl h
    · exact .inr ⟨j, hj, by omega, h2⟩
theorem rcN_closed {xs : List Chg} (hm : mayF 0 xs = true) : ∀ (k : Nat) (S : List Int), k ≤ xs.length → ∀ i, (hi : i < xs.length) → i < k → xs[i].id ∈ rcN xs k S → ∀ m ∈ waitsS xs xs[i].id, m ∈ rcN xs k S
  | 0, S, _, i, hi, hik, _ => by omega
  | k + 1, S, hk, i, hi, hik, h => by
    intro m hmm
    have hkl : k < xs.length := by omega
    rw [rcN] at h ⊢
    by_cases hlt : i < k
    · exact rcN_closed hm k _ (by omega) i hi hlt h m hmm
    · obtain rfl : i = k := by omega
      rw [List.getElem?_eq_getElem hkl] at h ⊢
      simp only at h ⊢
      rcases rcN_old hm i _ (by omega) _ h with h | ⟨j, hj, h1, h2⟩
      · split at h
        · rename_i hin
          rw [if_pos hin]
          exact rcN_sub i _ m (List.mem_append_right _ hmm)
        · contradiction
      · have := ids_get (mayF_iff.1 hm).1 hkl h1; omega
theorem mem_rc {xs : List Chg} (hm : mayF 0 xs = true) (id n : Int) : n ∈ rcN xs xs.length [id] ↔ Rch xs id n := by
  constructor
  · exact rcN_rch _ _ (fun n hn => by rw [List.mem_singleton] at hn; subst hn; exact .here) n
  · intro h
    induction h with
    | here => exact rcN_sub _ _ _ (List.mem_singleton.2 rfl)
    | @step a b _ hb ih =>
      rcases has_or (xs := xs) a with h0 | ⟨i, hi, rfl⟩
      · rw [waitsS_not h0] at hb; cases hb
      · exact rcN_closed hm _ _ (Nat.le_refl _) i hi hi ih b hb
theorem mem_all {xs : List Chg} (hm : mayF 0 xs = true) {id n : Int} : n ∈ allS xs id ↔ (∃ x ∈ xs, x.id = n) ∧ Rch xs id n := by
  unfold allS
  rw [if_pos hm, List.mem_filter, List.mem_map, decide_eq_true_eq, mem_rc hm]
theorem all_may {xs : List Chg} (hm : mayF 0 xs = false) (id : Int) : allS xs id = [] := by unfold allS; rw [hm]; rfl
theorem rch_not {xs : List Chg} {id : Int} (h : ∀ x ∈ xs, x.id ≠ id) {n : Int} (hr : Rch xs id n) : n = id := by
  induction hr with
  | here => rfl
  | step _ hb ih => subst ih; rw [waitsS_not h] at hb; cases hb
theorem all_none {xs : List Chg} {id : Int} (h : ∀ x ∈ xs, x.id ≠ id) : allS xs id = [] := by
  cases hm : mayF 0 xs with
  | false => exact all_may hm id
  | true =>
    refine List.eq_nil_iff_forall_not_mem.2 fun n hn => ?_
    obtain ⟨⟨x, hx, e⟩, hr⟩ := (mem_all hm).1 hn
    exact h x hx (e.trans (rch_not h hr))
theorem all_len (xs : List Chg) (id : Int) : (allS xs id).length ≤ xs.length := by
  unfold allS
  split
  · exact Nat.le_trans (List.length_filter_le _ _) (by rw [List.length_map]; exact Nat.le_refl _)
  · simp
/-- What is left when a block is written. -/
def nx (xs : List Chg) (b : Int) : List Chg := woS xs (readyS xs b)
def planN (id : Int) : Nat → List Chg → List Int
  | 0, _ => []
  | n + 1, xs => match allS xs id with
    | [] => []
    | m :: _ => (findD m xs).blk :: planN id n (nx xs (findD m xs).blk)
def planS (xs : List Chg) (id : Int) : List Int := planN id xs.length xs
def afterS : List Chg → List Int → List Chg
  | xs, [] => xs
  | xs, b :: r => afterS (nx xs b) r
def drainN : Nat → List Chg → List Int
  | 0, _ => []
  | n + 1, [] => []
  | n + 1, x :: r => x.blk :: drainN n (nx (x :: r) x.blk)
def drainS (xs : List Chg) : List Int := if mayF 0 xs = true then drainN xs.length xs else []
/-- The greatest of some depths. -/
def mxG (g : Int → Int) (W : List Int) : Int := W.foldl (fun m n => max m (g n)) 0
def dG (xs : List Chg) (g : Int → Int) : List Int → (Int → Int)
  | [] => g
  | n :: r => dG xs (upd g n (mxG g (waitsS xs n) + 1)) r
def depS (xs : List Chg) (id : Int) : Int := dG xs (fun _ => 0) (allS xs id) id
theorem dG_app (xs : List Chg) (n : Int) : ∀ (l : List Int) (g : Int → Int), dG xs g (l ++ [n]) = upd (dG xs g l) n (mxG (dG xs g l) (waitsS xs n) + 1)
  | [], g => rfl
  | a :: l, g => by rw [List.cons_append, dG, dG_app xs n l, dG]
theorem mxG_foldb {g : Int → Int} {c : Int} : ∀ {W : List Int} {a : Int}, 0 ≤ a → a ≤ c → (∀ m ∈ W, g m ≤ c) → 0 ≤ W.foldl (fun m n => max m (g n)) a ∧ W.foldl (fun m n => max m (g n)) a ≤ c
  | [], a, h0, h1, _ => ⟨h0, h1⟩
  | x :: W, a, h0, h1, hw => by
    rw [List.foldl_cons]
    have := hw x List.mem_cons_self
    exact mxG_foldb (by omega) (by omega) fun m hm => hw m (List.mem_cons_of_mem _ hm)
theorem mxG_b {g : Int → Int} {c : Int} {W : List Int} (hc : 0 ≤ c) (hw : ∀ m, g m ≤ c) : 0 ≤ mxG g W ∧ mxG g W ≤ c := mxG_foldb (Int.le_refl 0) hc fun m _ => hw m
theorem dG_b (xs : List Chg) : ∀ (l : List Int) (g : Int → Int) (c : Int), 0 ≤ c → (∀ n, 0 ≤ g n ∧ g n ≤ c) → ∀ n, 0 ≤ dG xs g l n ∧ dG xs g l n ≤ c + l.length
  | [], g, c, _, h, n => by have := h n; simpa [dG] using this
  | a :: l, g, c, hc, h, n => by
    rw [dG]
    have hb := mxG_b (g := g) (W := waitsS xs a) hc fun m => (h m).2
    have := dG_b xs l (upd g a (mxG g (waitsS xs a) + 1)) (c + 1) (by omega) (fun m => by
      unfold upd
      split
      · omega
      · have := h m; omega) n
    simp only [List.length_cons, Int.natCast_add, Int.natCast_one]
    omega
theorem depS_le (xs : List Chg) (id : Int) : 0 ≤ depS xs id ∧ depS xs id ≤ (allS xs id).length := by
  have := dG_b xs (allS xs id) (fun _ => 0) 0 (Int.le_refl _) (fun _ => ⟨Int.le_refl _, Int.le_refl _⟩) id
  unfold depS
  omega
end Go.Proofs.YtbamhiegabeicaaGreat.Rd

/- Whether a change may be, and which block is next: the contracts of graph.may and graph.Next. No statement is proved here. -/
namespace Go.Proofs.YtbamhiegabeicaaGreat.Rd
open Go.RowKit Go.Proofs.YtbamhiegabeicaaGreat.Mem Go.Proofs.YtbamhiegabeicaaGreat.Open Go.Proofs.YtbamhiegabeicaaGreat.Kind Go.Proofs.YtbamhiegabeicaaGreat.Blk Go.Proofs.YtbamhiegabeicaaGreat.App Go.Proofs.YtbamhiegabeicaaGreat.Pat
set_option linter.unusedVariables false
set_option linter.unusedSimpArgs false
def hasB (xs : List Chg) (id : Int) : Bool := (findF id xs).isSome
set_option maxHeartbeats 1000000 in
theorem gmay_any (A : Option Addr) (c : Nat) (xs : List Chg) (id : Int) (w : World) (hx : Chs w A xs) (hs : Small xs) (hn : xs.length ≤ 1000) :
    Calls Tryz.prog 84 #[.slice A xs.length c, .int .i64 id] w fun r w' => r = .returned (.bool (hasB xs id && mayF 0 xs)) ∧ Below w.heap.size w w' := by
  have CF0 := Find_any A c xs id w hx hs hn
  have CC0 := fun w' h => chk_any A c xs w' h
  unfold hasB
  generalize findD id xs = y at CF0
  cases hf : (findF id xs).isSome with
  | false =>
    rw [hf] at CF0
    have CF := Lib.hid CF0
    clear CF0 hf CC0
    go_enter Tryz.func84, Tryz.ntmps84
    go_wp2_with fail
    refine CF.out.mono ?_
    rintro e w2 ⟨A3, c3, A4, c4, rfl, hf2, hb2⟩
    obtain ⟨⟨r5, b5, z5⟩⟩ : Nonempty (_ ∧ _ ∧ _) := ⟨boxed w2 90 chZ (chC y A3 c3 A4 c4)⟩
    have R0 : Row (w2.alloc (.cells chZ 90)) w2.heap.size 90 chZ := Row.new _ _ _
    have HB := Lib.hid (hb2.trans (b5.mono hb2.size))
    clear hf2 hb2 r5 b5 z5 CF
    go_wp2_with (first
      | (with_reducible refine wpList_allocA rfl 90 rfl _ chZero ?_)
      | (with_reducible refine wpList_storeRow rfl 90 _ _ rfl w2.heap.size rfl (chC y A3 c3 A4 c4) rfl chZ 90 5 chSize rfl rfl (chC_one _ _ _ _ _) R0 ?_))
    go_ret
    exact ⟨rfl, HB.out⟩
  | true =>
    rw [hf] at CF0
    have CF := Lib.hid CF0
    cases hm : mayF 0 xs with
    | false =>
      rw [hm] at CC0
      have CC := Lib.hid CC0
      clear CF0 hf CC0 hm
      go_enter Tryz.func84, Tryz.ntmps84
      go_wp2_with fail
      refine CF.out.mono ?_
      rintro e w2 ⟨A3, c3, A4, c4, rfl, hf2, hb2⟩
      obtain ⟨⟨r5, b5, z5⟩⟩ : Nonempty (_ ∧ _ ∧ _) := ⟨boxed w2 90 chZ (chC y A3 c3 A4 c4)⟩
      have R0 : Row (w2.alloc (.cells chZ 90)) w2.heap.size 90 chZ := Row.new _ _ _
      have HB := Lib.hid (hb2.trans (b5.mono hb2.size))
      clear hf2 hb2 r5 b5 z5 CF
      go_wp2_with (first
        | (with_reducible refine wpList_allocA rfl 90 rfl _ chZero ?_)
        | (with_reducible refine wpList_storeRow rfl 90 _ _ rfl w2.heap.size rfl (chC y A3 c3 A4 c4) rfl chZ 90 5 chSize rfl rfl (chC_one _ _ _ _ _) R0 ?_))
      refine (CC.out _ (hx.below HB.out)).mono ?_
      rintro e w3 ⟨rfl, hb3⟩
      have HB3 := Lib.hid (HB.out.trans (hb3.mono HB.out.size))
      clear hb3 R0
      rw [show okN false = 1 from rfl]
      go_wp2
      go_ret
      exact ⟨rfl, HB3.out⟩
    | true =>
      rw [hm] at CC0
      have CC := Lib.hid CC0
      clear CF0 hf CC0 hm
      go_enter Tryz.func84, Tryz.ntmps84
      go_wp2_with fail
      refine CF.out.mono ?_
      rintro e w2 ⟨A3, c3, A4, c4, rfl, hf2, hb2⟩
      obtain ⟨⟨r5, b5, z5⟩⟩ : Nonempty (_ ∧ _ ∧ _) := ⟨boxed w2 90 chZ (chC y A3 c3 A4 c4)⟩
      have R0 : Row (w2.alloc (.cells chZ 90)) w2.heap.size 90 chZ := Row.new _ _ _
      have HB := Lib.hid (hb2.trans (b5.mono hb2.size))
      clear hf2 hb2 r5 b5 z5 CF
      go_wp2_with (first
        | (with_reducible refine wpList_allocA rfl 90 rfl _ chZero ?_)
        | (with_reducible refine wpList_storeRow rfl 90 _ _ rfl w2.heap.size rfl (chC y A3 c3 A4 c4) rfl chZ 90 5 chSize rfl rfl (chC_one _ _ _ _ _) R0 ?_))
      refine (CC.out _ (hx.below HB.out)).mono ?_
      rintro e w3 ⟨rfl, hb3⟩
      have HB3 := Lib.hid (HB.out.trans (hb3.mono HB.out.size))
      clear hb3 R0
      rw [show okN true = 0 from rfl]
      go_wp2
      go_ret
      exact ⟨rfl, HB3.out⟩
end Go.Proofs.YtbamhiegabeicaaGreat.Rd

/- All that a change needs, step by step: the contracts of graph.reach and of the function within it. No statement is proved here. -/
namespace Go.Proofs.YtbamhiegabeicaaGreat.Rd
open Go.RowKit Go.Proofs.YtbamhiegabeicaaGreat.Mem Go.Proofs.YtbamhiegabeicaaGreat.Open Go.Proofs.YtbamhiegabeicaaGreat.Kind Go.Proofs.YtbamhiegabeicaaGreat.Blk Go.Proofs.YtbamhiegabeicaaGreat.App Go.Proofs.YtbamhiegabeicaaGreat.Pat
set_option linter.unusedVariables false
set_option linter.unusedSimpArgs false
theorem filter_le {α : Type} {p q : α → Bool} : ∀ {l : List α}, (∀ x ∈ l, p x = true → q x = true) → (l.filter p).length ≤ (l.filter q).length
  | [], _ => Nat.le_refl _
  | x :: l, h => by
    have ih := filter_le (l := l) fun y hy => h y (List.mem_cons_of_mem _ hy)
    have hx := h x List.mem_cons_self
    rw [List.filter_cons, List.filter_cons]
    cases hp : p x with
    | true => rw [hx hp]; simpa using ih
    | false => cases hq : q x <;> simp <;> omega
theorem filter_lt {α : Type} {p q : α → Bool} : ∀ {l : List α}, (∀ x ∈ l, p x = true → q x = true) → (∃ x ∈ l, p x = false ∧ q x = true) → (l.filter p).length + 1 ≤ (l.filter q).length
  | [], _, h => by obtain ⟨x, hx, _⟩ := h; cases hx
  | x :: l, h, ⟨y, hy, h1, h2⟩ => by
    have ih := filter_le (l := l) fun y hy => h y (List.mem_cons_of_mem _ hy)
    have hx := h x List.mem_cons_self
    rw [List.filter_cons, List.filter_cons]
    rcases List.mem_cons.1 hy with e | e
    · subst e
      rw [h1, h2]
      simpa using ih
    · have ih2 := filter_lt (l := l) (fun y hy => h y (List.mem_cons_of_mem _ hy)) ⟨y, e, h1, h2⟩
      cases hp : p x with
      | true => rw [hx hp]; simpa using ih2
      | false => cases hq : q x <;> simp <;> omega
def cntV (xs : List Chg) (f : Int → Int) : Nat := (xs.filter fun x => !decide (f x.id = 0)).length
theorem cntV_le (xs : List Chg) (f : Int → Int) : cntV xs f ≤ xs.length := List.length_filter_le _ _
theorem cntV_put {xs : List Chg} {f : Int → Int} {i : Nat} (hi : i < xs.length) (h : f xs[i].id = 0) : cntV xs f + 1 ≤ cntV xs (upd f xs[i].id 1) := by
  refine filter_lt (fun x hx hp => ?_) ⟨xs[i], List.getElem_mem hi, by simp [h], by simp [upd_same]⟩
  unfold upd
  split
  · rfl
  · exact hp
structure Vis (xs : List Chg) (id : Int) (f f' : Int → Int) : Prop where
  bit : ∀ n, f' n = 0 ∨ f' n = 1
  up : ∀ n, f n ≠ 0 → f' n ≠ 0
  self : f' id ≠ 0
  new : ∀ n, f' n ≠ 0 → f n ≠ 0 ∨ (Rch xs id n ∧ ∀ m ∈ waitsS xs n, f' m ≠ 0)
/-- Behind the first k of those for which a change waits. -/
structure VisK (xs : List Chg) (id : Int) (f1 : Int → Int) (k : Nat) (f' : Int → Int) : Prop where
  bit : ∀ n, f' n = 0 ∨ f' n = 1
  up : ∀ n, f1 n ≠ 0 → f' n ≠ 0
  done : ∀ m ∈ (waitsS xs id).take k, f' m ≠ 0
  new : ∀ n, f' n ≠ 0 → f1 n ≠ 0 ∨ (Rch xs id n ∧ ∀ m ∈ waitsS xs n, f' m ≠ 0)
theorem visK_zero {xs : List Chg} {id : Int} {f : Int → Int} (hf : ∀ n, f n = 0 ∨ f n = 1) : VisK xs id (upd f id 1) 0 (upd f id 1) :=
  ⟨fun n => by unfold upd; split; exact .inr rfl; exact hf n, fun _ h => h, fun m hm => by simp at hm, fun n h => .inl h⟩
theorem visK_step {xs : List Chg} {id : Int} {f1 fk f' : Int → Int} {k : Nat} (hk : k < (waitsS xs id).length) (h : VisK xs id f1 k fk) (hv : Vis xs (waitsS xs id)[k] fk f') : VisK xs id f1 (k + 1) f' where
  bit := hv.bit
  up n hn := hv.up n (h.up n hn)
  done m hm := by
    rw [List.take_add_one, List.getElem?_eq_getElem hk] at hm
    rcases List.mem_append.1 hm with hm | hm
    · exact hv.up m (h.done m hm)
    · simp at hm; subst hm; exact hv.self
  new n hn := by
    rcases hv.new n hn with h1 | ⟨h1, h2⟩
    · rcases h.new n h1 with h3 | ⟨h3, h4⟩
      · exact .inl h3
      · exact .inr ⟨h3, fun m hm => hv.up m (h4 m hm)⟩
    · exact .inr ⟨(Rch.here.step (List.getElem_mem hk)).trans h1, h2⟩
theorem visK_end {xs : List Chg} {id : Int} {f f' : Int → Int} {k : Nat} (hk : (waitsS xs id).length ≤ k) (h : VisK xs id (upd f id 1) k f') : Vis xs id f f' where
  bit := h.bit
  up n hn := h.up n (by unfold upd; split; exact Int.one_ne_zero; exact hn)
  self := h.up id (by rw [upd_same]; exact Int.one_ne_zero)
  new n hn := by
    have hd := h.done
    rw [List.take_of_length_le hk] at hd
    rcases h.new n hn with h1 | h1
    · by_cases e : n = id
      · subst e
        exact .inr ⟨.here, hd⟩
      · rw [upd_ne _ _ e] at h1
        exact .inl h1
    · exact .inr h1
theorem vis_all {xs : List Chg} {id : Int} {f' : Int → Int} (h : Vis xs id (fun _ => 0) f') (n : Int) : f' n = 1 ↔ Rch xs id n := by
  constructor
  · intro hn
    rcases h.new n (by omega) with h1 | ⟨h1, _⟩
    · exact absurd rfl h1
    · exact h1
  · intro hr
    have hh : f' n ≠ 0 := by
      induction hr with
      | here => exact h.self
      | @step a b _ hb ih =>
        rcases h.new a ih with h1 | ⟨_, h1⟩
        · exact absurd rfl h1
        · exact h1 b hb
    rcases h.bit n with h1 | h1
    · exact absurd h1 hh
    · exact h1
/-- What the function within reads, as it lies behind the world w0. -/
structure G1 (w0 : World) (A : Option Addr) (xs : List Chg) (c b g2 g5 g6 : Nat) (w : World) : Prop where
  bel : Below w0.heap.size w0 w
  c5 : w.cell? ⟨g5, 0, none⟩ = some (.map (some b))
  c2 : w.cell? ⟨g2, 0, none⟩ = some (.slice A xs.length c)
  c6 : w.cell? ⟨g6, 0, none⟩ = some (.func (.func 100) #[] #[.pointer (some ⟨g5, 0, none⟩), .pointer (some ⟨g2, 0, none⟩), .pointer (some ⟨g6, 0, none⟩)])
theorem G1.gb {w0 w w' : World} {A : Option Addr} {xs : List Chg} {c b g2 g5 g6 : Nat} (h : G1 w0 A xs c b g2 g5 g6 w) (hg : w.grownBy w' (some b)) (hb : w0.heap.size ≤ b) (n5 : g5 ≠ b) (n2 : g2 ≠ b) (n6 : g6 ≠ b) : G1 w0 A xs c b g2 g5 g6 w' :=
  ⟨h.bel.grown hg h.bel.size (fun q hq => by injection hq with hq; omega), gb_cell hg h.c5 (by intro e; injection e with e; exact n5 e), gb_cell hg h.c2 (by intro e; injection e with e; exact n2 e), gb_cell hg h.c6 (by intro e; injection e with e; exact n6 e)⟩
set_option maxHeartbeats 4000000 in
set_option maxRecDepth 100000 in
theorem go1_any (w0 : World) (A : Option Addr) (c : Nat) (xs : List Chg) (b g2 g5 g6 : Nat) (hx : Chs w0 A xs) (hcap : xs.length ≤ c) (hcm : c ≤ M63) (hn : xs.length ≤ 1000) (hs : Small xs) (hm : mayF 0 xs = true)
    (hb : w0.heap.size ≤ b) (n5 : g5 ≠ b) (n2 : g2 ≠ b) (n6 : g6 ≠ b) (i : Nat) : ∀ (hi : i < xs.length) (f : Int → Int) (w : World), (∀ n, f n = 0 ∨ f n = 1) → G1 w0 A xs c b g2 g5 g6 w → Mp w b (cntV xs f) f →
    Calls Tryz.prog 100 #[.int .i64 xs[i].id, .pointer (some ⟨g5, 0, none⟩), .pointer (some ⟨g2, 0, none⟩), .pointer (some ⟨g6, 0, none⟩)] w fun r w' => r = .returned (.tuple #[]) ∧ ∃ f', Vis xs xs[i].id f f' ∧ Mp w' b (cntV xs f') f' ∧ w.grownBy w' (some b) := by
  induction i using Nat.strongRecOn with
  | _ i ih =>
    intro hi f w hf hG hM
    have hid : WfI xs[i].id := by
      obtain ⟨g, o, rfl, hg⟩ := ch_form hx (by omega)
      obtain ⟨A1, c1, A2, c2, hat⟩ := ch_at hx i hi
      exact hat.ok.1
    have hget := hM.get hid Tryz.underlying116
    have c5 := hG.c5
    have hbw := hM.lt
    by_cases h0 : f xs[i].id = 0
    · rw [h0] at hget
      have hcn := cntV_put hi h0
      have hcl := cntV_le xs f
      have hwlt := Lib.hid (fun n hn => waits_lt hm hi (n := n) hn)
      have hwl : (waitsS xs xs[i].id).length ≤ 1000 := by
        rw [waitsS_at hm hi]; unfold waitK; rw [List.length_map]
        exact Nat.le_trans (List.length_filter_le _ _) (by rw [List.length_take]; omega)
      have hwwf : ∀ n ∈ waitsS xs xs[i].id, WfI n := by
        intro n hn
        obtain ⟨j, hj, _, rfl⟩ := waits_lt hm hi hn
        obtain ⟨g, o, rfl, hg⟩ := ch_form hx (by omega)
        obtain ⟨A1, c1, A2, c2, hat⟩ := ch_at hx j hj
        exact hat.ok.1
      have CWT := Lib.hid (fun w' h => Waits_any A c xs xs[i].id hid w' h hcap hcm hn hs)
      have IH := Lib.hid ih
      clear ih
      obtain ⟨a, ha⟩ : ∃ a, xs[i].id = a := ⟨_, rfl⟩
      rw [ha] at hid hget h0 hcn hwlt hwl hwwf CWT ⊢
      clear ha
      have HVK := Lib.hid (visK_zero (xs := xs) (id := a) hf)
      obtain ⟨W, hW⟩ : ∃ W, waitsS xs a = W := ⟨_, rfl⟩
      rw [hW] at hwlt hwl hwwf CWT
      have HW := Lib.hid hW
      clear hW
      go_enter Tryz.func100, Tryz.ntmps100
      go_wp2_with (at_mapUpdate; go_loud (refine wpList_mapPut rfl _ _ _ rfl rfl hM (by omega) a 1 rfl rfl hid rfl ?_); intro w3 hm3 hg3; have hG3 := G1.gb hG hg3 hb n5 n2 n6; have d2 := hG3.c2)
      have hM3 := hm3.mono hcn
      refine (CWT.out _ (hx.below hG3.bel)).mono ?_
      rintro e w4 ⟨v4, rfl, hown4, hb4⟩
      obtain ⟨AW, cW, rfl, -, -, -, hisW⟩ := own_is hown4 hwwf
      have hM4 := hM3.below hb4
      have hbl3 := hM3.lt
      have hG4 : G1 w0 A xs c b g2 g5 g6 w4 := ⟨hG3.bel.trans (hb4.mono hG3.bel.size), (hb4.cell (World.block_lt_of_cell? _ _ hG3.c5)).trans hG3.c5, (hb4.cell (World.block_lt_of_cell? _ _ hG3.c2)).trans hG3.c2, (hb4.cell (World.block_lt_of_cell? _ _ hG3.c6)).trans hG3.c6⟩
      have HO4 := Lib.hid hown4
      have HI4 := Lib.hid hisW
      have HG4 := Lib.hid hG4
      have HGB := Lib.hid (gb_below hg3 hb4)
      clear hM3 hm3 hcn hcl d2 hG3 hg3 hb4 hown4 hisW hG4 c5 hG hM hget CWT hwwf
      go_wp2_with fail
      go_loopw [17] (fun i wr => ∃ (k : Nat) (fk : Int → Int), k ≤ W.length ∧ i = .int .i64 k ∧ Hid (VisK xs a (upd f a 1) k fk) ∧ Mp wr b (cntV xs fk) fk ∧ w4.grownBy wr (some b)) (fun i _ => W.length - (intOf i).toNat)
      case atStart => exact ⟨0, _, by omega, rfl, HVK, hM4, gb_refl _ _⟩
      case round =>
        obtain ⟨k, fk, hk, rfl, hv, hmk, hgr⟩ := hrel
        have hGr := HG4.out.gb hgr hb n5 n2 n6
        by_cases hlt : k < W.length
        · obtain ⟨gw, ow, rfl, hgw, hw0⟩ := is_at HI4.out k hlt
          have hgne : gw ≠ b := by have := (Own.lt HO4.out gw rfl).1; omega
          have hwc := gb_cell hgr hw0 (by intro e; injection e with e; exact hgne e)
          obtain ⟨j, hj, hji, hje⟩ := hwlt.out W[k] (List.getElem_mem hlt)
          have CI0 := IH.out j hji hj fk wr hv.out.bit hGr hmk
          have d6 := hGr.c6
          have HSTEP := Lib.hid (fun f' (h : Vis xs W[k] fk f') => by
            have hk2 : k < (waitsS xs a).length := by rw [HW.out]; exact hlt
            exact visK_step hk2 hv.out (by have e : (waitsS xs a)[k] = W[k] := by simp only [HW.out]
                                           rw [e]; exact h))
          rw [hje] at CI0
          have CI := Lib.hid CI0
          have HGR := Lib.hid hgr
          clear CI0 hw0 hgr hje hv hmk hGr
          generalize W[k] = m at *
          go_wp2_with fail
          refine CI.out.mono ?_
          rintro e w5 ⟨rfl, f', hv', hm', hg'⟩
          have HG' := Lib.hid (HGR.out.trans hg')
          have HV' := Lib.hid (HSTEP.out f' hv')
          clear hv' hg' CI HSTEP
          go_wp2_with fail
          go_roundw
          case rel => exact ⟨k + 1, f', by omega, by go_num, HV', hm', HG'.out⟩
          case measure => simp [intOf]; omega
        · obtain rfl : k = W.length := by omega
          have HV := Lib.hid (visK_end (by rw [HW.out]; exact Nat.le_refl _) hv.out)
          have HGR := Lib.hid (HGB.out.trans hgr)
          clear hv hgr hGr
          go_wp2_with fail
          go_end0
          exact ⟨rfl, fk, HV.out, hmk, HGR.out⟩
    · have h1 : f xs[i].id = 1 := by rcases hf xs[i].id with h | h; exact absurd h h0; exact h
      rw [h1] at hget
      have HV : Hid (Vis xs xs[i].id f f) := Lib.hid ⟨hf, fun _ h => h, h0, fun n h => .inl h⟩
      clear h0 h1
      generalize xs[i].id = a at *
      go_enter Tryz.func100, Tryz.ntmps100
      go_wp2
      (try simp only [Exit.inBlock, Exit.then])
      refine bodyPost_ret (results_none rfl _ _ _) rfl ?_
      exact ⟨rfl, f, HV.out, hM, by first | exact gb_refl _ _ | exact gb_drew (gb_refl _ _)⟩
set_option maxHeartbeats 2000000 in
set_option maxRecDepth 100000 in
theorem reach_any (A : Option Addr) (c : Nat) (xs : List Chg) (i : Nat) (hi : i < xs.length) (w : World) (hx : Chs w A xs) (hcap : xs.length ≤ c) (hcm : c ≤ M63) (hn : xs.length ≤ 1000) (hs : Small xs) (hm : mayF 0 xs = true) :
    Calls Tryz.prog 85 #[.slice A xs.length c, .int .i64 xs[i].id] w fun r w' => ∃ b f', r = .returned (.map (some b)) ∧ Mp w' b xs.length f' ∧ (∀ n, f' n = 1 ↔ Rch xs xs[i].id n) ∧ Below w.heap.size w w' := by
  have hmm := @run_makeMap Tryz.prog
  have hmk := hmf
  have hg1 := fun w1 g2 b g5 g6 h1 h2 h3 h4 => go1_any w A c xs b g2 g5 g6 hx hcap hcm hn hs hm h1 h2 h3 h4 i hi (fun _ => 0) w1 (fun _ => .inl rfl)
  have HG1 := Lib.hid hg1
  clear hg1
  have HV := Lib.hid (fun f' (h : Vis xs xs[i].id (fun _ => 0) f') n => vis_all h n)
  generalize xs[i].id = a at *
  go_enter Tryz.func85, Tryz.ntmps85
  go_wp2_with fail
  have hM0 : Mp ((w.alloc (.cells #[.slice A xs.length c] 72)).alloc (.map #[] 0)) (w.heap.size + 1) 0 (fun _ => 0) := by
    have := Mp.made (w.alloc (.cells #[.slice A xs.length c] 72))
    rwa [show (w.alloc (.cells #[.slice A xs.length c] 72)).heap.size = w.heap.size + 1 from by simp] at this
  have r0 := ((rowAt (w := w) (g := w.heap.size) 72 #[.slice A xs.length c] rfl).alloc (.map #[] 0))
  generalize hX : ((w.alloc (.cells #[.slice A xs.length c] 72)).alloc (.map #[] 0)) = X at *
  have hXs : X.heap.size = w.heap.size + 1 + 1 := by rw [← hX]; simp
  have hXb : Below w.heap.size w X := by rw [← hX]; exact ((Below.refl _ _).alloc (Nat.le_refl _) _).alloc (by simp) _
  clear hX
  have hc0 : cntV xs (fun _ => 0) = 0 := by unfold cntV; simp
  refine (HG1.out _ w.heap.size (w.heap.size + 1) (w.heap.size + 1 + 1) (w.heap.size + 1 + 1 + 1) (by omega) (by omega) (by omega) (by omega) ⟨(hXb.alloc hXb.size _).alloc (Nat.le_trans hXb.size (by simp)) _, ((rowAt _ _ hXs).alloc _).cell 0 rfl, ((r0.alloc _).alloc _).cell 0 rfl, (rowAt _ _ (by simp [hXs])).cell 0 rfl⟩ (by rw [hc0]; exact (hM0.alloc _).alloc _)).mono ?_
  rintro e w5 ⟨rfl, f', hv', hm', hg'⟩
  have hb5 : Below w.heap.size w w5 := ((hXb.alloc hXb.size _).alloc (Nat.le_trans hXb.size (by simp)) _).grown hg' (by simp [hXs]; omega) (fun q hq => by injection hq with hq; omega)
  have c5 : w5.cell? ⟨w.heap.size + 1 + 1, 0, none⟩ = some (.map (some (w.heap.size + 1))) := gb_cell hg' (((rowAt _ _ hXs).alloc _).cell 0 rfl) (by intro e; injection e with e; dsimp only at e; omega)
  clear hg'
  go_wp2
  go_ret
  exact ⟨_, f', rfl, hm'.mono (cntV_le _ _), HV.out f' hv', hb5⟩
end Go.Proofs.YtbamhiegabeicaaGreat.Rd

/- All that a change needs: the contract of graph.All. No statement is proved here. -/
namespace Go.Proofs.YtbamhiegabeicaaGreat.Rd
open Go.RowKit Go.Proofs.YtbamhiegabeicaaGreat.Mem Go.Proofs.YtbamhiegabeicaaGreat.Open Go.Proofs.YtbamhiegabeicaaGreat.Kind Go.Proofs.YtbamhiegabeicaaGreat.Blk Go.Proofs.YtbamhiegabeicaaGreat.App Go.Proofs.YtbamhiegabeicaaGreat.Pat
set_option linter.unusedVariables false
set_option linter.unusedSimpArgs false
theorem findF_none {n : Int} : ∀ {xs : List Chg}, findF n xs = none → ∀ x ∈ xs, x.id ≠ n
  | [], _, x, hx => by cases hx
  | y :: r, h, x, hx => by
    unfold findF at h
    split at h
    · cases h
    · rename_i h0
      rcases List.mem_cons.1 hx with e | e
      · subst e; exact h0
      · exact findF_none h x e
theorem findF_some {n : Int} : ∀ {xs : List Chg} {y : Chg}, findF n xs = some y → y ∈ xs ∧ y.id = n
  | [], y, h => by cases h
  | x :: r, y, h => by
    unfold findF at h
    split at h
    · rename_i h0
      injection h with h
      subst h
      exact ⟨List.mem_cons_self, h0⟩
    · obtain ⟨h1, h2⟩ := findF_some h
      exact ⟨List.mem_cons_of_mem _ h1, h2⟩
theorem hasB_no {xs : List Chg} {id : Int} (h : hasB xs id = false) : ∀ x ∈ xs, x.id ≠ id := by
  unfold hasB at h
  cases hf : findF id xs with
  | none => exact findF_none hf
  | some y => rw [hf] at h; cases h
theorem hasB_yes {xs : List Chg} {id : Int} (h : hasB xs id = true) : ∃ i, ∃ hi : i < xs.length, xs[i].id = id := by
  unfold hasB at h
  cases hf : findF id xs with
  | none => rw [hf] at h; cases h
  | some y =>
    obtain ⟨h1, h2⟩ := findF_some hf
    obtain ⟨i, hi, rfl⟩ := List.mem_iff_getElem.1 h1
    exact ⟨i, hi, h2⟩
def keepF (f : Int → Int) (xs : List Chg) : List Int := (xs.map (·.id)).filter fun n => decide (f n = 1)
theorem keepF_all {xs : List Chg} (hm : mayF 0 xs = true) {id : Int} {f : Int → Int} (hf : ∀ n, f n = 1 ↔ Rch xs id n) : keepF f xs = allS xs id := by
  unfold keepF allS
  rw [if_pos hm]
  congr 1
  funext n
  rw [decide_eq_decide, hf n, mem_rc hm]
theorem keepF_next {f : Int → Int} {xs : List Chg} {k : Nat} (hk : k < xs.length) : keepF f (xs.take (k + 1)) = if f xs[k].id = 1 then keepF f (xs.take k) ++ [xs[k].id] else keepF f (xs.take k) := by
  unfold keepF
  rw [take_next hk, List.map_append, List.filter_append]
  simp only [List.map_cons, List.map_nil]
  by_cases h : f xs[k].id = 1
  · rw [if_pos h]; simp [h]
  · rw [if_neg h]; simp [h]
theorem keepF_len (f : Int → Int) (xs : List Chg) : (keepF f xs).length ≤ xs.length := Nat.le_trans (List.length_filter_le _ _) (by rw [List.length_map]; exact Nat.le_refl _)
set_option maxHeartbeats 4000000 in
set_option maxRecDepth 100000 in
theorem All_any (A : Option Addr) (c : Nat) (xs : List Chg) (id : Int) (w : World) (hx : Chs w A xs) (hcap : xs.length ≤ c) (hcm : c ≤ M63) (hn : xs.length ≤ 1000) (hs : Small xs) :
    Calls Tryz.prog 64 #[.slice A xs.length c, .int .i64 id] w fun r w' => ∃ v, r = .returned v ∧ Ns w' w.heap.size v (allS xs id) ∧ Below w.heap.size w w' := by
  have CM0 := gmay_any A c xs id w hx hs hn
  cases hh : hasB xs id with
  | false =>
    rw [hh, Bool.false_and] at CM0
    have CM := Lib.hid CM0
    have HV := Lib.hid (all_none (hasB_no hh))
    clear CM0 hh
    go_enter Tryz.func64, Tryz.ntmps64
    go_wp2_with fail
    refine CM.out.mono ?_
    rintro e w2 ⟨rfl, hb2⟩
    go_wp2
    go_ret
    exact ⟨_, rfl, by rw [HV.out]; exact Own.nil _ _ _ _, hb2⟩
  | true =>
    cases hm : mayF 0 xs with
    | false =>
      rw [hh, hm, Bool.true_and] at CM0
      have CM := Lib.hid CM0
      have HV := Lib.hid (all_may hm id)
      clear CM0 hh hm
      go_enter Tryz.func64, Tryz.ntmps64
      go_wp2_with fail
      refine CM.out.mono ?_
      rintro e w2 ⟨rfl, hb2⟩
      go_wp2
      go_ret
      exact ⟨_, rfl, by rw [HV.out]; exact Own.nil _ _ _ _, hb2⟩
    | true =>
      rw [hh, hm, Bool.true_and] at CM0
      have CM := Lib.hid CM0
      obtain ⟨i, hi, he⟩ := hasB_yes hh
      clear CM0 hh
      have CR0 := fun w' h => reach_any A c xs i hi w' h hcap hcm hn hs hm
      rw [he] at CR0
      have CR := Lib.hid CR0
      have HK := Lib.hid (fun f h => keepF_all hm (id := id) (f := f) h)
      clear hm CR0 he
      clear hi
      go_enter Tryz.func64, Tryz.ntmps64
      go_wp2_with fail
      refine CM.out.mono ?_
      rintro e w2 ⟨rfl, hb2⟩
      go_wp2_with fail
      refine (CR.out w2 (hx.below hb2)).mono ?_
      rintro e w5 ⟨b, f, rfl, hM, hf, hb5⟩
      have HV := Lib.hid (HK.out f hf)
      have hy := (hx.below hb2).below hb5
      have HB5 := Lib.hid (hb2.trans (hb5.mono hb2.size))
      have hl : xs.length ≤ 9223372036854775807 := hx.2.1
      clear hb2 hb5 hf HK CR CM hx
      go_wp2_with fail
      go_loopw [6, 18] (fun v i wr => ∃ (k : Nat), k ≤ xs.length ∧ i = .int .i64 k ∧ Ns wr w5.heap.size v (keepF f (xs.take k)) ∧ Below w5.heap.size w5 wr) (fun _ i _ => xs.length - (intOf i).toNat)
      case atStart => exact ⟨0, by omega, rfl, Own.nil _ _ _ _, Below.refl _ _⟩
      case round =>
        obtain ⟨k, hk, rfl, hown, hbr⟩ := hrel
        by_cases hlt : k < xs.length
        · obtain ⟨g, o, rfl, hg⟩ := ch_form hy (by omega)
          obtain ⟨A1, c1, A2, c2, hat0⟩ := ch_at hy k hlt
          have hat := hat0.below hbr
          have e0 := hat.v0
          have e1 := hat.v1
          have e2 := hat.v2
          have e3 : wr.cell? ⟨g, o + k * 5 + 3, none⟩ = _ := hat.v3
          have e4 := hat.v4
          have hid := hat.ok.1
          have HT := Lib.hid (keepF_next (f := f) hlt)
          have hl2 : (keepF f (xs.take k)).length ≤ 1000 := by have := keepF_len f (xs.take k); rw [List.length_take] at this; omega
          clear hat0 hat
          generalize xs[k] = x at *
          obtain ⟨out, hout⟩ : ∃ out, keepF f (xs.take k) = out := ⟨_, rfl⟩
          rw [hout] at HT hl2 hown
          clear hout
          obtain ⟨A7, c7, rfl⟩ := hown.slice
          obtain ⟨⟨b1, b2, b3⟩⟩ : Nonempty (_ ∧ _ ∧ _) := ⟨boxed wr 90 chZ (chC x A1 c1 A2 c2)⟩
          have R0 : Row (wr.alloc (.cells chZ 90)) wr.heap.size 90 chZ := Row.new _ _ _
          have k0 : World.cell? _ ⟨wr.heap.size, 0, none⟩ = some (.int .i64 x.id) := b1.cell 0 rfl
          have hget := ((hM.below hbr).below b2).get hid Tryz.underlying116
          have HO := Lib.hid (hown.below b2)
          have HB := Lib.hid (hbr.trans (b2.mono hbr.size))
          have hle2 : w5.heap.size ≤ wr.heap.size := hbr.size
          by_cases hf1 : f x.id = 1
          · rw [hf1] at hget
            have HT2 : Hid (keepF f (xs.take (k + 1)) = out ++ [x.id]) := Lib.hid (by rw [HT.out, if_pos hf1])
            have hc1 : World.cell? (((wr.alloc (.cells chZ 90)).setRow wr.heap.size (chC x A1 c1 A2 c2)).alloc (.cells #[.int .i64 x.id] 3)) ⟨wr.heap.size + 1, 0, none⟩ = some (.int .i64 x.id) := (rowAt (g := wr.heap.size + 1) 3 #[.int .i64 x.id] (by simp)).cell 0 rfl
            have hob : (out.length + 1) * 8 ≤ 140737488355328 := by omega
            have ho6 : out.length + 1 ≤ 9223372036854775807 := by omega
            clear b1 b2 b3 hown hbr hf1 HT hl2
            go_wp2_with (first
              | (with_reducible refine wpList_allocA rfl 90 rfl _ chZero ?_)
              | (with_reducible refine wpList_storeRow rfl 90 _ _ rfl wr.heap.size rfl (chC x A1 c1 A2 c2) rfl chZ 90 5 chSize rfl rfl (chC_one _ _ _ _ _) R0 ?_)
              | (at_builtin; go_loud (refine wpList_app1 rfl _ _ 47 rfl w5.heap.size 3 (.int .i64 0) 8 V64 Tryz.underlying47 intInfo3 rfl (.slice A7 out.length c7) out x.id rfl _ (wr.heap.size + 1) rfl (HO.out.alloc _) hc1 rfl hob ho6 (by simp; omega) ?_); intro v7 w7 hown7 hb7 hg7))
            have HO7 := Lib.hid hown7
            have HB7 := Lib.hid ((HB.out.alloc (Nat.le_trans hle2 (by simp)) (.cells #[.int .i64 x.id] 3)).trans hb7)
            clear hown7 hb7 hg7
            go_roundw
            case rel => exact ⟨k + 1, by omega, by go_num, by rw [HT2.out]; exact HO7.out, HB7.out⟩
            case measure => simp [intOf]; omega
          · have HT2 : Hid (keepF f (xs.take (k + 1)) = out) := Lib.hid (by rw [HT.out, if_neg hf1])
            have hne : (f x.id == 1) = false := by simpa using hf1
            have hdec : decide (f x.id = 1) = false := decide_eq_false hf1
            clear b1 b2 b3 hown hbr HT hl2
            go_wp2_with (first
              | (with_reducible refine wpList_allocA rfl 90 rfl _ chZero ?_)
              | (with_reducible refine wpList_storeRow rfl 90 _ _ rfl wr.heap.size rfl (chC x A1 c1 A2 c2) rfl chZ 90 5 chSize rfl rfl (chC_one _ _ _ _ _) R0 ?_))
            go_roundw
            case rel => exact ⟨k + 1, by omega, by go_num, by rw [HT2.out]; exact HO.out, HB.out⟩
            case measure => simp [intOf]; omega
        · obtain rfl : k = xs.length := by omega
          rw [List.take_length] at hown
          have HO := Lib.hid hown
          clear hown
          go_wp2
          go_ret
          exact ⟨_, rfl, by rw [← HV.out]; exact HO.out.mono HB5.out.size, HB5.out.trans (hbr.mono HB5.out.size)⟩
end Go.Proofs.YtbamhiegabeicaaGreat.Rd

/- How deep a change is: the contract of graph.Depth. No statement is proved here. -/
namespace Go.Proofs.YtbamhiegabeicaaGreat.Rd
open Go.RowKit Go.Proofs.YtbamhiegabeicaaGreat.Mem Go.Proofs.YtbamhiegabeicaaGreat.Open Go.Proofs.YtbamhiegabeicaaGreat.Kind Go.Proofs.YtbamhiegabeicaaGreat.Blk Go.Proofs.YtbamhiegabeicaaGreat.App Go.Proofs.YtbamhiegabeicaaGreat.Pat
set_option linter.unusedVariables false
set_option linter.unusedSimpArgs false
theorem mxG_next {g : Int → Int} {W : List Int} {q : Nat} (hq : q < W.length) : mxG g (W.take (q + 1)) = max (mxG g (W.take q)) (g W[q]) := by
  unfold mxG
  rw [List.take_add_one, List.getElem?_eq_getElem hq, List.foldl_append]
  rfl
theorem dG_next {xs : List Chg} {g : Int → Int} {L : List Int} {k : Nat} (hk : k < L.length) : dG xs g (L.take (k + 1)) = upd (dG xs g (L.take k)) L[k] (mxG (dG xs g (L.take k)) (waitsS xs L[k]) + 1) := by
  rw [List.take_add_one, List.getElem?_eq_getElem hk]
  exact dG_app xs L[k] (L.take k) g
theorem all_wf {w : World} {A : Option Addr} {xs : List Chg} (h : Chs w A xs) (id : Int) : ∀ n ∈ allS xs id, WfI n := by
  intro n hn
  unfold allS at hn
  split at hn
  · obtain ⟨x, hx, rfl⟩ := List.mem_map.1 (List.mem_filter.1 hn).1
    obtain ⟨i, hi, rfl⟩ := List.mem_iff_getElem.1 hx
    obtain ⟨g, o, rfl, hg⟩ := ch_form h (by omega)
    obtain ⟨A1, c1, A2, c2, hat⟩ := ch_at h i hi
    exact hat.ok.1
  · cases hn
theorem waits_wf {w : World} {A : Option Addr} {xs : List Chg} (h : Chs w A xs) (id : Int) : ∀ n ∈ waitsS xs id, WfI n := by
  intro n hn
  unfold waitsS at hn
  split at hn
  · obtain ⟨x, hx, _, rfl⟩ := mem_waitK.1 hn
    obtain ⟨i, hi, rfl⟩ := List.mem_iff_getElem.1 (List.mem_of_mem_take hx)
    obtain ⟨g, o, rfl, hg⟩ := ch_form h (by omega)
    obtain ⟨A1, c1, A2, c2, hat⟩ := ch_at h i hi
    exact hat.ok.1
  · simp at hn
theorem waits_len (xs : List Chg) (id : Int) : (waitsS xs id).length ≤ xs.length := by
  unfold waitsS
  split
  · unfold waitK
    rw [List.length_map]
    exact Nat.le_trans (List.length_filter_le _ _) (by rw [List.length_take]; omega)
  · simp
set_option maxHeartbeats 4000000 in
set_option maxRecDepth 100000 in
theorem Depth_any (A : Option Addr) (c : Nat) (xs : List Chg) (id : Int) (hid : WfI id) (w : World) (hx : Chs w A xs) (hcap : xs.length ≤ c) (hcm : c ≤ M63) (hn : xs.length ≤ 1000) (hs : Small xs) :
    Calls Tryz.prog 39 #[.slice A xs.length c, .int .i64 id] w fun r w' => r = .returned (.int .i64 (depS xs id)) ∧ Below w.heap.size w w' := by
  have hmm := @run_makeMap Tryz.prog
  have hM0 : Mp (w.alloc (.map #[] 0)) w.heap.size 0 (fun _ => 0) := Mp.made w
  have hb0 := bb0 w (.map #[] 0)
  have hlw : w.heap.size < (w.alloc (.map #[] 0)).heap.size := by simp
  have CA := Lib.hid (All_any A c xs id _ (hx.below hb0) hcap hcm hn hs)
  have CW := Lib.hid (fun n hn' w' h => Waits_any A c xs n hn' w' h hcap hcm hn hs)
  have hwf := all_wf hx id
  have hal := all_len xs id
  have HD : Hid (depS xs id = dG xs (fun _ => 0) (allS xs id) id) := Lib.hid rfl
  have HWF := Lib.hid (fun n => waits_wf hx n)
  have HWL := Lib.hid (waits_len xs)
  obtain ⟨L, hL⟩ : ∃ L, allS xs id = L := ⟨_, rfl⟩
  rw [hL] at CA hwf hal HD
  clear hL
  go_enter Tryz.func39, Tryz.ntmps39
  go_wp2_with fail
  refine CA.out.mono ?_
  rintro e w4 ⟨v4, rfl, hown4, hb4⟩
  obtain ⟨AL, cL, rfl, -, -, -, hisL⟩ := own_is hown4 hwf
  have hM4 := hM0.below hb4
  have hB4 := hb0.trans (hb4.mono hb0.size)
  have HO4 := Lib.hid hown4
  have HI4 := Lib.hid hisL
  have HB4 := Lib.hid hB4
  clear hown4 hisL hB4 hM0 hb0 hb4 CA
  go_wp2_with fail
  go_loopw [16] (fun i wr => ∃ (k : Nat), k ≤ L.length ∧ i = .int .i64 k ∧ Mp wr w.heap.size k (dG xs (fun _ => 0) (L.take k)) ∧ w4.grownBy wr (some w.heap.size)) (fun i _ => L.length - (intOf i).toNat)
  case atStart => exact ⟨0, by omega, rfl, hM4, gb_refl _ _⟩
  case round =>
    obtain ⟨k, hk, rfl, hmk, hgr⟩ := hrel
    have hbr : Below w.heap.size w wr := HB4.out.grown hgr HB4.out.size (fun q hq => by injection hq with hq; omega)
    by_cases hlt : k < L.length
    · obtain ⟨gl, ol, rfl, hgl, hl0⟩ := is_at HI4.out k hlt
      have hgne : gl ≠ w.heap.size := by have := (Own.lt HO4.out gl rfl).1; omega
      have hlc := gb_cell hgr hl0 (by intro e; injection e with e; exact hgne e)
      have hnw := hwf L[k] (List.getElem_mem hlt)
      have HNX := Lib.hid (dG_next (xs := xs) (g := fun _ => 0) hlt)
      have hgb := dG_b xs (L.take k) (fun _ => 0) 0 (Int.le_refl _) (fun _ => ⟨Int.le_refl _, Int.le_refl _⟩)
      have hkl : (L.take k).length ≤ 1000 := by rw [List.length_take]; omega
      obtain ⟨g, hg⟩ : ∃ g, dG xs (fun _ => 0) (L.take k) = g := ⟨_, rfl⟩
      rw [hg] at HNX hmk hgb
      have HGB : Hid (∀ n, 0 ≤ g n ∧ g n ≤ 1000) := Lib.hid (fun n => by have := hgb n; omega)
      clear hg hgb
      have CWn := Lib.hid (CW.out L[k] hnw wr (hx.below hbr))
      have hww := HWF.out L[k]
      have hwl := HWL.out L[k]
      have HGR := Lib.hid hgr
      have HBR := Lib.hid hbr
      generalize L[k] = n at *
      obtain ⟨W, hW⟩ : ∃ W, waitsS xs n = W := ⟨_, rfl⟩
      rw [hW] at CWn hww hwl HNX
      clear hW hl0 hgr hbr
      go_wp2_with fail
      refine CWn.out.mono ?_
      rintro e w6 ⟨v6, rfl, hown6, hb6⟩
      obtain ⟨AW, cW, rfl, -, -, -, hisW⟩ := own_is hown6 hww
      have HI6 := Lib.hid hisW
      have hm6 := hmk.below hb6
      have HG6 := Lib.hid (gb_below HGR.out hb6)
      clear hown6 hisW hmk hb6 CWn HGR HBR hlc
      go_wp2_with fail
      go_loopw [8, 24] (fun mo i wq => ∃ (q : Nat), q ≤ W.length ∧ i = .int .i64 q ∧ mo = .int .i64 (mxG g (W.take q)) ∧ Below w6.heap.size w6 wq) (fun _ i _ => W.length - (intOf i).toNat)
      case atStart => exact ⟨0, by omega, rfl, rfl, Below.refl _ _⟩
      case round =>
        obtain ⟨q, hq, rfl, rfl, hbq⟩ := hrel
        have hmb := mxG_b (g := g) (W := W.take q) (c := 1000) (by omega) (fun m => (HGB.out m).2)
        by_cases hql : q < W.length
        · obtain ⟨gw, ow, rfl, hgw, hw0⟩ := is_at HI6.out q hql
          have hwc := (hbq.cell (p := ⟨gw, ow + q, none⟩) hgw).trans hw0
          have hmw := hww W[q] (List.getElem_mem hql)
          have hget := (hm6.below hbq).get hmw Tryz.underlying116
          have HMX := Lib.hid (mxG_next (g := g) hql)
          have HBQ := Lib.hid hbq
          generalize mxG g (W.take q) = mo at *
          generalize W[q] = m at *
          generalize g m = gm at *
          clear hw0 hbq
          have hmx : (if mo < gm then gm else mo) = max mo gm := by split <;> omega
          go_wp2_with fail
          exact ⟨⟨q + 1, by omega, by go_num, by rw [HMX.out], HBQ.out⟩, by simp [intOf]; omega⟩
        · obtain rfl : q = W.length := by omega
          rw [List.take_length] at hmb ⊢
          have hmp := hm6.below hbq
          have HG := Lib.hid (gb_below HG6.out hbq)
          have hk9 : k < 1000000 := by omega
          generalize mxG g W = mo at *
          have hmw : WfI (mo + 1) := (wf_iff _).2 (by omega)
          clear hbq
          go_wp2_with (at_mapUpdate; go_loud (refine wpList_mapPut rfl _ _ _ rfl rfl hmp hk9 n (mo + 1) rfl rfl hnw hmw ?_); intro w9 hm9 hg9)
          have HG9 := Lib.hid (HG.out.trans hg9)
          rw [← HNX.out] at hm9
          clear hg9
          go_roundw
          case rel => exact ⟨k + 1, by omega, by go_num, hm9, HG9.out⟩
          case measure => simp [intOf]; omega
    · obtain rfl : k = L.length := by omega
      rw [List.take_length] at hmk
      have hget := hmk.get hid Tryz.underlying116
      rw [← HD.out] at hget
      clear hgr
      go_wp2
      go_ret
      exact ⟨rfl, hbr⟩
end Go.Proofs.YtbamhiegabeicaaGreat.Rd


