/- A rank's plain laws. No statement is proved here. -/
import Derived.Test.YthgncnpemnlodaaPk
namespace Go.Proofs.Ythgncnpemnlodaa.Fl
open Go.RowKit Go.Proofs.Ythgncnpemnlodaa.Open Go.Proofs.Ythgncnpemnlodaa.Mem Go.Proofs.Ythgncnpemnlodaa.Same
set_option linter.unusedVariables false
set_option linter.unusedSimpArgs false
/-- Does one place stand ahead of another one? -/
def Ah (l : List Nat) (i j : Int) : Prop := 0 < ord (wt l i) (wt l j) ∨ (ord (wt l i) (wt l j) = 0 ∧ i < j)
theorem Ah.ge {l : List Nat} {i j : Int} (h : Ah l i j) : 0 ≤ ord (wt l i) (wt l j) := by rcases h with h | h <;> omega
theorem Ah.ne {l : List Nat} {i j : Int} (h : Ah l i j) : i ≠ j := by
  rintro rfl
  rcases h with h | h
  · rw [ord_self] at h; omega
  · omega
theorem ge_trans {a b c : Nat} (h1 : 0 ≤ ord a b) (h2 : 0 ≤ ord b c) : 0 ≤ ord a c := by rw [ord_ge] at *; omega
theorem posF_passed {l : List Nat} {out : List Int} {x m : Nat} (hm : m ≤ out.length) : ∀ j, posF l out x m ≤ j → j < m → ord (wt l (out.getD j 0)) x < 0 := by
  induction m with
  | zero => intro j _ h; omega
  | succ m ih =>
    intro j h1 h2
    by_cases h : ord (wt l (out.getD m 0)) x < 0
    · rw [posF_go h] at h1
      by_cases e : j = m
      · subst e; exact h
      · exact ih (by omega) j h1 (by omega)
    · rw [posF_stop h] at h1; omega
theorem posF_left {l : List Nat} {out : List Int} {x m p : Nat} (hm : m ≤ out.length) (hp : posF l out x m = p + 1) : 0 ≤ ord (wt l (out.getD p 0)) x := by
  induction m with
  | zero => cases hp
  | succ m ih =>
    by_cases h : ord (wt l (out.getD m 0)) x < 0
    · rw [posF_go h] at hp; exact ih (by omega) hp
    · rw [posF_stop h] at hp
      obtain rfl : m = p := by omega
      omega
theorem getD_at {out : List Int} {i : Nat} (h : i < out.length) : out.getD i 0 = out[i] := by
  rw [List.getD_eq_getElem?_getD, List.getElem?_eq_getElem h]; rfl
theorem rk_sorted (l : List Nat) (k : Nat) : (rk l k).Pairwise (Ah l) := by
  induction k with
  | zero => exact List.Pairwise.nil
  | succ k ih =>
    have hl := rk_len l k
    have hlt := rk_lt l k
    show (ins l (rk l k) k).Pairwise (Ah l)
    unfold ins
    generalize hp : posF l (rk l k) (wt l k) (rk l k).length = p
    have hple : p ≤ (rk l k).length := hp ▸ posF_le _ _ _ _
    have hdrop : ∀ b ∈ (rk l k).drop p, ord (wt l b) (wt l k) < 0 := by
      intro b hb
      obtain ⟨i, hi, rfl⟩ := List.mem_iff_getElem.1 hb
      rw [List.getElem_drop]
      have hi' : p + i < (rk l k).length := by rw [List.length_drop] at hi; omega
      have := posF_passed (l := l) (out := rk l k) (x := wt l k) (Nat.le_refl _) (p + i) (by omega) hi'
      rwa [getD_at hi'] at this
    have htake : ∀ a ∈ (rk l k).take p, 0 ≤ ord (wt l a) (wt l k) := by
      intro a ha
      obtain ⟨i, hi, rfl⟩ := List.mem_iff_getElem.1 ha
      have hip : i < p := by rw [List.length_take] at hi; omega
      obtain ⟨q, rfl⟩ : ∃ q, p = q + 1 := ⟨p - 1, by omega⟩
      have h1 := posF_left (Nat.le_refl _) hp
      rw [getD_at (by omega)] at h1
      rw [List.getElem_take]
      by_cases e : i = q
      · subst e; exact h1
      · exact ge_trans (List.pairwise_iff_getElem.1 ih i q (by omega) (by omega) (by omega)).ge h1
    rw [List.pairwise_append]
    refine ⟨ih.sublist (List.take_sublist _ _), ?_, ?_⟩
    · rw [List.pairwise_cons]
      refine ⟨fun b hb => .inl ?_, ih.sublist (List.drop_sublist _ _)⟩
      have := hdrop b hb
      have h2 := ord_back (wt l b) (wt l k)
      omega
    · intro a ha b hb
      have h1 := htake a ha
      rcases List.mem_cons.1 hb with rfl | hb
      · rcases Int.lt_or_le 0 (ord (wt l a) (wt l k)) with h | h
        · exact .inl h
        · exact .inr ⟨by omega, (hlt a (List.mem_of_mem_take ha)).2⟩
      · have h2 := hdrop b hb
        have h3 := ord_back (wt l b) (wt l k)
        refine .inl ?_
        rw [show (0 < ord (wt l a) (wt l b)) ↔ tk (wt l b) < tk (wt l a) from by unfold ord; (repeat' split) <;> omega]
        rw [ord_ge] at h1
        have h4 : tk (wt l b) < tk (wt l k) := by unfold ord at h2; (repeat' split at h2) <;> omega
        omega
theorem rk_apart (l : List Nat) (k i j : Nat) (hij : i < j) (hj : j < (rk l k).length) : (rk l k)[i] ≠ (rk l k)[j] :=
  (List.pairwise_iff_getElem.1 (rk_sorted l k) i j (by omega) hj hij).ne
/-- Which places are among these. -/
def mk (L : List Int) (n : Nat) : List Bool := (List.range n).map fun j : Nat => L.contains (j : Int)
theorem mk_len (L : List Int) (n : Nat) : (mk L n).length = n := by simp [mk]
theorem mk_nil (n : Nat) : mk [] n = List.replicate n false := by
  apply List.ext_getElem
  · simp [mk]
  · intro i h1 h2; simp [mk]
theorem mk_set (L : List Int) (n j : Nat) : (mk L n).set j true = mk (L ++ [(j : Int)]) n := by
  apply List.ext_getElem
  · simp [mk]
  · intro i h1 h2
    rw [List.getElem_set]
    simp only [mk, List.getElem_map, List.getElem_range, List.contains_append]
    by_cases e : j = i
    · subst e; simp
    · have : ([(j : Int)].contains (i : Int)) = false := by simp; omega
      rw [if_neg e, this, Bool.or_false]
theorem mk_no {l : List Nat} {n i j : Nat} (hj : ∃ h : i < (rk l n).length, (rk l n)[i]'h = (j : Int)) (h : j < (mk ((rk l n).take i) n).length) : (mk ((rk l n).take i) n)[j] = false := by
  obtain ⟨hi, hj⟩ := hj
  simp only [mk, List.getElem_map, List.getElem_range]
  rw [← Bool.not_eq_true, List.contains_iff_mem]
  intro h
  obtain ⟨q, hq, e⟩ := List.mem_iff_getElem.1 h
  rw [List.getElem_take] at e
  have hqi : q < i := by rw [List.length_take] at hq; omega
  exact rk_apart l n q i hqi hi (e.trans hj.symm)
theorem order_bel (x y : Nat) (hx : x < 18446744073709551616) (hy : y < 18446744073709551616) (w : World) :
    Calls Try.prog 23 #[F x, F y] w fun e w' => e = .returned (.int .i64 (ord x y)) ∧ Below w.heap.size w w' := by
  refine (order_any x y hx hy w).mono ?_
  rintro e w' ⟨rfl, rfl⟩
  exact ⟨rfl, Below.refl _ _⟩
theorem boolInfo : (Try.prog.info? 4).map (fun i => (i.zero, i.size, i.bytes)) = some (some (.bool false), 1, 1) := by kernel_rfl
set_option maxHeartbeats 2000000 in
set_option maxRecDepth 100000 in
theorem once_walk (A : Option Addr) (n c : Nat) (l : List Nat) (w : World) (hx : Sl w F A n l) (hs : ∀ x ∈ l, x < 18446744073709551616) :
    Calls Try.prog 10 #[.slice A n c] w fun e w' => e = .returned (.bool true) ∧ Below w.heap.size w w' := by
  have hn := hx.1
  have hm63 := hx.2.1
  by_cases h60 : 60 < n
  · go_enter Try.func10, Try.ntmps10
    go_wp2_with fail
    refine (works6_any _).mono ?_
    rintro e w1 ⟨rfl, hb⟩
    go_wp2
    go_ret
    exact ⟨rfl, hb⟩
  have C1 := Lib.hid (rank_any A n c l w hx hs (by omega))
  have hrl := rk_len l n
  have hrt := rk_lt l n
  have HA := Lib.hid (rk_at l n)
  have HS := Lib.hid (List.pairwise_iff_getElem.1 (rk_sorted l n))
  have HN := Lib.hid (fun i j hj h => mk_no (l := l) (n := n) (i := i) (j := j) hj h)
  have HW := Lib.hid (wt_nat l)
  generalize rk l n = out at *
  go_enter Try.func10, Try.ntmps10
  go_wp2_with fail
  refine C1.out.mono ?_
  rintro e w2 ⟨v, rfl, hown, hb2⟩
  obtain ⟨A2, c2, rfl⟩ := hown.slice
  rw [hrl] at hown ⊢
  have hs2 := hown.sl.2
  have hx2 := hx.below hb2
  go_wp2_with (at_make; refine wpList_make rfl 47 _ _ rfl w2.heap.size 4 Value.bool false 1 Try.underlying47 boolInfo rfl n (by first | rfl | simp) (by first | rfl | simp) (by omega) (by omega) (Nat.le_refl _) ?_; intro w3 hseen hb3 hsz3)
  have hrest : Hid (w2.heap.size < w3.heap.size) := Lib.hid hsz3
  obtain ⟨gs, hgs⟩ : ∃ gs, w2.heap.size = gs := ⟨_, rfl⟩
  have hgs2 : w2.heap.size ≤ gs := by omega
  rw [hgs] at hseen ⊢
  clear hsz3 hgs
  have hmk0 := mk_nil n
  rw [← hmk0] at hseen
  clear hmk0
  go_loopw [5] (fun a wr => ∃ i : Nat, i ≤ n ∧ a = .int .i64 i ∧ Own wr gs 4 Value.bool (.slice (some ⟨gs, 0, none⟩) n n) (mk (out.take i) n) ∧ Below w2.heap.size w2 wr) (fun a _ => n - (intOf a).toNat)
  case atStart => exact ⟨0, by omega, rfl, hseen, hb3⟩
  case round =>
    obtain ⟨i, hi, rfl, hsr, hbw⟩ := hrel
    by_cases hlt : i < n
    · obtain ⟨j, hj, hjd, hj1, hj2⟩ := HA.out i hlt
      obtain ⟨g2, c3, e2⟩ := hown.slice_pos (by omega)
      injection e2 with e2 e3 e4
      subst e2 e4
      clear e3
      have hownr := hown.below hbw
      have hco := hownr.cell i hj1
      have hjm : j < (mk (out.take i) n).length := by rw [mk_len]; exact hj
      have hse := hsr.cell j hjm
      have hsf := hsr.frozen j
      rw [hj2] at hco
      rw [HN.out i j ⟨hj1, hj2⟩ hjm] at hse
      have hst := hsr.stored j true
      have hmk : out.take i ++ [(j : Int)] = out.take (i + 1) := by rw [List.take_add_one, List.getElem?_eq_getElem hj1, hj2]; rfl
      rw [mk_set, hmk] at hst
      have hbq : Below w2.heap.size w2 (wr.setCell ⟨gs, j, none⟩ (.bool true)) := hbw.setCell hgs2 _
      have HST := Lib.hid hst
      have HBQ := Lib.hid hbq
      clear hst hbq hmk hsr hownr hjd hjm
      have hrl' := Lib.hid hrl
      clear hrl hrt
      go_wp2_with fail
      have hbq := HBQ.out
      have hst := HST.out
      clear HBQ HST hco hse hsf hbw
      generalize wr.setCell ⟨gs, j, none⟩ (.bool true) = wq at *
      have hoq := hown.below hbq
      have hxq := (hx2.below hbq).drew
      have hbz := hbq.size
      by_cases h0 : i = 0
      · subst h0
        clear hoq hxq hj1 hj2
        refine wp_region_held_drew (S := Go.RowKit.Below ((wq.drew).heap.size) (wq.drew)) (by kernel_rfl) ?hb6 (fun hHeld => ?rest6)
        case hb6 =>
          exact Go.RowKit.Below.refl _ _
        case' rest6 => skip
        refine wpAnyH_take (i := 0) (v := ?v7) rfl (by kernel_rfl) (by kernel_rfl) (by kernel_rfl) (fun _ _ _ h => h) (Or.inl ⟨by rfl, ?y7⟩) (by assumption) ?rest7
        case y7 => (intro w hSw; clear hSw; go_simp; try with_reducible rfl)
        case' rest7 => skip
        try simp only [List.getElem_toArray, List.getElem_cons_succ, List.getElem_cons_zero, Act.put, List.setIfInBounds_toArray, List.set_cons_zero, List.set_cons_succ]
        refine wpAnyH_take (i := 1) (v := ?v8) rfl (by kernel_rfl) (by kernel_rfl) (by kernel_rfl) (fun _ _ _ h => h) (Or.inl ⟨by rfl, ?y8⟩) (by assumption) ?rest8
        case y8 => (intro w hSw; clear hSw; go_simp; try with_reducible rfl)
        case' rest8 => skip
        try simp only [List.getElem_toArray, List.getElem_cons_succ, List.getElem_cons_zero, Act.put, List.setIfInBounds_toArray, List.set_cons_zero, List.set_cons_succ]
        refine wpAnyH_take (i := 2) (v := ?v9) rfl (by kernel_rfl) (by kernel_rfl) (by kernel_rfl) (fun _ _ _ h => h) (Or.inl ⟨by rfl, ?y9⟩) (by assumption) ?rest9
        case y9 => (intro w hSw; clear hSw; go_simp; try with_reducible rfl)
        case' rest9 => skip
        try simp only [List.getElem_toArray, List.getElem_cons_succ, List.getElem_cons_zero, Act.put, List.setIfInBounds_toArray, List.set_cons_zero, List.set_cons_succ]
        first
          | refine wpAnyH_take (i := 3) (v := undef) rfl (by kernel_rfl) (by kernel_rfl) (by kernel_rfl) (fun _ _ _ h => h) (Or.inr ⟨by rfl, rfl⟩) (by assumption) ?rest10
          | (refine wpAnyH_take (i := 3) (v := ?v10) rfl (by kernel_rfl) (by kernel_rfl) (by kernel_rfl) (fun _ _ _ h => h) (Or.inl ⟨by rfl, ?y10⟩) (by assumption) ?rest10; case y10 => (intro w hSw; clear hSw; go_simp; try with_reducible rfl))
        case' rest10 => skip
        try simp only [List.getElem_toArray, List.getElem_cons_succ, List.getElem_cons_zero, Act.put, List.setIfInBounds_toArray, List.set_cons_zero, List.set_cons_succ]
        first
          | refine wpAnyH_take (i := 4) (v := undef) rfl (by kernel_rfl) (by kernel_rfl) (by kernel_rfl) (fun _ _ _ h => h) (Or.inr ⟨by rfl, rfl⟩) (by assumption) ?rest11
          | (refine wpAnyH_take (i := 4) (v := ?v11) rfl (by kernel_rfl) (by kernel_rfl) (by kernel_rfl) (fun _ _ _ h => h) (Or.inl ⟨by rfl, ?y11⟩) (by assumption) ?rest11; case y11 => (intro w hSw; clear hSw; go_simp; try with_reducible rfl))
        case' rest11 => skip
        try simp only [List.getElem_toArray, List.getElem_cons_succ, List.getElem_cons_zero, Act.put, List.setIfInBounds_toArray, List.set_cons_zero, List.set_cons_succ]
        first
          | refine wpAnyH_take (i := 5) (v := undef) rfl (by kernel_rfl) (by kernel_rfl) (by kernel_rfl) (fun _ _ _ h => h) (Or.inr ⟨by rfl, rfl⟩) (by assumption) ?rest12
          | (refine wpAnyH_take (i := 5) (v := ?v12) rfl (by kernel_rfl) (by kernel_rfl) (by kernel_rfl) (fun _ _ _ h => h) (Or.inl ⟨by rfl, ?y12⟩) (by assumption) ?rest12; case y12 => (intro w hSw; clear hSw; go_simp; try with_reducible rfl))
        case' rest12 => skip
        try simp only [List.getElem_toArray, List.getElem_cons_succ, List.getElem_cons_zero, Act.put, List.setIfInBounds_toArray, List.set_cons_zero, List.set_cons_succ]
        first
          | refine wpAnyH_take (i := 6) (v := undef) rfl (by kernel_rfl) (by kernel_rfl) (by kernel_rfl) (fun _ _ _ h => h) (Or.inr ⟨by rfl, rfl⟩) (by assumption) ?rest13
          | (refine wpAnyH_take (i := 6) (v := ?v13) rfl (by kernel_rfl) (by kernel_rfl) (by kernel_rfl) (fun _ _ _ h => h) (Or.inl ⟨by rfl, ?y13⟩) (by assumption) ?rest13; case y13 => (intro w hSw; clear hSw; go_simp; try with_reducible rfl))
        case' rest13 => skip
        try simp only [List.getElem_toArray, List.getElem_cons_succ, List.getElem_cons_zero, Act.put, List.setIfInBounds_toArray, List.set_cons_zero, List.set_cons_succ]
        first
          | refine wpAnyH_take (i := 7) (v := undef) rfl (by kernel_rfl) (by kernel_rfl) (by kernel_rfl) (fun _ _ _ h => h) (Or.inr ⟨by rfl, rfl⟩) (by assumption) ?rest14
          | (refine wpAnyH_take (i := 7) (v := ?v14) rfl (by kernel_rfl) (by kernel_rfl) (by kernel_rfl) (fun _ _ _ h => h) (Or.inl ⟨by rfl, ?y14⟩) (by assumption) ?rest14; case y14 => (intro w hSw; clear hSw; go_simp; try with_reducible rfl))
        case' rest14 => skip
        try simp only [List.getElem_toArray, List.getElem_cons_succ, List.getElem_cons_zero, Act.put, List.setIfInBounds_toArray, List.set_cons_zero, List.set_cons_succ]
        first
          | refine wpAnyH_take (i := 8) (v := undef) rfl (by kernel_rfl) (by kernel_rfl) (by kernel_rfl) (fun _ _ _ h => h) (Or.inr ⟨by rfl, rfl⟩) (by assumption) ?rest15
          | (refine wpAnyH_take (i := 8) (v := ?v15) rfl (by kernel_rfl) (by kernel_rfl) (by kernel_rfl) (fun _ _ _ h => h) (Or.inl ⟨by rfl, ?y15⟩) (by assumption) ?rest15; case y15 => (intro w hSw; clear hSw; go_simp; try with_reducible rfl))
        case' rest15 => skip
        try simp only [List.getElem_toArray, List.getElem_cons_succ, List.getElem_cons_zero, Act.put, List.setIfInBounds_toArray, List.set_cons_zero, List.set_cons_succ]
        first
          | refine wpAnyH_take (i := 9) (v := undef) rfl (by kernel_rfl) (by kernel_rfl) (by kernel_rfl) (fun _ _ _ h => h) (Or.inr ⟨by rfl, rfl⟩) (by assumption) ?rest16
          | (refine wpAnyH_take (i := 9) (v := ?v16) rfl (by kernel_rfl) (by kernel_rfl) (by kernel_rfl) (fun _ _ _ h => h) (Or.inl ⟨by rfl, ?y16⟩) (by assumption) ?rest16; case y16 => (intro w hSw; clear hSw; go_simp; try with_reducible rfl))
        case' rest16 => skip
        try simp only [List.getElem_toArray, List.getElem_cons_succ, List.getElem_cons_zero, Act.put, List.setIfInBounds_toArray, List.set_cons_zero, List.set_cons_succ]
        first
          | refine wpAnyH_take (i := 10) (v := undef) rfl (by kernel_rfl) (by kernel_rfl) (by kernel_rfl) (fun _ _ _ h => h) (Or.inr ⟨by rfl, rfl⟩) (by assumption) ?rest17
          | (refine wpAnyH_take (i := 10) (v := ?v17) rfl (by kernel_rfl) (by kernel_rfl) (by kernel_rfl) (fun _ _ _ h => h) (Or.inl ⟨by rfl, ?y17⟩) (by assumption) ?rest17; case y17 => (intro w hSw; clear hSw; go_simp; try with_reducible rfl))
        case' rest17 => skip
        try simp only [List.getElem_toArray, List.getElem_cons_succ, List.getElem_cons_zero, Act.put, List.setIfInBounds_toArray, List.set_cons_zero, List.set_cons_succ]
        first
          | refine wpAnyH_take (i := 11) (v := undef) rfl (by kernel_rfl) (by kernel_rfl) (by kernel_rfl) (fun _ _ _ h => h) (Or.inr ⟨by rfl, rfl⟩) (by assumption) ?rest18
          | (refine wpAnyH_take (i := 11) (v := ?v18) rfl (by kernel_rfl) (by kernel_rfl) (by kernel_rfl) (fun _ _ _ h => h) (Or.inl ⟨by rfl, ?y18⟩) (by assumption) ?rest18; case y18 => (intro w hSw; clear hSw; go_simp; try with_reducible rfl))
        case' rest18 => skip
        try simp only [List.getElem_toArray, List.getElem_cons_succ, List.getElem_cons_zero, Act.put, List.setIfInBounds_toArray, List.set_cons_zero, List.set_cons_succ]
        first
          | refine wpAnyH_take (i := 12) (v := undef) rfl (by kernel_rfl) (by kernel_rfl) (by kernel_rfl) (fun _ _ _ h => h) (Or.inr ⟨by rfl, rfl⟩) (by assumption) ?rest19
          | (refine wpAnyH_take (i := 12) (v := ?v19) rfl (by kernel_rfl) (by kernel_rfl) (by kernel_rfl) (fun _ _ _ h => h) (Or.inl ⟨by rfl, ?y19⟩) (by assumption) ?rest19; case y19 => (intro w hSw; clear hSw; go_simp; try with_reducible rfl))
        case' rest19 => skip
        try simp only [List.getElem_toArray, List.getElem_cons_succ, List.getElem_cons_zero, Act.put, List.setIfInBounds_toArray, List.set_cons_zero, List.set_cons_succ]
        first
          | refine wpAnyH_take (i := 13) (v := undef) rfl (by kernel_rfl) (by kernel_rfl) (by kernel_rfl) (fun _ _ _ h => h) (Or.inr ⟨by rfl, rfl⟩) (by assumption) ?rest20
          | (refine wpAnyH_take (i := 13) (v := ?v20) rfl (by kernel_rfl) (by kernel_rfl) (by kernel_rfl) (fun _ _ _ h => h) (Or.inl ⟨by rfl, ?y20⟩) (by assumption) ?rest20; case y20 => (intro w hSw; clear hSw; go_simp; try with_reducible rfl))
        case' rest20 => skip
        try simp only [List.getElem_toArray, List.getElem_cons_succ, List.getElem_cons_zero, Act.put, List.setIfInBounds_toArray, List.set_cons_zero, List.set_cons_succ]
        first
          | refine wpAnyH_take (i := 14) (v := undef) rfl (by kernel_rfl) (by kernel_rfl) (by kernel_rfl) (fun _ _ _ h => h) (Or.inr ⟨by rfl, rfl⟩) (by assumption) ?rest21
          | (refine wpAnyH_take (i := 14) (v := ?v21) rfl (by kernel_rfl) (by kernel_rfl) (by kernel_rfl) (fun _ _ _ h => h) (Or.inl ⟨by rfl, ?y21⟩) (by assumption) ?rest21; case y21 => (intro w hSw; clear hSw; go_simp; try with_reducible rfl))
        case' rest21 => skip
        try simp only [List.getElem_toArray, List.getElem_cons_succ, List.getElem_cons_zero, Act.put, List.setIfInBounds_toArray, List.set_cons_zero, List.set_cons_succ]
        first
          | refine wpAnyH_take (i := 15) (v := undef) rfl (by kernel_rfl) (by kernel_rfl) (by kernel_rfl) (fun _ _ _ h => h) (Or.inr ⟨by rfl, rfl⟩) (by assumption) ?rest22
          | (refine wpAnyH_take (i := 15) (v := ?v22) rfl (by kernel_rfl) (by kernel_rfl) (by kernel_rfl) (fun _ _ _ h => h) (Or.inl ⟨by rfl, ?y22⟩) (by assumption) ?rest22; case y22 => (intro w hSw; clear hSw; go_simp; try with_reducible rfl))
        case' rest22 => skip
        try simp only [List.getElem_toArray, List.getElem_cons_succ, List.getElem_cons_zero, Act.put, List.setIfInBounds_toArray, List.set_cons_zero, List.set_cons_succ]
        first
          | refine wpAnyH_take (i := 16) (v := undef) rfl (by kernel_rfl) (by kernel_rfl) (by kernel_rfl) (fun _ _ _ h => h) (Or.inr ⟨by rfl, rfl⟩) (by assumption) ?rest23
          | (refine wpAnyH_take (i := 16) (v := ?v23) rfl (by kernel_rfl) (by kernel_rfl) (by kernel_rfl) (fun _ _ _ h => h) (Or.inl ⟨by rfl, ?y23⟩) (by assumption) ?rest23; case y23 => (intro w hSw; clear hSw; go_simp; try with_reducible rfl))
        case' rest23 => skip
        try simp only [List.getElem_toArray, List.getElem_cons_succ, List.getElem_cons_zero, Act.put, List.setIfInBounds_toArray, List.set_cons_zero, List.set_cons_succ]
        first
          | refine wpAnyH_take (i := 17) (v := undef) rfl (by kernel_rfl) (by kernel_rfl) (by kernel_rfl) (fun _ _ _ h => h) (Or.inr ⟨by rfl, rfl⟩) (by assumption) ?rest24
          | (refine wpAnyH_take (i := 17) (v := ?v24) rfl (by kernel_rfl) (by kernel_rfl) (by kernel_rfl) (fun _ _ _ h => h) (Or.inl ⟨by rfl, ?y24⟩) (by assumption) ?rest24; case y24 => (intro w hSw; clear hSw; go_simp; try with_reducible rfl))
        case' rest24 => skip
        try simp only [List.getElem_toArray, List.getElem_cons_succ, List.getElem_cons_zero, Act.put, List.setIfInBounds_toArray, List.set_cons_zero, List.set_cons_succ]
        first
          | refine wpAnyH_take (i := 18) (v := undef) rfl (by kernel_rfl) (by kernel_rfl) (by kernel_rfl) (fun _ _ _ h => h) (Or.inr ⟨by rfl, rfl⟩) (by assumption) ?rest25
          | (refine wpAnyH_take (i := 18) (v := ?v25) rfl (by kernel_rfl) (by kernel_rfl) (by kernel_rfl) (fun _ _ _ h => h) (Or.inl ⟨by rfl, ?y25⟩) (by assumption) ?rest25; case y25 => (intro w hSw; clear hSw; go_simp; try with_reducible rfl))
        case' rest25 => skip
        try simp only [List.getElem_toArray, List.getElem_cons_succ, List.getElem_cons_zero, Act.put, List.setIfInBounds_toArray, List.set_cons_zero, List.set_cons_succ]
        first
          | refine wpAnyH_take (i := 19) (v := undef) rfl (by kernel_rfl) (by kernel_rfl) (by kernel_rfl) (fun _ _ _ h => h) (Or.inr ⟨by rfl, rfl⟩) (by assumption) ?rest26
          | (refine wpAnyH_take (i := 19) (v := ?v26) rfl (by kernel_rfl) (by kernel_rfl) (by kernel_rfl) (fun _ _ _ h => h) (Or.inl ⟨by rfl, ?y26⟩) (by assumption) ?rest26; case y26 => (intro w hSw; clear hSw; go_simp; try with_reducible rfl))
        case' rest26 => skip
        try simp only [List.getElem_toArray, List.getElem_cons_succ, List.getElem_cons_zero, Act.put, List.setIfInBounds_toArray, List.set_cons_zero, List.set_cons_succ]
        refine wpAnyH_take (i := 20) (v := ?v27) rfl (by kernel_rfl) (by kernel_rfl) (by kernel_rfl) (fun _ _ _ h => h) (Or.inl ⟨by rfl, ?y27⟩) (by assumption) ?rest27
        case y27 => (intro w hSw; clear hSw; go_simp; try with_reducible rfl)
        case' rest27 => skip
        try simp only [List.getElem_toArray, List.getElem_cons_succ, List.getElem_cons_zero, Act.put, List.setIfInBounds_toArray, List.set_cons_zero, List.set_cons_succ]
        refine wpAnyH_done (by kernel_rfl) ?_ _
        go_wp2
        go_roundw
        case rel => exact ⟨1, by omega, by go_num, hst.below ((Below.refl _ _).drew.trans hHeld), hbq.trans (((Below.refl _ _).drew.trans hHeld).mono hbz)⟩
        case measure => simp [intOf]; omega
      · obtain ⟨q, rfl⟩ : ∃ q, i = q + 1 := ⟨i - 1, by omega⟩
        obtain ⟨j0, hj0, _, hq1, hq2⟩ := HA.out q (by omega)
        have hge := (HS.out q (q + 1) hq1 hj1 (by omega)).ge
        rw [hq2, hj2, HW.out j0 (by omega), HW.out j (by omega)] at hge
        have c1 := hoq.cell q hq1
        have c2 := hoq.cell (q + 1) hj1
        rw [hq2] at c1
        rw [hj2] at c2
        have c1 : wq.drew.cell? ⟨g2, q, none⟩ = some (.int .i64 j0) := c1
        have c2 : wq.drew.cell? ⟨g2, q + 1, none⟩ = some (.int .i64 j) := c2
        obtain ⟨ad, rfl, hadb, c3⟩ := hxq.at_ (show j0 < l.length by omega)
        obtain ⟨ad', e', hadb', c4⟩ := hxq.at_ (show j < l.length by omega)
        injection e' with e'
        subst e'
        have C := Lib.hid (order_bel l[j0] l[j] (hs _ (List.getElem_mem _)) (hs _ (List.getElem_mem _)))
        generalize l[j0] = x at *
        generalize l[j] = y at *
        generalize ord x y = o at *
        have hog : g2 < wq.drew.heap.size := Nat.lt_of_lt_of_le hoq.base.2 (Nat.le_refl _)
        have hwq : IntKind.i64.wrap (q : Int) = (q : Int) := by rw [IntKind.wrap_i64]; omega
        have hqn : q < n := by omega
        have hqm : (0 : Int) ≤ (q : Int) + 1 := by omega
        have hqk : (q : Int) + 1 < (n : Int) := by omega
        clear hoq hxq hq2 hj2
        refine wp_region_held_drew (S := Go.RowKit.Below ((wq.drew).heap.size) (wq.drew)) (by kernel_rfl) ?hb34 (fun hHeld => ?rest34)
        case hb34 =>
          exact Go.RowKit.Below.refl _ _
        case' rest34 => skip
        refine wpAnyH_take (i := 0) (v := ?v35) rfl (by kernel_rfl) (by kernel_rfl) (by kernel_rfl) (fun _ _ _ h => h) (Or.inl ⟨by rfl, ?y35⟩) (by assumption) ?rest35
        case y35 => (intro w hSw; have hT0 := Mem.bl_cell hSw c1 (by first | omega | exact World.block_lt_of_cell? _ _ c1 | (simp <;> omega)); have hT1 := Mem.bl_cell hSw c2 (by first | omega | exact World.block_lt_of_cell? _ _ c2 | (simp <;> omega)); have hT2 := Mem.bl_cell hSw c3 (by first | omega | exact World.block_lt_of_cell? _ _ c3 | (simp <;> omega)); have hT3 := Mem.bl_cell hSw c4 (by first | omega | exact World.block_lt_of_cell? _ _ c4 | (simp <;> omega)); clear hSw; go_simp; try with_reducible rfl)
        case' rest35 => skip
        try simp only [List.getElem_toArray, List.getElem_cons_succ, List.getElem_cons_zero, Act.put, List.setIfInBounds_toArray, List.set_cons_zero, List.set_cons_succ]
        refine wpAnyH_take (i := 1) (v := ?v36) rfl (by kernel_rfl) (by kernel_rfl) (by kernel_rfl) (fun _ _ _ h => h) (Or.inl ⟨by rfl, ?y36⟩) (by assumption) ?rest36
        case y36 => (intro w hSw; have hT0 := Mem.bl_cell hSw c1 (by first | omega | exact World.block_lt_of_cell? _ _ c1 | (simp <;> omega)); have hT1 := Mem.bl_cell hSw c2 (by first | omega | exact World.block_lt_of_cell? _ _ c2 | (simp <;> omega)); have hT2 := Mem.bl_cell hSw c3 (by first | omega | exact World.block_lt_of_cell? _ _ c3 | (simp <;> omega)); have hT3 := Mem.bl_cell hSw c4 (by first | omega | exact World.block_lt_of_cell? _ _ c4 | (simp <;> omega)); clear hSw; go_simp; try with_reducible rfl)
        case' rest36 => skip
        try simp only [List.getElem_toArray, List.getElem_cons_succ, List.getElem_cons_zero, Act.put, List.setIfInBounds_toArray, List.set_cons_zero, List.set_cons_succ]
        refine wpAnyH_take (i := 2) (v := ?v37) rfl (by kernel_rfl) (by kernel_rfl) (by kernel_rfl) (fun _ _ _ h => h) (Or.inl ⟨by rfl, ?y37⟩) (by assumption) ?rest37
        case y37 => (intro w hSw; have hT0 := Mem.bl_cell hSw c1 (by first | omega | exact World.block_lt_of_cell? _ _ c1 | (simp <;> omega)); have hT1 := Mem.bl_cell hSw c2 (by first | omega | exact World.block_lt_of_cell? _ _ c2 | (simp <;> omega)); have hT2 := Mem.bl_cell hSw c3 (by first | omega | exact World.block_lt_of_cell? _ _ c3 | (simp <;> omega)); have hT3 := Mem.bl_cell hSw c4 (by first | omega | exact World.block_lt_of_cell? _ _ c4 | (simp <;> omega)); clear hSw; go_simp; try with_reducible rfl)
        case' rest37 => skip
        try simp only [List.getElem_toArray, List.getElem_cons_succ, List.getElem_cons_zero, Act.put, List.setIfInBounds_toArray, List.set_cons_zero, List.set_cons_succ]
        first
          | refine wpAnyH_take (i := 3) (v := undef) rfl (by kernel_rfl) (by kernel_rfl) (by kernel_rfl) (fun _ _ _ h => h) (Or.inr ⟨by rfl, rfl⟩) (by assumption) ?rest38
          | (refine wpAnyH_take (i := 3) (v := ?v38) rfl (by kernel_rfl) (by kernel_rfl) (by kernel_rfl) (fun _ _ _ h => h) (Or.inl ⟨by rfl, ?y38⟩) (by assumption) ?rest38; case y38 => (intro w hSw; have hT0 := Mem.bl_cell hSw c1 (by first | omega | exact World.block_lt_of_cell? _ _ c1 | (simp <;> omega)); have hT1 := Mem.bl_cell hSw c2 (by first | omega | exact World.block_lt_of_cell? _ _ c2 | (simp <;> omega)); have hT2 := Mem.bl_cell hSw c3 (by first | omega | exact World.block_lt_of_cell? _ _ c3 | (simp <;> omega)); have hT3 := Mem.bl_cell hSw c4 (by first | omega | exact World.block_lt_of_cell? _ _ c4 | (simp <;> omega)); clear hSw; go_simp; try with_reducible rfl))
        case' rest38 => skip
        try simp only [List.getElem_toArray, List.getElem_cons_succ, List.getElem_cons_zero, Act.put, List.setIfInBounds_toArray, List.set_cons_zero, List.set_cons_succ]
        first
          | refine wpAnyH_take (i := 4) (v := undef) rfl (by kernel_rfl) (by kernel_rfl) (by kernel_rfl) (fun _ _ _ h => h) (Or.inr ⟨by rfl, rfl⟩) (by assumption) ?rest39
          | (refine wpAnyH_take (i := 4) (v := ?v39) rfl (by kernel_rfl) (by kernel_rfl) (by kernel_rfl) (fun _ _ _ h => h) (Or.inl ⟨by rfl, ?y39⟩) (by assumption) ?rest39; case y39 => (intro w hSw; have hT0 := Mem.bl_cell hSw c1 (by first | omega | exact World.block_lt_of_cell? _ _ c1 | (simp <;> omega)); have hT1 := Mem.bl_cell hSw c2 (by first | omega | exact World.block_lt_of_cell? _ _ c2 | (simp <;> omega)); have hT2 := Mem.bl_cell hSw c3 (by first | omega | exact World.block_lt_of_cell? _ _ c3 | (simp <;> omega)); have hT3 := Mem.bl_cell hSw c4 (by first | omega | exact World.block_lt_of_cell? _ _ c4 | (simp <;> omega)); clear hSw; go_simp; try with_reducible rfl))
        case' rest39 => skip
        try simp only [List.getElem_toArray, List.getElem_cons_succ, List.getElem_cons_zero, Act.put, List.setIfInBounds_toArray, List.set_cons_zero, List.set_cons_succ]
        first
          | refine wpAnyH_take (i := 5) (v := undef) rfl (by kernel_rfl) (by kernel_rfl) (by kernel_rfl) (fun _ _ _ h => h) (Or.inr ⟨by rfl, rfl⟩) (by assumption) ?rest40
          | (refine wpAnyH_take (i := 5) (v := ?v40) rfl (by kernel_rfl) (by kernel_rfl) (by kernel_rfl) (fun _ _ _ h => h) (Or.inl ⟨by rfl, ?y40⟩) (by assumption) ?rest40; case y40 => (intro w hSw; have hT0 := Mem.bl_cell hSw c1 (by first | omega | exact World.block_lt_of_cell? _ _ c1 | (simp <;> omega)); have hT1 := Mem.bl_cell hSw c2 (by first | omega | exact World.block_lt_of_cell? _ _ c2 | (simp <;> omega)); have hT2 := Mem.bl_cell hSw c3 (by first | omega | exact World.block_lt_of_cell? _ _ c3 | (simp <;> omega)); have hT3 := Mem.bl_cell hSw c4 (by first | omega | exact World.block_lt_of_cell? _ _ c4 | (simp <;> omega)); clear hSw; go_simp; try with_reducible rfl))
        case' rest40 => skip
        try simp only [List.getElem_toArray, List.getElem_cons_succ, List.getElem_cons_zero, Act.put, List.setIfInBounds_toArray, List.set_cons_zero, List.set_cons_succ]
        first
          | refine wpAnyH_take (i := 6) (v := undef) rfl (by kernel_rfl) (by kernel_rfl) (by kernel_rfl) (fun _ _ _ h => h) (Or.inr ⟨by rfl, rfl⟩) (by assumption) ?rest41
          | (refine wpAnyH_take (i := 6) (v := ?v41) rfl (by kernel_rfl) (by kernel_rfl) (by kernel_rfl) (fun _ _ _ h => h) (Or.inl ⟨by rfl, ?y41⟩) (by assumption) ?rest41; case y41 => (intro w hSw; have hT0 := Mem.bl_cell hSw c1 (by first | omega | exact World.block_lt_of_cell? _ _ c1 | (simp <;> omega)); have hT1 := Mem.bl_cell hSw c2 (by first | omega | exact World.block_lt_of_cell? _ _ c2 | (simp <;> omega)); have hT2 := Mem.bl_cell hSw c3 (by first | omega | exact World.block_lt_of_cell? _ _ c3 | (simp <;> omega)); have hT3 := Mem.bl_cell hSw c4 (by first | omega | exact World.block_lt_of_cell? _ _ c4 | (simp <;> omega)); clear hSw; go_simp; try with_reducible rfl))
        case' rest41 => skip
        try simp only [List.getElem_toArray, List.getElem_cons_succ, List.getElem_cons_zero, Act.put, List.setIfInBounds_toArray, List.set_cons_zero, List.set_cons_succ]
        first
          | refine wpAnyH_take (i := 7) (v := undef) rfl (by kernel_rfl) (by kernel_rfl) (by kernel_rfl) (fun _ _ _ h => h) (Or.inr ⟨by rfl, rfl⟩) (by assumption) ?rest42
          | (refine wpAnyH_take (i := 7) (v := ?v42) rfl (by kernel_rfl) (by kernel_rfl) (by kernel_rfl) (fun _ _ _ h => h) (Or.inl ⟨by rfl, ?y42⟩) (by assumption) ?rest42; case y42 => (intro w hSw; have hT0 := Mem.bl_cell hSw c1 (by first | omega | exact World.block_lt_of_cell? _ _ c1 | (simp <;> omega)); have hT1 := Mem.bl_cell hSw c2 (by first | omega | exact World.block_lt_of_cell? _ _ c2 | (simp <;> omega)); have hT2 := Mem.bl_cell hSw c3 (by first | omega | exact World.block_lt_of_cell? _ _ c3 | (simp <;> omega)); have hT3 := Mem.bl_cell hSw c4 (by first | omega | exact World.block_lt_of_cell? _ _ c4 | (simp <;> omega)); clear hSw; go_simp; try with_reducible rfl))
        case' rest42 => skip
        try simp only [List.getElem_toArray, List.getElem_cons_succ, List.getElem_cons_zero, Act.put, List.setIfInBounds_toArray, List.set_cons_zero, List.set_cons_succ]
        first
          | refine wpAnyH_take (i := 8) (v := undef) rfl (by kernel_rfl) (by kernel_rfl) (by kernel_rfl) (fun _ _ _ h => h) (Or.inr ⟨by rfl, rfl⟩) (by assumption) ?rest43
          | (refine wpAnyH_take (i := 8) (v := ?v43) rfl (by kernel_rfl) (by kernel_rfl) (by kernel_rfl) (fun _ _ _ h => h) (Or.inl ⟨by rfl, ?y43⟩) (by assumption) ?rest43; case y43 => (intro w hSw; have hT0 := Mem.bl_cell hSw c1 (by first | omega | exact World.block_lt_of_cell? _ _ c1 | (simp <;> omega)); have hT1 := Mem.bl_cell hSw c2 (by first | omega | exact World.block_lt_of_cell? _ _ c2 | (simp <;> omega)); have hT2 := Mem.bl_cell hSw c3 (by first | omega | exact World.block_lt_of_cell? _ _ c3 | (simp <;> omega)); have hT3 := Mem.bl_cell hSw c4 (by first | omega | exact World.block_lt_of_cell? _ _ c4 | (simp <;> omega)); clear hSw; go_simp; try with_reducible rfl))
        case' rest43 => skip
        try simp only [List.getElem_toArray, List.getElem_cons_succ, List.getElem_cons_zero, Act.put, List.setIfInBounds_toArray, List.set_cons_zero, List.set_cons_succ]
        first
          | refine wpAnyH_take (i := 9) (v := undef) rfl (by kernel_rfl) (by kernel_rfl) (by kernel_rfl) (fun _ _ _ h => h) (Or.inr ⟨by rfl, rfl⟩) (by assumption) ?rest44
          | (refine wpAnyH_take (i := 9) (v := ?v44) rfl (by kernel_rfl) (by kernel_rfl) (by kernel_rfl) (fun _ _ _ h => h) (Or.inl ⟨by rfl, ?y44⟩) (by assumption) ?rest44; case y44 => (intro w hSw; have hT0 := Mem.bl_cell hSw c1 (by first | omega | exact World.block_lt_of_cell? _ _ c1 | (simp <;> omega)); have hT1 := Mem.bl_cell hSw c2 (by first | omega | exact World.block_lt_of_cell? _ _ c2 | (simp <;> omega)); have hT2 := Mem.bl_cell hSw c3 (by first | omega | exact World.block_lt_of_cell? _ _ c3 | (simp <;> omega)); have hT3 := Mem.bl_cell hSw c4 (by first | omega | exact World.block_lt_of_cell? _ _ c4 | (simp <;> omega)); clear hSw; go_simp; try with_reducible rfl))
        case' rest44 => skip
        try simp only [List.getElem_toArray, List.getElem_cons_succ, List.getElem_cons_zero, Act.put, List.setIfInBounds_toArray, List.set_cons_zero, List.set_cons_succ]
        first
          | refine wpAnyH_take (i := 10) (v := undef) rfl (by kernel_rfl) (by kernel_rfl) (by kernel_rfl) (fun _ _ _ h => h) (Or.inr ⟨by rfl, rfl⟩) (by assumption) ?rest45
          | (refine wpAnyH_take (i := 10) (v := ?v45) rfl (by kernel_rfl) (by kernel_rfl) (by kernel_rfl) (fun _ _ _ h => h) (Or.inl ⟨by rfl, ?y45⟩) (by assumption) ?rest45; case y45 => (intro w hSw; have hT0 := Mem.bl_cell hSw c1 (by first | omega | exact World.block_lt_of_cell? _ _ c1 | (simp <;> omega)); have hT1 := Mem.bl_cell hSw c2 (by first | omega | exact World.block_lt_of_cell? _ _ c2 | (simp <;> omega)); have hT2 := Mem.bl_cell hSw c3 (by first | omega | exact World.block_lt_of_cell? _ _ c3 | (simp <;> omega)); have hT3 := Mem.bl_cell hSw c4 (by first | omega | exact World.block_lt_of_cell? _ _ c4 | (simp <;> omega)); clear hSw; go_simp; try with_reducible rfl))
        case' rest45 => skip
        try simp only [List.getElem_toArray, List.getElem_cons_succ, List.getElem_cons_zero, Act.put, List.setIfInBounds_toArray, List.set_cons_zero, List.set_cons_succ]
        first
          | refine wpAnyH_take (i := 11) (v := undef) rfl (by kernel_rfl) (by kernel_rfl) (by kernel_rfl) (fun _ _ _ h => h) (Or.inr ⟨by rfl, rfl⟩) (by assumption) ?rest46
          | (refine wpAnyH_take (i := 11) (v := ?v46) rfl (by kernel_rfl) (by kernel_rfl) (by kernel_rfl) (fun _ _ _ h => h) (Or.inl ⟨by rfl, ?y46⟩) (by assumption) ?rest46; case y46 => (intro w hSw; have hT0 := Mem.bl_cell hSw c1 (by first | omega | exact World.block_lt_of_cell? _ _ c1 | (simp <;> omega)); have hT1 := Mem.bl_cell hSw c2 (by first | omega | exact World.block_lt_of_cell? _ _ c2 | (simp <;> omega)); have hT2 := Mem.bl_cell hSw c3 (by first | omega | exact World.block_lt_of_cell? _ _ c3 | (simp <;> omega)); have hT3 := Mem.bl_cell hSw c4 (by first | omega | exact World.block_lt_of_cell? _ _ c4 | (simp <;> omega)); clear hSw; go_simp; try with_reducible rfl))
        case' rest46 => skip
        try simp only [List.getElem_toArray, List.getElem_cons_succ, List.getElem_cons_zero, Act.put, List.setIfInBounds_toArray, List.set_cons_zero, List.set_cons_succ]
        first
          | refine wpAnyH_take (i := 12) (v := undef) rfl (by kernel_rfl) (by kernel_rfl) (by kernel_rfl) (fun _ _ _ h => h) (Or.inr ⟨by rfl, rfl⟩) (by assumption) ?rest47
          | (refine wpAnyH_take (i := 12) (v := ?v47) rfl (by kernel_rfl) (by kernel_rfl) (by kernel_rfl) (fun _ _ _ h => h) (Or.inl ⟨by rfl, ?y47⟩) (by assumption) ?rest47; case y47 => (intro w hSw; have hT0 := Mem.bl_cell hSw c1 (by first | omega | exact World.block_lt_of_cell? _ _ c1 | (simp <;> omega)); have hT1 := Mem.bl_cell hSw c2 (by first | omega | exact World.block_lt_of_cell? _ _ c2 | (simp <;> omega)); have hT2 := Mem.bl_cell hSw c3 (by first | omega | exact World.block_lt_of_cell? _ _ c3 | (simp <;> omega)); have hT3 := Mem.bl_cell hSw c4 (by first | omega | exact World.block_lt_of_cell? _ _ c4 | (simp <;> omega)); clear hSw; go_simp; try with_reducible rfl))
        case' rest47 => skip
        try simp only [List.getElem_toArray, List.getElem_cons_succ, List.getElem_cons_zero, Act.put, List.setIfInBounds_toArray, List.set_cons_zero, List.set_cons_succ]
        first
          | refine wpAnyH_take (i := 13) (v := undef) rfl (by kernel_rfl) (by kernel_rfl) (by kernel_rfl) (fun _ _ _ h => h) (Or.inr ⟨by rfl, rfl⟩) (by assumption) ?rest48
          | (refine wpAnyH_take (i := 13) (v := ?v48) rfl (by kernel_rfl) (by kernel_rfl) (by kernel_rfl) (fun _ _ _ h => h) (Or.inl ⟨by rfl, ?y48⟩) (by assumption) ?rest48; case y48 => (intro w hSw; have hT0 := Mem.bl_cell hSw c1 (by first | omega | exact World.block_lt_of_cell? _ _ c1 | (simp <;> omega)); have hT1 := Mem.bl_cell hSw c2 (by first | omega | exact World.block_lt_of_cell? _ _ c2 | (simp <;> omega)); have hT2 := Mem.bl_cell hSw c3 (by first | omega | exact World.block_lt_of_cell? _ _ c3 | (simp <;> omega)); have hT3 := Mem.bl_cell hSw c4 (by first | omega | exact World.block_lt_of_cell? _ _ c4 | (simp <;> omega)); clear hSw; go_simp; try with_reducible rfl))
        case' rest48 => skip
        try simp only [List.getElem_toArray, List.getElem_cons_succ, List.getElem_cons_zero, Act.put, List.setIfInBounds_toArray, List.set_cons_zero, List.set_cons_succ]
        first
          | refine wpAnyH_take (i := 14) (v := undef) rfl (by kernel_rfl) (by kernel_rfl) (by kernel_rfl) (fun _ _ _ h => h) (Or.inr ⟨by rfl, rfl⟩) (by assumption) ?rest49
          | (refine wpAnyH_take (i := 14) (v := ?v49) rfl (by kernel_rfl) (by kernel_rfl) (by kernel_rfl) (fun _ _ _ h => h) (Or.inl ⟨by rfl, ?y49⟩) (by assumption) ?rest49; case y49 => (intro w hSw; have hT0 := Mem.bl_cell hSw c1 (by first | omega | exact World.block_lt_of_cell? _ _ c1 | (simp <;> omega)); have hT1 := Mem.bl_cell hSw c2 (by first | omega | exact World.block_lt_of_cell? _ _ c2 | (simp <;> omega)); have hT2 := Mem.bl_cell hSw c3 (by first | omega | exact World.block_lt_of_cell? _ _ c3 | (simp <;> omega)); have hT3 := Mem.bl_cell hSw c4 (by first | omega | exact World.block_lt_of_cell? _ _ c4 | (simp <;> omega)); clear hSw; go_simp; try with_reducible rfl))
        case' rest49 => skip
        try simp only [List.getElem_toArray, List.getElem_cons_succ, List.getElem_cons_zero, Act.put, List.setIfInBounds_toArray, List.set_cons_zero, List.set_cons_succ]
        first
          | refine wpAnyH_take (i := 15) (v := undef) rfl (by kernel_rfl) (by kernel_rfl) (by kernel_rfl) (fun _ _ _ h => h) (Or.inr ⟨by rfl, rfl⟩) (by assumption) ?rest50
          | (refine wpAnyH_take (i := 15) (v := ?v50) rfl (by kernel_rfl) (by kernel_rfl) (by kernel_rfl) (fun _ _ _ h => h) (Or.inl ⟨by rfl, ?y50⟩) (by assumption) ?rest50; case y50 => (intro w hSw; have hT0 := Mem.bl_cell hSw c1 (by first | omega | exact World.block_lt_of_cell? _ _ c1 | (simp <;> omega)); have hT1 := Mem.bl_cell hSw c2 (by first | omega | exact World.block_lt_of_cell? _ _ c2 | (simp <;> omega)); have hT2 := Mem.bl_cell hSw c3 (by first | omega | exact World.block_lt_of_cell? _ _ c3 | (simp <;> omega)); have hT3 := Mem.bl_cell hSw c4 (by first | omega | exact World.block_lt_of_cell? _ _ c4 | (simp <;> omega)); clear hSw; go_simp; try with_reducible rfl))
        case' rest50 => skip
        try simp only [List.getElem_toArray, List.getElem_cons_succ, List.getElem_cons_zero, Act.put, List.setIfInBounds_toArray, List.set_cons_zero, List.set_cons_succ]
        first
          | refine wpAnyH_take (i := 16) (v := undef) rfl (by kernel_rfl) (by kernel_rfl) (by kernel_rfl) (fun _ _ _ h => h) (Or.inr ⟨by rfl, rfl⟩) (by assumption) ?rest51
          | (refine wpAnyH_take (i := 16) (v := ?v51) rfl (by kernel_rfl) (by kernel_rfl) (by kernel_rfl) (fun _ _ _ h => h) (Or.inl ⟨by rfl, ?y51⟩) (by assumption) ?rest51; case y51 => (intro w hSw; have hT0 := Mem.bl_cell hSw c1 (by first | omega | exact World.block_lt_of_cell? _ _ c1 | (simp <;> omega)); have hT1 := Mem.bl_cell hSw c2 (by first | omega | exact World.block_lt_of_cell? _ _ c2 | (simp <;> omega)); have hT2 := Mem.bl_cell hSw c3 (by first | omega | exact World.block_lt_of_cell? _ _ c3 | (simp <;> omega)); have hT3 := Mem.bl_cell hSw c4 (by first | omega | exact World.block_lt_of_cell? _ _ c4 | (simp <;> omega)); clear hSw; go_simp; try with_reducible rfl))
        case' rest51 => skip
        try simp only [List.getElem_toArray, List.getElem_cons_succ, List.getElem_cons_zero, Act.put, List.setIfInBounds_toArray, List.set_cons_zero, List.set_cons_succ]
        first
          | refine wpAnyH_take (i := 17) (v := undef) rfl (by kernel_rfl) (by kernel_rfl) (by kernel_rfl) (fun _ _ _ h => h) (Or.inr ⟨by rfl, rfl⟩) (by assumption) ?rest52
          | (refine wpAnyH_take (i := 17) (v := ?v52) rfl (by kernel_rfl) (by kernel_rfl) (by kernel_rfl) (fun _ _ _ h => h) (Or.inl ⟨by rfl, ?y52⟩) (by assumption) ?rest52; case y52 => (intro w hSw; have hT0 := Mem.bl_cell hSw c1 (by first | omega | exact World.block_lt_of_cell? _ _ c1 | (simp <;> omega)); have hT1 := Mem.bl_cell hSw c2 (by first | omega | exact World.block_lt_of_cell? _ _ c2 | (simp <;> omega)); have hT2 := Mem.bl_cell hSw c3 (by first | omega | exact World.block_lt_of_cell? _ _ c3 | (simp <;> omega)); have hT3 := Mem.bl_cell hSw c4 (by first | omega | exact World.block_lt_of_cell? _ _ c4 | (simp <;> omega)); clear hSw; go_simp; try with_reducible rfl))
        case' rest52 => skip
        try simp only [List.getElem_toArray, List.getElem_cons_succ, List.getElem_cons_zero, Act.put, List.setIfInBounds_toArray, List.set_cons_zero, List.set_cons_succ]
        refine wpAnyH_ready (rs := [18]) (by kernel_rfl) (by simp) ?_
        refine AllReadyH.cons rfl (fun K hK => ?_) AllReadyH.nil
        go_simp
        (refine (C.out _).mono ?_; rintro e w4 ⟨rfl, hbl⟩)
        try go_wp2_with fail
        have hSnew := Mem.bl_step hHeld hbl (by first | exact Nat.le_refl _ | omega | (simp <;> omega))
        refine hK.out _ _ ?_ (fun hHeld2 => ?_)
        · exact hSnew
        clear hbl
        clear hK K hHeld hSnew
        have hHeld := hHeld2
        clear hHeld2
        try simp only [List.getElem_toArray, List.getElem_cons_succ, List.getElem_cons_zero, Act.put, List.setIfInBounds_toArray, List.set_cons_zero, List.set_cons_succ]
        first
          | refine wpAnyH_take (i := 19) (v := undef) rfl (by kernel_rfl) (by kernel_rfl) (by kernel_rfl) (fun _ _ _ h => h) (Or.inr ⟨by rfl, rfl⟩) (by assumption) ?rest53
          | (refine wpAnyH_take (i := 19) (v := ?v53) rfl (by kernel_rfl) (by kernel_rfl) (by kernel_rfl) (fun _ _ _ h => h) (Or.inl ⟨by rfl, ?y53⟩) (by assumption) ?rest53; case y53 => (intro w hSw; have hT0 := Mem.bl_cell hSw c1 (by first | omega | exact World.block_lt_of_cell? _ _ c1 | (simp <;> omega)); have hT1 := Mem.bl_cell hSw c2 (by first | omega | exact World.block_lt_of_cell? _ _ c2 | (simp <;> omega)); have hT2 := Mem.bl_cell hSw c3 (by first | omega | exact World.block_lt_of_cell? _ _ c3 | (simp <;> omega)); have hT3 := Mem.bl_cell hSw c4 (by first | omega | exact World.block_lt_of_cell? _ _ c4 | (simp <;> omega)); clear hSw; go_simp; try with_reducible rfl))
        case' rest53 => skip
        try simp only [List.getElem_toArray, List.getElem_cons_succ, List.getElem_cons_zero, Act.put, List.setIfInBounds_toArray, List.set_cons_zero, List.set_cons_succ]
        refine wpAnyH_take (i := 20) (v := ?v54) rfl (by kernel_rfl) (by kernel_rfl) (by kernel_rfl) (fun _ _ _ h => h) (Or.inl ⟨by rfl, ?y54⟩) (by assumption) ?rest54
        case y54 => (intro w hSw; have hT0 := Mem.bl_cell hSw c1 (by first | omega | exact World.block_lt_of_cell? _ _ c1 | (simp <;> omega)); have hT1 := Mem.bl_cell hSw c2 (by first | omega | exact World.block_lt_of_cell? _ _ c2 | (simp <;> omega)); have hT2 := Mem.bl_cell hSw c3 (by first | omega | exact World.block_lt_of_cell? _ _ c3 | (simp <;> omega)); have hT3 := Mem.bl_cell hSw c4 (by first | omega | exact World.block_lt_of_cell? _ _ c4 | (simp <;> omega)); clear hSw; go_simp; try with_reducible rfl)
        case' rest54 => skip
        try simp only [List.getElem_toArray, List.getElem_cons_succ, List.getElem_cons_zero, Act.put, List.setIfInBounds_toArray, List.set_cons_zero, List.set_cons_succ]
        refine wpAnyH_done (by kernel_rfl) ?_ _
        go_wp2
        go_roundw
        case rel => exact ⟨q + 1 + 1, by omega, by go_num, hst.below ((Below.refl _ _).drew.trans hHeld), hbq.trans (((Below.refl _ _).drew.trans hHeld).mono hbz)⟩
        case measure => simp [intOf]; omega
    · obtain rfl : i = n := by omega
      go_wp2_with fail
      refine (works6_any _).mono ?_
      rintro e w5 ⟨rfl, hb5⟩
      go_wp2
      go_ret
      exact ⟨rfl, (hb2.trans (hbw.mono hb2.size)).trans (hb5.mono (Nat.le_trans hb2.size hbw.size))⟩
end Go.Proofs.Ythgncnpemnlodaa.Fl
