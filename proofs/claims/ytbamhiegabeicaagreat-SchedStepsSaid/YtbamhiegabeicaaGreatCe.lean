/- A change put into a cache: the contract of Put. No statement is proved here. -/
import Derived.Test.YtbamhiegabeicaaGreatCg
import Derived.Test.YtbamhiegabeicaaGreatCn
namespace Go.Proofs.YtbamhiegabeicaaGreat.Cb
open Go.RowKit Go.Proofs.YtbamhiegabeicaaGreat.Mem Go.Proofs.YtbamhiegabeicaaGreat.Open Go.Proofs.YtbamhiegabeicaaGreat.Kind Go.Proofs.YtbamhiegabeicaaGreat.Blk Go.Proofs.YtbamhiegabeicaaGreat.App Go.Proofs.YtbamhiegabeicaaGreat.Pat Go.Proofs.YtbamhiegabeicaaGreat.Rd
open Go.Proofs.YtbamhiegabeicaaGreat.Db (Dv Dev Asd)
set_option linter.unusedVariables false
set_option linter.unusedSimpArgs false
/-- Nothing but two blocks has changed; of the first its third cell alone. -/
structure Lc (c q : Nat) (W w' : World) : Prop where
  os : w'.os = W.os
  tape : w'.tape = W.tape
  output : w'.output = W.output
  size : W.heap.size ≤ w'.heap.size
  block : ∀ k, k < W.heap.size → k ≠ c → k ≠ q → w'.heap[k]? = W.heap[k]?
  cl : ∀ i v, i ≠ 2 → W.cell? ⟨c, i, none⟩ = some v → w'.cell? ⟨c, i, none⟩ = some v
section
variable {c q : Nat} {W w1 w2 : World}
theorem Lc.refl (c q : Nat) (W : World) : Lc c q W W := ⟨rfl, rfl, rfl, Nat.le_refl _, fun _ _ _ _ => rfl, fun _ _ _ h => h⟩
theorem Lc.kept {k : Nat} {T : TypeId} {cs : Array Value} (h : Lc c q W w1) (hr : Row W k T cs) (h1 : k ≠ c) (h2 : k ≠ q) : Row w1 k T cs := (h.block k hr.lt h1 h2).trans hr
theorem Lc.at_ {p : Addr} {v : Value} (h : Lc c q W w1) (hc : W.cell? p = some v) (h1 : p.block ≠ c) (h2 : p.block ≠ q) : w1.cell? p = some v := by
  have hlt := World.block_lt_of_cell? W p hc
  have e := h.block p.block hlt h1 h2
  simp only [World.cell?, e] at hc ⊢
  exact hc
theorem Lc.below (h : Lc c q W w1) (hb : Below w1.heap.size w1 w2) (hc : c < W.heap.size) : Lc c q W w2 :=
  ⟨hb.os.trans h.os, hb.tape.trans h.tape, hb.output.trans h.output, Nat.le_trans h.size hb.size, fun k h1 h2 h3 => (hb.block k (Nat.lt_of_lt_of_le h1 h.size)).trans (h.block k h1 h2 h3),
    fun i v h1 h2 => (hb.cell (p := ⟨c, i, none⟩) (Nat.lt_of_lt_of_le hc h.size)).trans (h.cl i v h1 h2)⟩
theorem Lc.grown {row : Option Nat} (h : Lc c q W w1) (hg : w1.grownBy w2 row) (hr : ∀ k, row = some k → k = q ∨ W.heap.size ≤ k) (hrc : row ≠ some c) (hc : c < W.heap.size) : Lc c q W w2 :=
  ⟨hg.os.trans h.os, hg.tape.trans h.tape, hg.output.trans h.output, Nat.le_trans h.size hg.size, fun k h1 h2 h3 => (hg.block k (Nat.lt_of_lt_of_le h1 h.size) (fun e => by rcases hr k e.symm with e2 | e2; exact h3 e2; omega)).trans (h.block k h1 h2 h3),
    fun i v h1 h2 => (cell_of_heap (hg.block c (Nat.lt_of_lt_of_le hc h.size) (fun e => hrc e.symm)) i).trans (h.cl i v h1 h2)⟩
theorem Lc.set2 (h : Lc c q W w1) (u : Value) : Lc c q W (w1.setCell ⟨c, 2, none⟩ u) :=
  ⟨h.os, h.tape, h.output, by simpa [World.setCell] using h.size, fun k h1 h2 h3 => (Below.heap_setCell w1 ⟨c, 2, none⟩ u k h2).trans (h.block k h1 h2 h3), fun i v h1 h2 => by
    have := h.cl i v h1 h2
    rw [← this]
    exact World.cell?_setCell_other w1 _ _ _ (by intro e; injection e with _ e; omega)⟩
end
/-- All that there is, but the cache's four. -/
abbrev Out (c d g b : Nat) (w : World) : Nat → Prop := fun j => j < w.heap.size ∧ j ≠ c ∧ j ≠ d ∧ j ≠ g ∧ j ≠ b
section
variable {α : Type} {k : Kd α} {w w' : World} {c d g b n : Nat} {A : Option Addr} {xs : List α} {N : Nat → Prop} {v : Value} {s : St}
theorem Rw.tq (h : Rw k w (Out c d g b w) A n xs) (ht : Tq c d g b w w') : Rw k w' (Out c d g b w') A n xs :=
  (h.stay fun j hj => ht.block j hj.1 hj.2.1 hj.2.2.1 hj.2.2.2.1 hj.2.2.2.2).mono fun j hj => ⟨Nat.lt_of_lt_of_le hj.1 ht.size, hj.2⟩
theorem Rw.out (h : Rw k w (Out c d g b w) A n xs) : Rw k w (All w) A n xs := h.mono fun j hj => hj.1
theorem own_isF {B : Nat} {xs : List Int} (h : Ns w B v xs) (hw : ∀ x ∈ xs, WfI x) : ∃ A c, v = .slice A xs.length c ∧ xs.length ≤ c ∧ c ≤ M63 ∧ (A = none → c = 0) ∧ Rw (kInt .i64) w (fun j => B ≤ j ∧ j < w.heap.size) A xs.length xs := by
  rcases h.2 with ⟨rfl, h0⟩ | ⟨g, cap, cur, rfl, hg, hh, h1, h2, h3⟩
  · have : xs = [] := List.eq_nil_of_length_eq_zero h0
    subst this
    exact ⟨none, 0, rfl, by simp, by simp, fun _ => rfl, Rw.nil _ _ _ _⟩
  · simp only [maxLen] at h2
    refine ⟨_, cap, rfl, h1, h2, fun h => (by cases h), rfl, by show xs.length ≤ 9223372036854775807; omega, .inr ⟨g, 0, rfl, ⟨hg, row_lt hh⟩, row_lt hh, fun i x hx => ⟨[V64 x], ⟨rfl, hw x (List.mem_of_getElem? hx)⟩, fun j v hv => ?_⟩⟩⟩
    cases j with
    | succ j => simp at hv
    | zero =>
      simp at hv
      subst hv
      obtain ⟨hi, rfl⟩ := List.getElem?_eq_some_iff.1 hx
      have := h.cell i hi
      rw [show 0 + i * (kInt .i64).sz + 0 = i from by show 0 + i * 1 + 0 = i; omega]
      exact this
theorem Ca.last' (h : Ca w c d g b N v s) (n : Int) : Ca (w.setCell ⟨c, 3, none⟩ (.int .i64 n)) c d g b N v { s with last := n } ∧ Tq c d g b w (w.setCell ⟨c, 3, none⟩ (.int .i64 n)) := by
  have ho : ∀ k, k ≠ c → (w.setCell ⟨c, 3, none⟩ (.int .i64 n)).heap[k]? = w.heap[k]? := fun k hk => Below.heap_setCell w ⟨c, 3, none⟩ _ k hk
  have hz : w.heap.size ≤ (w.setCell ⟨c, 3, none⟩ (.int .i64 n)).heap.size := by simp [World.setCell]
  exact ⟨⟨h.row.put 3 _, dev_other h.dev (ho d (fun e => h.cd e.symm)) (ho g (fun e => h.cg e.symm)) hz, h.map.stay (ho b (fun e => h.cb e.symm)), own_stay h.own h.vN (fun j h1 _ => ho j (fun e => h1 (e ▸ h.Nc))) hz, h.vN, h.cd, h.cg, h.cb, h.db, h.gb, h.Nc, h.Nd, h.Ng, h.Nb, fun j hj => Nat.lt_of_lt_of_le (h.lt j hj) hz⟩,
    ⟨rfl, rfl, rfl, hz, fun k _ h2 _ _ _ => ho k h2⟩⟩
/-- A change laid behind its list. -/
theorem Ca.app {x : Chg} {o : Obj} {v7 : Value} {w7 : World} (h : Ca w c d g b N v s) (ho7 : OwnK (kN kChg N) w7 0 90 v7 (s.xs ++ [x])) (hg7 : (w.alloc o).grownBy w7 v.ownBlock) (hat : v7.ownBlock = v.ownBlock ∨ v7.ownBlock = some (w.alloc o).heap.size) :
    Ca (w7.setCell ⟨c, 2, none⟩ v7) c d g b N v7 { s with xs := s.xs ++ [x] } ∧ Tn N c d g b w (w7.setCell ⟨c, 2, none⟩ v7) := by
  have hv : ∀ k, N k → some k ≠ v.ownBlock := fun k hk e => h.vN k e.symm hk
  have ha : ∀ k, N k → w7.heap[k]? = w.heap[k]? := fun k hk => (hg7.block k (by have := h.lt k hk; simp; omega) (hv k hk)).trans (Below.heap_alloc w o k (h.lt k hk))
  have ho : ∀ k, k ≠ c → (w7.setCell ⟨c, 2, none⟩ v7).heap[k]? = w7.heap[k]? := fun k hk => Below.heap_setCell w7 ⟨c, 2, none⟩ _ k hk
  have hz7 : w.heap.size ≤ w7.heap.size := Nat.le_trans (by simp) hg7.size
  have hz : w7.heap.size ≤ (w7.setCell ⟨c, 2, none⟩ v7).heap.size := by simp [World.setCell]
  have hvN : ∀ j, v7.ownBlock = some j → ¬ N j := fun j e hj => by
    rcases hat with e2 | e2
    · exact h.vN j (e2.symm.trans e) hj
    · rw [e2] at e; injection e with e; have := h.lt j hj; simp at e; omega
  refine ⟨⟨Row.put (g := c) (cs := caC d b v s.last) (show Row w7 c _ _ from (ha c h.Nc).trans h.row) 2 v7, dev_other (dev_other h.dev (ha d h.Nd) (ha g h.Ng) hz7) (ho d (fun e => h.cd e.symm)) (ho g (fun e => h.cg e.symm)) hz, (h.map.stay (ha b h.Nb)).stay (ho b (fun e => h.cb e.symm)), own_stay ho7 hvN (fun j h1 _ => ho j (fun e => h1 (e ▸ h.Nc))) hz, hvN, h.cd, h.cg, h.cb, h.db, h.gb, h.Nc, h.Nd, h.Ng, h.Nb, fun j hj => Nat.lt_of_lt_of_le (h.lt j hj) (Nat.le_trans hz7 hz)⟩, ?_⟩
  exact ⟨hg7.os, hg7.tape, hg7.output, Nat.le_trans hz7 hz, fun k hk => (ho k hk.c).trans (ha k hk.n)⟩
end
theorem own_slice {α : Type} {k : Kd α} {w : World} {B : Nat} {E : TypeId} {v : Value} {xs : List α} (h : OwnK k w B E v xs) : ∃ A n m, v = .slice A n m := by
  obtain ⟨A, c, h1, _⟩ := h.rw_
  exact ⟨A, _, c, h1⟩
def neL (s : St) (ns : List Int) : Option (List Int) := neF s.last (doneB s) ns []
def pE (s : St) (no pa : Int) (pd : List Nat) (ns : List Int) : Int := if rightN pa pd.length = false then 1 else if (neL s ns).isSome = false then 1 else kE s no
def pS (s : St) (no pa : Int) (pd : List Nat) (ns : List Int) : St := if pE s no pa pd ns = 0 then { kS s no with last := s.last + 1, xs := s.xs ++ [⟨s.last + 1, no, pa, pd, (neL s ns).getD []⟩] } else s
def pN (s : St) (no pa : Int) (pd : List Nat) (ns : List Int) : Int := if pE s no pa pd ns = 0 then s.last + 1 else 0
theorem kE_kS {s : St} {no : Int} (h : kE s no ≠ 0) : kS s no = s := by
  unfold kE at h
  unfold kS
  by_cases hk : s.K no = true
  · rw [if_pos hk] at h; exact absurd rfl h
  · rw [if_neg hk] at h; rw [if_pos (.inr h)]
theorem insG_mem {xs : List Int} {y x : Int} (h : x ∈ insG xs y) : x = y ∨ x ∈ xs := by
  unfold insG at h
  split at h
  · exact .inr h
  · rcases List.mem_append.1 h with h | h
    · exact .inr (List.mem_of_mem_take h)
    · rcases List.mem_cons.1 h with h | h
      · exact .inl h
      · exact .inr (List.mem_of_mem_drop h)
theorem neF_mem {last : Int} {dn : Int → Bool} : ∀ {ns out l : List Int}, neF last dn ns out = some l → ∀ x ∈ l, x ∈ out ∨ (1 ≤ x ∧ x ≤ last ∧ dn x = false ∧ x ∈ ns)
  | [], out, l, h, x, hx => by injection h with h; subst h; exact .inl hx
  | n :: r, out, l, h, x, hx => by
    unfold neF at h
    by_cases h1 : n < 1 ∨ last < n
    · rw [if_pos h1] at h; cases h
    rw [if_neg h1] at h
    by_cases h2 : dn n = true
    · rw [if_pos h2] at h
      rcases neF_mem h x hx with h3 | h3
      · exact .inl h3
      · exact .inr ⟨h3.1, h3.2.1, h3.2.2.1, List.mem_cons_of_mem _ h3.2.2.2⟩
    · rw [if_neg h2] at h
      rcases neF_mem h x hx with h3 | h3
      · rcases insG_mem h3 with rfl | h4
        · exact .inr ⟨by omega, by omega, by simpa using h2, List.mem_cons_self⟩
        · exact .inl h4
      · exact .inr ⟨h3.1, h3.2.1, h3.2.2.1, List.mem_cons_of_mem _ h3.2.2.2⟩
theorem neF_len {last : Int} {dn : Int → Bool} : ∀ {ns out l : List Int}, neF last dn ns out = some l → l.length ≤ ns.length + out.length
  | [], out, l, h => by injection h with h; subst h; simp
  | n :: r, out, l, h => by
    unfold neF at h
    by_cases h1 : n < 1 ∨ last < n
    · rw [if_pos h1] at h; cases h
    rw [if_neg h1] at h
    by_cases h2 : dn n = true
    · rw [if_pos h2] at h
      have := neF_len h
      simp; omega
    · rw [if_neg h2] at h
      have := neF_len h
      have := insG_len out n
      simp; omega
theorem Tn.setC {w w' : World} {c d g b : Nat} {N : Nat → Prop} (h : Tn N c d g b w w') {k : Nat} (hk : ¬ N k) (i : Nat) (u : Value) : Tn N c d g b w (w'.setCell ⟨k, i, none⟩ u) :=
  ⟨h.os, h.tape, h.output, by simpa [World.setCell] using h.size, fun j hj => (Below.heap_setCell w' ⟨k, i, none⟩ u j (fun (e : j = k) => hk (e ▸ hj.n))).trans (h.block j hj)⟩
set_option maxHeartbeats 4000000 in
set_option maxRecDepth 100000 in
theorem Put_any (no : Int) (hno : WfI no) (pa : Int) (hpa : WfI pa) (A : Option Addr) (cp : Nat) (pd : List Nat) (A2 : Option Addr) (cn : Nat) (ns : List Int) (c d g b : Nat) (N : Nat → Prop) (v : Value) (s : St) (w : World) (h : Ca w c d g b N v s) (hi : Inv s)
    (hp : Rw kByte w (Out c d g b w) A pd.length pd) (hA : A = none → cp = 0) (hpl : pd.length ≤ 300) (hn : Is w A2 ns) (hl : ns.length ≤ 60) :
    Calls Tryz.prog 13 #[.pointer (some ⟨c, 0, none⟩), .int .i64 no, patV pa A pd.length cp, .slice A2 ns.length cn] w fun e w' => ∃ v', e = .returned (.tuple #[.int .i64 (pN s no pa pd ns), .int .i64 (pE s no pa pd ns)]) ∧ Ca w' c d g b N v' (pS s no pa pd ns) ∧ Tn N c d g b w w' := by
  have b0 : Below w.heap.size w (w.alloc (.cells #[.int .i64 pa, .slice A pd.length cp] 52)) := bb0 _ _
  have HH := Lib.hid h
  have RP : Row (w.alloc (.cells #[.int .i64 pa, .slice A pd.length cp] 52)) w.heap.size 52 #[.int .i64 pa, .slice A pd.length cp] := Row.new _ _ _
  have k0 := RP.cell 0 rfl
  have k1 : World.cell? _ ⟨w.heap.size, 0 + 1, none⟩ = some (.slice A pd.length cp) := RP.cell 1 rfl
  have H1 := h.grow b0
  obtain ⟨N1, hN1⟩ : ∃ N1 : Nat → Prop, N1 = fun j => N j ∨ (w.heap.size ≤ j ∧ j < (w.alloc (.cells #[.int .i64 pa, .slice A pd.length cp] 52)).heap.size) := ⟨_, rfl⟩
  rw [← hN1] at H1
  have hF1 : Far N1 c d g b w.heap.size := ⟨by rw [hN1]; exact .inr ⟨Nat.le_refl _, by simp⟩, by have := h.lt c h.Nc; omega, by have := h.lt d h.Nd; omega, by have := h.lt g h.Ng; omega, by have := h.lt b h.Nb; omega⟩
  have hsub : ∀ j, N j → N1 j := fun j hj => by rw [hN1]; exact .inl hj
  have HQ1 := Lib.hid (Tq.of (c := c) (d := d) (g := g) (b := b) b0)
  have HP1 := Lib.hid (Rw.tq hp HQ1.out)
  have HN1 := Lib.hid (hn.below b0)
  have HC1 := Lib.hid H1
  have CK := Lib.hid (check_any pa A pd.length cp (w.alloc (.cells #[.int .i64 pa, .slice A pd.length cp] 52)) (by unfold M63; omega))
  have RP1 := Lib.hid RP
  have HE : Hid (pE s no pa pd ns = if rightN pa pd.length = false then 1 else if (neL s ns).isSome = false then 1 else kE s no) := Lib.hid rfl
  have HS : Hid (pS s no pa pd ns = if pE s no pa pd ns = 0 then { kS s no with last := s.last + 1, xs := s.xs ++ [⟨s.last + 1, no, pa, pd, (neL s ns).getD []⟩] } else s) := Lib.hid rfl
  have HNN : Hid (pN s no pa pd ns = if pE s no pa pd ns = 0 then s.last + 1 else 0) := Lib.hid rfl
  have HI := Lib.hid hi
  clear hN1 h H1 b0 hp hn RP hi
  generalize pE s no pa pd ns = E at *
  generalize pS s no pa pd ns = S' at *
  generalize pN s no pa pd ns = PN at *
  cases hr : rightN pa pd.length with
  | false =>
    have HE2 : Hid (E = 1) := Lib.hid (by rw [HE.out, if_pos hr])
    have HS2 : Hid (S' = s) := Lib.hid (by rw [HS.out, HE2.out]; rfl)
    have HN2 : Hid (PN = 0) := Lib.hid (by rw [HNN.out, HE2.out]; rfl)
    rw [hr] at CK
    clear hr HE HS HNN
    go_enter Tryz.func13, Tryz.ntmps13
    go_wp2_with fail
    refine CK.out.mono ?_
    rintro e w2 ⟨rfl, hb2⟩
    have HC2 := Lib.hid (HC1.out.below hb2)
    have HQ2 := Lib.hid (HQ1.out.trans (Tq.of hb2))
    clear hb2 CK
    go_wp2
    refine bodyPost_ret (results_tmp2 rfl _ _ _) rfl ?_
    exact ⟨v, by rw [HN2.out, HE2.out]; rfl, by rw [HS2.out]; exact HC2.out.weak hsub HH.out.Nc HH.out.Nd HH.out.Ng HH.out.Nb, HH.out.tq HQ2.out⟩
  | true =>
    have HE2 : Hid (E = if (neL s ns).isSome = false then 1 else kE s no) := Lib.hid (by rw [HE.out, if_neg (by rw [hr]; simp)])
    rw [hr] at CK
    clear hr HE
    go_enter Tryz.func13, Tryz.ntmps13
    go_wp2_with fail
    refine CK.out.mono ?_
    rintro e w2 ⟨rfl, hb2⟩
    have HC2 := Lib.hid (HC1.out.below hb2)
    have HQ2 := Lib.hid (HQ1.out.trans (Tq.of hb2))
    have HP2 := Lib.hid (Rw.tq HP1.out (Tq.of hb2))
    have RP2 := Lib.hid (RP1.out.below hb2)
    have CN := Lib.hid (needed_any A2 cn ns c d g b N1 v s w2 HC2.out (HN1.out.below hb2) (by omega))
    have hs2 : w.heap.size < w2.heap.size := RP2.out.lt
    clear hb2 CK k0 k1 HC1 HQ1 HP1 RP1 HN1
    go_wp2_with fail
    refine CN.out.mono ?_
    rintro e w3 ⟨v2, rfl, ho3, hb3⟩
    have HC3 := Lib.hid (HC2.out.below hb3)
    have HQ3 := Lib.hid (HQ2.out.trans (Tq.of hb3))
    have HP3 := Lib.hid (Rw.tq HP2.out (Tq.of hb3))
    have RP3 := Lib.hid (RP2.out.below hb3)
    have hs3 : w2.heap.size ≤ w3.heap.size := hb3.size
    have hne : neL s ns = neF s.last (doneB s) ns [] := rfl
    rw [← hne] at ho3 ⊢
    clear hb3 CN HC2 HQ2 HP2 RP2
    cases hq : neL s ns with
    | none =>
      have HE3 : Hid (E = 1) := Lib.hid (by rw [HE2.out, hq]; rfl)
      have HS2 : Hid (S' = s) := Lib.hid (by rw [HS.out, HE3.out]; rfl)
      have HN2 : Hid (PN = 0) := Lib.hid (by rw [HNN.out, HE3.out]; rfl)
      rw [hq] at ho3
      clear hq hne HE2 HS HNN ho3
      go_wp2
      refine bodyPost_ret (results_tmp2 rfl _ _ _) rfl ?_
      exact ⟨v, by rw [HN2.out, HE3.out]; rfl, by rw [HS2.out]; exact HC3.out.weak hsub HH.out.Nc HH.out.Nd HH.out.Ng HH.out.Nb, HH.out.tq HQ3.out⟩
    | some l =>
      have HE3 : Hid (E = kE s no) := Lib.hid (by rw [HE2.out, hq]; rfl)
      have hw : ∀ x ∈ l, WfI x := fun x hx => by
        rcases neF_mem hq x hx with h | ⟨h1, h2, _, _⟩
        · cases h
        · have := HI.out.last1
          exact (wf_iff x).2 (by omega)
      have hll : l.length ≤ 60 := by have := neF_len hq; simp at this; omega
      rw [hq] at ho3 HS
      replace ho3 : Ns w3 w2.heap.size v2 l := ho3
      replace HS : Hid (S' = if E = 0 then { kS s no with last := s.last + 1, xs := s.xs ++ [⟨s.last + 1, no, pa, pd, l⟩] } else s) := HS
      obtain ⟨A3, c3, rfl, g1, g2, g3, g4⟩ := own_isF ho3 hw
      have HG4 : Hid (Rw (kInt .i64) w3 (fun j => w2.heap.size ≤ j ∧ j < w3.heap.size) A3 l.length l) := Lib.hid g4
      have CK2 := Lib.hid (known_any no hno c d g b N1 v s w3 HC3.out HI.out)
      clear hq hne HE2 ho3 g4
      go_wp2_with fail
      refine CK2.out.mono ?_
      rintro e w4 ⟨rfl, hc4, hq4⟩
      have HC4 := Lib.hid hc4
      have HQ4 := Lib.hid (HQ3.out.trans hq4)
      have HP4 := Lib.hid (Rw.tq HP3.out hq4)
      have RP4 : Hid (Row w4 w.heap.size 52 #[.int .i64 pa, .slice A pd.length cp]) := Lib.hid ((hq4.block _ RP3.out.lt hF1.c hF1.d hF1.g hF1.b).trans RP3.out)
      have HG5 : Hid (Rw (kInt .i64) w4 (fun j => w2.heap.size ≤ j ∧ j < w4.heap.size) A3 l.length l) := Lib.hid ((HG4.out.stay fun j hj => hq4.block j hj.2 (by have := HH.out.lt c HH.out.Nc; omega) (by have := HH.out.lt d HH.out.Nd; omega) (by have := HH.out.lt g HH.out.Ng; omega) (by have := HH.out.lt b HH.out.Nb; omega)).mono fun j hj => ⟨hj.1, Nat.lt_of_lt_of_le hj.2 hq4.size⟩)
      have hs4 : w3.heap.size ≤ w4.heap.size := hq4.size
      clear hc4 hq4 CK2 HG4 HC3 HQ3 HP3 RP3
      by_cases hk : kE s no = 0
      · have HE4 : Hid (E = 0) := Lib.hid (by rw [HE3.out, hk])
        have HS2 : Hid (S' = { kS s no with last := s.last + 1, xs := s.xs ++ [⟨s.last + 1, no, pa, pd, l⟩] }) := Lib.hid (by rw [HS.out, if_pos HE4.out])
        have HN2 : Hid (PN = s.last + 1) := Lib.hid (by rw [HNN.out, if_pos HE4.out])
        rw [hk]
        clear hk HS HNN HE3
        have hL0 := HI.out.last0
        have hL1 := HI.out.last1
        have hXL := HI.out.xl
        have hx4 := kS_xs s no
        have hl4 := kS_last s no
        rw [← hx4] at HS2 hXL
        obtain ⟨q, hq1, hq2, hq3⟩ : ∃ q, (∀ k, v.ownBlock = some k → k = q) ∧ ¬ w.heap.size = q ∧ q < w.heap.size := by
          cases hv : v.ownBlock with
          | none => exact ⟨c, fun k e => (by cases e), fun e => hF1.c e, HH.out.row.lt⟩
          | some k => exact ⟨k, fun j e => by injection e with e; exact e.symm, fun e => HC4.out.vN k hv (by rw [← e]; exact hF1.n), (HH.out.own.lt k hv).2⟩
        have hqN : ∀ k, v.ownBlock = some k → k < w.heap.size := fun k e => (HH.out.own.lt k e).2
        generalize kS s no = S4 at *
        have hcl := HH.out.row.lt
        obtain ⟨c0, c1, c2, c3'⟩ := HC4.out.cells
        rw [hl4] at c3'
        have f3 := HC4.out.row.frozen 3
        have hbox := RP4.out.cell 1 rfl
        have L5 := HC4.out.last' (s.last + 1)
        have HC6 := Lib.hid (L5.1.below (bb0 _ (.cells #[] 5)))
        have HQ6 := Lib.hid ((HQ4.out.trans L5.2).trans (Tq.of (bb0 _ (.cells #[] 5))))
        have hyA := Rw.out (Rw.tq (Rw.tq HP4.out L5.2) (Tq.of (bb0 _ (.cells #[] 5))))
        have RP6 : Hid (Row ((w4.setCell ⟨c, 3, none⟩ (.int .i64 (s.last + 1))).alloc (.cells #[] 5)) w.heap.size 52 #[.int .i64 pa, .slice A pd.length cp]) := Lib.hid ((RP4.out.farCell (a := ⟨c, 3, none⟩) hF1.c _).alloc _)
        have r6 : World.cell? _ ⟨w.heap.size, 1, none⟩ = some (.slice A pd.length cp) := RP6.out.cell 1 rfl
        have HG6 : Hid (Fr (kInt .i64) ((w4.setCell ⟨c, 3, none⟩ (.int .i64 (s.last + 1))).alloc (.cells #[] 5)) w2.heap.size A3 l) := Lib.hid ((fr_cell (k := kInt .i64) (B := w2.heap.size) ⟨HG5.out⟩ (g := c) (by omega) 3 (.int .i64 (s.last + 1))).below (bb0 _ _))
        clear L5 HC4 HQ4 HP4 RP4 HG5
        go_wp2_with (at_builtin; go_loud (
          refine wpList_copy0 flat_byte rfl _ _ 44 rfl (V8 0) 1 Tryz.underlying44 u8Info rfl (by decide) _ rfl rfl hyA hA (by omega) (by omega) ?_
          intro A5 c5 w7 a1 a2 a3 a4 hb7
          have RP7 := RP6.out.below hb7
          have s7 : w7.cell? ⟨w.heap.size, 1, none⟩ = some (.slice A pd.length cp) := RP7.cell 1 rfl
          have t7 := RP7.frozen 1
          have RP8 := Lib.hid (RP7.put 1 (.slice A5 pd.length c5))
          have hs6 : w4.heap.size ≤ ((w4.setCell ⟨c, 3, none⟩ (.int .i64 (s.last + 1))).alloc (.cells #[] 5)).heap.size := by simp [World.setCell]
          have HF8 := Lib.hid (fr_cell (a4.mono (B' := w2.heap.size) (by omega)) (g := w.heap.size) hs2 1 (.slice A5 pd.length c5))
          have HG8 := Lib.hid (fr_cell (HG6.out.below hb7) (g := w.heap.size) hs2 1 (.slice A5 pd.length c5))
          have HC8 := Lib.hid (((HC6.out.below hb7).setCell (a := ⟨w.heap.size, 1, none⟩) hF1 (.slice A5 pd.length c5)).weak hsub HH.out.Nc HH.out.Nd HH.out.Ng HH.out.Nb)
          have HT8 := Lib.hid (Tn.setC (HH.out.tq (HQ6.out.trans (Tq.of hb7))) (k := w.heap.size) (fun e => by have := HH.out.lt _ e; omega) 1 (.slice A5 pd.length c5))
          have hs8 : w2.heap.size < (w7.setCell ⟨w.heap.size, 1, none⟩ (.slice A5 pd.length c5)).heap.size := by have := hb7.size; have := HG6.out; simp [World.setCell] at *; omega
          clear a4 hb7 hs6 hyA RP7))
        generalize w7.setCell ⟨w.heap.size, 1, none⟩ (.slice A5 pd.length c5) = W at *
        have hK0 := kChg_mk (w := (W.drew.alloc (.cells (chC (⟨s.last + 1, no, pa, pd, l⟩ : Chg) A5 c5 A3 c3) 90))) (S := fun j => w2.heap.size ≤ j ∧ j < (W.drew.alloc (.cells (chC (⟨s.last + 1, no, pa, pd, l⟩ : Chg) A5 c5 A3 c3) 90)).heap.size) (x := (⟨s.last + 1, no, pa, pd, l⟩ : Chg)) (A := A5) (c := c5) (A2 := A3) (c2 := c3)
          ⟨(wf_iff _).2 (by show _ ≤ s.last + 1 ∧ s.last + 1 ≤ _; omega), hno, hpa⟩ a1 a2 a3 (HF8.out.below ((Below.refl _ _).drew.alloc (Nat.le_refl _) _)).out g1 g2 g3 (HG8.out.below ((Below.refl _ _).drew.alloc (Nat.le_refl _) _)).out
        have hKK : (kN kChg N).K (W.drew.alloc (.cells (chC (⟨s.last + 1, no, pa, pd, l⟩ : Chg) A5 c5 A3 c3) 90)) (fun j => w2.heap.size ≤ j ∧ j < (W.drew.alloc (.cells (chC (⟨s.last + 1, no, pa, pd, l⟩ : Chg) A5 c5 A3 c3) 90)).heap.size) (⟨s.last + 1, no, pa, pd, l⟩ : Chg) _ := kChg.mono (fun j hj => ⟨hj, fun e => by have := HH.out.lt j e; have := hj.1; omega⟩) hK0
        have hrow : Row (W.drew.alloc (.cells (chC (⟨s.last + 1, no, pa, pd, l⟩ : Chg) A5 c5 A3 c3) 90)) W.drew.heap.size 90 (chC (⟨s.last + 1, no, pa, pd, l⟩ : Chg) A5 c5 A3 c3).toList.toArray := by rw [Array.toArray_toList]; exact Row.new _ _ _
        have HC9 := Lib.hid (HC8.out.below (Below.refl _ _).drew)
        have hO4 := (HC9.out.below (bb0 _ (.cells (chC (⟨s.last + 1, no, pa, pd, l⟩ : Chg) A5 c5 A3 c3) 90))).own
        obtain ⟨_, _, c2, q3⟩ := HC9.out.cells
        replace q3 : W.drew.cell? ⟨c, 3, none⟩ = some (.int .i64 (s.last + 1)) := q3
        have hcW : c < W.drew.heap.size := HC9.out.row.lt
        have c2a : World.cell? (W.alloc (.cells #[.int .i64 (s.last + 1), .int .i64 no, .int .i64 pa, .slice A5 pd.length c5, .slice A3 l.length c3] 90)).drew ⟨c, 2, none⟩ = some v := ((bb0 W.drew (.cells #[.int .i64 (s.last + 1), .int .i64 no, .int .i64 pa, .slice A5 pd.length c5, .slice A3 l.length c3] 90)).cell (p := ⟨c, 2, none⟩) hcW).trans c2
        have RP9 := RP8.out.drew
        have hxl9 : S4.xs.length + 1 ≤ 1001 := by omega
        have hqs : ∀ k, v.ownBlock = some k → k = q ∨ W.drew.heap.size ≤ k := fun k e => .inl (hq1 k e)
        have hqc : v.ownBlock ≠ some c := fun e => HH.out.vN c e HH.out.Nc
        have HSZ : Hid (w.heap.size < w2.heap.size) := Lib.hid hs2
        have hS9 : ∀ j, (w2.heap.size ≤ j ∧ j < (W.drew.alloc (.cells (chC (⟨s.last + 1, no, pa, pd, l⟩ : Chg) A5 c5 A3 c3) 90)).heap.size) → some j ≠ v.ownBlock ∧ j < (W.drew.alloc (.cells (chC (⟨s.last + 1, no, pa, pd, l⟩ : Chg) A5 c5 A3 c3) 90)).heap.size := fun j hj => ⟨fun e => by have := hqN j e.symm; have := HSZ.out; omega, hj.2⟩
        have hrc := HC9.out.row.alloc (.cells (chC (⟨s.last + 1, no, pa, pd, l⟩ : Chg) A5 c5 A3 c3) 90)
        clear hK0
        refine wp_region_held_drew (S := fun w' => Cb.Lc c q (W.drew) w') (by kernel_rfl) ?hb10 (fun hHeld => ?rest10)
        case hb10 =>
          exact Cb.Lc.refl _ _ _
        case' rest10 => skip
        have hCl := fun (wS : World) (hSw : Cb.Lc c q (W.drew) wS) => And.intro (Cb.Lc.cl hSw _ _ (by decide) q3) <| And.intro ((Cb.Lc.kept hSw RP9 (by omega) (by omega)).cell 0 rfl) <| (Cb.Lc.kept hSw RP9 (by omega) (by omega)).cell 1 rfl
        replace hCl := Go.Lib.hid hCl
        refine Mem.tkV 0 ?v11 ?y11 ?r11
        case y11 => (intro w hSw; clear hSw; go_simp; try with_reducible rfl)
        refine Mem.tkV 1 ?v12 ?y12 ?r12
        case y12 => (intro w hSw; clear hSw; go_simp; try with_reducible rfl)
        refine Mem.tkV 2 ?v13 ?y13 ?r13
        case y13 => (intro w hSw; clear hSw; go_simp; try with_reducible rfl)
        try simp only [Mem.pa, Mem.pb, Mem.pc, Act.put, Mem.pd, Mem.pe, Mem.pf]
        refine Mem.tkV 3 ?v14 ?y14 ?r14
        case y14 => (intro w hSw; clear hSw; go_simp; try with_reducible rfl)
        refine Mem.tkV 5 ?v15 ?y15 ?r15
        case y15 => (intro w hSw; clear hSw; go_simp; try with_reducible rfl)
        refine Mem.tkV 6 ?v16 ?y16 ?r16
        case y16 => (intro w hSw; clear hSw; go_simp; try with_reducible rfl)
        try simp only [Mem.pa, Mem.pb, Mem.pc, Act.put, Mem.pd, Mem.pe, Mem.pf]
        refine Mem.tkV 7 ?v17 ?y17 ?r17
        case y17 => (intro w hSw; clear hSw; go_simp; try with_reducible rfl)
        refine Mem.tkV 8 ?v18 ?y18 ?r18
        case y18 => (intro w hSw; obtain ⟨hT0, hT1, hT2⟩ := hCl.out w hSw; clear hSw; go_simp; try with_reducible rfl)
        refine Mem.tkV 9 ?v19 ?y19 ?r19
        case y19 => (intro w hSw; clear hSw; go_simp; try with_reducible rfl)
        try simp only [Mem.pa, Mem.pb, Mem.pc, Act.put, Mem.pd, Mem.pe, Mem.pf]
        refine Mem.tkV 10 ?v20 ?y20 ?r20
        case y20 => (intro w hSw; obtain ⟨hT0, hT1, hT2⟩ := hCl.out w hSw; clear hSw; go_simp; try with_reducible rfl)
        refine Mem.tkV 11 ?v21 ?y21 ?r21
        case y21 => (intro w hSw; clear hSw; go_simp; try with_reducible rfl)
        refine Mem.tkV 12 ?v22 ?y22 ?r22
        case y22 => (intro w hSw; clear hSw; go_simp; try with_reducible rfl)
        try simp only [Mem.pa, Mem.pb, Mem.pc, Act.put, Mem.pd, Mem.pe, Mem.pf]
        refine wpAnyH_ready (rs := [4, 13]) (by kernel_rfl) (by simp) ?_
        refine AllReadyH.cons rfl (fun K hK => ?_) ?_
        · skip
          go_simp
          have hSnew := hHeld
          try go_wp2_with fail
          refine hK.out _ _ ?_ (fun hHeld2 => ?_)
          · exact hSnew
          clear hK K hHeld hSnew
          have hHeld := hHeld2
          clear hHeld2
          try simp only [Mem.pa, Mem.pb, Mem.pc, Act.put, Mem.pd, Mem.pe, Mem.pf]
          refine wpAnyH_ready (rs := [13]) (by kernel_rfl) (by simp) ?_
          refine AllReadyH.cons rfl (fun K hK => ?_) AllReadyH.nil
          go_simp
          have hbl := (Below.refl _ W.drew).alloc (Nat.le_refl _) (.cells (chC (⟨s.last + 1, no, pa, pd, l⟩ : Chg) A5 c5 A3 c3) 90)
          try go_wp2_with fail
          have hSnew := Cb.Lc.below hHeld hbl (by omega)
          refine hK.out _ _ ?_ (fun hHeld2 => ?_)
          · exact hSnew
          clear hbl
          clear hK K hHeld hSnew
          have hHeld := hHeld2
          clear hHeld2
          try simp only [Mem.pa, Mem.pb, Mem.pc, Act.put, Mem.pd, Mem.pe, Mem.pf]
          refine wpAnyH_ready (rs := [14]) (by kernel_rfl) (by simp) ?_
          refine AllReadyH.cons rfl (fun K hK => ?_) AllReadyH.nil
          rw [if_pos (by rfl)]
          refine wp_appK (k := kN kChg N) _ _ 72 (by rfl) (.agg chZ) 72 Tryz.underlying72 chInfo3 rfl (show 0 < 5 by decide) (by rfl) _ _ (by rfl) hO4 90 (chC (⟨s.last + 1, no, pa, pd, l⟩ : Chg) A5 c5 A3 c3).toList hrow (⟨s.last + 1, no, pa, pd, l⟩ : Chg) _ hKK hS9 (by omega) (by omega) (Nat.zero_le _) ?_; intro v7 w7 hown7 hg7 hat7; obtain ⟨A7, n7, m7, rfl⟩ := own_slice hown7; have hSnew := hHeld.grown hg7 hqs hqc hcW; have HO7 := Lib.hid hown7; have HG7 := Lib.hid hg7; have HA7 := Lib.hid hat7; have rc7 := gb_row hg7 hrc (fun e => hqc e.symm); have c27 := rc7.cell 2 rfl; have f27 := rc7.frozen 2; have c37 : w7.cell? ⟨c, 3, none⟩ = some (.int .i64 (s.last + 1)) := rc7.cell 3 rfl; clear hown7 hg7 hat7 rc7
          refine hK.out _ _ ?_ (fun hHeld2 => ?_)
          · exact hSnew
          clear hK K hHeld hSnew
          have hHeld := hHeld2
          clear hHeld2
          try simp only [Mem.pa, Mem.pb, Mem.pc, Act.put, Mem.pd, Mem.pe, Mem.pf]
          refine Mem.tkV 15 ?v23 ?y23 ?r23
          case y23 => (intro w hSw; clear hSw; go_simp; try with_reducible rfl)
          refine Mem.tkV 16 ?v24 ?y24 ?r24
          case y24 => (intro w hSw; clear hSw; go_simp; try with_reducible rfl)
          try simp only [Mem.pa, Mem.pb, Mem.pc, Act.put, Mem.pd, Mem.pe, Mem.pf]
          refine wpAnyH_ready (rs := [17]) (by kernel_rfl) (by simp) ?_
          refine AllReadyH.cons rfl (fun K hK => ?_) AllReadyH.nil
          go_simp
          have hSnew := Lc.set2 hHeld (.slice A7 n7 m7)
          try go_wp2_with fail
          refine hK.out _ _ ?_ (fun hHeld2 => ?_)
          · exact hSnew
          clear hK K hHeld hSnew
          have hHeld := hHeld2
          clear hHeld2
          try simp only [Mem.pa, Mem.pb, Mem.pc, Act.put, Mem.pd, Mem.pe, Mem.pf]
          refine wpAnyH_done (by kernel_rfl) ?_ _
          clear hCl
          go_wp2_with fail
          refine bodyPost_ret (results_tmp2 rfl _ _ _) rfl ?_
          obtain ⟨hz1, hz2⟩ := HC9.out.app HO7.out HG7.out HA7.out
          exact ⟨.slice A7 n7 m7, by rw [HN2.out, HE4.out]; rfl, by rw [HS2.out]; exact hz1, (HT8.out.trans (HC8.out.weak (fun _ h => h) HH.out.Nc HH.out.Nd HH.out.Ng HH.out.Nb |>.tn (Below.refl _ _).drew)).trans hz2⟩
        refine AllReadyH.cons rfl (fun K hK => ?_) ?_
        · skip
          go_simp
          have hbl := (Below.refl _ W.drew).alloc (Nat.le_refl _) (.cells (chC (⟨s.last + 1, no, pa, pd, l⟩ : Chg) A5 c5 A3 c3) 90)
          try go_wp2_with fail
          have hSnew := Cb.Lc.below hHeld hbl (by omega)
          refine hK.out _ _ ?_ (fun hHeld2 => ?_)
          · exact hSnew
          clear hbl
          clear hK K hHeld hSnew
          have hHeld := hHeld2
          clear hHeld2
          try simp only [Mem.pa, Mem.pb, Mem.pc, Act.put, Mem.pd, Mem.pe, Mem.pf]
          refine wpAnyH_ready (rs := [4]) (by kernel_rfl) (by simp) ?_
          refine AllReadyH.cons rfl (fun K hK => ?_) AllReadyH.nil
          go_simp
          have hSnew := hHeld
          try go_wp2_with fail
          refine hK.out _ _ ?_ (fun hHeld2 => ?_)
          · exact hSnew
          clear hK K hHeld hSnew
          have hHeld := hHeld2
          clear hHeld2
          try simp only [Mem.pa, Mem.pb, Mem.pc, Act.put, Mem.pd, Mem.pe, Mem.pf]
          refine wpAnyH_ready (rs := [14]) (by kernel_rfl) (by simp) ?_
          refine AllReadyH.cons rfl (fun K hK => ?_) AllReadyH.nil
          rw [if_pos (by rfl)]
          refine wp_appK (k := kN kChg N) _ _ 72 (by rfl) (.agg chZ) 72 Tryz.underlying72 chInfo3 rfl (show 0 < 5 by decide) (by rfl) _ _ (by rfl) hO4 90 (chC (⟨s.last + 1, no, pa, pd, l⟩ : Chg) A5 c5 A3 c3).toList hrow (⟨s.last + 1, no, pa, pd, l⟩ : Chg) _ hKK hS9 (by omega) (by omega) (Nat.zero_le _) ?_; intro v7 w7 hown7 hg7 hat7; obtain ⟨A7, n7, m7, rfl⟩ := own_slice hown7; have hSnew := hHeld.grown hg7 hqs hqc hcW; have HO7 := Lib.hid hown7; have HG7 := Lib.hid hg7; have HA7 := Lib.hid hat7; have rc7 := gb_row hg7 hrc (fun e => hqc e.symm); have c27 := rc7.cell 2 rfl; have f27 := rc7.frozen 2; have c37 : w7.cell? ⟨c, 3, none⟩ = some (.int .i64 (s.last + 1)) := rc7.cell 3 rfl; clear hown7 hg7 hat7 rc7
          refine hK.out _ _ ?_ (fun hHeld2 => ?_)
          · exact hSnew
          clear hK K hHeld hSnew
          have hHeld := hHeld2
          clear hHeld2
          try simp only [Mem.pa, Mem.pb, Mem.pc, Act.put, Mem.pd, Mem.pe, Mem.pf]
          refine Mem.tkV 15 ?v25 ?y25 ?r25
          case y25 => (intro w hSw; clear hSw; go_simp; try with_reducible rfl)
          refine Mem.tkV 16 ?v26 ?y26 ?r26
          case y26 => (intro w hSw; clear hSw; go_simp; try with_reducible rfl)
          try simp only [Mem.pa, Mem.pb, Mem.pc, Act.put, Mem.pd, Mem.pe, Mem.pf]
          refine wpAnyH_ready (rs := [17]) (by kernel_rfl) (by simp) ?_
          refine AllReadyH.cons rfl (fun K hK => ?_) AllReadyH.nil
          go_simp
          have hSnew := Lc.set2 hHeld (.slice A7 n7 m7)
          try go_wp2_with fail
          refine hK.out _ _ ?_ (fun hHeld2 => ?_)
          · exact hSnew
          clear hK K hHeld hSnew
          have hHeld := hHeld2
          clear hHeld2
          try simp only [Mem.pa, Mem.pb, Mem.pc, Act.put, Mem.pd, Mem.pe, Mem.pf]
          refine wpAnyH_done (by kernel_rfl) ?_ _
          clear hCl
          go_wp2_with fail
          refine bodyPost_ret (results_tmp2 rfl _ _ _) rfl ?_
          obtain ⟨hz1, hz2⟩ := HC9.out.app HO7.out HG7.out HA7.out
          exact ⟨.slice A7 n7 m7, by rw [HN2.out, HE4.out]; rfl, by rw [HS2.out]; exact hz1, (HT8.out.trans (HC8.out.weak (fun _ h => h) HH.out.Nc HH.out.Nd HH.out.Ng HH.out.Nb |>.tn (Below.refl _ _).drew)).trans hz2⟩
        exact AllReadyH.nil
      · have hk2 : (kE s no == 0) = false := by rw [beq_eq_false_iff_ne]; exact hk
        have HS2 : Hid (S' = s) := Lib.hid (by rw [HS.out, if_neg (by rw [HE3.out]; exact hk)])
        have HN2 : Hid (PN = 0) := Lib.hid (by rw [HNN.out, if_neg (by rw [HE3.out]; exact hk)])
        rw [kE_kS hk] at HC4
        clear hk HS HNN
        generalize kE s no = ke at *
        go_wp2
        refine bodyPost_ret (results_tmp2 rfl _ _ _) rfl ?_
        exact ⟨v, by rw [HN2.out, HE3.out]; rfl, by rw [HS2.out]; exact HC4.out.weak hsub HH.out.Nc HH.out.Nd HH.out.Ng HH.out.Nb, HH.out.tq HQ4.out⟩
end Go.Proofs.YtbamhiegabeicaaGreat.Cb

