/- patch.Diff. -/
import Derived.Test.YteeodeooicoekaaPat5
import Derived.Test.YteeodeooicoekaaOwnK
import Derived.WalkMore
namespace Go.Proofs.Yteeodeooicoekaa.Pat
open Go.RowKit Go.Proofs.Yteeodeooicoekaa.Mem Go.Proofs.Yteeodeooicoekaa.Open Go.Proofs.Yteeodeooicoekaa.Kind Go.Proofs.Yteeodeooicoekaa.Blk Go.Proofs.Yteeodeooicoekaa.App
set_option linter.unusedVariables false
set_option linter.unusedSimpArgs false
/-- A patch as data: its place and its bytes. -/
abbrev Pt := Int × List Nat
def kPat : Kd Pt := kPair (kInt .i64) (kSlice kByte)
theorem kPat_open {w : World} {S : Nat → Prop} {p : Pt} {cs : List Value} (h : kPat.K w S p cs) : ∃ A c, cs = [.int .i64 p.1, .slice A p.2.length c] ∧ (Lit.int .i64 p.1).wf = true ∧ p.2.length ≤ c ∧ c ≤ M63 ∧ (A = none → c = 0) ∧ Rw kByte w S A p.2.length p.2 := by
  obtain ⟨ca, cb, rfl, ⟨rfl, h1⟩, A, c, rfl, h2, h3, h4, h5⟩ := h
  exact ⟨A, c, rfl, h1, h2, h3, h4, h5⟩
theorem kPat_mk {w : World} {S : Nat → Prop} {a : Int} {d : List Nat} {A : Option Addr} {c : Nat} (h1 : (Lit.int .i64 a).wf = true) (h2 : d.length ≤ c) (h3 : c ≤ M63) (h4 : A = none → c = 0) (h5 : Rw kByte w S A d.length d) : kPat.K w S (a, d) [.int .i64 a, .slice A d.length c] :=
  ⟨[.int .i64 a], [.slice A d.length c], rfl, ⟨rfl, h1⟩, A, c, rfl, h2, h3, h4, h5⟩
theorem wf_nat (n : Nat) (h : n ≤ 9223372036854775807) : (Lit.int .i64 (n : Int)).wf = true := by
  simp [Lit.wf, IntKind.min, IntKind.max, IntKind.signed, IntKind.bits]; omega
/-! ### plain: the patches between two blocks, of the first i bytes -/
/-- Do the blocks part in a place? -/
def neqB (a b : List Nat) (i : Nat) : Bool := a.getD i 0 != b.getD i 0
/-- Does a run of places in which they part begin there? -/
def startB (a b : List Nat) (i : Nat) : Bool := i == 0 || !neqB a b (i - 1)
def addLast (l : List Pt) (x : Nat) : List Pt := l.dropLast ++ (match l.getLast? with | some p => [(p.1, p.2 ++ [x])] | none => [])
def diffK (a b : List Nat) : Nat → List Pt
  | 0 => []
  | i + 1 => if neqB a b i then (if startB a b i then diffK a b i ++ [((i : Int), [b.getD i 0])] else addLast (diffK a b i) (b.getD i 0)) else diffK a b i
def diffL (a b : List Nat) : List Pt := diffK a b 256
theorem diffK_len (a b : List Nat) (i : Nat) : (diffK a b i).length ≤ i := by
  induction i with
  | zero => simp [diffK]
  | succ i ih =>
    unfold diffK
    split
    · split
      · simp; omega
      · unfold addLast
        cases h : (diffK a b i).getLast? with
        | none => simp; omega
        | some p => simp; have := List.getLast?_eq_some_iff.1 h; obtain ⟨l, hl⟩ := this; rw [hl]; simp; rw [hl] at ih; simp at ih; omega
    · omega
theorem diffK_eq (a b : List Nat) (i : Nat) (h : neqB a b i = false) : diffK a b (i + 1) = diffK a b i := by
  show (if neqB a b i then _ else _) = _; rw [h]; rfl
/-- Within a run. -/
theorem diffK_run (a b : List Nat) (s : Nat) (h0 : startB a b s = true) : ∀ m, 0 < m → (∀ j, s ≤ j → j < s + m → neqB a b j = true) → diffK a b (s + m) = diffK a b s ++ [((s : Int), (List.range m).map fun j => b.getD (s + j) 0)] := by
  intro m
  induction m with
  | zero => intro h; omega
  | succ m ih =>
    intro _ hall
    show (if neqB a b (s + m) then (if startB a b (s + m) then diffK a b (s + m) ++ [(((s + m : Nat) : Int), [b.getD (s + m) 0])] else addLast (diffK a b (s + m)) (b.getD (s + m) 0)) else diffK a b (s + m)) = _
    rw [hall (s + m) (by omega) (by omega), if_pos rfl]
    by_cases hm : m = 0
    · subst hm
      rw [show s + 0 = s from rfl, h0, if_pos rfl]
      rfl
    · have hst : startB a b (s + m) = false := by
        unfold startB
        rw [show s + m - 1 = s + (m - 1) from by omega, hall (s + (m - 1)) (by omega) (by omega)]
        simp; omega
      rw [hst, if_neg (by simp), ih (by omega) (fun j h1 h2 => hall j h1 (by omega))]
      unfold addLast
      rw [List.dropLast_concat, List.getLast?_concat]
      simp only [List.range_succ, List.map_append, List.map_cons, List.map_nil]
theorem neqB_at (a b : List Nat) (i : Nat) (ha : i < a.length) (hb : i < b.length) : neqB a b i = (((a[i] : Nat) : Int) != ((b[i] : Nat) : Int)) := by
  unfold neqB
  rw [getD_at _ _ ha, getD_at _ _ hb]
  cases h : (a[i] != b[i])
  · rw [bne_eq_false_iff_eq] at h; rw [h]; simp
  · rw [bne_iff_ne] at h; symm; rw [bne_iff_ne]; intro e; exact h (Int.ofNat.inj e)
theorem patInfo : (Try.prog.info? 60).map (fun i => (i.zero, i.size, i.bytes)) = some (some (.agg #[.int .i64 0, .slice none 0 0]), 2, 32) := by kernel_rfl

set_option maxHeartbeats 2000000 in
set_option maxRecDepth 100000 in
theorem diff_any (a b : List Nat) (w : World) (ha : a.length = 256) (hb : b.length = 256) (hbb : ∀ x ∈ b, x < 256) :
    Calls Try.prog 62 #[.agg (blk a), .agg (blk b)] w fun e w' => ∃ v, e = .returned v ∧ OwnK kPat w' w.heap.size 60 v (diffL a b) ∧ Below w.heap.size w w' := by
  obtain ⟨hr2, hr3, hbel⟩ := two_rows w 26 26 (blk a) (blk b)
  have hE : Hid (∀ i, diffK a b (i + 1) = if neqB a b i then (if startB a b i then diffK a b i ++ [((i : Int), [b.getD i 0])] else addLast (diffK a b i) (b.getD i 0)) else diffK a b i) := fun i => rfl
  go_enter Try.func62, Try.ntmps62
  go_wp2
  generalize (w.alloc (.cells (blk a) 26)).alloc (.cells (blk b) 26) = w1 at *
  obtain ⟨g, hg⟩ : ∃ g, w.heap.size = g := ⟨_, rfl⟩
  have HG := Lib.hid hg
  rw [hg] at hr2 hr3 hbel ⊢
  clear hg
  have HA := Lib.hid ha
  have HB := Lib.hid hb
  clear ha hb
  go_step3
  go_wp2
  go_step3
  go_wp2
  go_loopw [5, 6] (fun v i wr => ∃ (u : Value) (k : Nat), u = v ∧ k ≤ 256 ∧ i = .int .i64 k ∧ (k < 256 → neqB a b k = true → startB a b k = true) ∧ OwnK kPat wr (g + 1 + 1) 60 u (diffK a b k) ∧ Row wr g 26 (blk a) ∧ Row wr (g + 1) 26 (blk b) ∧ Below g w wr) (fun _ i _ => 256 - (intOf i).toNat)
  case atStart => exact ⟨_, 0, rfl, by omega, rfl, fun _ _ => rfl, OwnK.nil _ _ _ _, hr2, hr3, hbel⟩
  case round =>
    clear hr2 hr3 hbel
    obtain ⟨u, k, rfl, hk, rfl, hst, hown, hr2, hr3, hbel⟩ := hrel
    have HS := Lib.hid hst
    clear hst
    by_cases hlt : k < 256
    · have hka : k < a.length := by rw [HA.out]; exact hlt
      have hkb : k < b.length := by rw [HB.out]; exact hlt
      have h0k : (0 : Int) ≤ (k : Int) := by omega
      have h1k : (k : Int) < 256 := by omega
      have ca := hr2.cell k (blk_get a k hka)
      have cb := hr3.cell k (blk_get b k hkb)
      have hne := neqB_at a b k hka hkb
      cases hq : neqB a b k with
      | false =>
        rw [hq] at hne
        have hc : (((a[k] : Nat) : Int) == ((b[k] : Nat) : Int)) = true := by
          rw [beq_iff_eq]
          exact (bne_eq_false_iff_eq.1 hne.symm)
        have HD := Lib.hid (diffK_eq a b k hq)
        have HS2 : Hid (k + 1 < 256 → neqB a b (k + 1) = true → startB a b (k + 1) = true) := by
          intro _ _
          unfold startB
          rw [show k + 1 - 1 = k from by omega, hq]; simp
        generalize a[k] = x at *
        generalize b[k] = y at *
        clear hne hq
        go_wp2
        go_quiet (fail)
        go_wp2
        go_roundw
        case rel => exact ⟨_, k + 1, rfl, by omega, by go_num, HS2.out, by rw [HD.out]; exact hown.drewN nq, hr2.drewN nq, hr3.drewN nq, bdrewN hbel nq⟩
        case measure => simp [intOf]; omega
      | true =>
        rw [hq] at hne
        have hc : (((a[k] : Nat) : Int) == ((b[k] : Nat) : Int)) = false := by
          rw [beq_eq_false_iff_ne]
          exact (bne_iff_ne.1 hne.symm)
        have hs0 := HS.out hlt hq
        have HQ := Lib.hid hq
        generalize a[k] = x at *
        generalize b[k] = y at *
        clear hne hq
        go_wp2
        go_quiet (fail)
        have hownB := hown.drewN nq
        have hr2B := hr2.drewN nq
        have hr3B := hr3.drewN nq
        have hbelB := bdrewN hbel nq
        clear hown hr2 hr3 hbel ca cb
        generalize wr.drewN nq = wB at *
        have hp0 := Row.new wB 60 #[.int .i64 0, .slice none 0 0]
        have hbp := below_setRow ((Below.refl wB.heap.size wB).alloc (Nat.le_refl _) (.cells #[.int .i64 0, .slice none 0 0] 60)) (Nat.le_refl _) #[.int .i64 (k : Int), .slice none 0 0]
        go_wp2_with (with_reducible refine wpList_storeRow rfl 60 _ _ rfl _ rfl #[.int .i64 (k : Int), .slice none 0 0] rfl #[.int .i64 0, .slice none 0 0] 60 2 patSize rfl rfl (pat_one _ _ _ _) hp0 ?_)
        have hp1 := hp0.set #[.int .i64 (k : Int), .slice none 0 0]
        clear hp0
        generalize (wB.alloc (.cells #[.int .i64 0, .slice none 0 0] 60)).setRow wB.heap.size #[.int .i64 (k : Int), .slice none 0 0] = wC at *
        obtain ⟨gp, hgp⟩ : ∃ gp, wB.heap.size = gp := ⟨_, rfl⟩
        have HGP := Lib.hid hgp
        have hggp : g + 1 < gp := by have := hr3B.lt; omega
        have hgB : g ≤ wB.heap.size := by omega
        rw [hgp] at hp1 hbp ⊢
        clear hgp
        have hlen := diffK_len a b k
        try simp only [Act.put, List.setIfInBounds_toArray, List.set_cons_zero, List.set_cons_succ]
        go_loopw [6] (fun i wr => ∃ (u2 : Value) (m : Nat), k + m ≤ 256 ∧ i = .int .i64 ((k + m : Nat) : Int) ∧ (∀ j, k ≤ j → j < k + m → neqB a b j = true) ∧ Own wr (gp + 1) 5 V8 u2 ((List.range m).map fun j => b.getD (k + j) 0) ∧ Row wr gp 60 #[.int .i64 (k : Int), u2] ∧ Below gp wB wr) (fun i _ => 256 - (intOf i).toNat)
        case atStart => exact ⟨_, 0, by omega, rfl, fun j h1 h2 => by omega, Own.nil _ _ _ _, hp1, hbp⟩
        case round =>
          clear hp1 hbp
          obtain ⟨u2, m, hm, rfl, hall, hin, hp1, hbp⟩ := hrel
          have HALL := Lib.hid hall
          clear hall
          have hbp' : Below wB.heap.size wB wr := by rw [HGP.out]; exact hbp
          have hr2 := hr2B.below hbp'
          have hr3 := hr3B.below hbp'
          have hgz := hp1.lt
          by_cases hlt2 : k + m < 256
          · have hka2 : k + m < a.length := by rw [HA.out]; exact hlt2
            have hkb2 : k + m < b.length := by rw [HB.out]; exact hlt2
            have ca := hr2.cell (k + m) (blk_get a _ hka2)
            have cb := hr3.cell (k + m) (blk_get b _ hkb2)
            have hne := neqB_at a b (k + m) hka2 hkb2
            have hgd := getD_at b (k + m) hkb2
            have hyb : b[k + m] < 256 := hbb _ (List.getElem_mem _)
            have h0j : (0 : Int) ≤ ((k + m : Nat) : Int) := by omega
            have h1j : ((k + m : Nat) : Int) < 256 := by omega
            cases hq : neqB a b (k + m) with
            | false =>
              have hm0 : 0 < m := by
                rcases Nat.eq_zero_or_pos m with h | h
                · subst h
                  rw [show k + 0 = k from rfl, HQ.out] at hq; cases hq
                · exact h
              have HD := Lib.hid (diffK_run a b k hs0 m hm0 HALL.out)
              have hrl : ((List.range m).map fun j => b.getD (k + j) 0).length = m := by rw [List.length_map, List.length_range]
              have hRb : ∀ x ∈ ((List.range m).map fun j => b.getD (k + j) 0), x < 256 := by
                intro x hx
                obtain ⟨j, _, rfl⟩ := List.mem_map.1 hx
                rw [List.getD_eq_getElem?_getD]
                by_cases hj : k + j < b.length
                · rw [List.getElem?_eq_getElem hj]; exact hbb _ (List.getElem_mem _)
                · rw [List.getElem?_eq_none (by omega)]; decide
              generalize ((List.range m).map fun j => b.getD (k + j) 0) = R at *
              subst hrl
              obtain ⟨A2, c2, rfl, q1, q2, q3, q4⟩ := own_byF hin hRb
              obtain ⟨kk, hkk⟩ : ∃ kk, k + R.length = kk := ⟨_, rfl⟩
              have HKK := Lib.hid hkk
              have hc : (((a[k + R.length] : Nat) : Int) != ((b[k + R.length] : Nat) : Int)) = false := by rw [← hne]; exact hq
              generalize a[k + R.length] = x2 at *
              generalize b[k + R.length] = y2 at *
              have HST : Hid (k + R.length < 256 → neqB a b (k + R.length) = true → startB a b (k + R.length) = true) := fun _ h => by rw [hq] at h; cases h
              rw [hkk] at ca cb h0j h1j hlt2 ⊢
              clear hne hq hgd hyb hka2 hkb2 hkk
              go_wp2
              go_quiet (fail)
              have hownq := (hownB.below hbp').drewN nq
              have hpq := hp1.drewN nq
              have h2q := hr2.drewN nq
              have h3q := hr3.drewN nq
              have hbq := bdrewN (hbelB.trans (hbp'.mono hgB)) nq
              have q4q : Rw kByte (wr.drewN nq) (fun x => gp + 1 ≤ x ∧ x < wr.heap.size) A2 R.length R := q4.drewN nq
              have hltB := hownB.lt
              have hgzq : gp < (wr.drewN nq).heap.size := hgz
              have hszq : (wr.drewN nq).heap.size = wr.heap.size := rfl
              rw [← hszq] at q4q
              clear hownB hp1 hr2 hr3 hbp hbp' hin q4 hgz hszq
              generalize wr.drewN nq = wq at *
              have c0 := hpq.cell 0 rfl
              have c1 := hpq.cell 1 rfl
              have hrow := Row.new wq 60 #[.int .i64 (k : Int), .slice A2 R.length c2]
              have hgq : g ≤ wq.heap.size := by omega
              have hK2 := kPat_mk (w := wq.alloc (.cells #[.int .i64 (k : Int), .slice A2 R.length c2] 60)) (wf_nat k (by omega)) q1 q2 q3 (q4q.stay fun x hx => Below.heap_alloc _ _ _ hx.2)
              go_wp2_with (at_builtin; refine wpList_appK rfl _ _ 50 rfl (.agg #[.int .i64 0, .slice none 0 0]) 32 Try.underlying50 patInfo rfl (by decide) rfl _ _ rfl (hownq.alloc _) 60 [.int .i64 (k : Int), .slice A2 R.length c2] hrow ((k : Int), R) _ hK2 (fun x hx => ⟨fun e => by have := hltB x e.symm; have := HGP.out; omega, by simp; omega⟩) (by omega) (by omega) (by simp; omega) ?_; intro v4 w4 hown4 hg4 hat4)
              have hbl4 := hownq.lt
              have hr24 := gb_row hg4 (h2q.alloc (.cells #[.int .i64 (k : Int), .slice A2 R.length c2] 60)) (fun e => by have := hbl4 g e.symm; omega)
              have hr34 := gb_row hg4 (h3q.alloc (.cells #[.int .i64 (k : Int), .slice A2 R.length c2] 60)) (fun e => by have := hbl4 (g + 1) e.symm; omega)
              have hb4 := (hbq.alloc hgq (.cells #[.int .i64 (k : Int), .slice A2 R.length c2] 60)).grown hg4 (by simp; omega) (fun q hq => by have := hbl4 q hq; omega)
              rw [← HD.out, HKK.out] at hown4
              rw [HKK.out] at HST
              go_roundw
              case rel => exact ⟨v4, kk, rfl, by have := HKK.out; omega, rfl, HST.out, hown4, hr24, hr34, hb4⟩
              case measure => simp [intOf]; have := HKK.out; omega
            | true =>
              rw [hq] at hne
              have HALL2 : Hid (∀ j, k ≤ j → j < k + (m + 1) → neqB a b j = true) := by
                intro j h1 h2
                by_cases e : j = k + m
                · subst e; exact hq
                · exact HALL.out j h1 (by omega)
              have HR : Hid (((List.range (m + 1)).map fun j => b.getD (k + j) 0) = ((List.range m).map fun j => b.getD (k + j) 0) ++ [b[k + m]]) := by
                show _ = _
                rw [List.range_succ, List.map_append, List.map_cons, List.map_nil, hgd]
              have hc := hne.symm
              generalize a[k + m] = x2 at *
              generalize b[k + m] = y2 at *
              have hrl : ((List.range m).map fun j => b.getD (k + j) 0).length = m := by rw [List.length_map, List.length_range]
              generalize ((List.range m).map fun j => b.getD (k + j) 0) = R at *
              obtain ⟨kk, hkk⟩ : ∃ kk, k + m = kk := ⟨_, rfl⟩
              have hm256 : m ≤ 256 := by omega
              have HKK := Lib.hid hkk
              rw [hkk] at ca cb h0j h1j hlt2 ⊢
              clear hne hq hgd hkk hka2 hkb2 hm
              go_wp2
              go_quiet (fail)
              have hinq := hin.drewN nq
              have hpq := (hp1.drewN nq).drew
              have hbq := (bdrewN hbp nq).drew
              have hb3q := (hr3.drewN nq).drew
              have hlt3 : gp < (wr.drewN nq).heap.size := hp1.lt
              have cbq : (wr.drewN nq).drew.cell? ⟨g + 1, kk, none⟩ = some (.int .u8 (y2 : Int)) := cb
              clear ca cb hin hp1 hbp hbp' hr2 hr3
              have c1 := hpq.cell 1 rfl
              have c1b : (wr.drewN nq).cell? ⟨gp, 1, none⟩ = some u2 := c1
              go_wp2
              generalize wr.drewN nq = wq at *
              have c1a := (hpq.alloc (.cells #[.int .u8 (y2 : Int)] 5)).cell 1 rfl
              have hRl : R.length ≤ 256 := by omega
              have hl3 : (R ++ [y2]).length = m + 1 := by rw [List.length_append, List.length_singleton, hrl]
              have hsl1 : Sl (wq.drew.alloc (.cells #[.int .u8 (y2 : Int)] 5)) V8 (some ⟨wq.heap.size, 0, none⟩) 1 [y2] := sl_block (Row.new wq.drew 5 #[.int .u8 (y2 : Int)]) rfl (by simp)
              refine wp_region_held_drew (S := Go.RowKit.Below (gp) (wq.drew)) (by kernel_rfl) ?hb12 (fun hHeld => ?rest12)
              case hb12 =>
                exact Go.RowKit.Below.refl _ _
              case' rest12 => skip
              have hCl := fun (wS : World) (hSw : Go.RowKit.Below (gp) (wq.drew) wS) =>  Mem.bl_cell hSw cbq (by first | omega | (dsimp only; omega) | exact World.block_lt_of_cell? _ _ cbq | (simp <;> omega))
              replace hCl := Go.Lib.hid hCl
              refine Mem.tkY 0 ?v13 (hy := Or.inl ⟨by rfl, ?y13⟩) (hS := by assumption) (h := ?r13)
              case y13 => (intro w hSw; clear hSw; go_simp; try with_reducible rfl)
              case' r13 => skip
              refine Mem.tkY 2 ?v14 (hy := Or.inl ⟨by rfl, ?y14⟩) (hS := by assumption) (h := ?r14)
              case y14 => (intro w hSw; clear hSw; go_simp; try with_reducible rfl)
              case' r14 => skip
              refine Mem.tkY 3 ?v15 (hy := Or.inl ⟨by rfl, ?y15⟩) (hS := by assumption) (h := ?r15)
              case y15 => (intro w hSw; clear hSw; go_simp; try with_reducible rfl)
              case' r15 => skip
              try simp only [List.getElem_toArray, List.getElem_cons_succ, List.getElem_cons_zero, Act.put, List.setIfInBounds_toArray, List.set_cons_zero, List.set_cons_succ]
              refine Mem.tkY 4 ?v16 (hy := Or.inl ⟨by rfl, ?y16⟩) (hS := by assumption) (h := ?r16)
              case y16 => (intro w hSw; have hT0 := hCl.out w hSw; clear hSw; go_simp; try with_reducible rfl)
              case' r16 => skip
              try simp only [List.getElem_toArray, List.getElem_cons_succ, List.getElem_cons_zero, Act.put, List.setIfInBounds_toArray, List.set_cons_zero, List.set_cons_succ]
              refine wpAnyH_ready (rs := [1, 5]) (by kernel_rfl) (by simp) ?_
              refine AllReadyH.cons rfl (fun K hK => ?_) ?_
              · skip
                go_simp
                have hSnew := hHeld
                try go_wp2_with fail
                refine hK.out _ _ ?_ (fun hHeld2 => ?_)
                · exact hSnew
                clear hK K hHeld hSnew
                have hHeld := hHeld2
                clear hHeld2
                try simp only [List.getElem_toArray, List.getElem_cons_succ, List.getElem_cons_zero, Act.put, List.setIfInBounds_toArray, List.set_cons_zero, List.set_cons_succ]
                refine wpAnyH_ready (rs := [5]) (by kernel_rfl) (by simp) ?_
                refine AllReadyH.cons rfl (fun K hK => ?_) AllReadyH.nil
                go_simp
                have hbl := (Below.refl _ wq.drew).alloc (Nat.le_refl _) (.cells #[.int .u8 (y2 : Int)] 5)
                try go_wp2_with fail
                have hSnew := Mem.bl_step hHeld hbl (by first | exact Nat.le_refl _ | omega | (simp <;> omega))
                refine hK.out _ _ ?_ (fun hHeld2 => ?_)
                · exact hSnew
                clear hbl
                clear hK K hHeld hSnew
                have hHeld := hHeld2
                clear hHeld2
                try simp only [List.getElem_toArray, List.getElem_cons_succ, List.getElem_cons_zero, Act.put, List.setIfInBounds_toArray, List.set_cons_zero, List.set_cons_succ]
                refine wpAnyH_ready (rs := [6]) (by kernel_rfl) (by simp) ?_
                refine AllReadyH.cons rfl (fun K hK => ?_) AllReadyH.nil
                rw [if_pos (by rfl)]
                refine wp_app _ _ _ (by rfl) (V8 0) 1 Try.underlying34 u8Info rfl (by rfl) (by rfl) (hinq.drew.alloc _) hsl1 (fun h => by cases h) V8_one (by simp; omega) (by simp; omega) (by simp; omega) ?_; intro v3 w3 hown3 hg3 hat3; obtain ⟨A3, cp3, hv3⟩ := hown3.slice; rw [hl3] at hv3; subst hv3; have hblk := hinq.lt; have hSnew := hHeld.grown hg3 (by simp; omega) (fun q hq => by have := hblk q hq; omega); have hp3 := gb_row hg3 (hpq.alloc (.cells #[.int .u8 (y2 : Int)] 5)) (fun e => by have := hblk gp e.symm; omega); have c3 := hp3.cell 1 rfl; have f3 := hp3.frozen 1
                refine hK.out _ _ ?_ (fun hHeld2 => ?_)
                · exact hSnew
                clear hK K hHeld hSnew
                have hHeld := hHeld2
                clear hHeld2
                try simp only [List.getElem_toArray, List.getElem_cons_succ, List.getElem_cons_zero, Act.put, List.setIfInBounds_toArray, List.set_cons_zero, List.set_cons_succ]
                refine Mem.tkY 7 ?v17 (hy := Or.inl ⟨by rfl, ?y17⟩) (hS := by assumption) (h := ?r17)
                case y17 => (intro w hSw; clear hSw; go_simp; try with_reducible rfl)
                case' r17 => skip
                try simp only [List.getElem_toArray, List.getElem_cons_succ, List.getElem_cons_zero, Act.put, List.setIfInBounds_toArray, List.set_cons_zero, List.set_cons_succ]
                refine wpAnyH_ready (rs := [8]) (by kernel_rfl) (by simp) ?_
                refine AllReadyH.cons rfl (fun K hK => ?_) AllReadyH.nil
                go_simp
                have hSnew := hHeld.setCell (p := ⟨gp, 1, none⟩) (Nat.le_refl _) (.slice A3 (m + 1) cp3)
                try go_wp2_with fail
                refine hK.out _ _ ?_ (fun hHeld2 => ?_)
                · exact hSnew
                clear hK K hHeld hSnew
                have hHeld := hHeld2
                clear hHeld2
                try simp only [List.getElem_toArray, List.getElem_cons_succ, List.getElem_cons_zero, Act.put, List.setIfInBounds_toArray, List.set_cons_zero, List.set_cons_succ]
                refine wpAnyH_done (by kernel_rfl) ?_ _
                clear hCl
                go_wp2
                have hp4 := hp3.put 1 (.slice A3 (m + 1) cp3)
                have hbq2 := hbq.trans hHeld
                go_roundw
                case rel => exact ⟨.slice A3 (m + 1) cp3, m + 1, by have := HKK.out; omega, by rw [show k + (m + 1) = kk + 1 from by have := HKK.out; omega]; go_num, HALL2.out, by rw [HR.out]; exact own_grown hown3 (grown_setCell _ _ _) (fun q hq => by have := hown3.lt q hq; simp; omega), hp4, hbq2⟩
                case measure => simp [intOf]; omega
              refine AllReadyH.cons rfl (fun K hK => ?_) ?_
              · skip
                go_simp
                have hbl := (Below.refl _ wq.drew).alloc (Nat.le_refl _) (.cells #[.int .u8 (y2 : Int)] 5)
                try go_wp2_with fail
                have hSnew := Mem.bl_step hHeld hbl (by first | exact Nat.le_refl _ | omega | (simp <;> omega))
                refine hK.out _ _ ?_ (fun hHeld2 => ?_)
                · exact hSnew
                clear hbl
                clear hK K hHeld hSnew
                have hHeld := hHeld2
                clear hHeld2
                try simp only [List.getElem_toArray, List.getElem_cons_succ, List.getElem_cons_zero, Act.put, List.setIfInBounds_toArray, List.set_cons_zero, List.set_cons_succ]
                refine wpAnyH_ready (rs := [1]) (by kernel_rfl) (by simp) ?_
                refine AllReadyH.cons rfl (fun K hK => ?_) AllReadyH.nil
                go_simp
                have hSnew := hHeld
                try go_wp2_with fail
                refine hK.out _ _ ?_ (fun hHeld2 => ?_)
                · exact hSnew
                clear hK K hHeld hSnew
                have hHeld := hHeld2
                clear hHeld2
                try simp only [List.getElem_toArray, List.getElem_cons_succ, List.getElem_cons_zero, Act.put, List.setIfInBounds_toArray, List.set_cons_zero, List.set_cons_succ]
                refine wpAnyH_ready (rs := [6]) (by kernel_rfl) (by simp) ?_
                refine AllReadyH.cons rfl (fun K hK => ?_) AllReadyH.nil
                rw [if_pos (by rfl)]
                refine wp_app _ _ _ (by rfl) (V8 0) 1 Try.underlying34 u8Info rfl (by rfl) (by rfl) (hinq.drew.alloc _) hsl1 (fun h => by cases h) V8_one (by simp; omega) (by simp; omega) (by simp; omega) ?_; intro v3 w3 hown3 hg3 hat3; obtain ⟨A3, cp3, hv3⟩ := hown3.slice; rw [hl3] at hv3; subst hv3; have hblk := hinq.lt; have hSnew := hHeld.grown hg3 (by simp; omega) (fun q hq => by have := hblk q hq; omega); have hp3 := gb_row hg3 (hpq.alloc (.cells #[.int .u8 (y2 : Int)] 5)) (fun e => by have := hblk gp e.symm; omega); have c3 := hp3.cell 1 rfl; have f3 := hp3.frozen 1
                refine hK.out _ _ ?_ (fun hHeld2 => ?_)
                · exact hSnew
                clear hK K hHeld hSnew
                have hHeld := hHeld2
                clear hHeld2
                try simp only [List.getElem_toArray, List.getElem_cons_succ, List.getElem_cons_zero, Act.put, List.setIfInBounds_toArray, List.set_cons_zero, List.set_cons_succ]
                refine Mem.tkY 7 ?v18 (hy := Or.inl ⟨by rfl, ?y18⟩) (hS := by assumption) (h := ?r18)
                case y18 => (intro w hSw; clear hSw; go_simp; try with_reducible rfl)
                case' r18 => skip
                try simp only [List.getElem_toArray, List.getElem_cons_succ, List.getElem_cons_zero, Act.put, List.setIfInBounds_toArray, List.set_cons_zero, List.set_cons_succ]
                refine wpAnyH_ready (rs := [8]) (by kernel_rfl) (by simp) ?_
                refine AllReadyH.cons rfl (fun K hK => ?_) AllReadyH.nil
                go_simp
                have hSnew := hHeld.setCell (p := ⟨gp, 1, none⟩) (Nat.le_refl _) (.slice A3 (m + 1) cp3)
                try go_wp2_with fail
                refine hK.out _ _ ?_ (fun hHeld2 => ?_)
                · exact hSnew
                clear hK K hHeld hSnew
                have hHeld := hHeld2
                clear hHeld2
                try simp only [List.getElem_toArray, List.getElem_cons_succ, List.getElem_cons_zero, Act.put, List.setIfInBounds_toArray, List.set_cons_zero, List.set_cons_succ]
                refine wpAnyH_done (by kernel_rfl) ?_ _
                clear hCl
                go_wp2
                have hp4 := hp3.put 1 (.slice A3 (m + 1) cp3)
                have hbq2 := hbq.trans hHeld
                go_roundw
                case rel => exact ⟨.slice A3 (m + 1) cp3, m + 1, by have := HKK.out; omega, by rw [show k + (m + 1) = kk + 1 from by have := HKK.out; omega]; go_num, HALL2.out, by rw [HR.out]; exact own_grown hown3 (grown_setCell _ _ _) (fun q hq => by have := hown3.lt q hq; simp; omega), hp4, hbq2⟩
                case measure => simp [intOf]; omega
              exact AllReadyH.nil
          · have hm256 : k + m = 256 := by omega
            have hm0 : 0 < m := by
              rcases Nat.eq_zero_or_pos m with h | h
              · subst h
                omega
              · exact h
            have HD := Lib.hid (diffK_run a b k hs0 m hm0 HALL.out)
            have hrl : ((List.range m).map fun j => b.getD (k + j) 0).length = m := by rw [List.length_map, List.length_range]
            have hRb : ∀ x ∈ ((List.range m).map fun j => b.getD (k + j) 0), x < 256 := by
              intro x hx
              obtain ⟨j, _, rfl⟩ := List.mem_map.1 hx
              rw [List.getD_eq_getElem?_getD]
              by_cases hj : k + j < b.length
              · rw [List.getElem?_eq_getElem hj]; exact hbb _ (List.getElem_mem _)
              · rw [List.getElem?_eq_none (by omega)]; decide
            generalize ((List.range m).map fun j => b.getD (k + j) 0) = R at *
            subst hrl
            obtain ⟨A2, c2, rfl, q1, q2, q3, q4⟩ := own_byF hin hRb
            obtain ⟨kk, hkk⟩ : ∃ kk, k + R.length = kk := ⟨_, rfl⟩
            have HKK := Lib.hid hkk
            have HST : Hid (k + R.length < 256 → neqB a b (k + R.length) = true → startB a b (k + R.length) = true) := fun h _ => by omega
            have hk256 : decide ((kk : Int) < 256) = false := decide_eq_false (by omega)
            rw [hkk] at hlt2 ⊢
            clear hkk hm256
            go_wp2
            go_quiet (fail)
            have hownq := (hownB.below hbp').drewN nq
            have hpq := hp1.drewN nq
            have h2q := hr2.drewN nq
            have h3q := hr3.drewN nq
            have hbq := bdrewN (hbelB.trans (hbp'.mono hgB)) nq
            have q4q : Rw kByte (wr.drewN nq) (fun x => gp + 1 ≤ x ∧ x < wr.heap.size) A2 R.length R := q4.drewN nq
            have hltB := hownB.lt
            have hgzq : gp < (wr.drewN nq).heap.size := hgz
            have hszq : (wr.drewN nq).heap.size = wr.heap.size := rfl
            rw [← hszq] at q4q
            clear hownB hp1 hr2 hr3 hbp hbp' hin q4 hgz hszq
            generalize wr.drewN nq = wq at *
            have c0 := hpq.cell 0 rfl
            have c1 := hpq.cell 1 rfl
            have hrow := Row.new wq 60 #[.int .i64 (k : Int), .slice A2 R.length c2]
            have hgq : g ≤ wq.heap.size := by omega
            have hK2 := kPat_mk (w := wq.alloc (.cells #[.int .i64 (k : Int), .slice A2 R.length c2] 60)) (wf_nat k (by omega)) q1 q2 q3 (q4q.stay fun x hx => Below.heap_alloc _ _ _ hx.2)
            go_wp2_with (at_builtin; refine wpList_appK rfl _ _ 50 rfl (.agg #[.int .i64 0, .slice none 0 0]) 32 Try.underlying50 patInfo rfl (by decide) rfl _ _ rfl (hownq.alloc _) 60 [.int .i64 (k : Int), .slice A2 R.length c2] hrow ((k : Int), R) _ hK2 (fun x hx => ⟨fun e => by have := hltB x e.symm; have := HGP.out; omega, by simp; omega⟩) (by omega) (by omega) (by simp; omega) ?_; intro v4 w4 hown4 hg4 hat4)
            have hbl4 := hownq.lt
            have hr24 := gb_row hg4 (h2q.alloc (.cells #[.int .i64 (k : Int), .slice A2 R.length c2] 60)) (fun e => by have := hbl4 g e.symm; omega)
            have hr34 := gb_row hg4 (h3q.alloc (.cells #[.int .i64 (k : Int), .slice A2 R.length c2] 60)) (fun e => by have := hbl4 (g + 1) e.symm; omega)
            have hb4 := (hbq.alloc hgq (.cells #[.int .i64 (k : Int), .slice A2 R.length c2] 60)).grown hg4 (by simp; omega) (fun q hq => by have := hbl4 q hq; omega)
            rw [← HD.out, HKK.out] at hown4
            rw [HKK.out] at HST
            go_roundw
            case rel => exact ⟨v4, kk, rfl, by have := HKK.out; omega, rfl, HST.out, hown4, hr24, hr34, hb4⟩
            case measure => simp [intOf]; have := HKK.out; omega
    · obtain rfl : k = 256 := by omega
      go_wp2
      try rw [Exit.noGoto_ret]
      go_ret
      exact ⟨_, rfl, by rw [HG.out]; exact hown.mono (by omega), by rw [HG.out]; exact hbel⟩
end Go.Proofs.Yteeodeooicoekaa.Pat
