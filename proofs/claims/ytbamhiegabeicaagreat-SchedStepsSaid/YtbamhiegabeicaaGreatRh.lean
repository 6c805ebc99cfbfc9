/- The document's Blocks. No statement is proved here. -/
import Derived.Test.YtbamhiegabeicaaGreatRg
namespace Go.Proofs.YtbamhiegabeicaaGreat.Rd
open Go.RowKit Go.Proofs.YtbamhiegabeicaaGreat.Mem Go.Proofs.YtbamhiegabeicaaGreat.Open Go.Proofs.YtbamhiegabeicaaGreat.Kind Go.Proofs.YtbamhiegabeicaaGreat.Blk Go.Proofs.YtbamhiegabeicaaGreat.App Go.Proofs.YtbamhiegabeicaaGreat.Pat
set_option linter.unusedVariables false
set_option linter.unusedSimpArgs false
def goodB (out : List Int) (b : Int) : Bool := match out.getLast? with | none => true | some y => decide (y < b)
def stepF (out : List Int) (b : Int) (acc : Option Int) : Option Int := if goodB out b then (match acc with | none => some b | some l => if b < l then some b else some l) else acc
def lstF (out : List Int) : List Chg → Option Int → Option Int
  | [], acc => acc
  | x :: r, acc => lstF out r (stepF out x.blk acc)
theorem lstF_spec {out : List Int} : ∀ {xs : List Chg} {acc : Option Int}, (∀ m, acc = some m → goodB out m = true) →
    match lstF out xs acc with
    | none => acc = none ∧ ∀ x ∈ xs, goodB out x.blk = false
    | some m => goodB out m = true ∧ (acc = some m ∨ ∃ x ∈ xs, x.blk = m) ∧ (∀ a, acc = some a → m ≤ a) ∧ ∀ x ∈ xs, goodB out x.blk = true → m ≤ x.blk := by
  intro xs
  induction xs with
  | nil =>
    intro acc h
    unfold lstF
    cases acc with
    | none => exact ⟨rfl, by simp⟩
    | some m => exact ⟨h m rfl, .inl rfl, fun a ha => by injection ha with ha; omega, by simp⟩
  | cons x r ih =>
    intro acc h
    unfold lstF
    have hst : ∀ m, stepF out x.blk acc = some m → goodB out m = true := by
      intro m hm
      unfold stepF at hm
      split at hm
      · rename_i hg
        split at hm
        · injection hm with hm; rw [← hm]; exact hg
        · split at hm
          · injection hm with hm; rw [← hm]; exact hg
          · injection hm with hm; rw [← hm]; exact h _ rfl
      · exact h m hm
    have ih2 := ih hst
    cases hq : lstF out r (stepF out x.blk acc) with
    | none =>
      rw [hq] at ih2
      obtain ⟨h1, h2⟩ := ih2
      unfold stepF at h1
      cases hg : goodB out x.blk with
      | true => rw [hg] at h1; simp only [if_true] at h1; split at h1 <;> (try split at h1) <;> cases h1
      | false =>
        rw [hg] at h1
        simp only [Bool.false_eq_true, if_false] at h1
        exact ⟨h1, fun y hy => by rcases List.mem_cons.1 hy with rfl | hy; exact hg; exact h2 y hy⟩
    | some m =>
      rw [hq] at ih2
      obtain ⟨h1, h2, h3, h4⟩ := ih2
      have hsx : goodB out x.blk = true → ∃ a, stepF out x.blk acc = some a ∧ a ≤ x.blk ∧ (a = x.blk ∨ acc = some a) ∧ ∀ c, acc = some c → a ≤ c := by
        intro hg
        unfold stepF
        rw [hg, if_pos rfl]
        split
        · exact ⟨_, rfl, Int.le_refl _, .inl rfl, fun c hc => by cases hc⟩
        · split
          · exact ⟨_, rfl, Int.le_refl _, .inl rfl, fun c hc => by injection hc with hc; omega⟩
          · exact ⟨_, rfl, by omega, .inr rfl, fun c hc => by injection hc with hc; omega⟩
      have hsn : goodB out x.blk = false → stepF out x.blk acc = acc := by
        intro hg; unfold stepF; rw [hg]; rfl
      refine ⟨h1, ?_, ?_, ?_⟩
      · rcases h2 with h2 | ⟨y, hy, e⟩
        · cases hg : goodB out x.blk with
          | true =>
            obtain ⟨a, ha, _, hor, _⟩ := hsx hg
            rw [ha] at h2
            injection h2 with h2
            subst h2
            rcases hor with rfl | hor
            · exact .inr ⟨x, List.mem_cons_self, rfl⟩
            · exact .inl hor
          | false => rw [hsn hg] at h2; exact .inl h2
        · exact .inr ⟨y, List.mem_cons_of_mem _ hy, e⟩
      · intro c hc
        cases hg : goodB out x.blk with
        | true =>
          obtain ⟨a, ha, _, _, hle⟩ := hsx hg
          have := h3 a ha
          have := hle c hc
          omega
        | false => exact h3 c (by rw [hsn hg]; exact hc)
      · intro y hy hgy
        rcases List.mem_cons.1 hy with rfl | hy
        · obtain ⟨a, ha, hle, _⟩ := hsx hgy
          have := h3 a ha
          omega
        · exact h4 y hy hgy
/-- What has been told so far. -/
def ToldB (xs : List Chg) (out : List Int) : Prop := out.Pairwise (· < ·) ∧ (∀ y ∈ out, ∃ x ∈ xs, x.blk = y) ∧ ∀ x ∈ xs, x.blk ∈ out ∨ ∀ y ∈ out, y < x.blk
theorem last_mem {out : List Int} {y : Int} (h : out.getLast? = some y) : y ∈ out := List.mem_of_getLast? h
theorem good_iff {out : List Int} (hp : out.Pairwise (· < ·)) (b : Int) : goodB out b = true ↔ ∀ y ∈ out, y < b := by
  unfold goodB
  cases hl : out.getLast? with
  | none =>
    have : out = [] := List.getLast?_eq_none_iff.1 hl
    subst this
    simp
  | some z =>
    simp only [decide_eq_true_eq]
    constructor
    · intro h y hy
      obtain ⟨l, rfl⟩ := List.getLast?_eq_some_iff.1 hl
      rcases List.mem_append.1 hy with hy | hy
      · have := (List.pairwise_append.1 hp).2.2 y hy z (by simp); omega
      · simp at hy; omega
    · intro h; exact h z (last_mem hl)
theorem blkP_spec : ∀ {xs : List Chg} {out : List Int}, out.Pairwise (· < ·) → (blkP xs out).Pairwise (· < ·) ∧ ∀ n, n ∈ blkP xs out ↔ n ∈ out ∨ ∃ x ∈ xs, x.blk = n := by
  intro xs
  induction xs with
  | nil => intro out h; exact ⟨h, fun n => by simp [blkP]⟩
  | cons x r ih =>
    intro out h
    unfold blkP
    obtain ⟨h1, h2⟩ := ih (sorted_putL x.blk h)
    refine ⟨h1, fun n => ?_⟩
    rw [h2 n, mem_putL]
    constructor
    · rintro ((rfl | h) | ⟨y, hy, e⟩)
      · exact .inr ⟨x, List.mem_cons_self, rfl⟩
      · exact .inl h
      · exact .inr ⟨y, List.mem_cons_of_mem _ hy, e⟩
    · rintro (h | ⟨y, hy, e⟩)
      · exact .inl (.inr h)
      · rcases List.mem_cons.1 hy with rfl | hy
        · exact .inl (.inl e.symm)
        · exact .inr ⟨y, hy, e⟩
theorem told_end {xs : List Chg} {out : List Int} (h : ToldB xs out) (hl : lstF out xs none = none) : out = blkP xs [] := by
  obtain ⟨h1, h2, h3⟩ := h
  have hs := lstF_spec (out := out) (xs := xs) (acc := none) (fun m hm => by cases hm)
  rw [hl] at hs
  obtain ⟨b1, b2⟩ := blkP_spec (xs := xs) (out := []) List.Pairwise.nil
  refine sorted_ext h1 b1 fun n => ?_
  rw [b2 n]
  constructor
  · intro hn; exact .inr (h2 n hn)
  · rintro (hn | ⟨x, hx, rfl⟩)
    · simp at hn
    · rcases h3 x hx with h | h
      · exact h
      · have := (good_iff h1 x.blk).2 h
        rw [hs.2 x hx] at this
        cases this
theorem told_next {xs : List Chg} {out : List Int} {m : Int} (h : ToldB xs out) (hl : lstF out xs none = some m) : ToldB xs (out ++ [m]) := by
  obtain ⟨h1, h2, h3⟩ := h
  have hs := lstF_spec (out := out) (xs := xs) (acc := none) (fun m hm => by cases hm)
  rw [hl] at hs
  obtain ⟨g1, g2, _, g4⟩ := hs
  have hm := (good_iff h1 m).1 g1
  refine ⟨List.pairwise_append.2 ⟨h1, by simp, fun a ha b hb => by simp at hb; subst hb; exact hm a ha⟩, ?_, ?_⟩
  · intro y hy
    rcases List.mem_append.1 hy with hy | hy
    · exact h2 y hy
    · simp at hy
      subst hy
      rcases g2 with g2 | g2
      · cases g2
      · exact g2
  · intro x hx
    rcases h3 x hx with h | h
    · exact .inl (List.mem_append_left _ h)
    · have hle := g4 x hx ((good_iff h1 x.blk).2 h)
      by_cases e : x.blk = m
      · exact .inl (by rw [e]; simp)
      · refine .inr fun y hy => ?_
        rcases List.mem_append.1 hy with hy | hy
        · exact h y hy
        · simp at hy; omega
theorem sub_len : ∀ {l b : List Int}, l.Pairwise (· < ·) → (∀ x ∈ l, x ∈ b) → l.length ≤ b.length := by
  intro l
  induction l with
  | nil => intro b _ _; simp
  | cons a r ih =>
    intro b hp hs
    obtain ⟨p1, p2⟩ := List.pairwise_cons.1 hp
    have hab := hs a List.mem_cons_self
    have := ih (b := b.erase a) p2 fun x hx => (List.mem_erase_of_ne (by have := p1 x hx; omega)).2 (hs x (List.mem_cons_of_mem _ hx))
    rw [List.length_erase_of_mem hab] at this
    have hpos := List.length_pos_of_mem hab
    simp only [List.length_cons]
    omega
theorem told_len {xs : List Chg} {out : List Int} (h : ToldB xs out) : out.length ≤ xs.length := by
  have := sub_len (b := xs.map (·.blk)) h.1 fun y hy => by obtain ⟨x, hx, e⟩ := h.2.1 y hy; exact List.mem_map.2 ⟨x, hx, e⟩
  simpa using this
def lenH : Value → Nat
  | .slice _ n _ => n
  | _ => 0
set_option maxHeartbeats 4000000 in
set_option maxRecDepth 100000 in
theorem RBlocks_any (A : Option Addr) (c : Nat) (xs : List Chg) (w : World) (hx : Chs w A xs) (hn : xs.length ≤ 1000) :
    Calls Tryz.prog 19 #[.slice A xs.length c] w fun r w' => ∃ v, r = .returned v ∧ Ns w' w.heap.size v (blkP xs []) ∧ Below w.heap.size w w' := by
  have hl : xs.length ≤ 9223372036854775807 := hx.2.1
  go_enter Tryz.func19, Tryz.ntmps19
  go_wp2
  go_loopw [3] (fun v wr => ∃ (out : List Int), Hid (ToldB xs out) ∧ Ns wr w.heap.size v out ∧ Below w.heap.size w wr) (fun v _ => xs.length + 1 - lenH v)
  case atStart => exact ⟨[], Lib.hid ⟨List.Pairwise.nil, by simp, fun x hx => .inr (by simp)⟩, Own.nil _ _ _ _, Below.refl _ _⟩
  case round =>
    obtain ⟨out, htold, hown, hbr⟩ := hrel
    have hol := told_len htold.out
    obtain ⟨A1, c1, rfl⟩ := hown.slice
    have HO := Lib.hid hown
    have HB := Lib.hid hbr
    have hle := hbr.size
    obtain ⟨n, hno⟩ : ∃ n, out.length = n := ⟨_, rfl⟩
    rw [hno] at hol ⊢ HO
    have HNO := Lib.hid hno
    clear hown hno hbr
    go_wp2_with fail
    go_loopw [4, 5, 6] (fun ls fd i wq => ∃ (j : Nat) (acc : Option Int), j ≤ xs.length ∧ i = .int .i64 j ∧ ls = .int .i64 (acc.getD 0) ∧ fd = .bool acc.isSome ∧ Hid (lstF out xs none = lstF out (xs.drop j) acc) ∧ wq = wr) (fun _ _ i _ => xs.length - (intOf i).toNat)
    case atStart => exact ⟨0, none, by omega, rfl, rfl, rfl, Lib.hid rfl, by first | trivial | rfl⟩
    case round =>
      obtain ⟨j, acc, hj, rfl, rfl, rfl, hv, rfl⟩ := hrel
      by_cases hjl : j < xs.length
      · obtain ⟨g, o, rfl, hg⟩ := ch_form hx (by omega)
        obtain ⟨B1, d1, B2, d2, hat0⟩ := ch_at hx j hjl
        have e1 := (hat0.below HB.out).v1
        have hv := hv.out
        rw [drop_at hjl] at hv
        have hv : lstF out xs none = lstF out (xs.drop (j + 1)) (stepF out xs[j].blk acc) := hv
        clear hat0
        generalize xs[j].blk = b at *
        by_cases hn0 : n = 0
        · have d0 : decide (0 < n) = false := decide_eq_false (by omega)
          have hgd : goodB out b = true := by
            have : out = [] := List.eq_nil_of_length_eq_zero (by rw [HNO.out]; exact hn0)
            rw [this]; rfl
          clear hn0
          cases acc with
          | none =>
            have HV : Hid (lstF out xs none = lstF out (xs.drop (j + 1)) (some b)) := Lib.hid (by rw [hv, show stepF out b none = some b from by unfold stepF; rw [hgd]; rfl])
            clear hv hgd
            go_wp2
            go_roundw
            case rel => exact ⟨j + 1, some b, by omega, by go_num, rfl, rfl, HV, by first | trivial | rfl⟩
            case measure => simp [intOf]; omega
          | some l =>
            by_cases hbl : b < l
            · have HV : Hid (lstF out xs none = lstF out (xs.drop (j + 1)) (some b)) := Lib.hid (by rw [hv, show stepF out b (some l) = some b from by unfold stepF; rw [hgd, if_pos rfl]; exact if_pos hbl])
              clear hv hgd
              go_wp2
              go_roundw
              case rel => exact ⟨j + 1, some b, by omega, by go_num, rfl, rfl, HV, by first | trivial | rfl⟩
              case measure => simp [intOf]; omega
            · have HV : Hid (lstF out xs none = lstF out (xs.drop (j + 1)) (some l)) := Lib.hid (by rw [hv, show stepF out b (some l) = some l from by unfold stepF; rw [hgd, if_pos rfl]; exact if_neg hbl])
              clear hv hgd
              go_wp2
              go_roundw
              case rel => exact ⟨j + 1, some l, by omega, by go_num, rfl, rfl, HV, by first | trivial | rfl⟩
              case measure => simp [intOf]; omega
        · obtain ⟨g1, hg1, hcl, hlast⟩ : ∃ g1, A1 = some ⟨g1, 0, none⟩ ∧ (∃ h : n - 1 < out.length, wr.cell? ⟨g1, n - 1, none⟩ = some (V64 (out[n - 1]'h))) ∧ out.getLast? = out[n - 1]? := by
            have hpos : 0 < out.length := by rw [HNO.out]; omega
            obtain ⟨g1, c', e⟩ := HO.out.slice_pos hpos
            injection e with e1 e2 e3
            refine ⟨g1, e1, ⟨by rw [HNO.out]; omega, ?_⟩, by rw [List.getLast?_eq_getElem?, HNO.out]⟩
            have hO := HO.out
            rw [e1] at hO
            exact hO.cell (n - 1) (by rw [HNO.out]; omega)
          subst hg1
          obtain ⟨hnl, hcell⟩ := hcl
          rw [List.getElem?_eq_getElem hnl] at hlast
          have HL := Lib.hid hlast
          have hpn : ((n : Int) - 1).toNat = n - 1 := by omega
          have i1 : (0 : Int) ≤ (n : Int) - 1 := by omega
          have i2 : (n : Int) - 1 < (n : Int) := by omega
          have i3 : 0 < n := by omega
          clear hlast
          generalize out[n - 1]'hnl = y at *
          clear hnl
          by_cases hby : b ≤ y
          · have HV : Hid (lstF out xs none = lstF out (xs.drop (j + 1)) acc) := Lib.hid (by rw [hv, show stepF out b acc = acc from by unfold stepF goodB; rw [HL.out]; simp only [decide_eq_true_eq]; exact if_neg (by omega)])
            clear hv
            go_wp2
            go_roundw
            case rel => exact ⟨j + 1, acc, by omega, by go_num, rfl, rfl, HV, by first | trivial | rfl⟩
            case measure => simp [intOf]; omega
          · have hgd : goodB out b = true := by unfold goodB; rw [HL.out]; exact decide_eq_true (by omega)
            cases acc with
            | none =>
              have HV : Hid (lstF out xs none = lstF out (xs.drop (j + 1)) (some b)) := Lib.hid (by rw [hv, show stepF out b none = some b from by unfold stepF; rw [hgd]; rfl])
              clear hv hgd
              go_wp2
              go_roundw
              case rel => exact ⟨j + 1, some b, by omega, by go_num, rfl, rfl, HV, by first | trivial | rfl⟩
              case measure => simp [intOf]; omega
            | some l =>
              by_cases hbl : b < l
              · have HV : Hid (lstF out xs none = lstF out (xs.drop (j + 1)) (some b)) := Lib.hid (by rw [hv, show stepF out b (some l) = some b from by unfold stepF; rw [hgd, if_pos rfl]; exact if_pos hbl])
                clear hv hgd
                go_wp2
                go_roundw
                case rel => exact ⟨j + 1, some b, by omega, by go_num, rfl, rfl, HV, by first | trivial | rfl⟩
                case measure => simp [intOf]; omega
              · have HV : Hid (lstF out xs none = lstF out (xs.drop (j + 1)) (some l)) := Lib.hid (by rw [hv, show stepF out b (some l) = some l from by unfold stepF; rw [hgd, if_pos rfl]; exact if_neg hbl])
                clear hv hgd
                go_wp2
                go_roundw
                case rel => exact ⟨j + 1, some l, by omega, by go_num, rfl, rfl, HV, by first | trivial | rfl⟩
                case measure => simp [intOf]; omega
      · obtain rfl : j = xs.length := by omega
        have hv := hv.out
        rw [drop_end] at hv
        cases acc with
        | none =>
          have HR := Lib.hid (told_end htold.out hv)
          clear hv
          go_wp2
          go_ret
          exact ⟨_, rfl, by rw [← HR.out]; exact HO.out, HB.out⟩
        | some m =>
          have HT2 := Lib.hid (told_next htold.out hv)
          have hlen := told_len HT2.out
          rw [List.length_append, HNO.out, List.length_singleton] at hlen
          have hc1 : (wr.alloc (.cells #[.int .i64 m] 3)).cell? ⟨wr.heap.size, 0, none⟩ = some (.int .i64 m) := by
            rw [cell_of_row _ _ _ _ _ _ (heap_alloc_new wr _)]; rfl
          have hon := HNO.out
          have hob : (out.length + 1) * 8 ≤ 140737488355328 := by omega
          have ho6 : out.length + 1 ≤ 9223372036854775807 := by omega
          clear hv hon
          go_wp2_with (at_builtin; go_loud (refine wpList_app1 rfl _ _ 47 rfl w.heap.size 3 (.int .i64 0) 8 V64 Tryz.underlying47 intInfo3 rfl (.slice A1 n c1) out m rfl _ wr.heap.size rfl (HO.out.alloc _) hc1 rfl hob ho6 (by simp; omega) ?_); intro v7 w7 hown7 hb7 hg7)
          have NB := Lib.hid ((HB.out.alloc hle (.cells #[.int .i64 m] 3)).trans hb7)
          have NO := Lib.hid hown7
          obtain ⟨A7, c7, hv7⟩ := hown7.slice
          rw [List.length_append, HNO.out, List.length_singleton] at hv7
          clear hown7 hb7 hg7
          subst hv7
          go_roundw
          case rel => exact ⟨out ++ [m], HT2, NO.out, NB.out⟩
          case measure => simp [lenH]; omega
end Go.Proofs.YtbamhiegabeicaaGreat.Rd

