/- Whether room is enough, what a script needs, whether one is too long: the contracts of need.Enough, need.Script and the document's Much. No statement is proved here. -/
import Derived.Test.YtadiamgoglodbaaSb
namespace Go.Proofs.Ytadiamgoglodbaa.Opk
open Go.RowKit Go.Proofs.Ytadiamgoglodbaa.Mem Go.Proofs.Ytadiamgoglodbaa.Open Go.Proofs.Ytadiamgoglodbaa.Kind Go.Proofs.Ytadiamgoglodbaa.Blk Go.Proofs.Ytadiamgoglodbaa.App Go.Proofs.Ytadiamgoglodbaa.Spn
set_option linter.unusedVariables false
set_option linter.unusedSimpArgs false
def enF (d o : Int) (m : Nat) (i j : Int) : Bool := decide (nB d o m ≤ i) && decide (nI d m ≤ j)
set_option maxHeartbeats 2000000 in
set_option maxRecDepth 100000 in
theorem enough_any (d : Int) (a b : ByteArray) (o n : Int) (A : Option Addr) (m c : Nat) (i j : Int) (w : World) (hm : m ≤ M63) (ho : WfJ o) :
    Calls Try.prog 9 #[opV d a b o n A m c, .int .i64 i, .int .i64 j] w fun r w' => r = .returned (.bool (enF d o m i j)) ∧ Below w.heap.size w w' := by
  have hr0 : Row (w.alloc (.cells #[.int .i64 d, .string a, .string b, .int .i64 o, .int .i64 n, .slice A m c] 29)) w.heap.size 29 #[.int .i64 d, .string a, .string b, .int .i64 o, .int .i64 n, .slice A m c] := Row.new _ _ _
  have hb0 : Below w.heap.size w (w.alloc (.cells #[.int .i64 d, .string a, .string b, .int .i64 o, .int .i64 n, .slice A m c] 29)) := (Below.refl _ _).alloc (Nat.le_refl _) _
  have HR0 := Lib.hid hr0
  have HB0 := Lib.hid hb0
  have CB := Lib.hid (fun w' => nBlocks_any d a b o n A m c w' hm ho)
  have CI := Lib.hid (fun w' => nInodes_any d a b o n A m c w' hm)
  have HF : Hid (enF d o m i j = (decide (nB d o m ≤ i) && decide (nI d m ≤ j))) := Lib.hid rfl
  generalize nB d o m = x at *
  generalize nI d m = y at *
  clear hr0 hb0
  go_enter Try.func9, Try.ntmps9
  go_wp2_with fail
  refine (CB.out _).mono ?_
  rintro e w2 ⟨rfl, hb2⟩
  have HB2 := Lib.hid (HB0.out.trans (hb2.mono HB0.out.size))
  have hr2 := HR0.out.below hb2
  have c0 : w2.cell? ⟨w.heap.size, 0, none⟩ = some (.int .i64 d) := hr2.cell 0 rfl
  have c1 : w2.cell? ⟨w.heap.size, 1, none⟩ = some (.string a) := hr2.cell 1 rfl
  have c2 : w2.cell? ⟨w.heap.size, 2, none⟩ = some (.string b) := hr2.cell 2 rfl
  have c3 : w2.cell? ⟨w.heap.size, 3, none⟩ = some (.int .i64 o) := hr2.cell 3 rfl
  have c4 : w2.cell? ⟨w.heap.size, 4, none⟩ = some (.int .i64 n) := hr2.cell 4 rfl
  have c5 : w2.cell? ⟨w.heap.size, 5, none⟩ = some (.slice A m c) := hr2.cell 5 rfl
  clear hb2 hr2 CB HB0 HR0
  by_cases h1 : x ≤ i
  · have d1 : decide (x ≤ i) = true := decide_eq_true h1
    go_wp2_with fail
    refine (CI.out _).mono ?_
    rintro e w3 ⟨rfl, hb3⟩
    have HB3 := Lib.hid (HB2.out.trans (hb3.mono HB2.out.size))
    clear hb3
    by_cases h2 : y ≤ j
    · have d2 : decide (y ≤ j) = true := decide_eq_true h2
      go_wp2
      go_ret
      exact ⟨by rw [HF.out, d1, d2]; rfl, HB3.out⟩
    · have d2 : decide (y ≤ j) = false := decide_eq_false h2
      go_wp2
      go_ret
      exact ⟨by rw [HF.out, d1, d2]; rfl, HB3.out⟩
  · have d1 : decide (x ≤ i) = false := decide_eq_false h1
    go_wp2
    go_ret
    exact ⟨by rw [HF.out, d1]; rfl, HB2.out⟩
/-- Calls that are read. -/
abbrev Ops (w : World) (A : Option Addr) (xs : List OpD) : Prop := Rw kOp w (All w) A xs.length xs
structure OpAt (w : World) (g o k : Nat) (x : OpD) (A : Option Addr) (c : Nat) : Prop where
  v0 : w.cell? ⟨g, o + k * 6, none⟩ = some (.int .i64 x.d)
  v1 : w.cell? ⟨g, o + k * 6 + 1, none⟩ = some (.string x.a)
  v2 : w.cell? ⟨g, o + k * 6 + 2, none⟩ = some (.string x.b)
  v3 : w.cell? ⟨g, o + k * 6 + 3, none⟩ = some (.int .i64 x.off)
  v4 : w.cell? ⟨g, o + k * 6 + 4, none⟩ = some (.int .i64 x.n)
  v5 : w.cell? ⟨g, o + k * 6 + 5, none⟩ = some (.slice A x.data.length c)
  ok : OpOk x
  p : x.data.length ≤ c ∧ c ≤ M63 ∧ (A = none → c = 0) ∧ By w A x.data
theorem op_form {w : World} {A : Option Addr} {xs : List OpD} (h : Ops w A xs) (h0 : 0 < xs.length) : ∃ g o, A = some ⟨g, o, none⟩ ∧ g < w.heap.size := by
  obtain ⟨g, o, cs, hA, _, hg, _⟩ := h.at_ h0
  exact ⟨g, o, hA, hg⟩
theorem op_at {w : World} {g o : Nat} {xs : List OpD} (h : Ops w (some ⟨g, o, none⟩) xs) (k : Nat) (hk : k < xs.length) : ∃ A c, OpAt w g o k xs[k] A c := by
  obtain ⟨g', o', cs, hA, _, hg, hK, hc⟩ := h.at_ hk
  injection hA with hA; injection hA with e1 e2; subst e1 e2
  obtain ⟨A, c, rfl, ok, h1, h2, h3, h4⟩ := kOp_open hK
  exact ⟨A, c, hc 0 _ rfl, hc 1 _ rfl, hc 2 _ rfl, hc 3 _ rfl, hc 4 _ rfl, hc 5 _ rfl, ok, h1, h2, h3, h4⟩
theorem OpAt.below {w w' : World} {g o k : Nat} {x : OpD} {A : Option Addr} {c : Nat} (h : OpAt w g o k x A c) (hb : Below w.heap.size w w') : OpAt w' g o k x A c := by
  have hg := World.block_lt_of_cell? _ _ h.v0
  exact ⟨(hb.cell hg).trans h.v0, (hb.cell (p := ⟨g, o + k * 6 + 1, none⟩) hg).trans h.v1, (hb.cell (p := ⟨g, o + k * 6 + 2, none⟩) hg).trans h.v2, (hb.cell (p := ⟨g, o + k * 6 + 3, none⟩) hg).trans h.v3, (hb.cell (p := ⟨g, o + k * 6 + 4, none⟩) hg).trans h.v4, (hb.cell (p := ⟨g, o + k * 6 + 5, none⟩) hg).trans h.v5, h.ok, h.p.1, h.p.2.1, h.p.2.2.1, h.p.2.2.2.below hb⟩
def bigO (x : OpD) : Bool := decide (300 < x.a.size) || decide (300 < x.b.size) || decide (1100 < x.data.length)
def muchO (xs : List OpD) (m : Nat) : Bool := decide (m < xs.length) || xs.any bigO
theorem muchO_no {xs : List OpD} {m : Nat} (h : muchO xs m = false) : xs.length ≤ m ∧ ∀ x ∈ xs, x.data.length ≤ 1100 := by
  unfold muchO at h
  rw [Bool.or_eq_false_iff] at h
  refine ⟨by have := of_decide_eq_false h.1; omega, fun x hx => ?_⟩
  have := (List.any_eq_false.1 h.2) x hx
  unfold bigO at this
  simp at this
  omega
set_option maxHeartbeats 2000000 in
set_option maxRecDepth 100000 in
theorem muchO_any (A : Option Addr) (c : Nat) (xs : List OpD) (m : Nat) (w : World) (hx : Ops w A xs) (hm : m ≤ 1000) :
    Calls Try.prog 4 #[.slice A xs.length c, .int .i64 (m : Int)] w fun r w' => r = .returned (.bool (muchO xs m)) ∧ Below w.heap.size w w' := by
  have hl : xs.length ≤ 9223372036854775807 := hx.2.1
  by_cases hbig : m < xs.length
  · have HF : Hid (muchO xs m = true) := Lib.hid (by unfold muchO; rw [decide_eq_true hbig]; rfl)
    have hb1 : (m : Int) < (xs.length : Int) := by omega
    go_enter Try.func4, Try.ntmps4
    go_wp2
    go_ret
    exact ⟨by rw [HF.out]; rfl, by first | exact Below.refl _ _ | exact bdrewN (Below.refl _ _) _⟩
  · have HF : Hid (muchO xs m = xs.any bigO) := Lib.hid (by unfold muchO; rw [decide_eq_false hbig]; rfl)
    have hb1 : ¬ (m : Int) < (xs.length : Int) := by omega
    go_enter Try.func4, Try.ntmps4
    go_wp2_with fail
    clear hb1 hbig
    go_loopw [5] (fun i wr => ∃ (k : Nat), k ≤ xs.length ∧ i = .int .i64 k ∧ Hid (xs.any bigO = (xs.drop k).any bigO) ∧ Below w.heap.size w wr) (fun i _ => xs.length - (intOf i).toNat)
    case atStart => exact ⟨0, by omega, rfl, Lib.hid rfl, by first | exact Below.refl _ _ | exact bdrewN (Below.refl _ _) _⟩
    case round =>
      obtain ⟨k, hk, rfl, hv, hbr⟩ := hrel
      by_cases hlt : k < xs.length
      · obtain ⟨g, o, rfl, hg⟩ := op_form hx (by omega)
        obtain ⟨A1, c1, hat0⟩ := op_at hx k hlt
        have hat := hat0.below hbr
        have v1 := hat.v1
        have v2 := hat.v2
        have v5 := hat.v5
        have HV := Lib.hid hv.out
        rw [List.drop_eq_getElem_cons hlt, List.any_cons] at HV
        have hko : (k : Int) < (xs.length : Int) := by omega
        have hok := hat.ok
        have hp := hat.p.1
        have hp2 := hat.p.2.1
        have s1 : xs[k].a.size ≤ 9223372036854775807 := hok.2.1
        have s2 : xs[k].b.size ≤ 9223372036854775807 := hok.2.2.1
        have s3 : xs[k].data.length ≤ 9223372036854775807 := Nat.le_trans hp hp2
        have HB : Hid (bigO xs[k] = (decide (300 < xs[k].a.size) || decide (300 < xs[k].b.size) || decide (1100 < xs[k].data.length))) := Lib.hid rfl
        clear hat0 hat hv hok hp hp2
        generalize xs[k] = x at *
        by_cases h1 : 300 < x.a.size
        · have HR : Hid (muchO xs m = true) := Lib.hid (by rw [HF.out, HV.out, HB.out, decide_eq_true h1]; rfl)
          have z1 : (300 : Int) < (x.a.size : Int) := by omega
          go_wp2
          go_ret
          exact ⟨by rw [HR.out]; rfl, by first | exact hbr | exact bdrewN hbr _⟩
        have z1 : ¬ (300 : Int) < (x.a.size : Int) := by omega
        by_cases h2 : 300 < x.b.size
        · have HR : Hid (muchO xs m = true) := Lib.hid (by rw [HF.out, HV.out, HB.out, decide_eq_true h2]; simp)
          have z2 : (300 : Int) < (x.b.size : Int) := by omega
          go_wp2
          go_ret
          exact ⟨by rw [HR.out]; rfl, by first | exact hbr | exact bdrewN hbr _⟩
        have z2 : ¬ (300 : Int) < (x.b.size : Int) := by omega
        by_cases h3 : 1100 < x.data.length
        · have HR : Hid (muchO xs m = true) := Lib.hid (by rw [HF.out, HV.out, HB.out, decide_eq_true h3]; simp)
          have z3 : (1100 : Int) < (x.data.length : Int) := by omega
          go_wp2
          go_ret
          exact ⟨by rw [HR.out]; rfl, by first | exact hbr | exact bdrewN hbr _⟩
        · have z3 : ¬ (1100 : Int) < (x.data.length : Int) := by omega
          have HV2 : Hid (xs.any bigO = (xs.drop (k + 1)).any bigO) := Lib.hid (by rw [HV.out, HB.out, decide_eq_false h1, decide_eq_false h2, decide_eq_false h3]; rfl)
          go_wp2_with fail
          go_roundw
          case rel => exact ⟨k + 1, by omega, by go_num, HV2, by first | exact hbr | exact bdrewN hbr _⟩
          case measure => simp [intOf]; omega
      · obtain rfl : k = xs.length := by omega
        have HR : Hid (muchO xs m = false) := Lib.hid (by rw [HF.out, hv.out, List.drop_length]; rfl)
        go_wp2
        go_ret
        exact ⟨by rw [HR.out]; rfl, by first | exact hbr | exact bdrewN hbr _⟩
end Go.Proofs.Ytadiamgoglodbaa.Opk
