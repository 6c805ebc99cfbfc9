/- Laws and contracts of several chapters, laid in one text. No statement is proved here. -/
import Derived.Test.YtbamhiegabeicaaGreatCh
import Derived.BigQuiet
import Derived.Deep.RegionHeld3
/- Lists of changes: whether they may be; the document's small functions. No statement is proved here. -/
namespace Go.Proofs.YtbamhiegabeicaaGreat.Rd
open Go.RowKit Go.Proofs.YtbamhiegabeicaaGreat.Mem Go.Proofs.YtbamhiegabeicaaGreat.Open Go.Proofs.YtbamhiegabeicaaGreat.Kind Go.Proofs.YtbamhiegabeicaaGreat.Blk Go.Proofs.YtbamhiegabeicaaGreat.App Go.Proofs.YtbamhiegabeicaaGreat.Pat
set_option linter.unusedVariables false
set_option linter.unusedSimpArgs false
/-- Do numbers rise behind one, below an end? -/
def riseF (e : Int) : Int → List Int → Bool
  | _, [] => true
  | was, n :: r => !decide (n ≤ was) && !decide (e ≤ n) && riseF e n r
theorem riseF_le {e was n : Int} {r : List Int} (h : n ≤ was) : riseF e was (n :: r) = false := by simp [riseF, h]
theorem riseF_ge {e was n : Int} {r : List Int} (h : e ≤ n) : riseF e was (n :: r) = false := by simp [riseF, h]
theorem riseF_on {e was n : Int} {r : List Int} (h : ¬ n ≤ was) (h2 : ¬ e ≤ n) : riseF e was (n :: r) = riseF e n r := by simp [riseF, h, h2]
theorem drop_at {α : Type} {xs : List α} {k : Nat} (h : k < xs.length) : xs.drop k = xs[k] :: xs.drop (k + 1) := List.drop_eq_getElem_cons h
theorem drop_end {α : Type} {xs : List α} : xs.drop xs.length = [] := List.drop_length ..
set_option maxHeartbeats 1000000 in
theorem rise_any (A : Option Addr) (c : Nat) (xs : List Int) (e : Int) (w : World) (hx : Is w A xs) :
    Calls Tryz.prog 101 #[.slice A xs.length c, .int .i64 e] w fun r w' => r = .returned (.bool (riseF e 0 xs)) ∧ Below w.heap.size w w' := by
  have hl := hx.2.1
  unfold M63 at hl
  go_enter Tryz.func101, Tryz.ntmps101
  go_wp2
  go_loopw [5, 10] (fun v i wr => ∃ (k : Nat) (was : Int), k ≤ xs.length ∧ i = .int .i64 k ∧ v = .int .i64 was ∧ Hid (riseF e 0 xs = riseF e was (xs.drop k)) ∧ Below w.heap.size w wr) (fun _ i _ => xs.length - (intOf i).toNat)
  case atStart => exact ⟨0, 0, by omega, rfl, rfl, Lib.hid rfl, Below.refl _ _⟩
  case round =>
    obtain ⟨k, was, hk, rfl, rfl, hv, hbr⟩ := hrel
    by_cases hlt : k < xs.length
    · obtain ⟨g, o, rfl, hg, hc0⟩ := is_at hx k hlt
      have hc := (hbr.cell (p := ⟨g, o + k, none⟩) hg).trans hc0
      have hv := hv.out
      rw [drop_at hlt] at hv
      clear hc0
      generalize xs[k] = x at *
      by_cases h1 : x ≤ was
      · rw [riseF_le h1] at hv
        have HV := Lib.hid hv
        clear hv
        go_wp2
        go_ret
        exact ⟨ret_bool HV.out.symm, hbr⟩
      by_cases h2 : e ≤ x
      · rw [riseF_ge h2] at hv
        have HV := Lib.hid hv
        clear hv
        go_wp2
        go_ret
        exact ⟨ret_bool HV.out.symm, hbr⟩
      · rw [riseF_on h1 h2] at hv
        have HV := Lib.hid hv
        clear hv
        go_wp2
        go_roundw
        case rel => exact ⟨k + 1, x, by omega, by go_num, rfl, HV, hbr⟩
        case measure => simp [intOf]; omega
    · obtain rfl : k = xs.length := by omega
      have hv := hv.out
      rw [drop_end] at hv
      have HV : Hid (riseF e 0 xs = true) := Lib.hid hv
      clear hv
      go_wp2
      go_ret
      exact ⟨ret_bool HV.out.symm, hbr⟩
set_option maxHeartbeats 1000000 in
theorem in_any (A : Option Addr) (c : Nat) (xs : List Int) (n : Int) (w : World) (hx : Is w A xs) :
    Calls Tryz.prog 67 #[.slice A xs.length c, .int .i64 n] w fun r w' => r = .returned (.bool (decide (n ∈ xs))) ∧ Below w.heap.size w w' := by
  have hl := hx.2.1
  unfold M63 at hl
  go_enter Tryz.func67, Tryz.ntmps67
  go_wp2
  go_loopw [5] (fun i wr => ∃ (k : Nat), k ≤ xs.length ∧ i = .int .i64 k ∧ Hid (decide (n ∈ xs) = decide (n ∈ xs.drop k)) ∧ Below w.heap.size w wr) (fun i _ => xs.length - (intOf i).toNat)
  case atStart => exact ⟨0, by omega, rfl, Lib.hid rfl, Below.refl _ _⟩
  case round =>
    obtain ⟨k, hk, rfl, hv, hbr⟩ := hrel
    by_cases hlt : k < xs.length
    · obtain ⟨g, o, rfl, hg, hc0⟩ := is_at hx k hlt
      have hc := (hbr.cell (p := ⟨g, o + k, none⟩) hg).trans hc0
      have hv := hv.out
      rw [drop_at hlt] at hv
      clear hc0
      generalize xs[k] = x at *
      by_cases h1 : x = n
      · have HV : Hid (decide (n ∈ xs) = true) := Lib.hid (hv.trans (decide_eq_true (by rw [h1]; exact List.mem_cons_self)))
        clear hv
        have he : (x == n) = true := by rw [h1]; exact beq_self_eq_true n
        clear h1
        go_wp2
        go_ret
        exact ⟨ret_bool HV.out.symm, hbr⟩
      · have he : (x == n) = false := beq_eq_false_iff_ne.2 h1
        have HV : Hid (decide (n ∈ xs) = decide (n ∈ xs.drop (k + 1))) := Lib.hid (hv.trans (by
          by_cases h : n ∈ xs.drop (k + 1)
          · rw [decide_eq_true h, decide_eq_true (List.mem_cons_of_mem _ h)]
          · rw [decide_eq_false h, decide_eq_false (fun h2 => by rcases List.mem_cons.1 h2 with h2 | h2; exact h1 h2.symm; exact h h2)]))
        clear hv
        go_wp2
        go_roundw
        case rel => exact ⟨k + 1, by omega, by go_num, HV, hbr⟩
        case measure => simp [intOf]; omega
    · obtain rfl : k = xs.length := by omega
      have hv := hv.out
      rw [drop_end] at hv
      have HV : Hid (decide (n ∈ xs) = false) := Lib.hid (hv.trans (decide_eq_false (by simp)))
      clear hv
      go_wp2
      go_ret
      exact ⟨ret_bool HV.out.symm, hbr⟩
/-- The place of a number. -/
def placeF (id : Int) : List Chg → Nat → Int
  | [], _ => -1
  | x :: r, k => if x.id = id then (k : Int) else placeF id r (k + 1)
theorem ret_num {a b : Int} (h : a = b) : Ending.returned (.int .i64 a) = .returned (.int .i64 b) := by rw [h]
set_option maxHeartbeats 1000000 in
theorem place_any (A : Option Addr) (c : Nat) (xs : List Chg) (n : Int) (w : World) (hx : Chs w A xs) :
    Calls Tryz.prog 89 #[.slice A xs.length c, .int .i64 n] w fun r w' => r = .returned (.int .i64 (placeF n xs 0)) ∧ Below w.heap.size w w' := by
  have hl := hx.2.1
  unfold M63 at hl
  go_enter Tryz.func89, Tryz.ntmps89
  go_wp2
  go_loopw [5] (fun i wr => ∃ (k : Nat), k ≤ xs.length ∧ i = .int .i64 k ∧ Hid (placeF n xs 0 = placeF n (xs.drop k) k) ∧ Below w.heap.size w wr) (fun i _ => xs.length - (intOf i).toNat)
  case atStart => exact ⟨0, by omega, rfl, Lib.hid rfl, Below.refl _ _⟩
  case round =>
    obtain ⟨k, hk, rfl, hv, hbr⟩ := hrel
    by_cases hlt : k < xs.length
    · obtain ⟨g, o, rfl, hg⟩ := ch_form hx (by omega)
      obtain ⟨A1, c1, A2, c2, hat⟩ := ch_at hx k hlt
      have hc := (hbr.cell (p := ⟨g, o + k * 5, none⟩) hg).trans hat.v0
      have hv := hv.out
      rw [drop_at hlt] at hv
      clear hat
      generalize xs[k] = x at *
      by_cases h1 : x.id = n
      · have HV : Hid (placeF n xs 0 = k) := Lib.hid (hv.trans (if_pos h1))
        clear hv
        have he : (x.id == n) = true := by rw [h1]; exact beq_self_eq_true n
        clear h1
        go_wp2
        go_ret
        exact ⟨ret_num HV.out.symm, hbr⟩
      · have he : (x.id == n) = false := beq_eq_false_iff_ne.2 h1
        have HV : Hid (placeF n xs 0 = placeF n (xs.drop (k + 1)) (k + 1)) := Lib.hid (hv.trans (if_neg h1))
        clear hv
        go_wp2
        go_roundw
        case rel => exact ⟨k + 1, by omega, by go_num, HV, hbr⟩
        case measure => simp [intOf]; omega
    · obtain rfl : k = xs.length := by omega
      have hv := hv.out
      rw [drop_end] at hv
      have HV : Hid (placeF n xs 0 = -1) := Lib.hid hv
      clear hv
      go_wp2
      go_ret
      exact ⟨ret_num HV.out.symm, hbr⟩
/-- More than is gone through? -/
def bigC (x : Chg) : Bool := decide (300 < x.pd.length) || decide (60 < x.needs.length)
def muchC (xs : List Chg) (m : Nat) : Bool := decide (m < xs.length) || xs.any bigC
end Go.Proofs.YtbamhiegabeicaaGreat.Rd

/- May a list of changes be? Both ways. No statement is proved here. -/
namespace Go.Proofs.YtbamhiegabeicaaGreat.Rd
open Go.RowKit Go.Proofs.YtbamhiegabeicaaGreat.Mem Go.Proofs.YtbamhiegabeicaaGreat.Open Go.Proofs.YtbamhiegabeicaaGreat.Kind Go.Proofs.YtbamhiegabeicaaGreat.Blk Go.Proofs.YtbamhiegabeicaaGreat.App Go.Proofs.YtbamhiegabeicaaGreat.Pat
set_option linter.unusedVariables false
set_option linter.unusedSimpArgs false
set_option maxHeartbeats 1000000 in
theorem rrise_any (A : Option Addr) (c : Nat) (xs : List Int) (e : Int) (w : World) (hx : Is w A xs) :
    Calls Tryz.prog 91 #[.slice A xs.length c, .int .i64 e] w fun r w' => r = .returned (.bool (riseF e 0 xs)) ∧ Below w.heap.size w w' := by
  have hl := hx.2.1
  unfold M63 at hl
  go_enter Tryz.func91, Tryz.ntmps91
  go_wp2
  go_loopw [5] (fun i wr => ∃ (k : Nat) (was : Int), k ≤ xs.length ∧ i = .int .i64 k ∧ Hid (riseF e 0 xs = riseF e was (xs.drop k)) ∧ 0 ≤ was ∧ (k = 0 ∧ was = 0 ∨ 0 < k ∧ xs[k - 1]? = some was) ∧ Below w.heap.size w wr) (fun i _ => xs.length - (intOf i).toNat)
  case atStart => exact ⟨0, 0, by omega, rfl, Lib.hid rfl, by omega, .inl ⟨rfl, rfl⟩, Below.refl _ _⟩
  case round =>
    obtain ⟨k, was, hk, rfl, hv, h0, hw, hbr⟩ := hrel
    by_cases hlt : k < xs.length
    · obtain ⟨g, o, rfl, hg, hc0⟩ := is_at hx k hlt
      have hc := (hbr.cell (p := ⟨g, o + k, none⟩) hg).trans hc0
      have hv := hv.out
      rw [drop_at hlt] at hv
      have HN := Lib.hid (List.getElem?_eq_getElem hlt)
      clear hc0
      generalize xs[k] = x at *
      rcases hw with ⟨rfl, rfl⟩ | ⟨hk0, hw⟩
      · clear h0
        rw [Nat.add_zero] at hc
        by_cases h1 : x < 1
        · rw [riseF_le (by omega)] at hv
          have HV := Lib.hid hv
          have d1 : decide (x < 1) = true := decide_eq_true h1
          clear hv h1
          go_wp2
          go_quiet (fail)
          go_wp2
          go_ret
          exact ⟨ret_bool HV.out.symm, by first | exact hbr | exact hbr.drew | exact bdrewN hbr _⟩
        have d1 : decide (x < 1) = false := decide_eq_false h1
        by_cases h2 : e ≤ x
        · rw [riseF_ge h2] at hv
          have HV := Lib.hid hv
          have d2 : decide (e ≤ x) = true := decide_eq_true h2
          clear hv h1 h2
          go_wp2
          go_quiet (fail)
          go_wp2
          go_ret
          exact ⟨ret_bool HV.out.symm, by first | exact hbr | exact hbr.drew | exact bdrewN hbr _⟩
        · rw [riseF_on (by omega) h2] at hv
          have HV := Lib.hid hv
          have d2 : decide (e ≤ x) = false := decide_eq_false h2
          have X1 := Lib.hid h1
          clear hv h1 h2
          go_wp2
          go_quiet (fail)
          go_wp2
          go_roundw
          case rel => exact ⟨0 + 1, x, by omega, by go_num, HV, by have := X1.out; omega, .inr ⟨by omega, HN.out⟩, by first | exact hbr | exact hbr.drew | exact bdrewN hbr _⟩
          case measure => simp [intOf]; omega
      · obtain ⟨j, rfl⟩ : ∃ j, k = j + 1 := ⟨k - 1, by omega⟩
        have hjl : j < xs.length := by omega
        rw [Nat.add_sub_cancel, List.getElem?_eq_getElem hjl] at hw
        injection hw with hw
        obtain ⟨_, _, hA, _, hc1⟩ := is_at hx j hjl
        injection hA with hA; injection hA with e1 e2; subst e1 e2
        have hc2 := (hbr.cell (p := ⟨g, o + j, none⟩) hg).trans hc1
        rw [hw] at hc2
        clear hc1 hw
        have d4 : decide (0 < ((j + 1 : Nat) : Int)) = true := decide_eq_true (by omega)
        by_cases h1 : x ≤ was
        · rw [riseF_le h1] at hv
          have HV := Lib.hid hv
          have d3 : decide (x ≤ was) = true := decide_eq_true h1
          clear hv
          by_cases h3 : x < 1
          · have d1 : decide (x < 1) = true := decide_eq_true h3
            clear h1 h3
            go_wp2
            go_quiet (fail)
            go_wp2
            go_ret
            exact ⟨ret_bool HV.out.symm, by first | exact hbr | exact hbr.drew | exact bdrewN hbr _⟩
          have d1 : decide (x < 1) = false := decide_eq_false h3
          by_cases h4 : e ≤ x
          · have d2 : decide (e ≤ x) = true := decide_eq_true h4
            clear h1 h3 h4
            go_wp2
            go_quiet (fail)
            go_wp2
            go_ret
            exact ⟨ret_bool HV.out.symm, by first | exact hbr | exact hbr.drew | exact bdrewN hbr _⟩
          · have d2 : decide (e ≤ x) = false := decide_eq_false h4
            clear h1 h3 h4
            go_wp2
            go_quiet (fail)
            go_wp2
            go_ret
            exact ⟨ret_bool HV.out.symm, by first | exact hbr | exact hbr.drew | exact bdrewN hbr _⟩
        have d3 : decide (x ≤ was) = false := decide_eq_false h1
        have d1 : decide (x < 1) = false := decide_eq_false (by omega)
        have X1 : Hid (0 ≤ x) := Lib.hid (by omega)
        by_cases h2 : e ≤ x
        · rw [riseF_ge h2] at hv
          have HV := Lib.hid hv
          have d2 : decide (e ≤ x) = true := decide_eq_true h2
          clear hv h1 h2
          go_wp2
          go_quiet (fail)
          go_wp2
          go_ret
          exact ⟨ret_bool HV.out.symm, by first | exact hbr | exact hbr.drew | exact bdrewN hbr _⟩
        · rw [riseF_on h1 h2] at hv
          have HV := Lib.hid hv
          have d2 : decide (e ≤ x) = false := decide_eq_false h2
          clear hv h1 h2
          go_wp2
          go_quiet (fail)
          go_wp2
          go_roundw
          case rel => exact ⟨j + 1 + 1, x, by omega, by go_num, HV, X1.out, .inr ⟨by omega, HN.out⟩, by first | exact hbr | exact hbr.drew | exact bdrewN hbr _⟩
          case measure => simp [intOf]; omega
    · obtain rfl : k = xs.length := by omega
      have hv := hv.out
      rw [drop_end] at hv
      have HV : Hid (riseF e 0 xs = true) := Lib.hid hv
      clear hv hw
      go_wp2
      go_ret
      exact ⟨ret_bool HV.out.symm, hbr⟩
/-- May a list of changes be, behind a number? -/
def mayF : Int → List Chg → Bool
  | _, [] => true
  | was, x :: r => !decide (x.id ≤ was) && !decide (x.blk < 0) && rightN x.pa x.pd.length && riseF x.id 0 x.needs && mayF x.id r
def okN (b : Bool) : Int := if b then 0 else 1
theorem mayF_id {was : Int} {x : Chg} {r : List Chg} (h : x.id ≤ was) : mayF was (x :: r) = false := by simp [mayF, h]
theorem mayF_blk {was : Int} {x : Chg} {r : List Chg} (h : x.blk < 0) : mayF was (x :: r) = false := by simp [mayF, h]
theorem mayF_p {was : Int} {x : Chg} {r : List Chg} (h : rightN x.pa x.pd.length = false) : mayF was (x :: r) = false := by simp [mayF, h]
theorem mayF_n {was : Int} {x : Chg} {r : List Chg} (h : riseF x.id 0 x.needs = false) : mayF was (x :: r) = false := by simp [mayF, h]
theorem mayF_on {was : Int} {x : Chg} {r : List Chg} (h1 : ¬ x.id ≤ was) (h2 : ¬ x.blk < 0) (h3 : rightN x.pa x.pd.length = true) (h4 : riseF x.id 0 x.needs = true) : mayF was (x :: r) = mayF x.id r := by simp [mayF, h1, h2, h3, h4]
abbrev chZ : Array Value := #[.int .i64 0, .int .i64 0, .int .i64 0, .slice none 0 0, .slice none 0 0]
theorem chInfo : (Tryz.prog.info? 90).map (fun i => (i.zero, i.size)) = some (some (.agg chZ), 5) := by kernel_rfl
theorem chZero : ∀ w, (zeroValue 90).run Tryz.prog w = .ok (.agg chZ) w := (zero_of_info chInfo).1
theorem chSize : (Tryz.prog.info? 90).map (·.size) = some 5 := (zero_of_info chInfo).2
theorem chC_one (x : Chg) (A : Option Addr) (c : Nat) (A2 : Option Addr) (c2 : Nat) : (chC x A c A2 c2).all (·.oneCell') = true := by simp [chC, Value.oneCell']
/-- A variable, made and filled. -/
theorem boxed (w : World) (T : TypeId) (z cs : Array Value) : Row ((w.alloc (.cells z T)).setRow w.heap.size cs) w.heap.size T cs ∧ Below w.heap.size w ((w.alloc (.cells z T)).setRow w.heap.size cs) ∧ w.heap.size < ((w.alloc (.cells z T)).setRow w.heap.size cs).heap.size :=
  ⟨(Row.new w T z).set cs, below_setRow ((Below.refl _ _).alloc (Nat.le_refl _) _) (Nat.le_refl _) cs, by simp⟩
set_option maxHeartbeats 2000000 in
theorem chk_any (A : Option Addr) (c : Nat) (xs : List Chg) (w : World) (hx : Chs w A xs) :
    Calls Tryz.prog 87 #[.slice A xs.length c] w fun r w' => r = .returned (.int .i64 (okN (mayF 0 xs))) ∧ Below w.heap.size w w' := by
  have hl := hx.2.1
  unfold M63 at hl
  go_enter Tryz.func87, Tryz.ntmps87
  go_wp2
  go_loopw [3, 8] (fun v i wr => ∃ (k : Nat) (was : Int), k ≤ xs.length ∧ i = .int .i64 k ∧ v = .int .i64 was ∧ Hid (mayF 0 xs = mayF was (xs.drop k)) ∧ Below w.heap.size w wr) (fun _ i _ => xs.length - (intOf i).toNat)
  case atStart => exact ⟨0, 0, by omega, rfl, rfl, Lib.hid rfl, Below.refl _ _⟩
  case round =>
    obtain ⟨k, was, hk, rfl, rfl, hv, hbr⟩ := hrel
    by_cases hlt : k < xs.length
    · obtain ⟨g, o, rfl, hg⟩ := ch_form hx (by omega)
      obtain ⟨A1, c1, A2, c2, hat0⟩ := ch_at hx k hlt
      have hat := hat0.below hbr
      have e0 := hat.v0
      have e1 := hat.v1
      have e2 := hat.v2
      have e3 : wr.cell? ⟨g, o + k * 5 + 3, none⟩ = _ := hat.v3
      have e4 := hat.v4
      have hp1 := hat.p.2.2.2.2.1
      have HN := Lib.hid hat.n.2.2.2
      have hv := hv.out
      rw [drop_at hlt] at hv
      clear hat0 hat
      generalize xs[k] = x at *
      obtain ⟨⟨b1, b2, b3⟩⟩ : Nonempty (_ ∧ _ ∧ _) := ⟨boxed wr 90 chZ (chC x A1 c1 A2 c2)⟩
      have R0 : Row (wr.alloc (.cells chZ 90)) wr.heap.size 90 chZ := Row.new _ _ _
      have k0 := b1.cell 0 rfl
      have k1 := b1.cell 1 rfl
      have k2 := b1.cell 2 rfl
      have k3 : World.cell? _ ⟨wr.heap.size, 2 + 1, none⟩ = _ := b1.cell 3 rfl
      have k4 := b1.cell 4 rfl
      have HX := Lib.hid b1
      have HB := Lib.hid (hbr.trans (b2.mono hbr.size))
      have HB2 := Lib.hid b2
      have h3 := b3
      clear hbr b1 b2 b3
      by_cases h1 : x.id ≤ was
      · rw [mayF_id h1] at hv
        have HV := Lib.hid hv
        clear hv
        go_wp2_with (first
          | (with_reducible refine wpList_allocA rfl 90 rfl _ chZero ?_)
          | (with_reducible refine wpList_storeRow rfl 90 _ _ rfl wr.heap.size rfl (chC x A1 c1 A2 c2) rfl chZ 90 5 chSize rfl rfl (chC_one _ _ _ _ _) R0 ?_))
        go_ret
        exact ⟨ret_num (by rw [HV.out]; rfl), HB.out⟩
      by_cases h2 : x.blk < 0
      · rw [mayF_blk h2] at hv
        have HV := Lib.hid hv
        clear hv
        go_wp2_with (first
          | (with_reducible refine wpList_allocA rfl 90 rfl _ chZero ?_)
          | (with_reducible refine wpList_storeRow rfl 90 _ _ rfl wr.heap.size rfl (chC x A1 c1 A2 c2) rfl chZ 90 5 chSize rfl rfl (chC_one _ _ _ _ _) R0 ?_))
        go_ret
        exact ⟨ret_num (by rw [HV.out]; rfl), HB.out⟩
      cases h5 : rightN x.pa x.pd.length with
      | false =>
        rw [mayF_p h5] at hv
        have HV := Lib.hid hv
        have CC := Lib.hid (fun w' => check_no x.pa A1 x.pd.length c1 w' hp1 h5)
        clear hv h5
        go_wp2_with (first
          | (with_reducible refine wpList_allocA rfl 90 rfl _ chZero ?_)
          | (with_reducible refine wpList_storeRow rfl 90 _ _ rfl wr.heap.size rfl (chC x A1 c1 A2 c2) rfl chZ 90 5 chSize rfl rfl (chC_one _ _ _ _ _) R0 ?_))
        refine (CC.out _).mono ?_
        rintro e wb ⟨rfl, hbl⟩
        go_wp2
        go_ret
        exact ⟨ret_num (by rw [HV.out]; rfl), HB.out.trans (hbl.mono HB.out.size)⟩
      | true =>
        have CC := Lib.hid (fun w' => check_yes x.pa A1 x.pd.length c1 w' h5)
        have CR := Lib.hid (fun w' h => rise_any A2 c2 x.needs x.id w' h)
        cases h6 : riseF x.id 0 x.needs with
        | false =>
          rw [mayF_n h6] at hv
          rw [h6] at CR
          have HV := Lib.hid hv
          clear hv h5 h6
          go_wp2_with (first
            | (with_reducible refine wpList_allocA rfl 90 rfl _ chZero ?_)
            | (with_reducible refine wpList_storeRow rfl 90 _ _ rfl wr.heap.size rfl (chC x A1 c1 A2 c2) rfl chZ 90 5 chSize rfl rfl (chC_one _ _ _ _ _) R0 ?_))
          refine (CC.out _).mono ?_
          rintro e wb ⟨rfl, hbl⟩
          have k0 := (hbl.cell (p := ⟨wr.heap.size, 0, none⟩) h3).trans k0
          have k4 := (hbl.cell (p := ⟨wr.heap.size, 4, none⟩) h3).trans k4
          have hn := (HN.out.below HB2.out).below hbl
          go_wp2_with fail
          refine (CR.out _ hn).mono ?_
          rintro e wc ⟨rfl, hbl2⟩
          go_wp2
          go_ret
          exact ⟨ret_num (by rw [HV.out]; rfl), (HB.out.trans (hbl.mono HB.out.size)).trans (hbl2.mono (Nat.le_trans HB.out.size hbl.size))⟩
        | true =>
          rw [mayF_on h1 h2 h5 h6] at hv
          rw [h6] at CR
          have HV := Lib.hid hv
          clear hv h5 h6
          go_wp2_with (first
            | (with_reducible refine wpList_allocA rfl 90 rfl _ chZero ?_)
            | (with_reducible refine wpList_storeRow rfl 90 _ _ rfl wr.heap.size rfl (chC x A1 c1 A2 c2) rfl chZ 90 5 chSize rfl rfl (chC_one _ _ _ _ _) R0 ?_))
          refine (CC.out _).mono ?_
          rintro e wb ⟨rfl, hbl⟩
          have k0 := (hbl.cell (p := ⟨wr.heap.size, 0, none⟩) h3).trans k0
          have k4 := (hbl.cell (p := ⟨wr.heap.size, 4, none⟩) h3).trans k4
          have hn := (HN.out.below HB2.out).below hbl
          have h3b := Nat.lt_of_lt_of_le h3 hbl.size
          go_wp2_with fail
          refine (CR.out _ hn).mono ?_
          rintro e wc ⟨rfl, hbl2⟩
          have k0 := (hbl2.cell (p := ⟨wr.heap.size, 0, none⟩) h3b).trans k0
          go_wp2
          go_roundw
          case rel => exact ⟨k + 1, x.id, by omega, by go_num, rfl, HV, (HB.out.trans (hbl.mono HB.out.size)).trans (hbl2.mono (Nat.le_trans HB.out.size hbl.size))⟩
          case measure => simp [intOf]; omega
    · obtain rfl : k = xs.length := by omega
      have hv := hv.out
      rw [drop_end] at hv
      have HV : Hid (mayF 0 xs = true) := Lib.hid hv
      clear hv
      go_wp2
      go_ret
      exact ⟨ret_num (by rw [HV.out]; rfl), hbr⟩
end Go.Proofs.YtbamhiegabeicaaGreat.Rd


