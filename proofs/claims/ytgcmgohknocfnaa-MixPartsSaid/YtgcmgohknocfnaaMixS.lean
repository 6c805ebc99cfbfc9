/- mix.Split, the document's Some and Long. -/
import Derived.Test.YtgcmgohknocfnaaMixLaw
import Derived.Test.YtgcmgohknocfnaaSame
import Derived.Test.YtgcmgohknocfnaaMem
import Derived.BigQuiet
import Derived.Deep.RegionHeld3
namespace Go.Proofs.Ytgcmgohknocfnaa.Mix
open Go.RowKit Go.Proofs.Ytgcmgohknocfnaa.Mem Go.Proofs.Ytgcmgohknocfnaa.Open Go.Proofs.Ytgcmgohknocfnaa.Same
set_option linter.unusedVariables false
set_option linter.unusedSimpArgs false

/-- The bit of a text's hash. -/
def sbit (bit : Int) (s : ByteArray) : Bool := bitB (hash 2166136261 s.data.toList) bit
def someL (xs : List ByteArray) (bit : Int) (want : Bool) : List ByteArray := xs.filter fun s => sbit bit s == want
def longB (xs : List ByteArray) : Bool := decide (40 < xs.length) || xs.any fun s => decide (60 < s.size)
theorem someL_len (xs : List ByteArray) (bit : Int) (want : Bool) : (someL xs bit want).length ≤ xs.length := List.length_filter_le _ _
theorem someL_yes (xs : List ByteArray) (bit : Int) (want : Bool) (k : Nat) (hk : k < xs.length) (h : sbit bit xs[k] = want) : someL (xs.take (k + 1)) bit want = someL (xs.take k) bit want ++ [xs[k]] := by
  unfold someL
  rw [List.take_add_one, List.getElem?_eq_getElem hk, List.filter_append]
  simp [h]
theorem someL_no (xs : List ByteArray) (bit : Int) (want : Bool) (k : Nat) (hk : k < xs.length) (h : sbit bit xs[k] ≠ want) : someL (xs.take (k + 1)) bit want = someL (xs.take k) bit want := by
  unfold someL
  rw [List.take_add_one, List.getElem?_eq_getElem hk, List.filter_append]
  simp [h]
theorem strInfo : (Try.prog.info? 9).map (fun i => (i.zero, i.size, i.bytes)) = some (some (.string (ByteArray.mk #[])), 1, 16) := by kernel_rfl

set_option maxHeartbeats 1000000 in
set_option maxRecDepth 100000 in
theorem some_any (A : Option Addr) (n c : Nat) (xs : List ByteArray) (bit : Int) (want : Bool) (w : World) (hx : Sl w Value.string A n xs) (hs : ∀ s ∈ xs, s.size ≤ 9223372036854775807) (hn2 : n ≤ 100000) :
    Calls Try.prog 35 #[.slice A n c, .int .i64 bit, .bool want] w fun e w' => ∃ v, e = .returned v ∧ Own w' w.heap.size 9 Value.string v (someL xs bit want) ∧ Below w.heap.size w w' := by
  have hn := hx.1
  have hm := hx.2.1
  go_enter Try.func35, Try.ntmps35
  go_wp2
  go_loopw [7, 8] (fun v i wr => ∃ (u : Value) (k : Nat), u = v ∧ k ≤ n ∧ i = .int .i64 k ∧ Own wr w.heap.size 9 Value.string u (someL (xs.take k) bit want) ∧ Below w.heap.size w wr) (fun _ i _ => n - (intOf i).toNat)
  case atStart => exact ⟨_, 0, rfl, by omega, rfl, by simpa [someL] using Own.nil _ _ _ _, Below.refl _ _⟩
  case round =>
    obtain ⟨u, k, rfl, hk, rfl, hown, hbel⟩ := hrel
    have hB := hbel.size
    by_cases hlt : k < n
    · have hkx : k < xs.length := by omega
      obtain ⟨ad, rfl, hadb, hcell⟩ := (hx.below hbel).at_ hkx
      obtain ⟨s, hse⟩ : ∃ s, xs[k] = s := ⟨_, rfl⟩
      have hsz : s.size ≤ 9223372036854775807 := by have := hs _ (List.getElem_mem hkx); rw [hse] at this; omega
      rw [hse] at hcell
      have hh := hash_lt s.data.toList 2166136261 (by decide)
      have hlen := someL_len (xs.take k) bit want
      have hlt2 : (xs.take k).length ≤ k := by rw [List.length_take]; omega
      by_cases hw : sbit bit s = want
      · have HS : Hid (someL (xs.take (k + 1)) bit want = someL (xs.take k) bit want ++ [s]) := by
          have := someL_yes xs bit want k hkx (by rw [hse]; exact hw)
          rw [hse] at this
          exact this
        have hwb : (bitB (hash 2166136261 s.data.toList) bit == want) = true := by rw [beq_iff_eq]; exact hw
        have hc1 : (wr.alloc (.cells #[.string s] 9)).cell? ⟨wr.heap.size, 0, none⟩ = some (.string s) := by
          rw [cell_of_row _ _ _ _ _ _ (heap_alloc_new wr _)]; rfl
        clear hw hse
        go_wp2_with (first
          | (go_at_call 17; refine (rof_any s _ hsz).mono ?_; rintro e w' ⟨rfl, rfl⟩)
          | (go_at_call 23; refine (rbit_any _ bit _ hh).mono ?_; rintro e w' ⟨rfl, rfl⟩)
          | (at_builtin; refine wpList_app1 rfl _ _ 54 rfl w.heap.size 9 (.string (ByteArray.mk #[])) 16 Value.string Try.underlying54 strInfo rfl u (someL (xs.take k) bit want) s rfl _ wr.heap.size rfl (hown.alloc _) hc1 rfl (by omega) (by omega) (by simp; omega) ?_; intro v1 w2 hown2 hbel2 hg2))
        go_roundw
        case rel => exact ⟨_, k + 1, rfl, by omega, by go_num, by rw [HS.out]; exact hown2, (hbel.alloc hB _).trans hbel2⟩
        case measure => simp [intOf]; omega
      · have HS : Hid (someL (xs.take (k + 1)) bit want = someL (xs.take k) bit want) := someL_no xs bit want k hkx (by rw [hse]; exact hw)
        have hwb : (bitB (hash 2166136261 s.data.toList) bit == want) = false := by rw [beq_eq_false_iff_ne]; exact hw
        clear hw hse
        go_wp2_with (first
          | (go_at_call 17; refine (rof_any s _ hsz).mono ?_; rintro e w' ⟨rfl, rfl⟩)
          | (go_at_call 23; refine (rbit_any _ bit _ hh).mono ?_; rintro e w' ⟨rfl, rfl⟩))
        go_roundw
        case rel => exact ⟨_, k + 1, rfl, by omega, by go_num, by rw [HS.out]; exact hown, hbel⟩
        case measure => simp [intOf]; omega
    · obtain rfl : k = n := by omega
      have HT : Hid (xs.take k = xs) := List.take_of_length_le (by omega)
      go_wp2
      go_ret
      exact ⟨_, rfl, by rw [HT.out] at hown; exact hown, hbel⟩

theorem row_cell {w : World} {g : Nat} {cs : Array Value} {T : TypeId} (h : w.heap[g]? = some (.cells cs T (0, 0))) (i : Nat) (v : Value) (hv : cs[i]? = some v) : w.cell? ⟨g, i, none⟩ = some v := by
  rw [cell_of_row _ _ _ _ _ _ h, hv]
set_option maxHeartbeats 1000000 in
set_option maxRecDepth 100000 in
theorem split1_any (A : Option Addr) (n c : Nat) (xs : List ByteArray) (bit : Int) (want : Bool) (p q : Nat) (w : World) (hp : w.heap[p]? = some (.cells #[.slice A n c] 54 (0, 0))) (hq : w.heap[q]? = some (.cells #[.int .i64 bit] 3 (0, 0)))
    (hx : Sl w Value.string A n xs) (hs : ∀ s ∈ xs, s.size ≤ 9223372036854775807) (hn2 : n ≤ 100000) :
    Calls Try.prog 58 #[.bool want, .pointer (some ⟨p, 0, none⟩), .pointer (some ⟨q, 0, none⟩)] w fun e w' => ∃ v, e = .returned v ∧ Own w' w.heap.size 9 Value.string v (someL xs bit want) ∧ Below w.heap.size w w' := by
  have hn := hx.1
  have hm := hx.2.1
  have hcp := row_cell hp 0 _ rfl
  have hql : q < w.heap.size := (Array.getElem?_eq_some_iff.1 hq).1
  have HQ : Hid (∀ wr, Below w.heap.size w wr → wr.cell? ⟨q, 0, none⟩ = some (.int .i64 bit)) := fun wr hb => row_cell ((hb.block q hql).trans hq) 0 _ rfl
  have hcp' : w.cell? ⟨p, 0, none⟩ = some (.slice A n c) := hcp
  clear hcp hp hq
  go_enter Try.func58, Try.ntmps58
  go_wp2
  go_loopw [5, 10] (fun v i wr => ∃ (u : Value) (k : Nat), u = v ∧ k ≤ n ∧ i = .int .i64 k ∧ Own wr w.heap.size 9 Value.string u (someL (xs.take k) bit want) ∧ Below w.heap.size w wr) (fun _ i _ => n - (intOf i).toNat)
  case atStart => exact ⟨_, 0, rfl, by omega, rfl, by simpa [someL] using Own.nil _ _ _ _, Below.refl _ _⟩
  case round =>
    obtain ⟨u, k, rfl, hk, rfl, hown, hbel⟩ := hrel
    have hB := hbel.size
    by_cases hlt : k < n
    · have hkx : k < xs.length := by omega
      obtain ⟨ad, rfl, hadb, hcell⟩ := (hx.below hbel).at_ hkx
      obtain ⟨s, hse⟩ : ∃ s, xs[k] = s := ⟨_, rfl⟩
      have hsz : s.size ≤ 9223372036854775807 := by have := hs _ (List.getElem_mem hkx); rw [hse] at this; omega
      rw [hse] at hcell
      have hh := hash_lt s.data.toList 2166136261 (by decide)
      have hlen := someL_len (xs.take k) bit want
      have hlt2 : (xs.take k).length ≤ k := by rw [List.length_take]; omega
      have hcq := HQ.out _ hbel.drew
      by_cases hw : sbit bit s = want
      · have HS : Hid (someL (xs.take (k + 1)) bit want = someL (xs.take k) bit want ++ [s]) := by
          have := someL_yes xs bit want k hkx (by rw [hse]; exact hw)
          rw [hse] at this
          exact this
        have hwb : (bitB (hash 2166136261 s.data.toList) bit == want) = true := by rw [beq_iff_eq]; exact hw
        have hc1 : (wr.drew.alloc (.cells #[.string s] 9)).cell? ⟨wr.drew.heap.size, 0, none⟩ = some (.string s) := by
          rw [cell_of_row _ _ _ _ _ _ (heap_alloc_new wr.drew _)]; rfl
        clear hw hse
        go_wp2
        refine wp_region_noPanic ?_
        refine wp_region_held_drew (S := fun w' => w'.cell? ⟨q, 0, none⟩ = some (.int .i64 bit)) (by kernel_rfl) ?hb2 (fun hHeld => ?rest2)
        case hb2 =>
          exact hcq
        case' rest2 => skip
        refine wpAnyH_take (i := 0) (v := ?v3) rfl (by kernel_rfl) (by kernel_rfl) (by kernel_rfl) (fun _ _ _ h => h) (Or.inl ⟨by rfl, ?hy3⟩) (by assumption) ?rest3
        case hy3 =>
          intro w hSw
          try dsimp only at hSw
          try go_split_ands
          go_simp
          try with_reducible rfl
        case' rest3 => skip
        try simp only [List.getElem_toArray, List.getElem_cons_succ, List.getElem_cons_zero, Act.put, List.setIfInBounds_toArray, List.set_cons_zero, List.set_cons_succ]
        refine wpAnyH_take (i := 2) (v := ?v4) rfl (by kernel_rfl) (by kernel_rfl) (by kernel_rfl) (fun _ _ _ h => h) (Or.inl ⟨by rfl, ?hy4⟩) (by assumption) ?rest4
        case hy4 =>
          intro w hSw
          try dsimp only at hSw
          try go_split_ands
          go_simp
          try with_reducible rfl
        case' rest4 => skip
        try simp only [List.getElem_toArray, List.getElem_cons_succ, List.getElem_cons_zero, Act.put, List.setIfInBounds_toArray, List.set_cons_zero, List.set_cons_succ]
        refine wpAnyH_take (i := 4) (v := ?v5) rfl (by kernel_rfl) (by kernel_rfl) (by kernel_rfl) (fun _ _ _ h => h) (Or.inl ⟨by rfl, ?hy5⟩) (by assumption) ?rest5
        case hy5 =>
          intro w hSw
          try dsimp only at hSw
          try go_split_ands
          go_simp
          try with_reducible rfl
        case' rest5 => skip
        try simp only [List.getElem_toArray, List.getElem_cons_succ, List.getElem_cons_zero, Act.put, List.setIfInBounds_toArray, List.set_cons_zero, List.set_cons_succ]
        refine wpAnyH_ready (rs := [1]) (by kernel_rfl) (by simp) ?_
        refine AllReadyH.cons rfl (fun K hK => ?_) AllReadyH.nil
        go_simp
        (refine (of_any s _ hsz).mono ?_; rintro e w' ⟨rfl, rfl⟩)
        try go_wp2_with fail
        refine hK.out _ _ ?_ (fun hHeld2 => ?_)
        · exact hcq
        clear hK K hHeld
        have hHeld := hHeld2
        clear hHeld2
        try simp only [List.getElem_toArray, List.getElem_cons_succ, List.getElem_cons_zero, Act.put, List.setIfInBounds_toArray, List.set_cons_zero, List.set_cons_succ]
        refine wpAnyH_ready (rs := [3]) (by kernel_rfl) (by simp) ?_
        refine AllReadyH.cons rfl (fun K hK => ?_) AllReadyH.nil
        go_simp
        (refine (bit_any _ bit _ hh).mono ?_; rintro e w' ⟨rfl, rfl⟩)
        try go_wp2_with fail
        refine hK.out _ _ ?_ (fun hHeld2 => ?_)
        · exact hcq
        clear hK K hHeld
        have hHeld := hHeld2
        clear hHeld2
        try simp only [List.getElem_toArray, List.getElem_cons_succ, List.getElem_cons_zero, Act.put, List.setIfInBounds_toArray, List.set_cons_zero, List.set_cons_succ]
        refine wpAnyH_take (i := 5) (v := ?v8) rfl (by kernel_rfl) (by kernel_rfl) (by kernel_rfl) (fun _ _ _ h => h) (Or.inl ⟨by rfl, ?hy8⟩) (by assumption) ?rest8
        case hy8 =>
          intro w hSw
          try dsimp only at hSw
          try go_split_ands
          go_simp
          try with_reducible rfl
        case' rest8 => skip
        try simp only [List.getElem_toArray, List.getElem_cons_succ, List.getElem_cons_zero, Act.put, List.setIfInBounds_toArray, List.set_cons_zero, List.set_cons_succ]
        refine wpAnyH_done (by kernel_rfl) ?_ _
        refine NoPanic.normal ?_
        go_wp2_with (at_builtin; refine wpList_app1 rfl _ _ 54 rfl w.heap.size 9 (.string (ByteArray.mk #[])) 16 Value.string Try.underlying54 strInfo rfl u (someL (xs.take k) bit want) s rfl _ wr.heap.size rfl (hown.drew.alloc _) hc1 rfl (by omega) (by omega) (by simp; omega) ?_; intro v1 w2 hown2 hbel2 hg2)
        go_roundw
        case rel => exact ⟨_, k + 1, rfl, by omega, by go_num, by rw [HS.out]; exact hown2, (hbel.drew.alloc hB _).trans hbel2⟩
        case measure => simp [intOf]; omega
      · have HS : Hid (someL (xs.take (k + 1)) bit want = someL (xs.take k) bit want) := someL_no xs bit want k hkx (by rw [hse]; exact hw)
        have hwb : (bitB (hash 2166136261 s.data.toList) bit == want) = false := by rw [beq_eq_false_iff_ne]; exact hw
        clear hw hse
        go_wp2
        refine wp_region_noPanic ?_
        refine wp_region_held_drew (S := fun w' => w'.cell? ⟨q, 0, none⟩ = some (.int .i64 bit)) (by kernel_rfl) ?hb11 (fun hHeld => ?rest11)
        case hb11 =>
          exact hcq
        case' rest11 => skip
        refine wpAnyH_take (i := 0) (v := ?v12) rfl (by kernel_rfl) (by kernel_rfl) (by kernel_rfl) (fun _ _ _ h => h) (Or.inl ⟨by rfl, ?hy12⟩) (by assumption) ?rest12
        case hy12 =>
          intro w hSw
          try dsimp only at hSw
          try go_split_ands
          go_simp
          try with_reducible rfl
        case' rest12 => skip
        try simp only [List.getElem_toArray, List.getElem_cons_succ, List.getElem_cons_zero, Act.put, List.setIfInBounds_toArray, List.set_cons_zero, List.set_cons_succ]
        refine wpAnyH_take (i := 2) (v := ?v13) rfl (by kernel_rfl) (by kernel_rfl) (by kernel_rfl) (fun _ _ _ h => h) (Or.inl ⟨by rfl, ?hy13⟩) (by assumption) ?rest13
        case hy13 =>
          intro w hSw
          try dsimp only at hSw
          try go_split_ands
          go_simp
          try with_reducible rfl
        case' rest13 => skip
        try simp only [List.getElem_toArray, List.getElem_cons_succ, List.getElem_cons_zero, Act.put, List.setIfInBounds_toArray, List.set_cons_zero, List.set_cons_succ]
        refine wpAnyH_take (i := 4) (v := ?v14) rfl (by kernel_rfl) (by kernel_rfl) (by kernel_rfl) (fun _ _ _ h => h) (Or.inl ⟨by rfl, ?hy14⟩) (by assumption) ?rest14
        case hy14 =>
          intro w hSw
          try dsimp only at hSw
          try go_split_ands
          go_simp
          try with_reducible rfl
        case' rest14 => skip
        try simp only [List.getElem_toArray, List.getElem_cons_succ, List.getElem_cons_zero, Act.put, List.setIfInBounds_toArray, List.set_cons_zero, List.set_cons_succ]
        refine wpAnyH_ready (rs := [1]) (by kernel_rfl) (by simp) ?_
        refine AllReadyH.cons rfl (fun K hK => ?_) AllReadyH.nil
        go_simp
        (refine (of_any s _ hsz).mono ?_; rintro e w' ⟨rfl, rfl⟩)
        try go_wp2_with fail
        refine hK.out _ _ ?_ (fun hHeld2 => ?_)
        · exact hcq
        clear hK K hHeld
        have hHeld := hHeld2
        clear hHeld2
        try simp only [List.getElem_toArray, List.getElem_cons_succ, List.getElem_cons_zero, Act.put, List.setIfInBounds_toArray, List.set_cons_zero, List.set_cons_succ]
        refine wpAnyH_ready (rs := [3]) (by kernel_rfl) (by simp) ?_
        refine AllReadyH.cons rfl (fun K hK => ?_) AllReadyH.nil
        go_simp
        (refine (bit_any _ bit _ hh).mono ?_; rintro e w' ⟨rfl, rfl⟩)
        try go_wp2_with fail
        refine hK.out _ _ ?_ (fun hHeld2 => ?_)
        · exact hcq
        clear hK K hHeld
        have hHeld := hHeld2
        clear hHeld2
        try simp only [List.getElem_toArray, List.getElem_cons_succ, List.getElem_cons_zero, Act.put, List.setIfInBounds_toArray, List.set_cons_zero, List.set_cons_succ]
        refine wpAnyH_take (i := 5) (v := ?v17) rfl (by kernel_rfl) (by kernel_rfl) (by kernel_rfl) (fun _ _ _ h => h) (Or.inl ⟨by rfl, ?hy17⟩) (by assumption) ?rest17
        case hy17 =>
          intro w hSw
          try dsimp only at hSw
          try go_split_ands
          go_simp
          try with_reducible rfl
        case' rest17 => skip
        try simp only [List.getElem_toArray, List.getElem_cons_succ, List.getElem_cons_zero, Act.put, List.setIfInBounds_toArray, List.set_cons_zero, List.set_cons_succ]
        refine wpAnyH_done (by kernel_rfl) ?_ _
        refine NoPanic.normal ?_
        go_wp2
        go_roundw
        case rel => exact ⟨_, k + 1, rfl, by omega, by go_num, by rw [HS.out]; exact hown.drew, hbel.drew⟩
        case measure => simp [intOf]; omega
    · obtain rfl : k = n := by omega
      have HT : Hid (xs.take k = xs) := List.take_of_length_le (by omega)
      go_wp2
      go_ret
      exact ⟨_, rfl, by rw [HT.out] at hown; exact hown, hbel⟩

set_option maxHeartbeats 1000000 in
set_option maxRecDepth 100000 in
theorem split_any (A : Option Addr) (n c : Nat) (xs : List ByteArray) (bit : Int) (w : World) (hx : Sl w Value.string A n xs) (hs : ∀ s ∈ xs, s.size ≤ 9223372036854775807) (hn2 : n ≤ 100000) :
    Calls Try.prog 33 #[.slice A n c, .int .i64 bit] w fun e w' => ∃ v1 v2, e = .returned (.tuple #[v1, v2]) ∧ Own w' w.heap.size 9 Value.string v1 (someL xs bit false) ∧ Own w' w.heap.size 9 Value.string v2 (someL xs bit true) ∧ Below w.heap.size w w' := by
  have hp : ((w.alloc (.cells #[.slice A n c] 54)).alloc (.cells #[.int .i64 bit] 3)).heap[w.heap.size]? = some (.cells #[.slice A n c] 54 (0, 0)) := heap_alloc2_old w _ _
  have hq : ((w.alloc (.cells #[.slice A n c] 54)).alloc (.cells #[.int .i64 bit] 3)).heap[w.heap.size + 1]? = some (.cells #[.int .i64 bit] 3 (0, 0)) := heap_alloc2_new w _ _
  have hbel := ((Below.refl w.heap.size w).alloc (Nat.le_refl _) (.cells #[.slice A n c] 54)).alloc (by simp) (.cells #[.int .i64 bit] 3)
  have hx1 := hx.below hbel
  go_enter Try.func33, Try.ntmps33
  go_wp2_with fail
  generalize (w.alloc (.cells #[.slice A n c] 54)).alloc (.cells #[.int .i64 bit] 3) = w1 at hp hq hbel hx1 ⊢
  refine (split1_any A n c xs bit false _ _ _ hp hq hx1 hs hn2).mono ?_
  rintro e w2 ⟨v1, rfl, hown1, hbel2⟩
  have hp2 := (hbel2.block _ (Array.getElem?_eq_some_iff.1 hp).1).trans hp
  have hq2 := (hbel2.block _ (Array.getElem?_eq_some_iff.1 hq).1).trans hq
  have hx2 := hx1.below hbel2
  have hbel3 := hbel.trans (hbel2.mono hbel.size)
  have hown2 := hown1.mono hbel.size
  clear hown1 hbel2 hp hq hx1
  go_wp2_with fail
  refine (split1_any A n c xs bit true _ _ _ hp2 hq2 hx2 hs hn2).mono ?_
  rintro e w3 ⟨v2, rfl, hown3, hbel4⟩
  have hown4 := hown2.below hbel4
  have hown5 := hown3.mono hbel3.size
  have hbel5 := hbel3.trans (hbel4.mono hbel3.size)
  go_wp2
  go_ret2
  exact ⟨_, _, rfl, hown4, hown5, hbel5⟩
end Go.Proofs.Ytgcmgohknocfnaa.Mix
