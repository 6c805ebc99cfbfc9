/- The example of chapter 9. No statement is proved here. -/
import Derived.Test.YtechlhmmgabikaaRq
import Derived.Test.YtechlhmmgabikaaSame
namespace Go.Proofs.Ytechlhmmgabikaa.Rd
open Go.RowKit Go.Proofs.Ytechlhmmgabikaa.Mem Go.Proofs.Ytechlhmmgabikaa.Open Go.Proofs.Ytechlhmmgabikaa.Kind Go.Proofs.Ytechlhmmgabikaa.Blk Go.Proofs.Ytechlhmmgabikaa.App Go.Proofs.Ytechlhmmgabikaa.Pat Go.Proofs.Ytechlhmmgabikaa.Same
set_option linter.unusedVariables false
set_option linter.unusedSimpArgs false
def exL : List Chg := [⟨1, 5, 1, [1], []⟩, ⟨2, 6, 1, [1], [1]⟩, ⟨3, 6, 2, [1], []⟩]
theorem ex1 : readyS exL 6 = [3] := by decide
theorem ex2 : readyS (exL.drop 1) 6 = [2, 3] := by decide
theorem ex3 : mayF 0 (exL.drop 2) = true := by decide
theorem rowAt {w : World} {g : Nat} (T : TypeId) (cs : Array Value) (h : w.heap.size = g) : Row (w.alloc (.cells cs T)) g T cs := h ▸ Row.new w T cs
theorem by_row {w : World} {g : Nat} {T : TypeId} {d : List Nat} (h : Row w g T (blk d)) (hb : ∀ x ∈ d, x < 256) (hl : d.length ≤ M63) : By w (some ⟨g, 0, none⟩) d :=
  ⟨rfl, hl, .inr ⟨g, 0, rfl, h.lt, h.lt, fun i x hx => ⟨[V8 x], ⟨rfl, hb x (List.mem_of_getElem? hx)⟩, fun j v hv => by
    cases j with
    | succ j => simp at hv
    | zero =>
      simp at hv
      subst hv
      obtain ⟨hi, rfl⟩ := List.getElem?_eq_some_iff.1 hx
      rw [show 0 + i * kByte.sz + 0 = i from by show 0 + i * 1 + 0 = i; omega]
      exact h.cell i (blk_get d i hi)⟩⟩⟩
theorem is_row {w : World} {g : Nat} {T : TypeId} {d : List Int} (h : Row w g T (nums d)) (hb : ∀ x ∈ d, WfI x) (hl : d.length ≤ M63) : Is w (some ⟨g, 0, none⟩) d :=
  ⟨rfl, hl, .inr ⟨g, 0, rfl, h.lt, h.lt, fun i x hx => ⟨[V64 x], ⟨rfl, hb x (List.mem_of_getElem? hx)⟩, fun j v hv => by
    cases j with
    | succ j => simp at hv
    | zero =>
      simp at hv
      subst hv
      obtain ⟨hi, rfl⟩ := List.getElem?_eq_some_iff.1 hx
      rw [show 0 + i * (kInt .i64).sz + 0 = i from by show 0 + i * 1 + 0 = i; omega]
      exact h.cell i (nums_get d i hi)⟩⟩⟩
/-- Changes written out in one block. -/
theorem chs_row {w : World} {g : Nat} {T : TypeId} {cs : Array Value} {xs : List Chg} (h : Row w g T cs) (hl : xs.length ≤ M63)
    (hx : ∀ i x, xs[i]? = some x → ∃ A c A2 c2, kChg.K w (All w) x (chC x A c A2 c2).toList ∧ ∀ j v, (chC x A c A2 c2).toList[j]? = some v → cs[i * 5 + j]? = some v) : Chs w (some ⟨g, 0, none⟩) xs :=
  ⟨rfl, hl, .inr ⟨g, 0, rfl, h.lt, h.lt, fun i x hi => by
    obtain ⟨A, c, A2, c2, h1, h2⟩ := hx i x hi
    refine ⟨_, h1, fun j v hv => ?_⟩
    rw [show 0 + i * kChg.sz + j = i * 5 + j from by show 0 + i * 5 + j = _; omega]
    exact h.cell _ (h2 j v hv)⟩⟩
theorem is_nil {w : World} {A : Option Addr} : Is w A [] := Rw.nil _ _ _ _
theorem sl_of_is {w : World} {A : Option Addr} {xs : List Int} (h : Is w A xs) : Sl w V64 A xs.length xs := h.sl_int
theorem chs_drop {w : World} {g o : Nat} {xs : List Chg} (h : Chs w (some ⟨g, o, none⟩) xs) (m : Nat) (hm : m ≤ xs.length) : Chs w (some ⟨g, o + m * 5, none⟩) (xs.drop m) := by
  have e : (xs.drop m).length = xs.length - m := by rw [List.length_drop]
  show Rw kChg w (All w) _ (xs.drop m).length (xs.drop m)
  rw [e]
  exact h.drop m hm
theorem fn_bytes1 (w : World) (T : TypeId) : w.alloc (.cells #[.int .u8 1] T) = w.alloc (.cells (blk [1]) T) := rfl
def exW (w : World) : World := ((((w.alloc (.cells #[.int .u8 1] 5)).alloc (.cells #[.int .i64 1, .slice (some ⟨w.heap.size, 0, none⟩) 1 1] 70)).alloc (.cells #[.int .i64 1] 3)).alloc (.cells #[.int .u8 1] 5)).alloc (.cells #[.int .i64 1, .int .i64 5, .int .i64 1, .slice (some ⟨w.heap.size, 0, none⟩) 1 1, .slice none 0 0, .int .i64 2, .int .i64 6, .int .i64 1, .slice (some ⟨w.heap.size, 0, none⟩) 1 1, .slice (some ⟨w.heap.size + 1 + 1, 0, none⟩) 1 1, .int .i64 3, .int .i64 6, .int .i64 2, .slice (some ⟨w.heap.size + 1 + 1 + 1, 0, none⟩) 1 1, .slice none 0 0] 72)
theorem exW_facts (w : World) : Chs (exW w) (some ⟨w.heap.size + 1 + 1 + 1 + 1, 0, none⟩) exL ∧ Below w.heap.size w (exW w) := by
  have r0 : Row (exW w) w.heap.size 5 (blk [1]) := ((((rowAt 5 (blk [1]) rfl).alloc _).alloc _).alloc _).alloc _
  have r2 : Row (exW w) (w.heap.size + 1 + 1) 3 (nums [1]) := ((rowAt 3 (nums [1]) (by simp)).alloc _).alloc _
  have r3 : Row (exW w) (w.heap.size + 1 + 1 + 1) 5 (blk [1]) := (rowAt 5 (blk [1]) (by simp)).alloc _
  have r4 : Row (exW w) (w.heap.size + 1 + 1 + 1 + 1) 72 _ := rowAt 72 _ (by simp)
  have b0 : By (exW w) (some ⟨w.heap.size, 0, none⟩) [1] := by_row r0 (by simp) (by decide)
  have b3 : By (exW w) (some ⟨w.heap.size + 1 + 1 + 1, 0, none⟩) [1] := by_row r3 (by simp) (by decide)
  have i2 : Is (exW w) (some ⟨w.heap.size + 1 + 1, 0, none⟩) [1] := is_row r2 (fun x hx => by simp at hx; subst hx; rfl) (by decide)
  refine ⟨chs_row r4 (by decide) fun i x hx => ?_, ?_⟩
  · match i, hx with
    | 0, hx =>
      simp [exL] at hx
      subst hx
      exact ⟨some ⟨w.heap.size, 0, none⟩, 1, none, 0, kChg_mk ⟨rfl, rfl, rfl⟩ (by decide) (by decide) (fun h => by first | rfl | cases h) b0 (by decide) (by decide) (fun h => by first | rfl | cases h) is_nil, fun j v hv => by
        match j, hv with
        | 0, hv | 1, hv | 2, hv | 3, hv | 4, hv => simpa using hv
        | n + 5, hv => simp at hv⟩
    | 1, hx =>
      simp [exL] at hx
      subst hx
      exact ⟨some ⟨w.heap.size, 0, none⟩, 1, some ⟨w.heap.size + 1 + 1, 0, none⟩, 1, kChg_mk ⟨rfl, rfl, rfl⟩ (by decide) (by decide) (fun h => by first | rfl | cases h) b0 (by decide) (by decide) (fun h => by first | rfl | cases h) i2, fun j v hv => by
        match j, hv with
        | 0, hv | 1, hv | 2, hv | 3, hv | 4, hv => simpa using hv
        | n + 5, hv => simp at hv⟩
    | 2, hx =>
      simp [exL] at hx
      subst hx
      exact ⟨some ⟨w.heap.size + 1 + 1 + 1, 0, none⟩, 1, none, 0, kChg_mk ⟨rfl, rfl, rfl⟩ (by decide) (by decide) (fun h => by first | rfl | cases h) b3 (by decide) (by decide) (fun h => by first | rfl | cases h) is_nil, fun j v hv => by
        match j, hv with
        | 0, hv | 1, hv | 2, hv | 3, hv | 4, hv => simpa using hv
        | n + 5, hv => simp at hv⟩
    | n + 3, hx => simp [exL] at hx
  · exact (((((Below.refl _ _).alloc (Nat.le_refl _) _).alloc (by simp) _).alloc (by simp; omega) _).alloc (by simp; omega) _).alloc (by simp; omega) _
set_option maxHeartbeats 1000000 in
set_option maxRecDepth 100000 in
theorem works9 (w : World) :
    Calls Try.prog 28 #[] w fun e w' => e = .returned (.bool true) ∧ Below w.heap.size w w' := by
  obtain ⟨hx, hb⟩ := exW_facts w
  have sm : Small exL := by intro x hx; simp [exL] at hx; rcases hx with rfl | rfl | rfl <;> simp
  have sm1 : Small (exL.drop 1) := fun x hx => sm x (List.mem_of_mem_drop hx)
  have C1 : Hid (∀ w', Chs w' (some ⟨w.heap.size + 1 + 1 + 1 + 1, 0, none⟩) exL → Calls Try.prog 33 #[.slice (some ⟨w.heap.size + 1 + 1 + 1 + 1, 0, none⟩) 3 3, .int .i64 6] w' fun r w'' => ∃ v, r = .returned v ∧ Ns w'' w'.heap.size v [3] ∧ Below w'.heap.size w' w'') := Lib.hid fun w' h => by have := Ready_any (some ⟨w.heap.size + 1 + 1 + 1 + 1, 0, none⟩) 3 exL 6 w' h (by decide) (by decide) (by decide) sm; rw [ex1] at this; exact this
  have C2 : Hid (∀ w', Chs w' (some ⟨w.heap.size + 1 + 1 + 1 + 1, 5, none⟩) (exL.drop 1) → Calls Try.prog 33 #[.slice (some ⟨w.heap.size + 1 + 1 + 1 + 1, 5, none⟩) 2 2, .int .i64 6] w' fun r w'' => ∃ v, r = .returned v ∧ Ns w'' w'.heap.size v [2, 3] ∧ Below w'.heap.size w' w'') := Lib.hid fun w' h => by have := Ready_any (some ⟨w.heap.size + 1 + 1 + 1 + 1, 5, none⟩) 2 (exL.drop 1) 6 w' h (by decide) (by decide) (by decide) sm1; rw [ex2] at this; exact this
  have C3 : Hid (∀ w', Chs w' (some ⟨w.heap.size + 1 + 1 + 1 + 1, 10, none⟩) (exL.drop 2) → Calls Try.prog 30 #[.slice (some ⟨w.heap.size + 1 + 1 + 1 + 1, 10, none⟩) 1 1] w' fun r w'' => r = .returned (.int .i64 0) ∧ Below w'.heap.size w' w'') := Lib.hid fun w' h => by have := chk_any (some ⟨w.heap.size + 1 + 1 + 1 + 1, 10, none⟩) 1 (exL.drop 2) w' h; rw [ex3] at this; exact this
  have HX := Lib.hid hx
  have HX1 : Hid (Chs (exW w) (some ⟨w.heap.size + 1 + 1 + 1 + 1, 5, none⟩) (exL.drop 1)) := Lib.hid (chs_drop hx 1 (by decide))
  have HX2 : Hid (Chs (exW w) (some ⟨w.heap.size + 1 + 1 + 1 + 1, 10, none⟩) (exL.drop 2)) := Lib.hid (chs_drop hx 2 (by decide))
  have HB := Lib.hid hb
  clear hx hb
  unfold exW at *
  go_enter Try.func28, Try.ntmps28
  go_wp2_with fail
  generalize ((((w.alloc (.cells #[.int .u8 1] 5)).alloc (.cells #[.int .i64 1, .slice (some ⟨w.heap.size, 0, none⟩) 1 1] 70)).alloc (.cells #[.int .i64 1] 3)).alloc (.cells #[.int .u8 1] 5)).alloc (.cells #[.int .i64 1, .int .i64 5, .int .i64 1, .slice (some ⟨w.heap.size, 0, none⟩) 1 1, .slice none 0 0, .int .i64 2, .int .i64 6, .int .i64 1, .slice (some ⟨w.heap.size, 0, none⟩) 1 1, .slice (some ⟨w.heap.size + 1 + 1, 0, none⟩) 1 1, .int .i64 3, .int .i64 6, .int .i64 2, .slice (some ⟨w.heap.size + 1 + 1 + 1, 0, none⟩) 1 1, .slice none 0 0] 72) = W at *
  refine (C1.out W HX.out).mono ?_
  rintro e w1 ⟨v1, rfl, hown1, hb1⟩
  obtain ⟨A1, c1, rfl⟩ := hown1.slice
  have hl3 : Sl (w1.alloc (.cells #[.int .i64 3] 3)) V64 (some ⟨w1.heap.size, 0, none⟩) 1 [3] := sl_block (Row.new w1 3 #[.int .i64 3]) rfl (by decide)
  have hs1 : Sl (w1.alloc (.cells #[.int .i64 3] 3)) V64 A1 1 [3] := (hown1.alloc _).sl.2
  have hb1' := hb1.alloc hb1.size (.cells #[.int .i64 3] 3)
  have I1 := Lib.hid (ints_any A1 (some ⟨w1.heap.size, 0, none⟩) 1 1 c1 1 [3] [3] _ hs1 hl3)
  have HB1 := Lib.hid (HB.out.trans (hb1'.mono HB.out.size))
  have HX11 := Lib.hid (HX1.out.below hb1')
  have HX21 := Lib.hid (HX2.out.below hb1')
  clear hown1 hl3 hs1 hb1' hb1 C1 HX HX1 HX2 HB
  go_wp2_with fail
  refine I1.out.mono ?_
  rintro e w2 ⟨rfl, q2, rfl⟩
  have hb2 := bdrewN (Below.refl (w1.alloc (.cells #[.int .i64 3] 3)).heap.size (w1.alloc (.cells #[.int .i64 3] 3))) q2
  have HX12 := Lib.hid (HX11.out.below hb2)
  have HX22 := Lib.hid (HX21.out.below hb2)
  have HB2 := Lib.hid (HB1.out.trans (hb2.mono HB1.out.size))
  clear hb2 HX11 HX21 HB1 I1
  go_wp2_with fail
  generalize (w1.alloc (.cells #[.int .i64 3] 3)).drewN q2 = w3 at *
  refine (C2.out w3 HX12.out).mono ?_
  rintro e w4 ⟨v4, rfl, hown4, hb4⟩
  obtain ⟨A4, c4, rfl⟩ := hown4.slice
  have hl4 : Sl (w4.alloc (.cells #[.int .i64 2, .int .i64 3] 3)) V64 (some ⟨w4.heap.size, 0, none⟩) 2 [2, 3] := sl_block (Row.new w4 3 #[.int .i64 2, .int .i64 3]) rfl (by decide)
  have hs4 : Sl (w4.alloc (.cells #[.int .i64 2, .int .i64 3] 3)) V64 A4 2 [2, 3] := (hown4.alloc _).sl.2
  have hb4' := hb4.alloc hb4.size (.cells #[.int .i64 2, .int .i64 3] 3)
  have I2 := Lib.hid (ints_any A4 (some ⟨w4.heap.size, 0, none⟩) 2 2 c4 2 [2, 3] [2, 3] _ hs4 hl4)
  have HB4 := Lib.hid (HB2.out.trans (hb4'.mono HB2.out.size))
  have HX24 := Lib.hid (HX22.out.below hb4')
  clear hown4 hl4 hs4 hb4' hb4 C2 HX12 HX22 HB2
  go_wp2_with fail
  refine I2.out.mono ?_
  rintro e w5 ⟨rfl, q5, rfl⟩
  have hb5 := bdrewN (Below.refl (w4.alloc (.cells #[.int .i64 2, .int .i64 3] 3)).heap.size (w4.alloc (.cells #[.int .i64 2, .int .i64 3] 3))) q5
  have HX25 := Lib.hid (HX24.out.below hb5)
  have HB5 := Lib.hid (HB4.out.trans (hb5.mono HB4.out.size))
  clear hb5 HX24 HB4 I2
  go_wp2_with fail
  generalize (w4.alloc (.cells #[.int .i64 2, .int .i64 3] 3)).drewN q5 = w6 at *
  refine (C3.out w6 HX25.out).mono ?_
  rintro e w7 ⟨rfl, hb7⟩
  go_wp2
  go_ret
  exact ⟨rfl, HB5.out.trans (hb7.mono HB5.out.size)⟩
end Go.Proofs.Ytechlhmmgabikaa.Rd
