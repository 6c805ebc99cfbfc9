/- The document's Of, Without; changes as the document has them. No statement is proved here. -/
import Derived.Test.YteeodeooicoekaaSw
namespace Go.Proofs.Yteeodeooicoekaa.Rd
open Go.RowKit Go.Proofs.Yteeodeooicoekaa.Mem Go.Proofs.Yteeodeooicoekaa.Open Go.Proofs.Yteeodeooicoekaa.Kind Go.Proofs.Yteeodeooicoekaa.Blk Go.Proofs.Yteeodeooicoekaa.App Go.Proofs.Yteeodeooicoekaa.Pat
set_option linter.unusedVariables false
set_option linter.unusedSimpArgs false
theorem rchInfo3 : (Try.prog.info? 59).map (fun i => (i.zero, i.size, i.bytes)) = some (some (.agg chZ), 5, 72) := by kernel_rfl
/-- A list of changes that the call has laid, as the document has them. -/
abbrev RK (w : World) (B : Nat) (v : Value) (xs : List Chg) : Prop := OwnK kChg w B 59 v xs
theorem ChS.old {w w' : World} {x : Chg} {A : Option Addr} {c : Nat} {A2 : Option Addr} {c2 : Nat} (h : ChS w x A c A2 c2) (hb : Below w.heap.size w w') : kChg.K w' (fun b => b < w.heap.size) x (chC x A c A2 c2).toList :=
  kChg.stay (w := w) (fun b hb' => hb.block b hb') (by have := h.k; exact this)
set_option maxHeartbeats 2000000 in
set_option maxRecDepth 100000 in
theorem RWithout_any (A : Option Addr) (c : Nat) (xs : List Chg) (A2 : Option Addr) (c2 : Nat) (ids : List Int) (w : World) (hx : Chs w A xs) (hi : Is w A2 ids) (hn : xs.length ≤ 1000) :
    Calls Try.prog 21 #[.slice A xs.length c, .slice A2 ids.length c2] w fun r w' => ∃ v, r = .returned v ∧ RK w' w.heap.size v (woS xs ids) ∧ Below w.heap.size w w' := by
  have hl : xs.length ≤ 9223372036854775807 := hx.2.1
  obtain ⟨is, his⟩ : ∃ is : Chg → Bool, is = fun x => !decide (x.id ∈ ids) := ⟨_, rfl⟩
  have HR : Hid (woS xs ids = xs.filter is) := Lib.hid (by rw [his]; rfl)
  have HIS : Hid (∀ x, is x = !decide (x.id ∈ ids)) := Lib.hid (fun x => by rw [his])
  clear his
  go_enter Try.func21, Try.ntmps21
  go_wp2
  go_loopw [5, 6] (fun v i wr => ∃ (k : Nat), k ≤ xs.length ∧ i = .int .i64 k ∧ RK wr w.heap.size v ((xs.take k).filter is) ∧ Below w.heap.size w wr) (fun _ i _ => xs.length - (intOf i).toNat)
  case atStart => exact ⟨0, by omega, rfl, OwnK.nil _ _ _ _, Below.refl _ _⟩
  case round =>
    obtain ⟨k, hk, rfl, hown, hbr⟩ := hrel
    by_cases hlt : k < xs.length
    · have CI0 := in_any A2 c2 ids xs[k].id wr (hi.below hbr)
      obtain ⟨g, o, rfl, hg⟩ := ch_form hx (by omega)
      obtain ⟨A1, c1, A2', c2', hat0⟩ := ch_at hx k hlt
      have hat := hat0.below hbr
      have e0 := hat.v0
      have e1 := hat.v1
      have e2 := hat.v2
      have e3 : wr.cell? ⟨g, o + k * 5 + 3, none⟩ = _ := hat.v3
      have e4 := hat.v4
      have hK0 : ∀ wX, Below w.heap.size w wX → kChg.K wX (fun b => b < w.heap.size) xs[k] (chC xs[k] A1 c1 A2' c2').toList := fun wX hb => hat0.s.old hb
      have HE : Hid (∀ w9, Below w.heap.size w w9 → ChAt w9 g o k xs[k] A1 c1 A2' c2') := Lib.hid fun w9 h => hat0.below h
      have HT := Lib.hid (take_next hlt)
      have HK := Lib.hid hK0
      have HO := Lib.hid hown
      have HB := Lib.hid hbr
      have HLT := Lib.hid hown.lt
      have hle := hbr.size
      have hl2 : ((xs.take k).filter is).length ≤ k := Nat.le_trans (List.length_filter_le _ _) (by rw [List.length_take]; omega)
      clear hat0 hat hown hbr hK0
      generalize xs[k] = x at *
      obtain ⟨R, hR⟩ : ∃ R, (xs.take k).filter is = R := ⟨_, rfl⟩
      rw [hR] at HO hl2
      have HRR := Lib.hid hR
      have CI := Lib.hid CI0
      clear hR CI0
      by_cases hin : x.id ∈ ids
      · have HT2 : Hid ((xs.take (k + 1)).filter is = R) := Lib.hid (by rw [HT.out, List.filter_append, List.filter_cons_of_neg (by rw [HIS.out, decide_eq_true hin]; simp), List.filter_nil, List.append_nil, HRR.out])
        rw [decide_eq_true hin] at CI
        clear hin
        go_wp2_with fail
        refine CI.out.mono ?_
        rintro e wX ⟨rfl, hbX⟩
        have HOX := Lib.hid (HO.out.below hbX)
        have HBX := Lib.hid (HB.out.trans (hbX.mono HB.out.size))
        clear hbX CI
        go_wp2_with fail
        go_roundw
        case rel => exact ⟨k + 1, by omega, by go_num, by rw [HT2.out]; exact HOX.out, HBX.out⟩
        case measure => simp [intOf]; omega
      · have hf : is x = true := by rw [HIS.out, decide_eq_false hin]; rfl
        rw [decide_eq_false hin] at CI
        clear hin
        go_wp2_with fail
        refine CI.out.mono ?_
        rintro e wX ⟨rfl, hbX⟩
        have HOX := Lib.hid (HO.out.below hbX)
        have HBX := Lib.hid (HB.out.trans (hbX.mono HB.out.size))
        clear hbX CI e0 e1 e2 e3 e4
        have HT2 : Hid ((xs.take (k + 1)).filter is = R ++ [x]) := Lib.hid (by rw [HT.out, List.filter_append, List.filter_cons_of_pos hf, List.filter_nil, HRR.out])
        have hrow : Row (wX.alloc (.cells (chC x A1 c1 A2' c2') 59)) wX.heap.size 59 (chC x A1 c1 A2' c2').toList.toArray := by rw [Array.toArray_toList]; exact Row.new wX _ _
        have hO4 := HOX.out.alloc (.cells (chC x A1 c1 A2' c2') 59)
        have HB4 := Lib.hid (HBX.out.alloc HBX.out.size (.cells (chC x A1 c1 A2' c2') 59))
        have hK := HK.out _ HB4.out
        have hle5 : w.heap.size ≤ (wX.alloc (.cells (chC x A1 c1 A2' c2') 59)).heap.size := HB4.out.size
        have q := HE.out wX HBX.out
        have q0 := q.v0
        have q1 := q.v1
        have q2 := q.v2
        have q3 : wX.cell? ⟨g, o + k * 5 + 3, none⟩ = _ := q.v3
        have q4 := q.v4
        clear q hf
        go_wp2_with (at_builtin; go_loud (refine wpList_appK (k := kChg) rfl _ _ 23 rfl (.agg chZ) 72 Try.underlying23 rchInfo3 rfl (by decide) rfl _ _ rfl hO4 59 (chC x A1 c1 A2' c2').toList hrow x _ hK (fun b hb => ⟨fun e => by have := HLT.out b e.symm; omega, Nat.lt_of_lt_of_le hb hle5⟩) (by omega) (by omega) hle5 ?_); intro v7 w7 hown7 hg7 hat7)
        have HO7 := Lib.hid hown7
        have HB7 := Lib.hid (HB4.out.grown hg7 hle5 (fun q hq => (HLT.out q hq).1))
        clear hown7 hg7 hat7
        go_roundw
        case rel => exact ⟨k + 1, by omega, by go_num, by rw [HT2.out]; exact HO7.out, HB7.out⟩
        case measure => simp [intOf]; omega
    · obtain rfl : k = xs.length := by omega
      rw [List.take_length] at hown
      have HO := Lib.hid hown
      clear hown
      go_wp2
      go_ret
      exact ⟨_, rfl, by rw [HR.out]; exact HO.out, hbr⟩
end Go.Proofs.Yteeodeooicoekaa.Rd
