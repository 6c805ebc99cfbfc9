/- Where in which blocks some bytes of a file stand: the contracts of fread.Spans and fill.Blocks. No statement is proved here. -/
import Derived.Test.YtadiamgoglodbaaOwnK
import Derived.Test.YtadiamgoglodbaaFld
import Derived.Test.YtadiamgoglodbaaBlk
import Derived.Great.BuildSlice
namespace Go.Proofs.Ytadiamgoglodbaa.Spn
open Go.RowKit Go.Proofs.Ytadiamgoglodbaa.Mem Go.Proofs.Ytadiamgoglodbaa.Open Go.Proofs.Ytadiamgoglodbaa.Kind Go.Proofs.Ytadiamgoglodbaa.Blk Go.Proofs.Ytadiamgoglodbaa.App
set_option linter.unusedVariables false
set_option linter.unusedSimpArgs false
theorem wpList_build1 {P : Program} {ops : Array Oper} {rest : List Oper} {o : Oper} {a : Act} {w : World} {Q : Exit → Act → World → Prop} (hg : o.guard = none) (t e : TypeId) (x : Operand) (ho : o.op = .buildSlice t 1 #[(0, x)])
    (n bytes : Nat) (z : Value) (cs : Array Value) (hx : a.eval x = .agg cs) (hs : cs.size = n) (hpos : 0 < n) (hn : n ≤ 2 ^ 24) (hu : P.underlying t = some (.slice e)) (hi : (P.info? e).map (fun i => (i.zero, i.size, i.bytes)) = some (some z, n, bytes))
    (h : wpList P ops Q rest (a.put o.dst (.slice (some ⟨w.heap.size, 0, none⟩) 1 1)) (w.alloc (.cells cs e))) : wpList P ops Q (o :: rest) a w := by
  obtain ⟨ie, hie, hz, h1, h2⟩ := info_parts hi
  refine wpList_buildSlice hg t e 1 _ ho cs ie z hu hie hz (by rw [h1]; omega) (by rw [h1]; omega) ?_ h
  have hf := Great.fill_whole (s := n) hpos [.agg cs] ((Array.range (1 * n)).map (z.cells[· % z.cells.size]!)) (by simp [Value.cells, hs]) (by simp)
  rw [h1]
  simp only [List.map_toArray, List.map_cons, List.map_nil, hx]
  simpa [Value.cells] using hf
/-- The spans of n bytes from o on: block, place in it, how many. -/
def spW (o n : Nat) : List (Int × Int × Int) := if h : n = 0 then [] else (((o / 256 : Nat) : Int), ((o % 256 : Nat) : Int), ((min n (256 - o % 256) : Nat) : Int)) :: spW (o + min n (256 - o % 256)) (n - min n (256 - o % 256))
termination_by n
decreasing_by have := Nat.mod_lt o (show 0 < 256 by omega); omega
theorem spW_zero (o : Nat) : spW o 0 = [] := by rw [spW]; rfl
theorem spW_next {o n : Nat} (h : n ≠ 0) : spW o n = (((o / 256 : Nat) : Int), ((o % 256 : Nat) : Int), ((min n (256 - o % 256) : Nat) : Int)) :: spW (o + min n (256 - o % 256)) (n - min n (256 - o % 256)) := by
  rw [spW, dif_neg h]
def spS (off n : Int) : List (Int × Int × Int) := if 34304 ≤ off then [] else spW (max 0 off).toNat (min (max 0 n) (34304 - max 0 off)).toNat
abbrev k3 : Kd (Int × Int × Int) := kPair (kInt .i64) (kPair (kInt .i64) (kInt .i64))
theorem i3Info : (Try.prog.info? 46).map (fun i => (i.zero, i.size, i.bytes)) = some (some (.agg #[.int .i64 0, .int .i64 0, .int .i64 0]), 3, 24) := by kernel_rfl
def WfJ (n : Int) : Prop := (Lit.int .i64 n).wf = true
theorem wfj_iff (n : Int) : WfJ n ↔ -9223372036854775808 ≤ n ∧ n ≤ 9223372036854775807 := by
  simp [WfJ, Lit.wf, IntKind.min, IntKind.max, IntKind.signed, IntKind.bits]
theorem ownK_sl {α : Type} {k : Kd α} {w : World} {B : Nat} {T : TypeId} {v : Value} {xs : List α} (h : OwnK k w B T v xs) : ∃ A c, v = .slice A xs.length c := by
  obtain ⟨A', c', e, _⟩ := h.rw_
  exact ⟨A', c', e⟩
def natOf : Value → Nat
  | .int _ n => n.toNat
  | _ => 0
set_option maxHeartbeats 2000000 in
set_option maxRecDepth 100000 in
theorem Spans_any (off : Int) (m : Nat) (w : World) (ho : WfJ off) (hm : m ≤ 9223372036854775807) :
    Calls Try.prog 14 #[.int .i64 off, .int .i64 m] w fun r w' => ∃ v, r = .returned v ∧ OwnK k3 w' w.heap.size 46 v (spS off m) ∧ Below w.heap.size w w' := by
  have ho' := (wfj_iff off).1 ho
  by_cases hbig : 34304 ≤ off
  · have HS : Hid (spS off m = []) := Lib.hid (if_pos hbig)
    have hmx : max 0 off = off := by omega
    go_enter Try.func14, Try.ntmps14
    go_wp2
    go_ret
    exact ⟨_, rfl, by rw [HS.out]; first | exact OwnK.nil _ _ _ _ | exact (OwnK.nil _ _ _ _).drewN _, by first | exact Below.refl _ _ | exact bdrewN (Below.refl _ _) _⟩
  · obtain ⟨o, hoe, hol⟩ : ∃ o : Nat, max 0 off = (o : Int) ∧ o < 34304 := ⟨(max 0 off).toNat, by omega, by omega⟩
    obtain ⟨n, hne, hnl⟩ : ∃ n : Nat, min (max 0 (m : Int)) (34304 - (o : Int)) = (n : Int) ∧ o + n ≤ 34304 := ⟨(min (max 0 (m : Int)) (34304 - (o : Int))).toNat, by omega, by omega⟩
    have HS : Hid (spS off m = spW o n) := Lib.hid (by unfold spS; rw [if_neg hbig, hoe, hne, Int.toNat_natCast, Int.toNat_natCast])
    have hmx : (if 0 < off then off else 0) = (o : Int) := by split <;> omega
    have HNE : Hid (min (max 0 (m : Int)) (34304 - (o : Int)) = (n : Int)) := Lib.hid hne
    have hd1 : decide ((34304 : Int) ≤ (o : Int)) = false := decide_eq_false (by omega)
    have hd2 : decide (34304 ≤ o) = false := decide_eq_false (by omega)
    obtain ⟨k, hk⟩ : ∃ k : Nat, 34304 - (o : Int) = (k : Int) := ⟨34304 - o, by omega⟩
    have hm0 : (if 0 < m then (m : Int) else 0) = (m : Int) := by split <;> omega
    have hwr : wrap64 (34304 - (o : Int)) = (k : Int) := by unfold wrap64; omega
    have hmn : (if k < m then (k : Int) else (m : Int)) = (n : Int) := by split <;> omega
    have HB0 := Lib.hid hnl
    clear hoe hne hol hnl hbig ho' hk
    go_enter Try.func14, Try.ntmps14
    go_wp2_with fail
    go_loopw [0, 1, 5] (fun v u out wr => ∃ (o n : Nat) (ds : List (Int × Int × Int)), v = .int .i64 o ∧ u = .int .i64 n ∧ OwnK k3 wr w.heap.size 46 out ds ∧ Hid (spS off m = ds ++ spW o n) ∧ Hid (o + n ≤ 34304) ∧ Hid (ds.length + n ≤ 34304) ∧ Below w.heap.size w wr) (fun _ u _ _ => natOf u)
    case atStart => exact ⟨o, n, [], rfl, rfl, by first | exact OwnK.nil _ _ _ _ | exact (OwnK.nil _ _ _ _).drewN _, Lib.hid HS.out, HB0, Lib.hid (by have := HB0.out; simp; omega), by first | exact Below.refl _ _ | exact bdrewN (Below.refl _ _) _⟩
    case round =>
      clear hd1 hd2 hwr hmn hmx hm0 HB0
      obtain ⟨o, n, ds, rfl, rfl, hown, hsp, hon, hdn, hbr⟩ := hrel
      obtain ⟨A5, c5, rfl⟩ := ownK_sl hown
      have hle := hbr.size
      by_cases hz : n = 0
      · subst hz
        have HE : Hid (spS off m = ds) := Lib.hid (by rw [hsp.out, spW_zero, List.append_nil])
        have HO := Lib.hid hown
        clear hown hsp hon hdn
        go_wp2
        go_ret
        exact ⟨_, rfl, by rw [HE.out]; first | exact HO.out | exact HO.out.drewN _, by first | exact hbr | exact bdrewN hbr _⟩
      · have hlt : o % 256 < 256 := Nat.mod_lt _ (by omega)
        obtain ⟨a, ha⟩ : ∃ a, o % 256 = a := ⟨_, rfl⟩
        obtain ⟨q, hq⟩ : ∃ q, o / 256 = q := ⟨_, rfl⟩
        obtain ⟨mm, hmm⟩ : ∃ mm, min n (256 - a) = mm := ⟨_, rfl⟩
        obtain ⟨b, hb⟩ : ∃ b, 256 - a = b := ⟨_, rfl⟩
        have h1 : (o : Int).tmod 256 = (a : Int) := by rw [← ha]; rfl
        have h2 : (o : Int).tdiv 256 = (q : Int) := by rw [← hq]; rfl
        have hon' := hon.out
        have hdn' := hdn.out
        have h3 : (256 : Int) - (a : Int) = (b : Int) := by omega
        have h4 : (if b < n then (b : Int) else (n : Int)) = (mm : Int) := by split <;> omega
        have HNX : Hid (spW o n = ((q : Int), (a : Int), (mm : Int)) :: spW (o + mm) (n - mm)) := Lib.hid (by rw [spW_next hz, ha, hq, hmm])
        have hp : 0 < n := by omega
        have hmp : 0 < mm := by omega
        have hmle : mm ≤ n := by omega
        have HN3 := Lib.hid (show n - mm + mm = n by omega)
        have HB3 : Hid (o + mm + (n - mm) ≤ 34304 ∧ (ds.length + 1) + (n - mm) ≤ 34304 ∧ q ≤ 1000 ∧ a ≤ 256 ∧ mm ≤ 256) := Lib.hid ⟨by omega, by omega, by omega, by omega, by omega⟩
        have hsub : (n : Int) - (mm : Int) = ((n - mm : Nat) : Int) := by omega
        have hadd : (o : Int) + (mm : Int) = ((o + mm : Nat) : Int) := by omega
        have hob : (o : Int) + (mm : Int) ≤ 40000 := by omega
        have HO := Lib.hid hown
        have HB := Lib.hid hbr
        clear hown hbr hon' hdn' ha hq hmm hb hlt
        obtain ⟨b1, b2, b3, b4, b5⟩ := HB3.out
        have wq1 : WfJ (q : Int) := (wfj_iff _).2 (by omega)
        have wa1 : WfJ (a : Int) := (wfj_iff _).2 (by omega)
        have wm1 : WfJ (mm : Int) := (wfj_iff _).2 (by omega)
        have hK : k3.K (wr.alloc (.cells #[.int .i64 (q : Int), .int .i64 (a : Int), .int .i64 (mm : Int)] 46)) (fun _ => False) ((q : Int), (a : Int), (mm : Int)) [.int .i64 (q : Int), .int .i64 (a : Int), .int .i64 (mm : Int)] :=
          ⟨[.int .i64 (q : Int)], _, rfl, ⟨rfl, wq1⟩, [.int .i64 (a : Int)], [.int .i64 (mm : Int)], rfl, ⟨rfl, wa1⟩, ⟨rfl, wm1⟩⟩
        have hbb : (ds.length + 1) * 24 ≤ 140737488355328 := by omega
        have hb6 : ds.length + 1 ≤ 9223372036854775807 := by omega
        have hrow : Row (wr.alloc (.cells #[.int .i64 (q : Int), .int .i64 (a : Int), .int .i64 (mm : Int)] 46)) wr.heap.size 46 [.int .i64 (q : Int), .int .i64 (a : Int), .int .i64 (mm : Int)].toArray := Row.new _ _ _
        have hAd := Lib.hid (show wrap64 ((o : Int) + (mm : Int)) = ((o + mm : Nat) : Int) by unfold wrap64; omega)
        have hSu := Lib.hid (show wrap64 ((n : Int) - (mm : Int)) = ((n - mm : Nat) : Int) by unfold wrap64; omega)
        have hwq : wrap64 (q : Int) = (q : Int) := by unfold wrap64; omega
        have hB1 : w.heap.size ≤ (wr.alloc (.cells #[.int .i64 (q : Int), .int .i64 (a : Int), .int .i64 (mm : Int)] 46)).heap.size := Nat.le_trans hle (by simp)
        have hbl : Below w.heap.size w (wr.alloc (.cells #[.int .i64 (q : Int), .int .i64 (a : Int), .int .i64 (mm : Int)] 46)) := HB.out.alloc hle _
        have HBL := Lib.hid hbl
        have HLT := Lib.hid HO.out.lt
        clear b1 b2 b3 b4 b5 hsub hadd hob hbl
        go_wp2_with (at_builtin; go_loud (refine wpList_appK (k := k3) rfl _ _ 44 rfl (.agg #[.int .i64 0, .int .i64 0, .int .i64 0]) 24 Try.underlying44 i3Info rfl (show 0 < 3 by decide) rfl wr.heap.size 1 rfl (HO.out.alloc _) 46 [.int .i64 (q : Int), .int .i64 (a : Int), .int .i64 (mm : Int)] hrow ((q : Int), (a : Int), (mm : Int)) (fun _ => False) hK (fun b h => h.elim) hbb hb6 hB1 ?_); intro v7 w7 hown7 hg7 hat7)
        rw [hAd.out, hSu.out]
        have HO7 := Lib.hid hown7
        have HB7 := Lib.hid (HBL.out.grown hg7 hB1 (fun z hz => (HLT.out z hz).1))
        clear hown7 hg7 hat7 hwq
        refine ⟨⟨o + mm, n - mm, ds ++ [((q : Int), (a : Int), (mm : Int))], rfl, rfl, HO7.out, Lib.hid (by rw [hsp.out, HNX.out]; simp), Lib.hid HB3.out.1, Lib.hid (by rw [List.length_append, List.length_singleton]; exact HB3.out.2.1), HB7.out⟩, ?_⟩
        show ((n - mm : Nat) : Int).toNat < (n : Int).toNat
        rw [Int.toNat_natCast, Int.toNat_natCast]
        exact Nat.sub_lt hp hmp
/-- The blocks that may be needed for some bytes. -/
def fbF (off m : Int) : Int := match (spS off m).getLast? with
  | none => 0
  | some t => if 6 ≤ t.1 then ((spS off m).length : Int) + 1 else ((spS off m).length : Int)
abbrev iZ : Value := .agg #[.int .i64 0, .int .i64 0, .int .i64 0, .int .i64 0, .int .i64 0, .int .i64 0, .int .i64 0, .int .i64 0, .int .i64 0, .int .i64 0, .int .i64 0]
theorem spW_len : ∀ (n o : Nat), (spW o n).length ≤ n := by
  intro n
  induction n using Nat.strongRecOn with
  | _ n ih =>
    intro o
    by_cases h : n = 0
    · subst h; rw [spW_zero]; exact Nat.le_refl _
    · rw [spW_next h, List.length_cons]
      have := Nat.mod_lt o (show 0 < 256 by omega)
      have := ih (n - min n (256 - o % 256)) (by omega) (o + min n (256 - o % 256))
      omega
theorem spS_len (off m : Int) : (spS off m).length ≤ 34304 := by
  unfold spS
  split
  · exact Nat.zero_le _
  · refine Nat.le_trans (spW_len _ _) ?_
    omega
set_option maxHeartbeats 2000000 in
set_option maxRecDepth 100000 in
theorem fBlocks_any (off : Int) (m : Nat) (w : World) (ho : WfJ off) (hm : m ≤ 9223372036854775807) :
    Calls Try.prog 13 #[iZ, .int .i64 off, .int .i64 m] w fun r w' => r = .returned (.int .i64 (fbF off m)) ∧ Below w.heap.size w w' := by
  have hb0 : ∀ o, Below w.heap.size w (w.alloc o) := fun o => (Below.refl _ _).alloc (Nat.le_refl _) o
  have CS := Lib.hid (fun w' => Spans_any off m w' ho hm)
  have HL := Lib.hid (spS_len off m)
  have HF : Hid (fbF off m = match (spS off m).getLast? with | none => 0 | some t => if 6 ≤ t.1 then ((spS off m).length : Int) + 1 else ((spS off m).length : Int)) := Lib.hid rfl
  obtain ⟨l, hl⟩ : ∃ l, spS off m = l := ⟨_, rfl⟩
  rw [hl] at CS HL HF
  clear hl
  have HB0 := Lib.hid hb0
  clear hb0
  go_enter Try.func13, Try.ntmps13
  go_wp2_with fail
  refine (CS.out _).mono ?_
  rintro e w2 ⟨v2, rfl, hown2, hb2⟩
  have HB2 := Lib.hid ((HB0.out _).trans (hb2.mono (HB0.out _).size))
  obtain ⟨A2, c2, rfl, -, -, -, hr2⟩ := hown2.rw_
  clear hown2 hb2 CS HB0
  rcases List.eq_nil_or_concat l with rfl | ⟨l', t, hlt⟩
  · go_wp2
    go_ret
    exact ⟨by rw [HF.out]; rfl, by first | exact HB2.out | exact bdrewN HB2.out _⟩
  · rw [List.concat_eq_append] at hlt
    subst hlt
    obtain ⟨p, hp⟩ : ∃ p, l'.length = p := ⟨_, rfl⟩
    have hlen : (l' ++ [t]).length = p + 1 := by rw [List.length_append, hp]; rfl
    obtain ⟨g, o, cs, rfl, _, hg, hK, hc⟩ := hr2.at_ (i := p) (by omega)
    have hgt : (l' ++ [t])[p]'(by omega) = t := by simp [← hp]
    rw [hgt] at hK
    obtain ⟨_, _, rfl, ⟨rfl, _⟩, _⟩ := hK
    have e0 : w2.cell? ⟨g, o + p * 3, none⟩ = some (.int .i64 t.1) := hc 0 _ rfl
    have HF2 : Hid (fbF off m = if 6 ≤ t.1 then (p : Int) + 1 + 1 else (p : Int) + 1) := Lib.hid (by rw [HF.out, List.getLast?_append]; simp [hp])
    have hpl : (p : Int) ≤ 40000 := by have := HL.out; omega
    rw [hlen]
    clear hr2 hc hgt HF HL hlen
    have hpi : (((p + 1 : Nat) : Int) - 1) = (p : Int) := by omega
    have hp1 : decide ((0 : Int) < ((p + 1 : Nat) : Int)) = true := decide_eq_true (by omega)
    by_cases h6 : 6 ≤ t.1
    · have hd6 : decide (6 ≤ t.1) = true := decide_eq_true h6
      go_wp2
      go_ret
      exact ⟨by rw [HF2.out, if_pos h6]; first | rfl | (congr 2; omega), by first | exact HB2.out | exact bdrewN HB2.out _⟩
    · have hd6 : decide (6 ≤ t.1) = false := decide_eq_false h6
      go_wp2
      go_ret
      exact ⟨by rw [HF2.out, if_neg (by omega)]; first | rfl | (congr 2; omega), by first | exact HB2.out | exact bdrewN HB2.out _⟩
end Go.Proofs.Ytadiamgoglodbaa.Spn
