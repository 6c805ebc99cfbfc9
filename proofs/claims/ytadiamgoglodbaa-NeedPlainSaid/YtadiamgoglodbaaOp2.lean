/- Calls: To, Check. -/
import Derived.Test.YtadiamgoglodbaaOp
import Derived.Deep.DeepCutAuto
import Derived.Deep.CutBlock
namespace Go.Proofs.Ytadiamgoglodbaa.Opk
open Go.RowKit Go.Proofs.Ytadiamgoglodbaa.Mem Go.Proofs.Ytadiamgoglodbaa.Open Go.Proofs.Ytadiamgoglodbaa.Kind Go.Proofs.Ytadiamgoglodbaa.Blk Go.Proofs.Ytadiamgoglodbaa.App
set_option linter.unusedVariables false
set_option linter.unusedSimpArgs false
theorem opSize : (Try.prog.info? 29).map (·.size) = some 6 := by kernel_rfl
theorem op_one (d : Int) (a b : ByteArray) (o n : Int) (A : Option Addr) (m c : Nat) : (#[.int .i64 d, .string a, .string b, .int .i64 o, .int .i64 n, .slice A m c] : Array Value).all (·.oneCell') = true := by simp [Value.oneCell']
theorem V8_one (y : Nat) : (V8 y).oneCell' = true := rfl
abbrev opV (d : Int) (a b : ByteArray) (o n : Int) (A : Option Addr) (m c : Nat) : Value := .agg #[.int .i64 d, .string a, .string b, .int .i64 o, .int .i64 n, .slice A m c]
set_option maxHeartbeats 1000000 in
set_option maxRecDepth 100000 in
theorem to_any (d : Int) (a b : ByteArray) (o n : Int) (A : Option Addr) (c : Nat) (l : List Nat) (w : World) (hd : By w A l) (hc : A = none → c = 0) (hn : l.length ≤ 100000) :
    Calls Try.prog 6 #[opV d a b o n A l.length c] w fun e w' => ∃ A' c', e = .returned (opV d a b o n A' l.length c') ∧ l.length ≤ c' ∧ c' ≤ M63 ∧ (A' = none → c' = 0) ∧ ByF w' w.heap.size A' l ∧ Below w.heap.size w w' := by
  have hr1 : Row (w.alloc (.cells #[.int .i64 d, .string a, .string b, .int .i64 o, .int .i64 n, .slice A l.length c] 31)) w.heap.size 31 #[.int .i64 d, .string a, .string b, .int .i64 o, .int .i64 n, .slice A l.length c] := Row.new _ _ _
  have hr2 := hr1.alloc (.cells #[.int .i64 0, .string ⟨#[]⟩, .string ⟨#[]⟩, .int .i64 0, .int .i64 0, .slice none 0 0] 29)
  have hq2 : Row ((w.alloc (.cells #[.int .i64 d, .string a, .string b, .int .i64 o, .int .i64 n, .slice A l.length c] 31)).alloc (.cells #[.int .i64 0, .string ⟨#[]⟩, .string ⟨#[]⟩, .int .i64 0, .int .i64 0, .slice none 0 0] 29)) (w.alloc (.cells #[.int .i64 d, .string a, .string b, .int .i64 o, .int .i64 n, .slice A l.length c] 31)).heap.size 29 #[.int .i64 0, .string ⟨#[]⟩, .string ⟨#[]⟩, .int .i64 0, .int .i64 0, .slice none 0 0] := Row.new _ _ _
  have hbel := ((Below.refl w.heap.size w).alloc (Nat.le_refl _) (.cells #[.int .i64 d, .string a, .string b, .int .i64 o, .int .i64 n, .slice A l.length c] 31)).alloc (by simp) (.cells #[.int .i64 0, .string ⟨#[]⟩, .string ⟨#[]⟩, .int .i64 0, .int .i64 0, .slice none 0 0] 29)
  have e1 : (w.alloc (.cells #[.int .i64 d, .string a, .string b, .int .i64 o, .int .i64 n, .slice A l.length c] 31)).heap.size = w.heap.size + 1 := by simp
  rw [e1] at hq2
  go_enter Try.func6, Try.ntmps6
  go_wp2_with fail
  generalize (w.alloc (.cells #[.int .i64 d, .string a, .string b, .int .i64 o, .int .i64 n, .slice A l.length c] 31)).alloc (.cells #[.int .i64 0, .string ⟨#[]⟩, .string ⟨#[]⟩, .int .i64 0, .int .i64 0, .slice none 0 0] 29) = w1 at *
  have hd1 := (hd.below hbel).sl_byte
  have hlt2 := hq2.lt
  have hrd := hr2.drew
  have hqd := hq2.drew
  refine wp_region_held_drew (S := Go.RowKit.Below (w.heap.size + 1) (w1.drew)) (by kernel_rfl) ?hb5 (fun hHeld => ?rest5)
  case hb5 =>
    exact Go.RowKit.Below.refl _ _
  case' rest5 => skip
  have hCl := fun (wS : World) (hSw : Go.RowKit.Below (w.heap.size + 1) (w1.drew) wS) => And.intro ((Mem.bl_row hSw hrd (by first | exact Mem.Row.lt hrd | omega | (simp <;> omega))).cell 0 rfl) <| And.intro ((Mem.bl_row hSw hrd (by first | exact Mem.Row.lt hrd | omega | (simp <;> omega))).cell 1 rfl) <| And.intro ((Mem.bl_row hSw hrd (by first | exact Mem.Row.lt hrd | omega | (simp <;> omega))).cell 2 rfl) <| And.intro ((Mem.bl_row hSw hrd (by first | exact Mem.Row.lt hrd | omega | (simp <;> omega))).cell 3 rfl) <| And.intro ((Mem.bl_row hSw hrd (by first | exact Mem.Row.lt hrd | omega | (simp <;> omega))).cell 4 rfl) <| (Mem.bl_row hSw hrd (by first | exact Mem.Row.lt hrd | omega | (simp <;> omega))).cell 5 rfl
  replace hCl := Go.Lib.hid hCl
  refine Mem.tkY 0 ?v6 (hy := Or.inl ⟨by rfl, ?y6⟩) (hS := by assumption) (h := ?r6)
  case y6 => (intro w hSw; clear hSw; go_simp; try with_reducible rfl)
  case' r6 => skip
  refine Mem.tkY 1 ?v7 (hy := Or.inl ⟨by rfl, ?y7⟩) (hS := by assumption) (h := ?r7)
  case y7 => (intro w hSw; obtain ⟨hT0, hT1, hT2, hT3, hT4, hT5⟩ := hCl.out w hSw; clear hSw; go_simp; try with_reducible rfl)
  case' r7 => skip
  refine Mem.tkY 2 ?v8 (hy := Or.inl ⟨by rfl, ?y8⟩) (hS := by assumption) (h := ?r8)
  case y8 => (intro w hSw; clear hSw; go_simp; try with_reducible rfl)
  case' r8 => skip
  try simp only [List.getElem_toArray, List.getElem_cons_succ, List.getElem_cons_zero, Act.put, List.setIfInBounds_toArray, List.set_cons_zero, List.set_cons_succ]
  refine Mem.tkY 3 ?v9 (hy := Or.inl ⟨by rfl, ?y9⟩) (hS := by assumption) (h := ?r9)
  case y9 => (intro w hSw; obtain ⟨hT0, hT1, hT2, hT3, hT4, hT5⟩ := hCl.out w hSw; clear hSw; go_simp; try with_reducible rfl)
  case' r9 => skip
  refine Mem.tkY 4 ?v10 (hy := Or.inl ⟨by rfl, ?y10⟩) (hS := by assumption) (h := ?r10)
  case y10 => (intro w hSw; clear hSw; go_simp; try with_reducible rfl)
  case' r10 => skip
  refine Mem.tkY 5 ?v11 (hy := Or.inl ⟨by rfl, ?y11⟩) (hS := by assumption) (h := ?r11)
  case y11 => (intro w hSw; obtain ⟨hT0, hT1, hT2, hT3, hT4, hT5⟩ := hCl.out w hSw; clear hSw; go_simp; try with_reducible rfl)
  case' r11 => skip
  try simp only [List.getElem_toArray, List.getElem_cons_succ, List.getElem_cons_zero, Act.put, List.setIfInBounds_toArray, List.set_cons_zero, List.set_cons_succ]
  refine Mem.tkY 6 ?v12 (hy := Or.inl ⟨by rfl, ?y12⟩) (hS := by assumption) (h := ?r12)
  case y12 => (intro w hSw; clear hSw; go_simp; try with_reducible rfl)
  case' r12 => skip
  refine Mem.tkY 7 ?v13 (hy := Or.inl ⟨by rfl, ?y13⟩) (hS := by assumption) (h := ?r13)
  case y13 => (intro w hSw; obtain ⟨hT0, hT1, hT2, hT3, hT4, hT5⟩ := hCl.out w hSw; clear hSw; go_simp; try with_reducible rfl)
  case' r13 => skip
  refine Mem.tkY 8 ?v14 (hy := Or.inl ⟨by rfl, ?y14⟩) (hS := by assumption) (h := ?r14)
  case y14 => (intro w hSw; clear hSw; go_simp; try with_reducible rfl)
  case' r14 => skip
  try simp only [List.getElem_toArray, List.getElem_cons_succ, List.getElem_cons_zero, Act.put, List.setIfInBounds_toArray, List.set_cons_zero, List.set_cons_succ]
  refine Mem.tkY 9 ?v15 (hy := Or.inl ⟨by rfl, ?y15⟩) (hS := by assumption) (h := ?r15)
  case y15 => (intro w hSw; obtain ⟨hT0, hT1, hT2, hT3, hT4, hT5⟩ := hCl.out w hSw; clear hSw; go_simp; try with_reducible rfl)
  case' r15 => skip
  refine Mem.tkY 11 ?v16 (hy := Or.inl ⟨by rfl, ?y16⟩) (hS := by assumption) (h := ?r16)
  case y16 => (intro w hSw; clear hSw; go_simp; try with_reducible rfl)
  case' r16 => skip
  refine Mem.tkY 12 ?v17 (hy := Or.inl ⟨by rfl, ?y17⟩) (hS := by assumption) (h := ?r17)
  case y17 => (intro w hSw; obtain ⟨hT0, hT1, hT2, hT3, hT4, hT5⟩ := hCl.out w hSw; clear hSw; go_simp; try with_reducible rfl)
  case' r17 => skip
  try simp only [List.getElem_toArray, List.getElem_cons_succ, List.getElem_cons_zero, Act.put, List.setIfInBounds_toArray, List.set_cons_zero, List.set_cons_succ]
  refine wpAnyH_ready (rs := [10]) (by kernel_rfl) (by simp) ?_
  refine AllReadyH.cons rfl (fun K hK => ?_) AllReadyH.nil
  go_simp
  have hbl := (Below.refl _ w1.drew).alloc (Nat.le_refl _) (.cells #[] 5); have ho0 : Own (w1.drew.alloc (.cells #[] 5)) w1.heap.size 5 V8 (.slice (some ⟨w1.heap.size, 0, none⟩) 0 0) [] := own_empty (Nat.le_refl _); have hbelA := (Below.refl w1.heap.size w1).drew.alloc (Nat.le_refl _) (.cells #[] 5); have hqa := hqd.alloc (.cells #[] 5)
  try go_wp2_with fail
  have hSnew := Mem.bl_step hHeld hbl (by first | exact Nat.le_refl _ | omega | (simp <;> omega))
  refine hK.out _ _ ?_ (fun hHeld2 => ?_)
  · exact hSnew
  clear hbl
  clear hK K hHeld hSnew
  have hHeld := hHeld2
  clear hHeld2
  try simp only [List.getElem_toArray, List.getElem_cons_succ, List.getElem_cons_zero, Act.put, List.setIfInBounds_toArray, List.set_cons_zero, List.set_cons_succ]
  refine wpAnyH_ready (rs := [13]) (by kernel_rfl) (by simp) ?_
  refine AllReadyH.cons rfl (fun K hK => ?_) AllReadyH.nil
  rw [if_pos (by rfl)]
  refine wp_app _ _ _ (by rfl) (V8 0) 1 Try.underlying27 u8Info rfl (by rfl) (by rfl) ho0 (hd1.below hbelA) hc V8_one (by simp; omega) (by simp; omega) (by simp) ?_; intro v3 w3 hown3 hg3 hat3; rw [List.nil_append] at hown3; obtain ⟨A3, c3, rfl, hl3, hm3, hc3, hby3⟩ := own_byF hown3 hd.lt_byte; have hSnew := hHeld.grown hg3 (by simp; omega) (fun k hk => by simp [Value.ownBlock] at hk; omega); have hqb := gb_row hg3 hqa (by simp [Value.ownBlock]; omega); have hbelB := (hbel.trans (hbelA.mono hbel.size)).grown hg3 (by simp; omega) (fun k hk => by simp [Value.ownBlock] at hk; omega)
  refine hK.out _ _ ?_ (fun hHeld2 => ?_)
  · exact hSnew
  clear hK K hHeld hSnew
  have hHeld := hHeld2
  clear hHeld2
  try simp only [List.getElem_toArray, List.getElem_cons_succ, List.getElem_cons_zero, Act.put, List.setIfInBounds_toArray, List.set_cons_zero, List.set_cons_succ]
  refine Mem.tkY 14 ?v18 (hy := Or.inl ⟨by rfl, ?y18⟩) (hS := by assumption) (h := ?r18)
  case y18 => (intro w hSw; clear hSw; go_simp; try with_reducible rfl)
  case' r18 => skip
  try simp only [List.getElem_toArray, List.getElem_cons_succ, List.getElem_cons_zero, Act.put, List.setIfInBounds_toArray, List.set_cons_zero, List.set_cons_succ]
  refine wpAnyH_ready (rs := [15]) (by kernel_rfl) (by simp) ?_
  refine AllReadyH.cons rfl (fun K hK => ?_) AllReadyH.nil
  rw [if_pos (by rfl)]
  refine wp_storeRow _ _ _ (by rfl) (w.heap.size + 1) (by rfl) #[.int .i64 d, .string a, .string b, .int .i64 o, .int .i64 n, .slice A3 l.length c3] (by rfl) #[.int .i64 0, .string ⟨#[]⟩, .string ⟨#[]⟩, .int .i64 0, .int .i64 0, .slice none 0 0] 29 6 opSize rfl rfl (op_one _ _ _ _ _ _ _ _) hqb ?_; have hSnew := below_setRow hHeld (Nat.le_refl _) #[.int .i64 d, .string a, .string b, .int .i64 o, .int .i64 n, .slice A3 l.length c3]
  refine hK.out _ _ ?_ (fun hHeld2 => ?_)
  · exact hSnew
  clear hK K hHeld hSnew
  have hHeld := hHeld2
  clear hHeld2
  try simp only [List.getElem_toArray, List.getElem_cons_succ, List.getElem_cons_zero, Act.put, List.setIfInBounds_toArray, List.set_cons_zero, List.set_cons_succ]
  refine wpAnyH_done (by kernel_rfl) ?_ _
  clear hCl
  have hq5 := hqb.set #[.int .i64 d, .string a, .string b, .int .i64 o, .int .i64 n, .slice A3 l.length c3]
  have hbel5 := below_setRow hbelB (g := w.heap.size + 1) (by omega) #[.int .i64 d, .string a, .string b, .int .i64 o, .int .i64 n, .slice A3 l.length c3]
  go_wp2
  exact bodyPost_ret (v := opV d a b o n A3 l.length c3) (results_cell_row rfl _ _ (w.heap.size + 1) 29 #[.int .i64 d, .string a, .string b, .int .i64 o, .int .i64 n, .slice A3 l.length c3] (0, 0) _ rfl hq5 Try.underlying29 rfl opSize) rfl
    ⟨A3, c3, rfl, hl3, hm3, hc3, (hby3.stay fun b hb => setRow_other _ _ _ _ (by omega)).mono fun b hb => ⟨by omega, by simpa using hb.2⟩, hbel5⟩
/-- May a call be? -/
def opB (d : Int) (m : Nat) : Bool := decide (1 ≤ d) && decide (d ≤ 13) && decide (m ≤ 1024)
def opE (d : Int) (m : Nat) : Int := if opB d m then 0 else 1
theorem opE_no {d : Int} {m : Nat} (h : opB d m = false) : opE d m = 1 := by unfold opE; rw [h]; rfl
theorem opE_yes {d : Int} {m : Nat} (h : opB d m = true) : opE d m = 0 := by unfold opE; rw [h]; rfl
set_option maxHeartbeats 1000000 in
theorem check_any (d : Int) (a b : ByteArray) (o n : Int) (A : Option Addr) (m c : Nat) (w : World) (hm : m ≤ M63) :
    Calls Try.prog 10 #[opV d a b o n A m c] w fun e w' => e = .returned (.int .i64 (opE d m)) ∧ w' = w.alloc (.cells #[.int .i64 d, .string a, .string b, .int .i64 o, .int .i64 n, .slice A m c] 29) := by
  unfold M63 at hm
  by_cases h1 : d < 1
  · have HF : Hid (opE d m = 1) := opE_no (by unfold opB; rw [decide_eq_false (by omega)]; rfl)
    go_enter Try.func10, Try.ntmps10
    go_wp2
    go_ret
    exact ⟨ret_int HF.out.symm, rfl⟩
  by_cases h2 : 13 < d
  · have HF : Hid (opE d m = 1) := opE_no (by unfold opB; rw [decide_eq_false (p := d ≤ 13) (by omega)]; simp)
    go_enter Try.func10, Try.ntmps10
    go_wp2
    go_ret
    exact ⟨ret_int HF.out.symm, rfl⟩
  by_cases h3 : 1024 < m
  · have HF : Hid (opE d m = 1) := opE_no (by unfold opB; rw [decide_eq_false (p := m ≤ 1024) (by omega)]; simp)
    go_enter Try.func10, Try.ntmps10
    go_wp2
    go_ret
    exact ⟨ret_int HF.out.symm, rfl⟩
  · have HF : Hid (opE d m = 0) := opE_yes (by unfold opB; rw [decide_eq_true (by omega), decide_eq_true (by omega), decide_eq_true (by omega)]; rfl)
    go_enter Try.func10, Try.ntmps10
    go_wp2
    go_ret
    exact ⟨ret_int HF.out.symm, rfl⟩
end Go.Proofs.Ytadiamgoglodbaa.Opk
