/- Calls: To, Check. -/
import Derived.Test.YtgcmgohknocfnaaOp
import Derived.Deep.DeepCutAuto
import Derived.Deep.CutBlock
namespace Go.Proofs.Ytgcmgohknocfnaa.Opk
open Go.RowKit Go.Proofs.Ytgcmgohknocfnaa.Mem Go.Proofs.Ytgcmgohknocfnaa.Open Go.Proofs.Ytgcmgohknocfnaa.Kind Go.Proofs.Ytgcmgohknocfnaa.Blk Go.Proofs.Ytgcmgohknocfnaa.App
set_option linter.unusedVariables false
set_option linter.unusedSimpArgs false
theorem opSize : (Try.prog.info? 64).map (·.size) = some 6 := by kernel_rfl
theorem op_one (d : Int) (a b : ByteArray) (o n : Int) (A : Option Addr) (m c : Nat) : (#[.int .i64 d, .string a, .string b, .int .i64 o, .int .i64 n, .slice A m c] : Array Value).all (·.oneCell') = true := by simp [Value.oneCell']
theorem V8_one (y : Nat) : (V8 y).oneCell' = true := rfl
abbrev opV (d : Int) (a b : ByteArray) (o n : Int) (A : Option Addr) (m c : Nat) : Value := .agg #[.int .i64 d, .string a, .string b, .int .i64 o, .int .i64 n, .slice A m c]
set_option maxHeartbeats 1000000 in
set_option maxRecDepth 100000 in
theorem to_any (d : Int) (a b : ByteArray) (o n : Int) (A : Option Addr) (c : Nat) (l : List Nat) (w : World) (hd : By w A l) (hc : A = none → c = 0) (hn : l.length ≤ 100000) :
    Calls Try.prog 38 #[opV d a b o n A l.length c] w fun e w' => ∃ A' c', e = .returned (opV d a b o n A' l.length c') ∧ l.length ≤ c' ∧ c' ≤ M63 ∧ (A' = none → c' = 0) ∧ ByF w' w.heap.size A' l ∧ Below w.heap.size w w' := by
  have hr1 : Row (w.alloc (.cells #[.int .i64 d, .string a, .string b, .int .i64 o, .int .i64 n, .slice A l.length c] 63)) w.heap.size 63 #[.int .i64 d, .string a, .string b, .int .i64 o, .int .i64 n, .slice A l.length c] := Row.new _ _ _
  have hr2 := hr1.alloc (.cells #[.int .i64 0, .string ⟨#[]⟩, .string ⟨#[]⟩, .int .i64 0, .int .i64 0, .slice none 0 0] 64)
  have hq2 : Row ((w.alloc (.cells #[.int .i64 d, .string a, .string b, .int .i64 o, .int .i64 n, .slice A l.length c] 63)).alloc (.cells #[.int .i64 0, .string ⟨#[]⟩, .string ⟨#[]⟩, .int .i64 0, .int .i64 0, .slice none 0 0] 64)) (w.alloc (.cells #[.int .i64 d, .string a, .string b, .int .i64 o, .int .i64 n, .slice A l.length c] 63)).heap.size 64 #[.int .i64 0, .string ⟨#[]⟩, .string ⟨#[]⟩, .int .i64 0, .int .i64 0, .slice none 0 0] := Row.new _ _ _
  have hbel := ((Below.refl w.heap.size w).alloc (Nat.le_refl _) (.cells #[.int .i64 d, .string a, .string b, .int .i64 o, .int .i64 n, .slice A l.length c] 63)).alloc (by simp) (.cells #[.int .i64 0, .string ⟨#[]⟩, .string ⟨#[]⟩, .int .i64 0, .int .i64 0, .slice none 0 0] 64)
  have e1 : (w.alloc (.cells #[.int .i64 d, .string a, .string b, .int .i64 o, .int .i64 n, .slice A l.length c] 63)).heap.size = w.heap.size + 1 := by simp
  rw [e1] at hq2
  go_enter Try.func38, Try.ntmps38
  go_wp2_with fail
  generalize (w.alloc (.cells #[.int .i64 d, .string a, .string b, .int .i64 o, .int .i64 n, .slice A l.length c] 63)).alloc (.cells #[.int .i64 0, .string ⟨#[]⟩, .string ⟨#[]⟩, .int .i64 0, .int .i64 0, .slice none 0 0] 64) = w1 at *
  have hd1 := (hd.below hbel).sl_byte
  have hlt2 := hq2.lt
  have hrd := hr2.drew
  have hqd := hq2.drew
  refine wp_region_held_drew (S := Go.RowKit.Below (w.heap.size + 1) (w1.drew)) (by kernel_rfl) ?hb5 (fun hHeld => ?rest5)
  case hb5 =>
    exact Go.RowKit.Below.refl _ _
  case' rest5 => skip
  refine wpAnyH_take (i := 0) (v := ?v6) rfl (by kernel_rfl) (by kernel_rfl) (by kernel_rfl) (fun _ _ _ h => h) (Or.inl ⟨by rfl, ?y6⟩) (by assumption) ?rest6
  case y6 => (intro w hSw; have hT0 := (Mem.bl_row hSw hrd (by first | exact Mem.Row.lt hrd | omega | (simp <;> omega))).cell 0 rfl; have hT1 := (Mem.bl_row hSw hrd (by first | exact Mem.Row.lt hrd | omega | (simp <;> omega))).cell 1 rfl; have hT2 := (Mem.bl_row hSw hrd (by first | exact Mem.Row.lt hrd | omega | (simp <;> omega))).cell 2 rfl; have hT3 := (Mem.bl_row hSw hrd (by first | exact Mem.Row.lt hrd | omega | (simp <;> omega))).cell 3 rfl; have hT4 := (Mem.bl_row hSw hrd (by first | exact Mem.Row.lt hrd | omega | (simp <;> omega))).cell 4 rfl; have hT5 := (Mem.bl_row hSw hrd (by first | exact Mem.Row.lt hrd | omega | (simp <;> omega))).cell 5 rfl; clear hSw; go_simp; try with_reducible rfl)
  case' rest6 => skip
  try simp only [List.getElem_toArray, List.getElem_cons_succ, List.getElem_cons_zero, Act.put, List.setIfInBounds_toArray, List.set_cons_zero, List.set_cons_succ]
  refine wpAnyH_take (i := 1) (v := ?v7) rfl (by kernel_rfl) (by kernel_rfl) (by kernel_rfl) (fun _ _ _ h => h) (Or.inl ⟨by rfl, ?y7⟩) (by assumption) ?rest7
  case y7 => (intro w hSw; have hT0 := (Mem.bl_row hSw hrd (by first | exact Mem.Row.lt hrd | omega | (simp <;> omega))).cell 0 rfl; have hT1 := (Mem.bl_row hSw hrd (by first | exact Mem.Row.lt hrd | omega | (simp <;> omega))).cell 1 rfl; have hT2 := (Mem.bl_row hSw hrd (by first | exact Mem.Row.lt hrd | omega | (simp <;> omega))).cell 2 rfl; have hT3 := (Mem.bl_row hSw hrd (by first | exact Mem.Row.lt hrd | omega | (simp <;> omega))).cell 3 rfl; have hT4 := (Mem.bl_row hSw hrd (by first | exact Mem.Row.lt hrd | omega | (simp <;> omega))).cell 4 rfl; have hT5 := (Mem.bl_row hSw hrd (by first | exact Mem.Row.lt hrd | omega | (simp <;> omega))).cell 5 rfl; clear hSw; go_simp; try with_reducible rfl)
  case' rest7 => skip
  try simp only [List.getElem_toArray, List.getElem_cons_succ, List.getElem_cons_zero, Act.put, List.setIfInBounds_toArray, List.set_cons_zero, List.set_cons_succ]
  refine wpAnyH_take (i := 2) (v := ?v8) rfl (by kernel_rfl) (by kernel_rfl) (by kernel_rfl) (fun _ _ _ h => h) (Or.inl ⟨by rfl, ?y8⟩) (by assumption) ?rest8
  case y8 => (intro w hSw; have hT0 := (Mem.bl_row hSw hrd (by first | exact Mem.Row.lt hrd | omega | (simp <;> omega))).cell 0 rfl; have hT1 := (Mem.bl_row hSw hrd (by first | exact Mem.Row.lt hrd | omega | (simp <;> omega))).cell 1 rfl; have hT2 := (Mem.bl_row hSw hrd (by first | exact Mem.Row.lt hrd | omega | (simp <;> omega))).cell 2 rfl; have hT3 := (Mem.bl_row hSw hrd (by first | exact Mem.Row.lt hrd | omega | (simp <;> omega))).cell 3 rfl; have hT4 := (Mem.bl_row hSw hrd (by first | exact Mem.Row.lt hrd | omega | (simp <;> omega))).cell 4 rfl; have hT5 := (Mem.bl_row hSw hrd (by first | exact Mem.Row.lt hrd | omega | (simp <;> omega))).cell 5 rfl; clear hSw; go_simp; try with_reducible rfl)
  case' rest8 => skip
  try simp only [List.getElem_toArray, List.getElem_cons_succ, List.getElem_cons_zero, Act.put, List.setIfInBounds_toArray, List.set_cons_zero, List.set_cons_succ]
  refine wpAnyH_take (i := 3) (v := ?v9) rfl (by kernel_rfl) (by kernel_rfl) (by kernel_rfl) (fun _ _ _ h => h) (Or.inl ⟨by rfl, ?y9⟩) (by assumption) ?rest9
  case y9 => (intro w hSw; have hT0 := (Mem.bl_row hSw hrd (by first | exact Mem.Row.lt hrd | omega | (simp <;> omega))).cell 0 rfl; have hT1 := (Mem.bl_row hSw hrd (by first | exact Mem.Row.lt hrd | omega | (simp <;> omega))).cell 1 rfl; have hT2 := (Mem.bl_row hSw hrd (by first | exact Mem.Row.lt hrd | omega | (simp <;> omega))).cell 2 rfl; have hT3 := (Mem.bl_row hSw hrd (by first | exact Mem.Row.lt hrd | omega | (simp <;> omega))).cell 3 rfl; have hT4 := (Mem.bl_row hSw hrd (by first | exact Mem.Row.lt hrd | omega | (simp <;> omega))).cell 4 rfl; have hT5 := (Mem.bl_row hSw hrd (by first | exact Mem.Row.lt hrd | omega | (simp <;> omega))).cell 5 rfl; clear hSw; go_simp; try with_reducible rfl)
  case' rest9 => skip
  try simp only [List.getElem_toArray, List.getElem_cons_succ, List.getElem_cons_zero, Act.put, List.setIfInBounds_toArray, List.set_cons_zero, List.set_cons_succ]
  refine wpAnyH_take (i := 4) (v := ?v10) rfl (by kernel_rfl) (by kernel_rfl) (by kernel_rfl) (fun _ _ _ h => h) (Or.inl ⟨by rfl, ?y10⟩) (by assumption) ?rest10
  case y10 => (intro w hSw; have hT0 := (Mem.bl_row hSw hrd (by first | exact Mem.Row.lt hrd | omega | (simp <;> omega))).cell 0 rfl; have hT1 := (Mem.bl_row hSw hrd (by first | exact Mem.Row.lt hrd | omega | (simp <;> omega))).cell 1 rfl; have hT2 := (Mem.bl_row hSw hrd (by first | exact Mem.Row.lt hrd | omega | (simp <;> omega))).cell 2 rfl; have hT3 := (Mem.bl_row hSw hrd (by first | exact Mem.Row.lt hrd | omega | (simp <;> omega))).cell 3 rfl; have hT4 := (Mem.bl_row hSw hrd (by first | exact Mem.Row.lt hrd | omega | (simp <;> omega))).cell 4 rfl; have hT5 := (Mem.bl_row hSw hrd (by first | exact Mem.Row.lt hrd | omega | (simp <;> omega))).cell 5 rfl; clear hSw; go_simp; try with_reducible rfl)
  case' rest10 => skip
  try simp only [List.getElem_toArray, List.getElem_cons_succ, List.getElem_cons_zero, Act.put, List.setIfInBounds_toArray, List.set_cons_zero, List.set_cons_succ]
  refine wpAnyH_take (i := 5) (v := ?v11) rfl (by kernel_rfl) (by kernel_rfl) (by kernel_rfl) (fun _ _ _ h => h) (Or.inl ⟨by rfl, ?y11⟩) (by assumption) ?rest11
  case y11 => (intro w hSw; have hT0 := (Mem.bl_row hSw hrd (by first | exact Mem.Row.lt hrd | omega | (simp <;> omega))).cell 0 rfl; have hT1 := (Mem.bl_row hSw hrd (by first | exact Mem.Row.lt hrd | omega | (simp <;> omega))).cell 1 rfl; have hT2 := (Mem.bl_row hSw hrd (by first | exact Mem.Row.lt hrd | omega | (simp <;> omega))).cell 2 rfl; have hT3 := (Mem.bl_row hSw hrd (by first | exact Mem.Row.lt hrd | omega | (simp <;> omega))).cell 3 rfl; have hT4 := (Mem.bl_row hSw hrd (by first | exact Mem.Row.lt hrd | omega | (simp <;> omega))).cell 4 rfl; have hT5 := (Mem.bl_row hSw hrd (by first | exact Mem.Row.lt hrd | omega | (simp <;> omega))).cell 5 rfl; clear hSw; go_simp; try with_reducible rfl)
  case' rest11 => skip
  try simp only [List.getElem_toArray, List.getElem_cons_succ, List.getElem_cons_zero, Act.put, List.setIfInBounds_toArray, List.set_cons_zero, List.set_cons_succ]
  refine wpAnyH_take (i := 6) (v := ?v12) rfl (by kernel_rfl) (by kernel_rfl) (by kernel_rfl) (fun _ _ _ h => h) (Or.inl ⟨by rfl, ?y12⟩) (by assumption) ?rest12
  case y12 => (intro w hSw; have hT0 := (Mem.bl_row hSw hrd (by first | exact Mem.Row.lt hrd | omega | (simp <;> omega))).cell 0 rfl; have hT1 := (Mem.bl_row hSw hrd (by first | exact Mem.Row.lt hrd | omega | (simp <;> omega))).cell 1 rfl; have hT2 := (Mem.bl_row hSw hrd (by first | exact Mem.Row.lt hrd | omega | (simp <;> omega))).cell 2 rfl; have hT3 := (Mem.bl_row hSw hrd (by first | exact Mem.Row.lt hrd | omega | (simp <;> omega))).cell 3 rfl; have hT4 := (Mem.bl_row hSw hrd (by first | exact Mem.Row.lt hrd | omega | (simp <;> omega))).cell 4 rfl; have hT5 := (Mem.bl_row hSw hrd (by first | exact Mem.Row.lt hrd | omega | (simp <;> omega))).cell 5 rfl; clear hSw; go_simp; try with_reducible rfl)
  case' rest12 => skip
  try simp only [List.getElem_toArray, List.getElem_cons_succ, List.getElem_cons_zero, Act.put, List.setIfInBounds_toArray, List.set_cons_zero, List.set_cons_succ]
  refine wpAnyH_take (i := 7) (v := ?v13) rfl (by kernel_rfl) (by kernel_rfl) (by kernel_rfl) (fun _ _ _ h => h) (Or.inl ⟨by rfl, ?y13⟩) (by assumption) ?rest13
  case y13 => (intro w hSw; have hT0 := (Mem.bl_row hSw hrd (by first | exact Mem.Row.lt hrd | omega | (simp <;> omega))).cell 0 rfl; have hT1 := (Mem.bl_row hSw hrd (by first | exact Mem.Row.lt hrd | omega | (simp <;> omega))).cell 1 rfl; have hT2 := (Mem.bl_row hSw hrd (by first | exact Mem.Row.lt hrd | omega | (simp <;> omega))).cell 2 rfl; have hT3 := (Mem.bl_row hSw hrd (by first | exact Mem.Row.lt hrd | omega | (simp <;> omega))).cell 3 rfl; have hT4 := (Mem.bl_row hSw hrd (by first | exact Mem.Row.lt hrd | omega | (simp <;> omega))).cell 4 rfl; have hT5 := (Mem.bl_row hSw hrd (by first | exact Mem.Row.lt hrd | omega | (simp <;> omega))).cell 5 rfl; clear hSw; go_simp; try with_reducible rfl)
  case' rest13 => skip
  try simp only [List.getElem_toArray, List.getElem_cons_succ, List.getElem_cons_zero, Act.put, List.setIfInBounds_toArray, List.set_cons_zero, List.set_cons_succ]
  refine wpAnyH_take (i := 8) (v := ?v14) rfl (by kernel_rfl) (by kernel_rfl) (by kernel_rfl) (fun _ _ _ h => h) (Or.inl ⟨by rfl, ?y14⟩) (by assumption) ?rest14
  case y14 => (intro w hSw; have hT0 := (Mem.bl_row hSw hrd (by first | exact Mem.Row.lt hrd | omega | (simp <;> omega))).cell 0 rfl; have hT1 := (Mem.bl_row hSw hrd (by first | exact Mem.Row.lt hrd | omega | (simp <;> omega))).cell 1 rfl; have hT2 := (Mem.bl_row hSw hrd (by first | exact Mem.Row.lt hrd | omega | (simp <;> omega))).cell 2 rfl; have hT3 := (Mem.bl_row hSw hrd (by first | exact Mem.Row.lt hrd | omega | (simp <;> omega))).cell 3 rfl; have hT4 := (Mem.bl_row hSw hrd (by first | exact Mem.Row.lt hrd | omega | (simp <;> omega))).cell 4 rfl; have hT5 := (Mem.bl_row hSw hrd (by first | exact Mem.Row.lt hrd | omega | (simp <;> omega))).cell 5 rfl; clear hSw; go_simp; try with_reducible rfl)
  case' rest14 => skip
  try simp only [List.getElem_toArray, List.getElem_cons_succ, List.getElem_cons_zero, Act.put, List.setIfInBounds_toArray, List.set_cons_zero, List.set_cons_succ]
  refine wpAnyH_take (i := 9) (v := ?v15) rfl (by kernel_rfl) (by kernel_rfl) (by kernel_rfl) (fun _ _ _ h => h) (Or.inl ⟨by rfl, ?y15⟩) (by assumption) ?rest15
  case y15 => (intro w hSw; have hT0 := (Mem.bl_row hSw hrd (by first | exact Mem.Row.lt hrd | omega | (simp <;> omega))).cell 0 rfl; have hT1 := (Mem.bl_row hSw hrd (by first | exact Mem.Row.lt hrd | omega | (simp <;> omega))).cell 1 rfl; have hT2 := (Mem.bl_row hSw hrd (by first | exact Mem.Row.lt hrd | omega | (simp <;> omega))).cell 2 rfl; have hT3 := (Mem.bl_row hSw hrd (by first | exact Mem.Row.lt hrd | omega | (simp <;> omega))).cell 3 rfl; have hT4 := (Mem.bl_row hSw hrd (by first | exact Mem.Row.lt hrd | omega | (simp <;> omega))).cell 4 rfl; have hT5 := (Mem.bl_row hSw hrd (by first | exact Mem.Row.lt hrd | omega | (simp <;> omega))).cell 5 rfl; clear hSw; go_simp; try with_reducible rfl)
  case' rest15 => skip
  try simp only [List.getElem_toArray, List.getElem_cons_succ, List.getElem_cons_zero, Act.put, List.setIfInBounds_toArray, List.set_cons_zero, List.set_cons_succ]
  refine wpAnyH_take (i := 11) (v := ?v16) rfl (by kernel_rfl) (by kernel_rfl) (by kernel_rfl) (fun _ _ _ h => h) (Or.inl ⟨by rfl, ?y16⟩) (by assumption) ?rest16
  case y16 => (intro w hSw; have hT0 := (Mem.bl_row hSw hrd (by first | exact Mem.Row.lt hrd | omega | (simp <;> omega))).cell 0 rfl; have hT1 := (Mem.bl_row hSw hrd (by first | exact Mem.Row.lt hrd | omega | (simp <;> omega))).cell 1 rfl; have hT2 := (Mem.bl_row hSw hrd (by first | exact Mem.Row.lt hrd | omega | (simp <;> omega))).cell 2 rfl; have hT3 := (Mem.bl_row hSw hrd (by first | exact Mem.Row.lt hrd | omega | (simp <;> omega))).cell 3 rfl; have hT4 := (Mem.bl_row hSw hrd (by first | exact Mem.Row.lt hrd | omega | (simp <;> omega))).cell 4 rfl; have hT5 := (Mem.bl_row hSw hrd (by first | exact Mem.Row.lt hrd | omega | (simp <;> omega))).cell 5 rfl; clear hSw; go_simp; try with_reducible rfl)
  case' rest16 => skip
  try simp only [List.getElem_toArray, List.getElem_cons_succ, List.getElem_cons_zero, Act.put, List.setIfInBounds_toArray, List.set_cons_zero, List.set_cons_succ]
  refine wpAnyH_take (i := 12) (v := ?v17) rfl (by kernel_rfl) (by kernel_rfl) (by kernel_rfl) (fun _ _ _ h => h) (Or.inl ⟨by rfl, ?y17⟩) (by assumption) ?rest17
  case y17 => (intro w hSw; have hT0 := (Mem.bl_row hSw hrd (by first | exact Mem.Row.lt hrd | omega | (simp <;> omega))).cell 0 rfl; have hT1 := (Mem.bl_row hSw hrd (by first | exact Mem.Row.lt hrd | omega | (simp <;> omega))).cell 1 rfl; have hT2 := (Mem.bl_row hSw hrd (by first | exact Mem.Row.lt hrd | omega | (simp <;> omega))).cell 2 rfl; have hT3 := (Mem.bl_row hSw hrd (by first | exact Mem.Row.lt hrd | omega | (simp <;> omega))).cell 3 rfl; have hT4 := (Mem.bl_row hSw hrd (by first | exact Mem.Row.lt hrd | omega | (simp <;> omega))).cell 4 rfl; have hT5 := (Mem.bl_row hSw hrd (by first | exact Mem.Row.lt hrd | omega | (simp <;> omega))).cell 5 rfl; clear hSw; go_simp; try with_reducible rfl)
  case' rest17 => skip
  try simp only [List.getElem_toArray, List.getElem_cons_succ, List.getElem_cons_zero, Act.put, List.setIfInBounds_toArray, List.set_cons_zero, List.set_cons_succ]
  refine wpAnyH_ready (rs := [10]) (by kernel_rfl) (by simp) ?_
  refine AllReadyH.cons rfl (fun K hK => ?_) AllReadyH.nil
  go_simp
  have hbl := (Below.refl _ w1.drew).alloc (Nat.le_refl _) (.cells #[] 5); have ho0 : Own (w1.drew.alloc (.cells #[] 5)) w1.heap.size 5 V8 (.slice (some ⟨w1.heap.size, 0, none⟩) 0 0) [] := own_empty (Nat.le_refl _); have hbelA := (Below.refl w1.heap.size w1).drew.alloc (Nat.le_refl _) (.cells #[] 5); have hqa := hqd.alloc (.cells #[] 5)
  try go_wp2_with fail
  have hSnew := Mem.bl_step hHeld hbl (by first | exact Nat.le_refl _ | omega | (simp <;> omega))
  refine hK.out _ _ ?_ (fun hHeld2 => ?_)
  · exact hSnew
  clear hbl
  clear hK K hHeld hSnew
  have hHeld := hHeld2
  clear hHeld2
  try simp only [List.getElem_toArray, List.getElem_cons_succ, List.getElem_cons_zero, Act.put, List.setIfInBounds_toArray, List.set_cons_zero, List.set_cons_succ]
  refine wpAnyH_ready (rs := [13]) (by kernel_rfl) (by simp) ?_
  refine AllReadyH.cons rfl (fun K hK => ?_) AllReadyH.nil
  rw [if_pos (by rfl)]
  refine wp_app _ _ _ (by rfl) (V8 0) 1 Try.underlying44 u8Info rfl (by rfl) (by rfl) ho0 (hd1.below hbelA) hc V8_one (by simp; omega) (by simp; omega) (by simp) ?_; intro v3 w3 hown3 hg3 hat3; rw [List.nil_append] at hown3; obtain ⟨A3, c3, rfl, hl3, hm3, hc3, hby3⟩ := own_byF hown3 hd.lt_byte; have hSnew := hHeld.grown hg3 (by simp; omega) (fun k hk => by simp [Value.ownBlock] at hk; omega); have hqb := gb_row hg3 hqa (by simp [Value.ownBlock]; omega); have hbelB := (hbel.trans (hbelA.mono hbel.size)).grown hg3 (by simp; omega) (fun k hk => by simp [Value.ownBlock] at hk; omega)
  refine hK.out _ _ ?_ (fun hHeld2 => ?_)
  · exact hSnew
  clear hK K hHeld hSnew
  have hHeld := hHeld2
  clear hHeld2
  try simp only [List.getElem_toArray, List.getElem_cons_succ, List.getElem_cons_zero, Act.put, List.setIfInBounds_toArray, List.set_cons_zero, List.set_cons_succ]
  refine wpAnyH_take (i := 14) (v := ?v18) rfl (by kernel_rfl) (by kernel_rfl) (by kernel_rfl) (fun _ _ _ h => h) (Or.inl ⟨by rfl, ?y18⟩) (by assumption) ?rest18
  case y18 => (intro w hSw; have hT0 := (Mem.bl_row hSw hrd (by first | exact Mem.Row.lt hrd | omega | (simp <;> omega))).cell 0 rfl; have hT1 := (Mem.bl_row hSw hrd (by first | exact Mem.Row.lt hrd | omega | (simp <;> omega))).cell 1 rfl; have hT2 := (Mem.bl_row hSw hrd (by first | exact Mem.Row.lt hrd | omega | (simp <;> omega))).cell 2 rfl; have hT3 := (Mem.bl_row hSw hrd (by first | exact Mem.Row.lt hrd | omega | (simp <;> omega))).cell 3 rfl; have hT4 := (Mem.bl_row hSw hrd (by first | exact Mem.Row.lt hrd | omega | (simp <;> omega))).cell 4 rfl; have hT5 := (Mem.bl_row hSw hrd (by first | exact Mem.Row.lt hrd | omega | (simp <;> omega))).cell 5 rfl; clear hSw; go_simp; try with_reducible rfl)
  case' rest18 => skip
  try simp only [List.getElem_toArray, List.getElem_cons_succ, List.getElem_cons_zero, Act.put, List.setIfInBounds_toArray, List.set_cons_zero, List.set_cons_succ]
  refine wpAnyH_ready (rs := [15]) (by kernel_rfl) (by simp) ?_
  refine AllReadyH.cons rfl (fun K hK => ?_) AllReadyH.nil
  rw [if_pos (by rfl)]
  refine wp_storeRow _ _ _ (by rfl) (w.heap.size + 1) (by rfl) #[.int .i64 d, .string a, .string b, .int .i64 o, .int .i64 n, .slice A3 l.length c3] (by rfl) #[.int .i64 0, .string ⟨#[]⟩, .string ⟨#[]⟩, .int .i64 0, .int .i64 0, .slice none 0 0] 64 6 opSize rfl rfl (op_one _ _ _ _ _ _ _ _) hqb ?_; have hSnew := below_setRow hHeld (Nat.le_refl _) #[.int .i64 d, .string a, .string b, .int .i64 o, .int .i64 n, .slice A3 l.length c3]
  refine hK.out _ _ ?_ (fun hHeld2 => ?_)
  · exact hSnew
  clear hK K hHeld hSnew
  have hHeld := hHeld2
  clear hHeld2
  try simp only [List.getElem_toArray, List.getElem_cons_succ, List.getElem_cons_zero, Act.put, List.setIfInBounds_toArray, List.set_cons_zero, List.set_cons_succ]
  refine wpAnyH_done (by kernel_rfl) ?_ _
  have hq5 := hqb.set #[.int .i64 d, .string a, .string b, .int .i64 o, .int .i64 n, .slice A3 l.length c3]
  have hbel5 := below_setRow hbelB (g := w.heap.size + 1) (by omega) #[.int .i64 d, .string a, .string b, .int .i64 o, .int .i64 n, .slice A3 l.length c3]
  go_wp2
  exact bodyPost_ret (v := opV d a b o n A3 l.length c3) (results_cell_row rfl _ _ (w.heap.size + 1) 64 #[.int .i64 d, .string a, .string b, .int .i64 o, .int .i64 n, .slice A3 l.length c3] (0, 0) _ rfl hq5 Try.underlying64 rfl opSize) rfl
    ⟨A3, c3, rfl, hl3, hm3, hc3, (hby3.stay fun b hb => setRow_other _ _ _ _ (by omega)).mono fun b hb => ⟨by omega, by simpa using hb.2⟩, hbel5⟩
/-- May a call be? -/
def opB (d : Int) (m : Nat) : Bool := decide (1 ≤ d) && decide (d ≤ 13) && decide (m ≤ 1024)
def opE (d : Int) (m : Nat) : Int := if opB d m then 0 else 1
theorem opE_no {d : Int} {m : Nat} (h : opB d m = false) : opE d m = 1 := by unfold opE; rw [h]; rfl
theorem opE_yes {d : Int} {m : Nat} (h : opB d m = true) : opE d m = 0 := by unfold opE; rw [h]; rfl
set_option maxHeartbeats 1000000 in
theorem check_any (d : Int) (a b : ByteArray) (o n : Int) (A : Option Addr) (m c : Nat) (w : World) (hm : m ≤ M63) :
    Calls Try.prog 40 #[opV d a b o n A m c] w fun e w' => e = .returned (.int .i64 (opE d m)) ∧ w' = w.alloc (.cells #[.int .i64 d, .string a, .string b, .int .i64 o, .int .i64 n, .slice A m c] 64) := by
  unfold M63 at hm
  by_cases h1 : d < 1
  · have HF : Hid (opE d m = 1) := opE_no (by unfold opB; rw [decide_eq_false (by omega)]; rfl)
    go_enter Try.func40, Try.ntmps40
    go_wp2
    go_ret
    exact ⟨ret_int HF.out.symm, rfl⟩
  by_cases h2 : 13 < d
  · have HF : Hid (opE d m = 1) := opE_no (by unfold opB; rw [decide_eq_false (p := d ≤ 13) (by omega)]; simp)
    go_enter Try.func40, Try.ntmps40
    go_wp2
    go_ret
    exact ⟨ret_int HF.out.symm, rfl⟩
  by_cases h3 : 1024 < m
  · have HF : Hid (opE d m = 1) := opE_no (by unfold opB; rw [decide_eq_false (p := m ≤ 1024) (by omega)]; simp)
    go_enter Try.func40, Try.ntmps40
    go_wp2
    go_ret
    exact ⟨ret_int HF.out.symm, rfl⟩
  · have HF : Hid (opE d m = 0) := opE_yes (by unfold opB; rw [decide_eq_true (by omega), decide_eq_true (by omega), decide_eq_true (by omega)]; rfl)
    go_enter Try.func40, Try.ntmps40
    go_wp2
    go_ret
    exact ⟨ret_int HF.out.symm, rfl⟩
end Go.Proofs.Ytgcmgohknocfnaa.Opk
