/- Patches, on: to and fro, what they take the place of. -/
import Derived.Test.YteeodeooicoekaaPat
import Derived.Test.YteeodeooicoekaaApp
namespace Go.Proofs.Yteeodeooicoekaa.Pat
open Go.RowKit Go.Proofs.Yteeodeooicoekaa.Mem Go.Proofs.Yteeodeooicoekaa.Open Go.Proofs.Yteeodeooicoekaa.Kind Go.Proofs.Yteeodeooicoekaa.Blk Go.Proofs.Yteeodeooicoekaa.App
set_option linter.unusedVariables false
set_option linter.unusedSimpArgs false
theorem rpatSize : (Try.prog.info? 57).map (·.size) = some 2 := by kernel_rfl
theorem pat_one (a : Int) (A : Option Addr) (n c : Nat) : (#[.int .i64 a, .slice A n c] : Array Value).all (·.oneCell') = true := by simp [Value.oneCell']
theorem V8_one (y : Nat) : (V8 y).oneCell' = true := rfl
set_option maxHeartbeats 1000000 in
set_option maxRecDepth 100000 in
theorem to_any (a : Int) (A : Option Addr) (c : Nat) (d : List Nat) (w : World) (hd : By w A d) (hc : A = none → c = 0) (hn : d.length ≤ 100000) :
    Calls Try.prog 50 #[patV a A d.length c] w fun e w' => ∃ A' c', e = .returned (patV a A' d.length c') ∧ d.length ≤ c' ∧ c' ≤ M63 ∧ (A' = none → c' = 0) ∧ ByF w' w.heap.size A' d ∧ Below w.heap.size w w' := by
  have hr1 : Row (w.alloc (.cells #[.int .i64 a, .slice A d.length c] 57)) w.heap.size 57 #[.int .i64 a, .slice A d.length c] := Row.new _ _ _
  have hr2 := hr1.alloc (.cells #[.int .i64 0, .slice none 0 0] 60)
  have hq2 : Row ((w.alloc (.cells #[.int .i64 a, .slice A d.length c] 57)).alloc (.cells #[.int .i64 0, .slice none 0 0] 60)) (w.alloc (.cells #[.int .i64 a, .slice A d.length c] 57)).heap.size 60 #[.int .i64 0, .slice none 0 0] := Row.new _ _ _
  have hbel := ((Below.refl w.heap.size w).alloc (Nat.le_refl _) (.cells #[.int .i64 a, .slice A d.length c] 57)).alloc (by simp) (.cells #[.int .i64 0, .slice none 0 0] 60)
  have e1 : (w.alloc (.cells #[.int .i64 a, .slice A d.length c] 57)).heap.size = w.heap.size + 1 := by simp
  rw [e1] at hq2
  go_enter Try.func50, Try.ntmps50
  go_wp2_with fail
  generalize (w.alloc (.cells #[.int .i64 a, .slice A d.length c] 57)).alloc (.cells #[.int .i64 0, .slice none 0 0] 60) = w1 at *
  have hd1 := (hd.below hbel).sl_byte
  have hlt2 := hq2.lt
  have hrd := hr2.drew
  have hqd := hq2.drew
  refine wp_region_held_drew (S := Go.RowKit.Below (w.heap.size + 1) (w1.drew)) (by kernel_rfl) ?hb5 (fun hHeld => ?rest5)
  case hb5 =>
    exact Go.RowKit.Below.refl _ _
  case' rest5 => skip
  have hCl := fun (wS : World) (hSw : Go.RowKit.Below (w.heap.size + 1) (w1.drew) wS) => And.intro ((Mem.bl_row hSw hrd (by first | exact Mem.Row.lt hrd | omega | (simp <;> omega))).cell 0 rfl) <| (Mem.bl_row hSw hrd (by first | exact Mem.Row.lt hrd | omega | (simp <;> omega))).cell 1 rfl
  replace hCl := Go.Lib.hid hCl
  refine Mem.tkY 0 ?v6 (hy := Or.inl ⟨by rfl, ?y6⟩) (hS := by assumption) (h := ?r6)
  case y6 => (intro w hSw; clear hSw; go_simp; try with_reducible rfl)
  case' r6 => skip
  refine Mem.tkY 1 ?v7 (hy := Or.inl ⟨by rfl, ?y7⟩) (hS := by assumption) (h := ?r7)
  case y7 => (intro w hSw; obtain ⟨hT0, hT1⟩ := hCl.out w hSw; clear hSw; go_simp; try with_reducible rfl)
  case' r7 => skip
  refine Mem.tkY 3 ?v8 (hy := Or.inl ⟨by rfl, ?y8⟩) (hS := by assumption) (h := ?r8)
  case y8 => (intro w hSw; clear hSw; go_simp; try with_reducible rfl)
  case' r8 => skip
  try simp only [List.getElem_toArray, List.getElem_cons_succ, List.getElem_cons_zero, Act.put, List.setIfInBounds_toArray, List.set_cons_zero, List.set_cons_succ]
  refine Mem.tkY 4 ?v9 (hy := Or.inl ⟨by rfl, ?y9⟩) (hS := by assumption) (h := ?r9)
  case y9 => (intro w hSw; obtain ⟨hT0, hT1⟩ := hCl.out w hSw; clear hSw; go_simp; try with_reducible rfl)
  case' r9 => skip
  try simp only [List.getElem_toArray, List.getElem_cons_succ, List.getElem_cons_zero, Act.put, List.setIfInBounds_toArray, List.set_cons_zero, List.set_cons_succ]
  refine wpAnyH_ready (rs := [2]) (by kernel_rfl) (by simp) ?_
  refine AllReadyH.cons rfl (fun K hK => ?_) AllReadyH.nil
  go_simp
  have hbl := (Below.refl _ w1.drew).alloc (Nat.le_refl _) (.cells #[] 5); have ho0 : Own (w1.drew.alloc (.cells #[] 5)) w1.heap.size 5 V8 (.slice (some ⟨w1.heap.size, 0, none⟩) 0 0) [] := own_empty (Nat.le_refl _); have hbelA := (Below.refl w1.heap.size w1).drew.alloc (Nat.le_refl _) (.cells #[] 5); have hqa := hqd.alloc (.cells #[] 5)
  try go_wp2_with fail
  have hSnew := Mem.bl_step hHeld hbl (by first | exact Nat.le_refl _ | omega | (simp <;> omega))
  refine hK.out _ _ ?_ (fun hHeld2 => ?_)
  · exact hSnew
  clear hbl
  clear hK K hHeld hSnew
  have hHeld := hHeld2
  clear hHeld2
  try simp only [List.getElem_toArray, List.getElem_cons_succ, List.getElem_cons_zero, Act.put, List.setIfInBounds_toArray, List.set_cons_zero, List.set_cons_succ]
  refine wpAnyH_ready (rs := [5]) (by kernel_rfl) (by simp) ?_
  refine AllReadyH.cons rfl (fun K hK => ?_) AllReadyH.nil
  rw [if_pos (by rfl)]
  refine wp_app _ _ _ (by rfl) (V8 0) 1 Try.underlying34 u8Info rfl (by rfl) (by rfl) ho0 (hd1.below hbelA) hc V8_one (by simp; omega) (by simp; omega) (by simp) ?_; intro v3 w3 hown3 hg3 hat3; rw [List.nil_append] at hown3; obtain ⟨A3, c3, rfl, hl3, hm3, hc3, hby3⟩ := own_byF hown3 hd.lt_byte; have hSnew := hHeld.grown hg3 (by simp; omega) (fun k hk => by simp [Value.ownBlock] at hk; omega); have hqb := gb_row hg3 hqa (by simp [Value.ownBlock]; omega); have hbelB := (hbel.trans (hbelA.mono hbel.size)).grown hg3 (by simp; omega) (fun k hk => by simp [Value.ownBlock] at hk; omega)
  refine hK.out _ _ ?_ (fun hHeld2 => ?_)
  · exact hSnew
  clear hK K hHeld hSnew
  have hHeld := hHeld2
  clear hHeld2
  try simp only [List.getElem_toArray, List.getElem_cons_succ, List.getElem_cons_zero, Act.put, List.setIfInBounds_toArray, List.set_cons_zero, List.set_cons_succ]
  refine Mem.tkY 6 ?v10 (hy := Or.inl ⟨by rfl, ?y10⟩) (hS := by assumption) (h := ?r10)
  case y10 => (intro w hSw; clear hSw; go_simp; try with_reducible rfl)
  case' r10 => skip
  try simp only [List.getElem_toArray, List.getElem_cons_succ, List.getElem_cons_zero, Act.put, List.setIfInBounds_toArray, List.set_cons_zero, List.set_cons_succ]
  refine wpAnyH_ready (rs := [7]) (by kernel_rfl) (by simp) ?_
  refine AllReadyH.cons rfl (fun K hK => ?_) AllReadyH.nil
  rw [if_pos (by rfl)]
  refine wp_storeRow _ _ _ (by rfl) (w.heap.size + 1) (by rfl) #[.int .i64 a, .slice A3 d.length c3] (by rfl) #[.int .i64 0, .slice none 0 0] 60 2 patSize rfl rfl (pat_one _ _ _ _) hqb ?_; have hSnew := below_setRow hHeld (Nat.le_refl _) #[.int .i64 a, .slice A3 d.length c3]
  refine hK.out _ _ ?_ (fun hHeld2 => ?_)
  · exact hSnew
  clear hK K hHeld hSnew
  have hHeld := hHeld2
  clear hHeld2
  try simp only [List.getElem_toArray, List.getElem_cons_succ, List.getElem_cons_zero, Act.put, List.setIfInBounds_toArray, List.set_cons_zero, List.set_cons_succ]
  refine wpAnyH_done (by kernel_rfl) ?_ _
  clear hCl
  have hq5 := hqb.set #[.int .i64 a, .slice A3 d.length c3]
  have hbel5 := below_setRow hbelB (g := w.heap.size + 1) (by omega) #[.int .i64 a, .slice A3 d.length c3]
  go_wp2
  exact bodyPost_ret (v := patV a A3 d.length c3) (results_cell_row rfl _ _ (w.heap.size + 1) 60 #[.int .i64 a, .slice A3 d.length c3] (0, 0) _ rfl hq5 Try.underlying60 rfl patSize) rfl
    ⟨A3, c3, rfl, hl3, hm3, hc3, (hby3.stay fun b hb => setRow_other _ _ _ _ (by omega)).mono fun b hb => ⟨by omega, by simpa using hb.2⟩, hbel5⟩
end Go.Proofs.Yteeodeooicoekaa.Pat
