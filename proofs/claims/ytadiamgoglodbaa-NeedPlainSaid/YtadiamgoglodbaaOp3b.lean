/- Calls: op.Plain of a write, and of any call. -/
import Derived.Test.YtadiamgoglodbaaOp3
namespace Go.Proofs.Ytadiamgoglodbaa.Opk
open Go.RowKit Go.Proofs.Ytadiamgoglodbaa.Mem Go.Proofs.Ytadiamgoglodbaa.Open Go.Proofs.Ytadiamgoglodbaa.Kind Go.Proofs.Ytadiamgoglodbaa.Blk Go.Proofs.Ytadiamgoglodbaa.App
set_option linter.unusedVariables false
set_option linter.unusedSimpArgs false
set_option maxHeartbeats 1000000 in
set_option maxRecDepth 100000 in
theorem plain_7 (a b : ByteArray) (o n : Int) (A : Option Addr) (c : Nat) (l : List Nat) (w : World) (hd : By w A l) (hc : A = none → c = 0) (hn : l.length ≤ 100000) :
    Calls Try.prog 11 #[opV 7 a b o n A l.length c] w fun e w' => ∃ A' c', e = .returned (opV 7 a ⟨#[]⟩ o 0 A' l.length c') ∧ l.length ≤ c' ∧ c' ≤ M63 ∧ (A' = none → c' = 0) ∧ ByF w' w.heap.size A' l ∧ Below w.heap.size w w' := by
  obtain ⟨W, hW⟩ : ∃ W, W = ((w.alloc (.cells #[.int .i64 7, .string a, .string b, .int .i64 o, .int .i64 n, .slice A l.length c] 29)).alloc (.cells #[.int .i64 0, .string ⟨#[]⟩, .string ⟨#[]⟩, .int .i64 0, .int .i64 0, .slice none 0 0] 29)).alloc (.cells #[.int .i64 7, .string a, .string ⟨#[]⟩, .int .i64 0, .int .i64 0, .slice none 0 0] 29) := ⟨_, rfl⟩
  have hbW : Below w.heap.size w W := by rw [hW]; exact mid_bel _ _ _ _
  have hsW : W.heap.size = w.heap.size + 1 + 1 + 1 := by rw [hW]; simp
  have r1 : Row W w.heap.size 29 #[.int .i64 7, .string a, .string b, .int .i64 o, .int .i64 n, .slice A l.length c] := by rw [hW]; exact ((Row.new _ _ _).alloc _).alloc _
  have r2 : Row W (w.heap.size + 1) 29 #[.int .i64 0, .string ⟨#[]⟩, .string ⟨#[]⟩, .int .i64 0, .int .i64 0, .slice none 0 0] := by rw [hW]; exact mid_row _ _ _ _ _
  have r3 : Row W (w.heap.size + 1 + 1) 29 #[.int .i64 7, .string a, .string ⟨#[]⟩, .int .i64 0, .int .i64 0, .slice none 0 0] := by
    rw [hW]
    have h := Row.new ((w.alloc (.cells #[.int .i64 7, .string a, .string b, .int .i64 o, .int .i64 n, .slice A l.length c] 29)).alloc (.cells #[.int .i64 0, .string ⟨#[]⟩, .string ⟨#[]⟩, .int .i64 0, .int .i64 0, .slice none 0 0] 29)) 29 #[.int .i64 7, .string a, .string ⟨#[]⟩, .int .i64 0, .int .i64 0, .slice none 0 0]
    rwa [show ((w.alloc (.cells #[.int .i64 7, .string a, .string b, .int .i64 o, .int .i64 n, .slice A l.length c] 29)).alloc (.cells #[.int .i64 0, .string ⟨#[]⟩, .string ⟨#[]⟩, .int .i64 0, .int .i64 0, .slice none 0 0] 29)).heap.size = w.heap.size + 1 + 1 from by simp] at h
  have ho0 : Own (W.alloc (.cells #[] 5)) (w.heap.size + 1 + 1 + 1) 5 V8 (.slice (some ⟨w.heap.size + 1 + 1 + 1, 0, none⟩) 0 0) [] := by
    have h := own_empty (α := Nat) (w := W) (B := w.heap.size + 1 + 1 + 1) (E := 5) (V := V8) (by omega)
    rwa [hsW] at h
  have hsl : Sl (W.alloc (.cells #[] 5)) V8 A l.length l := ((hd.below hbW).below ((Below.refl _ _).alloc (Nat.le_refl _) _)).sl_byte
  have hbA := hbW.alloc hbW.size (.cells #[] 5)
  have hzA : (W.alloc (.cells #[] 5)).heap.size = w.heap.size + 1 + 1 + 1 + 1 := by simp; omega
  have r1 := r1.alloc (.cells #[] 5)
  have r2 := r2.alloc (.cells #[] 5)
  have r3 := r3.alloc (.cells #[] 5)
  have hby0 := hd.lt_byte
  have hne : ∀ j, j < w.heap.size + 1 + 1 + 1 → some j ≠ (Value.slice (some ⟨w.heap.size + 1 + 1 + 1, 0, none⟩) 0 0).ownBlock := fun j hj e => by
    have e2 : j = w.heap.size + 1 + 1 + 1 := by injection e
    omega
  have hne2 : ∀ k, (Value.slice (some ⟨w.heap.size + 1 + 1 + 1, 0, none⟩) 0 0).ownBlock = some k → w.heap.size ≤ k := fun k e => by
    have e2 : w.heap.size + 1 + 1 + 1 = k := by injection e
    omega
  subst hW
  go_enter Try.func11, Try.ntmps11
  go_wp2_with (first | (at_builtin; refine wpList_app rfl _ _ 27 rfl (V8 0) 1 Try.underlying27 u8Info rfl rfl rfl ho0 hsl hc V8_one (by simp; omega) (by simp; omega) (by omega) ?_; intro v3 w3 hown3 hg3 hat3; rw [List.nil_append] at hown3; obtain ⟨A3, c3, rfl, hl3, hm3, hc3, hby3⟩ := own_byF hown3 hby0; have q1 := gb_row hg3 r1 (hne _ (by omega)); have q2 := gb_row hg3 r2 (hne _ (by omega)); have q3 := gb_row hg3 r3 (hne _ (by omega)); have hb3 := hbA.grown hg3 (by omega) hne2; have c15 := q1.cell 3 rfl; have f35 := q3.frozen 5; have c35 := q3.cell 5 rfl; have f33 := q3.frozen 3; have c33 := q3.cell 3 rfl; have c30 := q3.cell 0 rfl; have c31 := q3.cell 1 rfl; have c32 := q3.cell 2 rfl; have c34 := q3.cell 4 rfl; have q4 := (q3.put 5 (.slice A3 l.length c3)).put 3 (.int .i64 o); have q5 := (q2.farCell (a := ⟨w.heap.size + 1 + 1, 5, none⟩) (by show w.heap.size + 1 ≠ w.heap.size + 1 + 1; omega) (.slice A3 l.length c3)).farCell (a := ⟨w.heap.size + 1 + 1, 3, none⟩) (by show w.heap.size + 1 ≠ w.heap.size + 1 + 1; omega) (.int .i64 o); have g0 : ((w3.setCell ⟨w.heap.size + 1 + 1, 5, none⟩ (.slice A3 l.length c3)).setCell ⟨w.heap.size + 1 + 1, 3, none⟩ (.int .i64 o)).cell? ⟨w.heap.size + 1 + 1, 0, none⟩ = some (.int .i64 7) := q4.cell 0 rfl; have g1 : ((w3.setCell ⟨w.heap.size + 1 + 1, 5, none⟩ (.slice A3 l.length c3)).setCell ⟨w.heap.size + 1 + 1, 3, none⟩ (.int .i64 o)).cell? ⟨w.heap.size + 1 + 1, 1, none⟩ = some (.string a) := q4.cell 1 rfl; have g2 : ((w3.setCell ⟨w.heap.size + 1 + 1, 5, none⟩ (.slice A3 l.length c3)).setCell ⟨w.heap.size + 1 + 1, 3, none⟩ (.int .i64 o)).cell? ⟨w.heap.size + 1 + 1, 2, none⟩ = some (.string ⟨#[]⟩) := q4.cell 2 rfl; have g3 : ((w3.setCell ⟨w.heap.size + 1 + 1, 5, none⟩ (.slice A3 l.length c3)).setCell ⟨w.heap.size + 1 + 1, 3, none⟩ (.int .i64 o)).cell? ⟨w.heap.size + 1 + 1, 3, none⟩ = some (.int .i64 o) := q4.cell 3 rfl; have g4 : ((w3.setCell ⟨w.heap.size + 1 + 1, 5, none⟩ (.slice A3 l.length c3)).setCell ⟨w.heap.size + 1 + 1, 3, none⟩ (.int .i64 o)).cell? ⟨w.heap.size + 1 + 1, 4, none⟩ = some (.int .i64 0) := q4.cell 4 rfl; have g5 : ((w3.setCell ⟨w.heap.size + 1 + 1, 5, none⟩ (.slice A3 l.length c3)).setCell ⟨w.heap.size + 1 + 1, 3, none⟩ (.int .i64 o)).cell? ⟨w.heap.size + 1 + 1, 5, none⟩ = some (.slice A3 l.length c3) := q4.cell 5 rfl; clear r1 r2 r3 hg3 hown3 hat3 ho0 hsl hbA hbW) | (with_reducible refine wpList_storeRow rfl 29 _ _ rfl (w.heap.size + 1) rfl #[.int .i64 7, .string a, .string ⟨#[]⟩, .int .i64 o, .int .i64 0, .slice A3 l.length c3] rfl #[.int .i64 0, .string ⟨#[]⟩, .string ⟨#[]⟩, .int .i64 0, .int .i64 0, .slice none 0 0] 29 6 opSize rfl rfl (op_one _ _ _ _ _ _ _ _) q5 ?_))
  simp only [Act.put]
  exact bodyPost_ret (v := opV 7 a ⟨#[]⟩ o 0 A3 l.length c3) (results_cell_row rfl _ _ (w.heap.size + 1) 29 #[.int .i64 7, .string a, .string ⟨#[]⟩, .int .i64 o, .int .i64 0, .slice A3 l.length c3] (0, 0) _ rfl (q5.set _) Try.underlying29 rfl opSize) rfl
    ⟨A3, c3, rfl, hl3, hm3, hc3, (hby3.stay fun b hb => by
      rw [setRow_other _ _ _ _ (by omega), Below.heap_setCell _ _ _ _ (by show b ≠ w.heap.size + 1 + 1; omega), Below.heap_setCell _ _ _ _ (by show b ≠ w.heap.size + 1 + 1; omega)]).mono fun b hb => ⟨by omega, by simpa [World.setCell] using hb.2⟩, below_setRow ((hb3.setCell (p := ⟨w.heap.size + 1 + 1, 5, none⟩) (by show w.heap.size ≤ w.heap.size + 1 + 1; omega) _).setCell (p := ⟨w.heap.size + 1 + 1, 3, none⟩) (by show w.heap.size ≤ w.heap.size + 1 + 1; omega) _) (by omega) _⟩
theorem plain_any (d : Int) (a b : ByteArray) (o n : Int) (A : Option Addr) (c : Nat) (l : List Nat) (w : World) (hd : By w A l) (hc : A = none → c = 0) (hn : l.length ≤ 100000) :
    Calls Try.prog 11 #[opV d a b o n A l.length c] w fun e w' => ∃ A' c', e = .returned (opV d (plA d a) (plB d b) (plO d o) (plN d n) A' (plD d l).length c') ∧ (plD d l).length ≤ c' ∧ c' ≤ M63 ∧ (A' = none → c' = 0) ∧ ByF w' w.heap.size A' (plD d l) ∧ Below w.heap.size w w' := by
  by_cases h7 : d = 7
  · subst h7
    exact plain_7 a b o n A c l w hd hc hn
  have hD : plD d l = [] := if_neg h7
  rw [hD]
  have nilr : ∀ {v v' : Value} {w' : World}, v = v' → Below w.heap.size w w' → v' = opV d (plA d a) (plB d b) (plO d o) (plN d n) none 0 0 → ∃ A' c', Ending.returned v = .returned (opV d (plA d a) (plB d b) (plO d o) (plN d n) A' ([] : List Nat).length c') ∧ ([] : List Nat).length ≤ c' ∧ c' ≤ M63 ∧ (A' = none → c' = 0) ∧ ByF w' w.heap.size A' [] ∧ Below w.heap.size w w' :=
    fun h1 h2 h3 => ⟨none, 0, by rw [h1, h3]; rfl, by simp, by simp, fun _ => rfl, Rw.nil _ _ _ _, h2⟩
  by_cases h13 : d = 13
  · subst h13
    exact (plain_13 a b o n A l.length c w).mono fun e w' ⟨h1, h2⟩ => by subst h1; exact nilr rfl h2 rfl
  by_cases h3 : d = 3
  · subst h3
    exact (plain_3 a b o n A l.length c w).mono fun e w' ⟨h1, h2⟩ => by subst h1; exact nilr rfl h2 rfl
  by_cases h6 : d = 6
  · subst h6
    exact (plain_6 a b o n A l.length c w).mono fun e w' ⟨h1, h2⟩ => by subst h1; exact nilr rfl h2 rfl
  by_cases h8 : d = 8
  · subst h8
    exact (plain_8 a b o n A l.length c w).mono fun e w' ⟨h1, h2⟩ => by subst h1; exact nilr rfl h2 rfl
  by_cases h9 : d = 9
  · subst h9
    exact (plain_9 a b o n A l.length c w).mono fun e w' ⟨h1, h2⟩ => by subst h1; exact nilr rfl h2 rfl
  exact (plain_0 a b o n A l.length c w d (by rw [beq_eq_false_iff_ne]; exact h3) (by rw [beq_eq_false_iff_ne]; exact h6) (by rw [beq_eq_false_iff_ne]; exact h7) (by rw [beq_eq_false_iff_ne]; exact h8) (by rw [beq_eq_false_iff_ne]; exact h9) (by rw [bne_iff_ne]; exact h13)).mono fun e w' ⟨h1, h2⟩ => by
    subst h1
    refine nilr rfl h2 ?_
    have e1 : plA d a = a := if_neg h13
    have e2 : plB d b = ⟨#[]⟩ := if_neg (by rintro (h | h); exact h3 h; exact h6 h)
    have e3 : plO d o = 0 := if_neg (by rintro (h | h); exact h7 h; exact h8 h)
    have e4 : plN d n = 0 := if_neg (by rintro (h | h); exact h8 h; exact h9 h)
    rw [e1, e2, e3, e4]
end Go.Proofs.Ytadiamgoglodbaa.Opk
