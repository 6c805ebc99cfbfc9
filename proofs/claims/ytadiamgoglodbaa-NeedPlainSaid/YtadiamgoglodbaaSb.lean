/- How much room a call may need: the contracts of need.Blocks, Inodes and Enough. No statement is proved here. -/
import Derived.Test.YtadiamgoglodbaaSa
import Derived.Test.YtadiamgoglodbaaOp3b
namespace Go.Proofs.Ytadiamgoglodbaa.Opk
open Go.RowKit Go.Proofs.Ytadiamgoglodbaa.Mem Go.Proofs.Ytadiamgoglodbaa.Open Go.Proofs.Ytadiamgoglodbaa.Kind Go.Proofs.Ytadiamgoglodbaa.Blk Go.Proofs.Ytadiamgoglodbaa.App Go.Proofs.Ytadiamgoglodbaa.Spn
set_option linter.unusedVariables false
set_option linter.unusedSimpArgs false
theorem check_bel (d : Int) (a b : ByteArray) (o n : Int) (A : Option Addr) (m c : Nat) (w : World) (hm : m ≤ M63) :
    Calls Try.prog 10 #[opV d a b o n A m c] w fun e w' => e = .returned (.int .i64 (opE d m)) ∧ Below w.heap.size w w' := by
  refine (check_any d a b o n A m c w hm).mono ?_
  rintro e w' ⟨rfl, rfl⟩
  exact ⟨rfl, (Below.refl _ _).alloc (Nat.le_refl _) _⟩
def nB (d o : Int) (m : Nat) : Int := if opB d m = true then (if d = 7 then fbF o m else if d = 1 ∨ d = 2 ∨ d = 3 ∨ d = 6 then 2 else 0) else 0
def nI (d : Int) (m : Nat) : Int := if opB d m = true ∧ (d = 1 ∨ d = 2) then 1 else 0
theorem inodeInfo : (Try.prog.info? 43).map (fun i => (i.zero, i.size)) = some (some iZ, 11) := by kernel_rfl
theorem inodeZero : ∀ w, (zeroValue 43).run Try.prog w = .ok iZ w := (zero_of_info inodeInfo).1
set_option maxHeartbeats 2000000 in
set_option maxRecDepth 100000 in
theorem nBlocks_any (d : Int) (a b : ByteArray) (o n : Int) (A : Option Addr) (m c : Nat) (w : World) (hm : m ≤ M63) (ho : WfJ o) :
    Calls Try.prog 7 #[opV d a b o n A m c] w fun r w' => r = .returned (.int .i64 (nB d o m)) ∧ Below w.heap.size w w' := by
  have hzi := inodeZero
  have hm9 : m ≤ 9223372036854775807 := hm
  have hr0 : Row (w.alloc (.cells #[.int .i64 d, .string a, .string b, .int .i64 o, .int .i64 n, .slice A m c] 29)) w.heap.size 29 #[.int .i64 d, .string a, .string b, .int .i64 o, .int .i64 n, .slice A m c] := Row.new _ _ _
  have hb0 : Below w.heap.size w (w.alloc (.cells #[.int .i64 d, .string a, .string b, .int .i64 o, .int .i64 n, .slice A m c] 29)) := (Below.refl _ _).alloc (Nat.le_refl _) _
  have HR0 := Lib.hid hr0
  have HB0 := Lib.hid hb0
  have CC := Lib.hid (fun w' => check_bel d a b o n A m c w' hm)
  clear hr0 hb0
  have CF := Lib.hid (fun w' => fBlocks_any o m w' ho hm9)
  go_enter Try.func7, Try.ntmps7
  cases hB : opB d m with
  | false =>
    have HF : Hid (nB d o m = 0) := Lib.hid (by unfold nB; rw [hB]; rfl)
    rw [opE_no hB] at CC
    clear hB
    go_wp2_with fail
    refine (CC.out _).mono ?_
    rintro e w2 ⟨rfl, hb2⟩
    have HB2 := Lib.hid (HB0.out.trans (hb2.mono HB0.out.size))
    have hr2 := HR0.out.below hb2
    have c0 : w2.cell? ⟨w.heap.size, 0, none⟩ = some (.int .i64 d) := hr2.cell 0 rfl
    have c3 : w2.cell? ⟨w.heap.size, 3, none⟩ = some (.int .i64 o) := hr2.cell 3 rfl
    have c5 : w2.cell? ⟨w.heap.size, 5, none⟩ = some (.slice A m c) := hr2.cell 5 rfl
    clear hb2 hr2 CC HB0 HR0
    go_wp2
    go_ret
    exact ⟨by rw [HF.out]; rfl, by first | exact HB2.out | exact bdrewN HB2.out _⟩
  | true =>
    have HB : Hid (nB d o m = if d = 7 then fbF o m else if d = 1 ∨ d = 2 ∨ d = 3 ∨ d = 6 then 2 else 0) := Lib.hid (by unfold nB; rw [if_pos hB])
    rw [opE_yes hB] at CC
    clear hB
    by_cases h7 : d = 7
    · have HF : Hid (nB d o m = fbF o m) := Lib.hid (by rw [HB.out, h7]; exact if_pos rfl)
      have b7 : (d == 7) = true := by simp [h7]
      clear h7
      go_wp2_with fail
      refine (CC.out _).mono ?_
      rintro e w2 ⟨rfl, hb2⟩
      have HB2 := Lib.hid (HB0.out.trans (hb2.mono HB0.out.size))
      have hr2 := HR0.out.below hb2
      have c0 : w2.cell? ⟨w.heap.size, 0, none⟩ = some (.int .i64 d) := hr2.cell 0 rfl
      have c3 : w2.cell? ⟨w.heap.size, 3, none⟩ = some (.int .i64 o) := hr2.cell 3 rfl
      have c5 : w2.cell? ⟨w.heap.size, 5, none⟩ = some (.slice A m c) := hr2.cell 5 rfl
      clear hb2 hr2 CC HB0 HR0
      go_wp2_with fail
      refine (CF.out _).mono ?_
      rintro e w3 ⟨rfl, hb3⟩
      have HB2 := Lib.hid (HB2.out.trans (hb3.mono HB2.out.size))
      clear hb3
      go_wp2
      go_ret
      exact ⟨by rw [HF.out]; rfl, by first | exact HB2.out | exact bdrewN HB2.out _⟩
    by_cases h1 : d = 1
    · have HF : Hid (nB d o m = 2) := Lib.hid (by rw [HB.out, h1]; rfl)
      have b7 : (d == 7) = false := by simp [h1]
      have b1 : (d == 1) = true := by simp [h1]
      have b2 : (d == 2) = false := by simp [h1]
      have b3 : (d == 3) = false := by simp [h1]
      have b6 : (d == 6) = false := by simp [h1]
      clear h1 h7
      go_wp2_with fail
      refine (CC.out _).mono ?_
      rintro e w2 ⟨rfl, hb2⟩
      have HB2 := Lib.hid (HB0.out.trans (hb2.mono HB0.out.size))
      have hr2 := HR0.out.below hb2
      have c0 : w2.cell? ⟨w.heap.size, 0, none⟩ = some (.int .i64 d) := hr2.cell 0 rfl
      have c3 : w2.cell? ⟨w.heap.size, 3, none⟩ = some (.int .i64 o) := hr2.cell 3 rfl
      have c5 : w2.cell? ⟨w.heap.size, 5, none⟩ = some (.slice A m c) := hr2.cell 5 rfl
      clear hb2 hr2 CC HB0 HR0
      go_wp2
      go_ret
      exact ⟨by rw [HF.out]; rfl, by first | exact HB2.out | exact bdrewN HB2.out _⟩
    by_cases h2 : d = 2
    · have HF : Hid (nB d o m = 2) := Lib.hid (by rw [HB.out, h2]; rfl)
      have b7 : (d == 7) = false := by simp [h2]
      have b1 : (d == 1) = false := by simp [h2]
      have b2 : (d == 2) = true := by simp [h2]
      have b3 : (d == 3) = false := by simp [h2]
      have b6 : (d == 6) = false := by simp [h2]
      clear h2 h7 h1
      go_wp2_with fail
      refine (CC.out _).mono ?_
      rintro e w2 ⟨rfl, hb2⟩
      have HB2 := Lib.hid (HB0.out.trans (hb2.mono HB0.out.size))
      have hr2 := HR0.out.below hb2
      have c0 : w2.cell? ⟨w.heap.size, 0, none⟩ = some (.int .i64 d) := hr2.cell 0 rfl
      have c3 : w2.cell? ⟨w.heap.size, 3, none⟩ = some (.int .i64 o) := hr2.cell 3 rfl
      have c5 : w2.cell? ⟨w.heap.size, 5, none⟩ = some (.slice A m c) := hr2.cell 5 rfl
      clear hb2 hr2 CC HB0 HR0
      go_wp2
      go_ret
      exact ⟨by rw [HF.out]; rfl, by first | exact HB2.out | exact bdrewN HB2.out _⟩
    by_cases h3 : d = 3
    · have HF : Hid (nB d o m = 2) := Lib.hid (by rw [HB.out, h3]; rfl)
      have b7 : (d == 7) = false := by simp [h3]
      have b1 : (d == 1) = false := by simp [h3]
      have b2 : (d == 2) = false := by simp [h3]
      have b3 : (d == 3) = true := by simp [h3]
      have b6 : (d == 6) = false := by simp [h3]
      clear h3 h7 h1 h2
      go_wp2_with fail
      refine (CC.out _).mono ?_
      rintro e w2 ⟨rfl, hb2⟩
      have HB2 := Lib.hid (HB0.out.trans (hb2.mono HB0.out.size))
      have hr2 := HR0.out.below hb2
      have c0 : w2.cell? ⟨w.heap.size, 0, none⟩ = some (.int .i64 d) := hr2.cell 0 rfl
      have c3 : w2.cell? ⟨w.heap.size, 3, none⟩ = some (.int .i64 o) := hr2.cell 3 rfl
      have c5 : w2.cell? ⟨w.heap.size, 5, none⟩ = some (.slice A m c) := hr2.cell 5 rfl
      clear hb2 hr2 CC HB0 HR0
      go_wp2
      go_ret
      exact ⟨by rw [HF.out]; rfl, by first | exact HB2.out | exact bdrewN HB2.out _⟩
    by_cases h6 : d = 6
    · have HF : Hid (nB d o m = 2) := Lib.hid (by rw [HB.out, h6]; rfl)
      have b7 : (d == 7) = false := by simp [h6]
      have b1 : (d == 1) = false := by simp [h6]
      have b2 : (d == 2) = false := by simp [h6]
      have b3 : (d == 3) = false := by simp [h6]
      have b6 : (d == 6) = true := by simp [h6]
      clear h6 h7 h1 h2 h3
      go_wp2_with fail
      refine (CC.out _).mono ?_
      rintro e w2 ⟨rfl, hb2⟩
      have HB2 := Lib.hid (HB0.out.trans (hb2.mono HB0.out.size))
      have hr2 := HR0.out.below hb2
      have c0 : w2.cell? ⟨w.heap.size, 0, none⟩ = some (.int .i64 d) := hr2.cell 0 rfl
      have c3 : w2.cell? ⟨w.heap.size, 3, none⟩ = some (.int .i64 o) := hr2.cell 3 rfl
      have c5 : w2.cell? ⟨w.heap.size, 5, none⟩ = some (.slice A m c) := hr2.cell 5 rfl
      clear hb2 hr2 CC HB0 HR0
      go_wp2
      go_ret
      exact ⟨by rw [HF.out]; rfl, by first | exact HB2.out | exact bdrewN HB2.out _⟩
    · have HF : Hid (nB d o m = 0) := Lib.hid (by rw [HB.out, if_neg h7, if_neg (by omega)])
      have b7 : (d == 7) = false := by simpa using h7
      have b1 : (d == 1) = false := by simpa using h1
      have b2 : (d == 2) = false := by simpa using h2
      have b3 : (d == 3) = false := by simpa using h3
      have b6 : (d == 6) = false := by simpa using h6
      clear h7 h1 h2 h3 h6
      go_wp2_with fail
      refine (CC.out _).mono ?_
      rintro e w2 ⟨rfl, hb2⟩
      have HB2 := Lib.hid (HB0.out.trans (hb2.mono HB0.out.size))
      have hr2 := HR0.out.below hb2
      have c0 : w2.cell? ⟨w.heap.size, 0, none⟩ = some (.int .i64 d) := hr2.cell 0 rfl
      have c3 : w2.cell? ⟨w.heap.size, 3, none⟩ = some (.int .i64 o) := hr2.cell 3 rfl
      have c5 : w2.cell? ⟨w.heap.size, 5, none⟩ = some (.slice A m c) := hr2.cell 5 rfl
      clear hb2 hr2 CC HB0 HR0
      go_wp2
      go_ret
      exact ⟨by rw [HF.out]; rfl, by first | exact HB2.out | exact bdrewN HB2.out _⟩
set_option maxHeartbeats 2000000 in
set_option maxRecDepth 100000 in
theorem nInodes_any (d : Int) (a b : ByteArray) (o n : Int) (A : Option Addr) (m c : Nat) (w : World) (hm : m ≤ M63) :
    Calls Try.prog 8 #[opV d a b o n A m c] w fun r w' => r = .returned (.int .i64 (nI d m)) ∧ Below w.heap.size w w' := by
  have hr0 : Row (w.alloc (.cells #[.int .i64 d, .string a, .string b, .int .i64 o, .int .i64 n, .slice A m c] 29)) w.heap.size 29 #[.int .i64 d, .string a, .string b, .int .i64 o, .int .i64 n, .slice A m c] := Row.new _ _ _
  have hb0 : Below w.heap.size w (w.alloc (.cells #[.int .i64 d, .string a, .string b, .int .i64 o, .int .i64 n, .slice A m c] 29)) := (Below.refl _ _).alloc (Nat.le_refl _) _
  have HR0 := Lib.hid hr0
  have HB0 := Lib.hid hb0
  have CC := Lib.hid (fun w' => check_bel d a b o n A m c w' hm)
  clear hr0 hb0
  go_enter Try.func8, Try.ntmps8
  cases hB : opB d m with
  | false =>
    have HF : Hid (nI d m = 0) := Lib.hid (by unfold nI; rw [hB]; rfl)
    rw [opE_no hB] at CC
    clear hB
    go_wp2_with fail
    refine (CC.out _).mono ?_
    rintro e w2 ⟨rfl, hb2⟩
    have HB2 := Lib.hid (HB0.out.trans (hb2.mono HB0.out.size))
    have hr2 := HR0.out.below hb2
    have c0 : w2.cell? ⟨w.heap.size, 0, none⟩ = some (.int .i64 d) := hr2.cell 0 rfl
    have c3 : w2.cell? ⟨w.heap.size, 3, none⟩ = some (.int .i64 o) := hr2.cell 3 rfl
    have c5 : w2.cell? ⟨w.heap.size, 5, none⟩ = some (.slice A m c) := hr2.cell 5 rfl
    clear hb2 hr2 CC HB0 HR0
    go_wp2
    go_ret
    exact ⟨by rw [HF.out]; rfl, by first | exact HB2.out | exact bdrewN HB2.out _⟩
  | true =>
    have HB : Hid (nI d m = if d = 1 ∨ d = 2 then 1 else 0) := Lib.hid (by unfold nI; rw [hB]; simp)
    rw [opE_yes hB] at CC
    clear hB
    by_cases h1 : d = 1
    · have HF : Hid (nI d m = 1) := Lib.hid (by rw [HB.out, h1]; rfl)
      have b1 : (d == 1) = true := by simp [h1]
      have b2 : (d == 2) = false := by simp [h1]
      clear h1
      go_wp2_with fail
      refine (CC.out _).mono ?_
      rintro e w2 ⟨rfl, hb2⟩
      have HB2 := Lib.hid (HB0.out.trans (hb2.mono HB0.out.size))
      have hr2 := HR0.out.below hb2
      have c0 : w2.cell? ⟨w.heap.size, 0, none⟩ = some (.int .i64 d) := hr2.cell 0 rfl
      have c3 : w2.cell? ⟨w.heap.size, 3, none⟩ = some (.int .i64 o) := hr2.cell 3 rfl
      have c5 : w2.cell? ⟨w.heap.size, 5, none⟩ = some (.slice A m c) := hr2.cell 5 rfl
      clear hb2 hr2 CC HB0 HR0
      go_wp2
      go_ret
      exact ⟨by rw [HF.out]; rfl, by first | exact HB2.out | exact bdrewN HB2.out _⟩
    by_cases h2 : d = 2
    · have HF : Hid (nI d m = 1) := Lib.hid (by rw [HB.out, h2]; rfl)
      have b1 : (d == 1) = false := by simp [h2]
      have b2 : (d == 2) = true := by simp [h2]
      clear h2 h1
      go_wp2_with fail
      refine (CC.out _).mono ?_
      rintro e w2 ⟨rfl, hb2⟩
      have HB2 := Lib.hid (HB0.out.trans (hb2.mono HB0.out.size))
      have hr2 := HR0.out.below hb2
      have c0 : w2.cell? ⟨w.heap.size, 0, none⟩ = some (.int .i64 d) := hr2.cell 0 rfl
      have c3 : w2.cell? ⟨w.heap.size, 3, none⟩ = some (.int .i64 o) := hr2.cell 3 rfl
      have c5 : w2.cell? ⟨w.heap.size, 5, none⟩ = some (.slice A m c) := hr2.cell 5 rfl
      clear hb2 hr2 CC HB0 HR0
      go_wp2
      go_ret
      exact ⟨by rw [HF.out]; rfl, by first | exact HB2.out | exact bdrewN HB2.out _⟩
    · have HF : Hid (nI d m = 0) := Lib.hid (by rw [HB.out, if_neg (by omega)])
      have b1 : (d == 1) = false := by simpa using h1
      have b2 : (d == 2) = false := by simpa using h2
      clear h1 h2
      go_wp2_with fail
      refine (CC.out _).mono ?_
      rintro e w2 ⟨rfl, hb2⟩
      have HB2 := Lib.hid (HB0.out.trans (hb2.mono HB0.out.size))
      have hr2 := HR0.out.below hb2
      have c0 : w2.cell? ⟨w.heap.size, 0, none⟩ = some (.int .i64 d) := hr2.cell 0 rfl
      have c3 : w2.cell? ⟨w.heap.size, 3, none⟩ = some (.int .i64 o) := hr2.cell 3 rfl
      have c5 : w2.cell? ⟨w.heap.size, 5, none⟩ = some (.slice A m c) := hr2.cell 5 rfl
      clear hb2 hr2 CC HB0 HR0
      go_wp2
      go_ret
      exact ⟨by rw [HF.out]; rfl, by first | exact HB2.out | exact bdrewN HB2.out _⟩
end Go.Proofs.Ytadiamgoglodbaa.Opk
