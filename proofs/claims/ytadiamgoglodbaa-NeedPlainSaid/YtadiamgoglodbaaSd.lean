/- What a script needs; the example of chapter 34. No statement is proved here. -/
import Derived.Test.YtadiamgoglodbaaSc
namespace Go.Proofs.Ytadiamgoglodbaa.Opk
open Go.RowKit Go.Proofs.Ytadiamgoglodbaa.Mem Go.Proofs.Ytadiamgoglodbaa.Open Go.Proofs.Ytadiamgoglodbaa.Kind Go.Proofs.Ytadiamgoglodbaa.Blk Go.Proofs.Ytadiamgoglodbaa.App Go.Proofs.Ytadiamgoglodbaa.Spn
set_option linter.unusedVariables false
set_option linter.unusedSimpArgs false
abbrev opZ : Array Value := #[.int .i64 0, .string ⟨#[]⟩, .string ⟨#[]⟩, .int .i64 0, .int .i64 0, .slice none 0 0]
abbrev opR (x : OpD) (A : Option Addr) (c : Nat) : Array Value := #[.int .i64 x.d, .string x.a, .string x.b, .int .i64 x.off, .int .i64 x.n, .slice A x.data.length c]
theorem opInfo : (Try.prog.info? 29).map (fun i => (i.zero, i.size)) = some (some (.agg opZ), 6) := by kernel_rfl
theorem opZero : ∀ w, (zeroValue 29).run Try.prog w = .ok (.agg opZ) w := (zero_of_info opInfo).1
theorem opR_one (x : OpD) (A : Option Addr) (c : Nat) : (opR x A c).all (·.oneCell') = true := by simp [Value.oneCell']
theorem boxed (w : World) (T : TypeId) (z cs : Array Value) : Row ((w.alloc (.cells z T)).setRow w.heap.size cs) w.heap.size T cs ∧ Below w.heap.size w ((w.alloc (.cells z T)).setRow w.heap.size cs) ∧ w.heap.size < ((w.alloc (.cells z T)).setRow w.heap.size cs).heap.size :=
  ⟨(Row.new w T z).set cs, below_setRow ((Below.refl _ _).alloc (Nat.le_refl _) _) (Nat.le_refl _) cs, by simp⟩
theorem fbF_b (off m : Int) : 0 ≤ fbF off m ∧ fbF off m ≤ 34305 := by
  have h := spS_len off m
  unfold fbF
  split
  · omega
  · split <;> omega
theorem nB_b (d o : Int) (m : Nat) : 0 ≤ nB d o m ∧ nB d o m ≤ 34305 := by
  have h := fbF_b o m
  unfold nB
  split
  · split
    · exact h
    · split <;> omega
  · omega
theorem nI_b (d : Int) (m : Nat) : 0 ≤ nI d m ∧ nI d m ≤ 1 := by
  unfold nI
  split <;> omega
def sumB (xs : List OpD) : Int := (xs.map fun x => nB x.d x.off x.data.length).sum
def sumI (xs : List OpD) : Int := (xs.map fun x => nI x.d x.data.length).sum
theorem sumB_next {xs : List OpD} {k : Nat} (hk : k < xs.length) : sumB (xs.take (k + 1)) = sumB (xs.take k) + nB xs[k].d xs[k].off xs[k].data.length := by
  unfold sumB
  rw [List.take_add_one, List.getElem?_eq_getElem hk, List.map_append, List.sum_append]
  simp
theorem sumI_next {xs : List OpD} {k : Nat} (hk : k < xs.length) : sumI (xs.take (k + 1)) = sumI (xs.take k) + nI xs[k].d xs[k].data.length := by
  unfold sumI
  rw [List.take_add_one, List.getElem?_eq_getElem hk, List.map_append, List.sum_append]
  simp
theorem sumB_b (xs : List OpD) : 0 ≤ sumB xs ∧ sumB xs ≤ 34305 * (xs.length : Int) := by
  unfold sumB
  induction xs with
  | nil => simp
  | cons x r ih =>
    have := nB_b x.d x.off x.data.length
    simp only [List.map_cons, List.sum_cons, List.length_cons, Int.natCast_add, Int.natCast_one]
    omega
theorem sumI_b (xs : List OpD) : 0 ≤ sumI xs ∧ sumI xs ≤ (xs.length : Int) := by
  unfold sumI
  induction xs with
  | nil => simp
  | cons x r ih =>
    have := nI_b x.d x.data.length
    simp only [List.map_cons, List.sum_cons, List.length_cons, Int.natCast_add, Int.natCast_one]
    omega
set_option maxHeartbeats 4000000 in
set_option maxRecDepth 100000 in
theorem script_any (A : Option Addr) (c : Nat) (xs : List OpD) (w : World) (hx : Ops w A xs) (hn : xs.length ≤ 24) :
    Calls Try.prog 12 #[.slice A xs.length c] w fun r w' => r = .returned (.tuple #[.int .i64 (sumB xs), .int .i64 (sumI xs)]) ∧ Below w.heap.size w w' := by
  go_enter Try.func12, Try.ntmps12
  go_wp2_with fail
  go_loopw [4, 5, 10] (fun p q i wr => ∃ (k : Nat), k ≤ xs.length ∧ i = .int .i64 k ∧ p = .int .i64 (sumB (xs.take k)) ∧ q = .int .i64 (sumI (xs.take k)) ∧ Below w.heap.size w wr) (fun _ _ i _ => xs.length - (intOf i).toNat)
  case atStart => exact ⟨0, by omega, rfl, rfl, rfl, by first | exact Below.refl _ _ | exact bdrewN (Below.refl _ _) _⟩
  case round =>
    obtain ⟨k, hk, rfl, rfl, rfl, hbr⟩ := hrel
    by_cases hlt : k < xs.length
    · obtain ⟨g, o, rfl, hg⟩ := op_form hx (by omega)
      obtain ⟨A1, c1, hat0⟩ := op_at hx k hlt
      have hat := hat0.below hbr
      have v0 := hat.v0
      have v1 := hat.v1
      have v2 := hat.v2
      have v3 := hat.v3
      have v4 := hat.v4
      have v5 := hat.v5
      have HN1 := Lib.hid (sumB_next hlt)
      have HN2 := Lib.hid (sumI_next hlt)
      have hm := Nat.le_trans hat.p.1 hat.p.2.1
      have hoff : WfJ xs[k].off := hat.ok.2.2.2.1
      have b1 := nB_b xs[k].d xs[k].off xs[k].data.length
      have b2 := nI_b xs[k].d xs[k].data.length
      have b3 := sumB_b (xs.take k)
      have b4 := sumI_b (xs.take k)
      have hkl : (xs.take k).length = k := by rw [List.length_take]; omega
      rw [hkl] at b3 b4
      clear hat0 hat hkl
      generalize xs[k] = x at *
      have CB := Lib.hid (fun w' => nBlocks_any x.d x.a x.b x.off x.n A1 x.data.length c1 w' hm hoff)
      have CI := Lib.hid (fun w' => nInodes_any x.d x.a x.b x.off x.n A1 x.data.length c1 w' hm)
      generalize nB x.d x.off x.data.length = n1 at *
      generalize nI x.d x.data.length = n2 at *
      generalize sumB (xs.take k) = s1 at *
      generalize sumI (xs.take k) = s2 at *
      obtain ⟨⟨r7, b7, z7⟩⟩ : Nonempty (_ ∧ _ ∧ _) := ⟨boxed wr 29 opZ (opR x A1 c1)⟩
      have R0 : Row (wr.alloc (.cells opZ 29)) wr.heap.size 29 opZ := Row.new _ _ _
      have k0 : World.cell? _ ⟨wr.heap.size, 0, none⟩ = some (.int .i64 x.d) := r7.cell 0 rfl
      have k1 : World.cell? _ ⟨wr.heap.size, 1, none⟩ = some (.string x.a) := r7.cell 1 rfl
      have k2 : World.cell? _ ⟨wr.heap.size, 2, none⟩ = some (.string x.b) := r7.cell 2 rfl
      have k3 : World.cell? _ ⟨wr.heap.size, 3, none⟩ = some (.int .i64 x.off) := r7.cell 3 rfl
      have k4 : World.cell? _ ⟨wr.heap.size, 4, none⟩ = some (.int .i64 x.n) := r7.cell 4 rfl
      have k5 : World.cell? _ ⟨wr.heap.size, 5, none⟩ = some (.slice A1 x.data.length c1) := r7.cell 5 rfl
      have HB := Lib.hid (hbr.trans (b7.mono hbr.size))
      have HR7 := Lib.hid r7
      clear b7 z7 r7 hbr
      go_wp2_with (first
        | (with_reducible refine wpList_allocA rfl 29 rfl _ opZero ?_)
        | (with_reducible refine wpList_storeRow rfl 29 _ _ rfl wr.heap.size rfl (opR x A1 c1) rfl opZ 29 6 opSize rfl rfl (opR_one _ _ _) R0 ?_))
      refine (CB.out _).mono ?_
      rintro e w2 ⟨rfl, hb2⟩
      have hr2 := HR7.out.below hb2
      have j0 : w2.cell? ⟨wr.heap.size, 0, none⟩ = some (.int .i64 x.d) := hr2.cell 0 rfl
      have j1 : w2.cell? ⟨wr.heap.size, 1, none⟩ = some (.string x.a) := hr2.cell 1 rfl
      have j2 : w2.cell? ⟨wr.heap.size, 2, none⟩ = some (.string x.b) := hr2.cell 2 rfl
      have j3 : w2.cell? ⟨wr.heap.size, 3, none⟩ = some (.int .i64 x.off) := hr2.cell 3 rfl
      have j4 : w2.cell? ⟨wr.heap.size, 4, none⟩ = some (.int .i64 x.n) := hr2.cell 4 rfl
      have j5 : w2.cell? ⟨wr.heap.size, 5, none⟩ = some (.slice A1 x.data.length c1) := hr2.cell 5 rfl
      have HB2 := Lib.hid (HB.out.trans (hb2.mono HB.out.size))
      clear hb2 hr2 HB HR7 k0 k1 k2 k3 k4 k5 R0 CB v0 v1 v2 v3 v4 v5
      go_wp2_with fail
      refine (CI.out _).mono ?_
      rintro e w3 ⟨rfl, hb3⟩
      have HB3 := Lib.hid (HB2.out.trans (hb3.mono HB2.out.size))
      clear hb3 HB2 CI
      go_wp2_with fail
      go_roundw
      case rel => exact ⟨k + 1, by omega, by go_num, by rw [HN1.out], by rw [HN2.out], HB3.out⟩
      case measure => simp [intOf]; omega
    · obtain rfl : k = xs.length := by omega
      rw [List.take_length]
      go_wp2
      go_ret2
      exact ⟨rfl, by first | exact hbr | exact bdrewN hbr _⟩
end Go.Proofs.Ytadiamgoglodbaa.Opk
