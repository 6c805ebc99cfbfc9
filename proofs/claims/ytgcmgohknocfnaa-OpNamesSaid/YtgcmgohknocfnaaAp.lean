/- An answer as a kind; two of them as a law's argument; the names of all calls. No statement is proved here. -/
import Derived.Test.YtgcmgohknocfnaaAn
namespace Go.Proofs.Ytgcmgohknocfnaa.Kind
open Go.RowKit Go.Proofs.Ytgcmgohknocfnaa.Mem Go.Proofs.Ytgcmgohknocfnaa.Open
open Go.ChangeShapes Go.WideShapes Go.ChangeAt
variable {H : Type} {enc : TypeId × Value → H} {P : Program} {w : World} {α : Type} {k : Kd α}
theorem opens_arr2 {t e : TypeId} (ht : P.underlying t = some (.array 2 e)) (he : Opens H enc P w k e) (hc : P.cellsOf e = k.sz) (hn : P.cellsOf t = 2 * k.sz) : Opens H enc P w (kPair k k) t := fun fuel cs y h => by
  obtain ⟨ys, m, _, _, hl, hyl, hy⟩ := DataW.trod_array ht h
  have h0 := hy 0 (by omega)
  have h1 := hy 1 (by omega)
  rw [Nat.zero_mul, List.drop_zero, List.getElem?_eq_getElem (by omega)] at h0
  rw [Nat.one_mul, List.getElem?_eq_getElem (by omega)] at h1
  obtain ⟨x0, hx0⟩ := he _ _ _ h0
  obtain ⟨x1, hx1⟩ := he _ _ _ h1
  refine ⟨(x0, x1), _, _, ?_, hx0, hx1⟩
  have : (cs.drop (P.cellsOf e)).take (P.cellsOf e) = cs.drop (P.cellsOf e) := List.take_of_length_le (by rw [List.length_drop]; omega)
  rw [this, List.take_append_drop]
theorem open_agg_arr {r : Reach} {b0 n : Nat} {t e : TypeId} {v : Value} {d : DataW H} {p : List MemPlace} (ht : P.underlying t = some (.array n e))
    (hv : Value.okWide P w r b0 t v) (h : DataW.Trod enc P w 0 (fun _ => true) true t v d p) (ho : Opens H enc P w k t) : ∃ x cs, v = .agg cs.toArray ∧ k.K w (All w) x cs := by
  simp only [Value.okWide, ht] at hv
  obtain ⟨cs, rfl, _, _⟩ := hv
  obtain ⟨fuel, hf⟩ := h
  obtain ⟨x, hx⟩ := ho _ _ _ hf
  exact ⟨x, cs.toList, by simp, by simpa [Value.cells] using hx⟩
end Go.Proofs.Ytgcmgohknocfnaa.Kind
namespace Go.Proofs.Ytgcmgohknocfnaa.Opk
open Go.RowKit Go.Proofs.Ytgcmgohknocfnaa.Mem Go.Proofs.Ytgcmgohknocfnaa.Open Go.Proofs.Ytgcmgohknocfnaa.Kind Go.Proofs.Ytgcmgohknocfnaa.Blk Go.Proofs.Ytgcmgohknocfnaa.App Go.Proofs.Ytgcmgohknocfnaa.Same
set_option linter.unusedVariables false
set_option linter.unusedSimpArgs false
def kAns : Kd AnD := kIso (kPair (kInt .i64) (kPair (kInt .i64) (kPair (kInt .i64) (kPair (kInt .i64) (kPair (kInt .i64) (kPair (kSlice kByte) (kSlice kStr))))))) fun x => (x.e, x.i, x.k, x.l, x.s, x.d, x.t)
theorem kAns_open {w : World} {S : Nat → Prop} {x : AnD} {cs : List Value} (h : kAns.K w S x cs) : ∃ A c B b, cs = (ansC x A c B b).toList ∧ Rw kByte w S A x.d.length x.d ∧ Rw kStr w S B x.t.length x.t := by
  obtain ⟨_, _, rfl, ⟨rfl, h1⟩, _, _, rfl, ⟨rfl, h2⟩, _, _, rfl, ⟨rfl, h3⟩, _, _, rfl, ⟨rfl, h4⟩, _, _, rfl, ⟨rfl, h5⟩, _, _, rfl, ⟨A, c, rfl, h6, h7, h8, h9⟩, B, b, rfl, g6, g7, g8, g9⟩ := h
  exact ⟨A, c, B, b, rfl, h9, g9⟩
theorem opens_rans {H : Type} {enc : TypeId × Value → H} {w : World} : Opens H enc Try.prog w kAns 89 := by
  have h : Opens H enc Try.prog w (kPair (kInt .i64) (kPair (kInt .i64) (kPair (kInt .i64) (kPair (kInt .i64) (kPair (kInt .i64) (kPair (kSlice kByte) (kSlice kStr))))))) 89 :=
    opens_struct Try.underlying89 (flds_cons rfl (opens_int Try.underlying3) (by kernel_rfl) (flds_cons rfl (opens_int Try.underlying3) (by kernel_rfl) (flds_cons rfl (opens_int Try.underlying3) (by kernel_rfl) (flds_cons rfl (opens_int Try.underlying3) (by kernel_rfl) (flds_cons rfl (opens_int Try.underlying3) (by kernel_rfl)
      (flds_cons rfl (opens_slice Try.underlying44 (opens_byte Try.underlying5) (by kernel_rfl) (by decide)) (by kernel_rfl) (flds_one rfl (opens_slice Try.underlying54 (opens_str Try.underlying9) (by kernel_rfl) (by decide)) (by kernel_rfl)))))))) (by kernel_rfl)
  intro fuel cs y hy
  obtain ⟨⟨x1, x2, x3, x4, x5, x6, x7⟩, hx⟩ := h fuel cs y hy
  exact ⟨⟨x1, x2, x3, x4, x5, x6, x7⟩, hx⟩
theorem opens_two {H : Type} {enc : TypeId × Value → H} {w : World} : Opens H enc Try.prog w (kPair kAns kAns) 90 :=
  opens_arr2 Try.underlying90 opens_rans (by kernel_rfl) (by kernel_rfl)
/-- The names, byte for byte. -/
def nmsL : List ByteArray := [⟨#[]⟩, ⟨#[99, 114, 101, 97, 116, 101]⟩, ⟨#[109, 107, 100, 105, 114]⟩, ⟨#[108, 105, 110, 107]⟩, ⟨#[117, 110, 108, 105, 110, 107]⟩, ⟨#[114, 109, 100, 105, 114]⟩, ⟨#[114, 101, 110, 97, 109, 101]⟩, ⟨#[119, 114, 105, 116, 101]⟩, ⟨#[114, 101, 97, 100]⟩, ⟨#[116, 114, 117, 110, 99, 97, 116, 101]⟩, ⟨#[108, 105, 115, 116]⟩, ⟨#[115, 116, 97, 116]⟩, ⟨#[102, 115, 121, 110, 99]⟩, ⟨#[115, 121, 110, 99]⟩]
theorem nmsL_eq : nmsL = nms := by decide +kernel
theorem nmsL_at (j : Nat) (h : j < nmsL.length) : nmsL[j] = nameT (j : Int) := by
  have h2 : j < nms.length := by rw [← nmsL_eq]; exact h
  refine (show nmsL[j] = nms[j] from by simp only [nmsL_eq]).trans ?_
  unfold nameT
  rw [if_neg (by omega), Int.toNat_natCast, List.getD_eq_getElem?_getD, List.getElem?_eq_getElem h2]
  rfl
theorem names_any (w : World) :
    Calls Try.prog 52 #[] w fun e w' => e = .returned (.slice (some ⟨w.heap.size, 0, none⟩) 14 14) ∧ w' = w.alloc (.cells (nmsL.map Value.string).toArray 9) := by
  go_enter Try.func52, Try.ntmps52
  go_wp2
  go_ret
  exact ⟨rfl, rfl⟩
set_option maxHeartbeats 1000000 in
theorem long40_any (A : Option Addr) (n c : Nat) (xs : List ByteArray) (w : World) (hx : Sl w Value.string A n xs) (hs : ∀ s ∈ xs, s.size ≤ 9223372036854775807) :
    Calls Try.prog 32 #[.slice A n c, .int .i64 40, .int .i64 60] w fun e w' => ∃ b : Bool, e = .returned (.bool b) ∧ (b = false → n ≤ 40 ∧ ∀ s ∈ xs, s.size ≤ 60) ∧ w = w' := by
  have hn := hx.1
  have hm := hx.2.1
  by_cases h40 : 40 < n
  · go_enter Try.func32, Try.ntmps32
    go_wp2
    go_ret
    exact ⟨true, rfl, by simp, rfl⟩
  · go_enter Try.func32, Try.ntmps32
    go_wp2
    go_loopw [7] (fun i wr => ∃ k : Nat, k ≤ n ∧ i = .int .i64 k ∧ (∀ j, (hj : j < xs.length) → j < k → xs[j].size ≤ 60) ∧ w = wr) (fun i _ => n - (intOf i).toNat)
    case atStart => exact ⟨0, by omega, rfl, fun j _ h => by omega, rfl⟩
    case round =>
      obtain ⟨k, hk, rfl, hall, rfl⟩ := hrel
      have HA := Lib.hid hall
      clear hall
      by_cases hlt : k < n
      · have hkx : k < xs.length := by omega
        obtain ⟨ad, rfl, hadb, hcell⟩ := hx.at_ hkx
        obtain ⟨s, hse⟩ : ∃ s, xs[k] = s := ⟨_, rfl⟩
        have hsz : s.size ≤ 9223372036854775807 := by have := hs _ (List.getElem_mem hkx); rw [hse] at this; omega
        rw [hse] at hcell
        by_cases h60 : 60 < s.size
        · go_wp2
          go_ret
          exact ⟨true, rfl, by simp, rfl⟩
        · have H6 : Hid (xs[k].size ≤ 60) := by rw [hse]; exact Nat.le_of_not_lt h60
          clear hse
          go_wp2
          go_roundw
          case rel => exact ⟨k + 1, by omega, by go_num, fun j hj hjk => by
            by_cases e : j = k
            · subst e; exact H6.out
            · exact HA.out j hj (by omega), trivial⟩
          case measure => simp [intOf]; omega
      · go_wp2
        go_ret
        exact ⟨false, rfl, fun _ => ⟨by omega, fun s hs => by
          obtain ⟨j, hj, rfl⟩ := List.getElem_of_mem hs
          exact HA.out j hj (by omega)⟩, rfl⟩
end Go.Proofs.Ytgcmgohknocfnaa.Opk
