/- The numbers of a list as a map; for whom a change waits: the contracts of ready.index, ready.waits. No statement is proved here. -/
import Derived.Test.YteeodeooicoekaaMp
import Derived.Test.YteeodeooicoekaaPut
namespace Go.Proofs.Yteeodeooicoekaa.Rd
open Go.RowKit Go.Proofs.Yteeodeooicoekaa.Mem Go.Proofs.Yteeodeooicoekaa.Open Go.Proofs.Yteeodeooicoekaa.Kind Go.Proofs.Yteeodeooicoekaa.Blk Go.Proofs.Yteeodeooicoekaa.App Go.Proofs.Yteeodeooicoekaa.Pat
set_option linter.unusedVariables false
set_option linter.unusedSimpArgs false
def idxF : List Chg → Nat → (Int → Int) → Int → Int
  | [], _, f => f
  | x :: r, k, f => idxF r (k + 1) (upd f x.id ((k : Int) + 1))
set_option maxHeartbeats 1000000 in
theorem index_any (A : Option Addr) (c : Nat) (xs : List Chg) (w : World) (hx : Chs w A xs) (hn : xs.length ≤ 1000) :
    Calls Try.prog 69 #[.slice A xs.length c] w fun r w' => ∃ b, r = .returned (.map (some b)) ∧ Mp w' b xs.length (idxF xs 0 fun _ => 0) ∧ w.heap.size ≤ b ∧ Below w.heap.size w w' := by
  have hl := hx.2.1
  unfold M63 at hl
  have hmm := @run_makeMap Try.prog
  have HM0 := Lib.hid (Mp.made w)
  have HB0 := Lib.hid ((Below.refl w.heap.size w).alloc (Nat.le_refl _) (.map #[] 0))
  go_enter Try.func69, Try.ntmps69
  go_wp2
  go_loopw [9] (fun i wr => ∃ (k : Nat) (f : Int → Int), k ≤ xs.length ∧ i = .int .i64 k ∧ Hid ((idxF xs 0 fun _ => 0) = idxF (xs.drop k) k f) ∧ Mp wr w.heap.size k f ∧ Below w.heap.size w wr) (fun i _ => xs.length - (intOf i).toNat)
  case atStart => exact ⟨0, _, by omega, rfl, Lib.hid rfl, HM0.out, HB0.out⟩
  case round =>
    obtain ⟨k, f, hk, rfl, hv, hm, hbr⟩ := hrel
    by_cases hlt : k < xs.length
    · obtain ⟨g, o, rfl, hg⟩ := ch_form hx (by omega)
      obtain ⟨A1, c1, A2, c2, hat0⟩ := ch_at hx k hlt
      have hat := hat0.below hbr
      have e0 := hat.v0
      have e1 := hat.v1
      have e2 := hat.v2
      have e3 : wr.cell? ⟨g, o + k * 5 + 3, none⟩ = _ := hat.v3
      have e4 := hat.v4
      have hok := hat.ok.1
      have hv := hv.out
      rw [drop_at hlt] at hv
      clear hat0 hat
      generalize xs[k] = x at *
      have HV : Hid ((idxF xs 0 fun _ => 0) = idxF (xs.drop (k + 1)) (k + 1) (upd f x.id ((k : Int) + 1))) := Lib.hid hv
      obtain ⟨⟨b1, b2, b3⟩⟩ : Nonempty (_ ∧ _ ∧ _) := ⟨boxed wr 62 chZ (chC x A1 c1 A2 c2)⟩
      have R0 : Row (wr.alloc (.cells chZ 62)) wr.heap.size 62 chZ := Row.new _ _ _
      have k0 := b1.cell 0 rfl
      have hm2 := hm.below b2
      have hs := hbr.size
      have HB := Lib.hid (hbr.trans (b2.mono hbr.size))
      have hs2 := b2.size
      have hW : WfI ((k : Int) + 1) := (wf_iff _).2 (by omega)
      clear hv hm hbr b1 b2 b3
      go_wp2_with (first
        | (with_reducible refine wpList_allocA rfl 62 rfl _ chZero ?_)
        | (with_reducible refine wpList_storeRow rfl 62 _ _ rfl wr.heap.size rfl (chC x A1 c1 A2 c2) rfl chZ 62 5 chSize rfl rfl (chC_one _ _ _ _ _) R0 ?_)
        | (at_mapUpdate; go_loud (refine wpList_mapPut rfl _ _ _ rfl rfl hm2 (by omega) x.id ((k : Int) + 1) rfl rfl hok hW ?_); intro w3 hm3 hg3))
      go_roundw
      case rel => exact ⟨k + 1, _, by omega, by go_num, HV, hm3, HB.out.grown hg3 (by omega) (fun q hq => by injection hq with hq; omega)⟩
      case measure => simp [intOf]; omega
    · obtain rfl : k = xs.length := by omega
      have hv := hv.out
      rw [drop_end] at hv
      have HV : Hid ((idxF xs 0 fun _ => 0) = f) := Lib.hid hv
      have HM := Lib.hid hm
      clear hv hm
      go_wp2
      go_ret
      exact ⟨_, rfl, by rw [HV.out]; exact HM.out, Nat.le_refl _, hbr⟩
end Go.Proofs.Yteeodeooicoekaa.Rd
