/- Lists of patches: ToAll. -/
import Derived.Test.YtoibdomcekainaaPatM
namespace Go.Proofs.Ytoibdomcekainaa.Pat
open Go.RowKit Go.Proofs.Ytoibdomcekainaa.Mem Go.Proofs.Ytoibdomcekainaa.Open Go.Proofs.Ytoibdomcekainaa.Kind Go.Proofs.Ytoibdomcekainaa.Blk Go.Proofs.Ytoibdomcekainaa.App
set_option linter.unusedVariables false
set_option linter.unusedSimpArgs false
set_option maxHeartbeats 1000000 in
set_option maxRecDepth 100000 in
theorem toall_any (A : Option Addr) (c : Nat) (xs : List Pt) (w : World) (hx : Ps w A xs) (hn : xs.length ≤ 1000) (h6 : ∀ p ∈ xs, p.2.length ≤ 600) :
    Calls Try.prog 42 #[.slice A xs.length c] w fun e w' => ∃ v, e = .returned v ∧ OwnK kPat w' w.heap.size 36 v xs ∧ Below w.heap.size w w' := by
  go_enter Try.func42, Try.ntmps42
  go_wp2
  go_loopw [3, 4] (fun v i wr => ∃ (u : Value) (k : Nat), u = v ∧ k ≤ xs.length ∧ i = .int .i64 k ∧ Below w.heap.size w wr ∧ OwnK kPat wr w.heap.size 36 u (xs.take k)) (fun _ i _ => xs.length - (intOf i).toNat)
  case atStart => exact ⟨_, 0, rfl, by omega, rfl, by first | exact Below.refl _ _ | exact bdrewN (Below.refl _ _) _, by first | exact OwnK.nil _ _ _ _ | exact (OwnK.nil _ _ _ _).drewN _⟩
  case round =>
    obtain ⟨u, k, rfl, hk, rfl, hbel, hown⟩ := hrel
    by_cases hlt : k < xs.length
    · obtain ⟨g, o, rfl⟩ := pat_form hx (by omega)
      obtain ⟨A', c', q0, q1, q2, q3, q4, q5, q6, q7⟩ := pat_at hx k hlt
      have d0 := (hbel.cell (p := ⟨g, o + k * 2, none⟩) q0).trans q1
      have d1 := (hbel.cell (p := ⟨g, o + k * 2 + 1, none⟩) q0).trans q2
      have hd : By wr A' xs[k].2 := Rw.below q7 hbel
      have h600 := h6 _ (List.getElem_mem hlt)
      have HT : Hid (xs.take (k + 1) = xs.take k ++ [xs[k]]) := by show _ = _; rw [List.take_add_one, List.getElem?_eq_getElem hlt]; rfl
      have hlk : (xs.take k).length = k := by rw [List.length_take]; omega
      have hwx : w.heap.size ≤ wr.heap.size := hbel.size
      generalize xs[k] = p at *
      obtain ⟨a, d⟩ := p
      go_wp2_with fail
      refine (to_any a A' c' d _ (by first | exact hd | exact hd.drewN _) q6 (by show d.length ≤ 100000; have : d.length ≤ 600 := h600; omega)).mono ?_
      rintro e wB ⟨A2, c2, rfl, k1, k2, k3, k4, hbl⟩
      have hownB := hown.below hbl
      have hbelB := hbel.trans (hbl.mono hwx)
      have hwx2 : w.heap.size ≤ wB.heap.size := hbelB.size
      have hlt1 := hown.lt
      have hlt2 := hownB.lt
      have hK2 := kPat_mk (w := wB.alloc (.cells #[.int .i64 a, .slice A2 d.length c2] 36)) q3 k1 k2 k3 (k4.stay fun x hx => Below.heap_alloc _ _ _ hx.2)
      have hrow := Row.new wB 36 #[.int .i64 a, .slice A2 d.length c2]
      clear hown hbel hbl k4 d0 d1 hd
      go_wp2_with (at_builtin; refine wpList_appK rfl _ _ 26 rfl (.agg #[.int .i64 0, .slice none 0 0]) 32 Try.underlying26 patInfo rfl (by decide) rfl _ _ rfl (hownB.alloc _) 36 [.int .i64 a, .slice A2 d.length c2] hrow (a, d) _ hK2 (fun x hx => ⟨fun e => by have := hlt1 x e.symm; omega, by simp; omega⟩) (by omega) (by omega) (by simp; omega) ?_; intro v4 w4 hown4 hg4 hat4)
      have hb4 := (hbelB.alloc hwx2 (.cells #[.int .i64 a, .slice A2 d.length c2] 36)).grown hg4 (by simp; omega) (fun q hq => by have := hlt2 q hq; omega)
      rw [← HT.out] at hown4
      go_roundw
      case rel => exact ⟨v4, k + 1, rfl, by omega, by go_num, hb4, hown4⟩
      case measure => simp [intOf]; omega
    · have hke : k = xs.length := by omega
      subst hke
      rw [List.take_length] at hown
      go_wp2
      go_ret
      exact ⟨_, rfl, by first | exact hown | exact hown.drewN _, by first | exact hbel | exact bdrewN hbel _⟩
end Go.Proofs.Ytoibdomcekainaa.Pat
