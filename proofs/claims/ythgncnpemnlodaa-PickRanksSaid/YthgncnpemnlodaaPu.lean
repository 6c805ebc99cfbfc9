/- The closures of pick.Spread. No statement is proved here. -/
import Derived.Test.YthgncnpemnlodaaPt
namespace Go.Proofs.Ythgncnpemnlodaa.Fl
open Go.RowKit Go.Proofs.Ythgncnpemnlodaa.Open Go.Proofs.Ythgncnpemnlodaa.Mem
set_option linter.unusedVariables false
set_option linter.unusedSimpArgs false
theorem one_any (N : Int) (x i m gn go gs : Nat) (u : Value) (w : World) (hN : (Lit.int .i64 N).wf = true) (hx : x < 18446744073709551616) (hi : i < m) (hm : m ≤ 1000)
    (c0 : w.cell? ⟨gn, 0, none⟩ = some (.int .i64 N)) (c1 : w.cell? ⟨go, 0, none⟩ = some (.slice (some ⟨gs, 0, none⟩) m m)) (c2 : w.cell? ⟨gs, i, none⟩ = some u) (c3 : w.frozen? ⟨gs, i, none⟩ = false) :
    Calls Try.prog 42 #[.int .i64 i, F x, .pointer (some ⟨gn, 0, none⟩), .pointer (some ⟨go, 0, none⟩)] w fun e w' => e = .returned (.tuple #[]) ∧ w' = (w.setCell ⟨gs, i, none⟩ (.int .i64 (at_ N x))).drew := by
  have C := Lib.hid (at_any N x hx hN)
  generalize at_ N x = r at *
  have d0 : w.drew.cell? ⟨gn, 0, none⟩ = some (.int .i64 N) := c0
  have d1 : w.drew.cell? ⟨go, 0, none⟩ = some (.slice (some ⟨gs, 0, none⟩) m m) := c1
  have d2 : w.drew.cell? ⟨gs, i, none⟩ = some u := c2
  have d3 : w.drew.frozen? ⟨gs, i, none⟩ = false := c3
  go_enter Try.func42, Try.ntmps42
  go_wp2_with fail
  go_region_with (refine (C.out _).mono ?_; rintro e w1 ⟨rfl, rfl⟩)
  all_goals exact bodyPost_end (results_none rfl _ _ _) rfl ⟨rfl, rfl⟩
/-- What each weight picks, laid so far. -/
def spr (N : Int) (l : List Nat) (n k : Nat) : List Int := (l.take k).map (at_ N) ++ List.replicate (n - k) 0
theorem spr_zero (N : Int) (l : List Nat) (n : Nat) : spr N l n 0 = List.replicate n 0 := by simp [spr]
theorem spr_all (N : Int) (l : List Nat) (n : Nat) (h : l.length = n) : spr N l n n = l.map (at_ N) := by
  unfold spr
  rw [List.take_of_length_le (by omega), Nat.sub_self]
  simp
theorem spr_len (N : Int) (l : List Nat) (n k : Nat) (h : l.length = n) (hk : k ≤ n) : (spr N l n k).length = n := by
  unfold spr
  simp
  omega
theorem spr_next (N : Int) (l : List Nat) (n k : Nat) (h : l.length = n) (hk : k < n) : (spr N l n k).set k (at_ N (l[k]'(by omega))) = spr N l n (k + 1) := by
  unfold spr
  have h1 : ((l.take k).map (at_ N)).length = k := by simp; omega
  rw [List.set_append_right _ _ (by omega), h1, Nat.sub_self, show n - k = (n - (k + 1)) + 1 from by omega, List.replicate_succ, List.set_cons_zero, List.take_add_one, List.getElem?_eq_getElem (by omega), List.map_append, List.append_assoc]
  rfl
abbrev oneV (gn go : Nat) : Value := .func (.func 42) #[] #[.pointer (some ⟨gn, 0, none⟩), .pointer (some ⟨go, 0, none⟩)]
set_option maxHeartbeats 1000000 in
set_option maxRecDepth 100000 in
theorem each_any (N : Int) (A : Option Addr) (n c : Nat) (l : List Nat) (gn gl go gs : Nat) (W w : World) (hN : (Lit.int .i64 N).wf = true) (hx : Sl W F A n l) (hs : ∀ x ∈ l, x < 18446744073709551616) (hn9 : n ≤ 1000)
    (hW : Below W.heap.size W w) (hgs : W.heap.size ≤ gs) (h1 : gn ≠ gs) (h2 : gl ≠ gs) (h3 : go ≠ gs) (r0 : Row w gn 3 #[.int .i64 N]) (r2 : Row w gl 22 #[.slice A n c]) (r1 : Row w go 45 #[.slice (some ⟨gs, 0, none⟩) n n])
    (hown : Own w gs 3 (Value.int .i64) (.slice (some ⟨gs, 0, none⟩) n n) (spr N l n 0)) :
    Calls Try.prog 41 #[oneV gn go, .pointer (some ⟨gl, 0, none⟩)] w fun e w' => e = .returned (.tuple #[]) ∧ Own w' gs 3 (Value.int .i64) (.slice (some ⟨gs, 0, none⟩) n n) (spr N l n n) ∧ w.grownBy w' (some gs) := by
  have hn := hx.1
  have c0 := r2.cell 0 rfl
  go_enter Try.func41, Try.ntmps41
  go_wp2_with fail
  go_loopw [7] (fun a wr => ∃ k : Nat, k ≤ n ∧ a = .int .i64 k ∧ Own wr gs 3 (Value.int .i64) (.slice (some ⟨gs, 0, none⟩) n n) (spr N l n k) ∧ w.grownBy wr (some gs)) (fun a _ => n - (intOf a).toNat)
  case atStart => exact ⟨0, by omega, rfl, hown, gb_refl _ _⟩
  case round =>
    obtain ⟨k, hk, rfl, hor, hgr⟩ := hrel
    clear hown c0
    by_cases hlt : k < n
    · have hkx : k < l.length := by omega
      obtain ⟨ad, rfl, hadb, hc⟩ := hx.at_ hkx
      have hbk : (ad.add k).block = ad.block := by unfold Addr.add; split <;> rfl
      have hc2 : wr.cell? (ad.add k) = some (F l[k]) := gb_cell hgr ((hW.cell (by rw [hbk]; exact hadb)).trans hc) (by rw [hbk]; intro e; injection e with e; omega)
      have d0 := (gb_row hgr r0 (fun e => h1 (by injection e))).cell 0 rfl
      have d1 := (gb_row hgr r1 (fun e => h3 (by injection e))).cell 0 rfl
      have hsl := spr_len N l n k hn hk
      obtain ⟨u, d2⟩ : ∃ u, wr.cell? ⟨gs, k, none⟩ = some u := ⟨_, hor.cell k (by omega)⟩
      have d3 := hor.frozen k
      have hst := hor.stored k (at_ N l[k])
      rw [spr_next N l n k hn hlt] at hst
      have HST := Lib.hid hst
      have hgr2 := gb_drew (gb_setCell hgr k (Value.int .i64 (at_ N l[k])))
      have HGR := Lib.hid hgr2
      have C := Lib.hid (one_any N l[k] k n gn go gs u wr hN (hs _ (List.getElem_mem _)) hlt hn9 d0 d1 d2 d3)
      clear hst hgr2 d0 d1 d2 d3 hc hsl
      go_wp2_with fail
      refine C.out.mono ?_
      rintro e w5 ⟨rfl, hw5⟩
      subst w5
      go_wp2
      go_roundw
      case rel => exact ⟨k + 1, by omega, by go_num, HST.out, HGR.out⟩
      case measure => simp [intOf]; omega
    · obtain rfl : k = n := by omega
      go_wp2
      exact bodyPost_end (results_none rfl _ _ _) rfl ⟨rfl, hor, hgr⟩
end Go.Proofs.Ythgncnpemnlodaa.Fl
