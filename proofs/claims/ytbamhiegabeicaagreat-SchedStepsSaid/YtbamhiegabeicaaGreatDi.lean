/- Image of a device of any blocks. No statement is proved here. -/
import Derived.Test.YtbamhiegabeicaaGreatDb
import Derived.Test.YtbamhiegabeicaaGreatCp
namespace Go.Proofs.YtbamhiegabeicaaGreat.Db
open Go.RowKit Go.Proofs.YtbamhiegabeicaaGreat.Mem Go.Proofs.YtbamhiegabeicaaGreat.Open Go.Proofs.YtbamhiegabeicaaGreat.Kind Go.Proofs.YtbamhiegabeicaaGreat.Blk Go.Proofs.YtbamhiegabeicaaGreat.App
set_option linter.unusedVariables false
set_option linter.unusedSimpArgs false
def kBk : Kd (List Nat) where
  sz := 256
  K := fun _ _ x cs => x.length = 256 ∧ cs = (blk x).toList
  len := fun h => by rw [h.2]; exact full_len h.1
  one := fun {w S x cs} h u hu => by
    rw [h.2, Array.mem_toList_iff] at hu
    exact Array.all_eq_true_iff_forall_mem.1 (blk_one x) u hu
  stay := fun _ h => h
  mono := fun _ h => h
  bound := fun h => h
theorem Bks.rw_ {w : World} {g : Nat} {bs : List (List Nat)} {S : Nat → Prop} (h : Bks w g bs) (hS : S g) (hn : bs.length ≤ 1000) : Rw kBk w S (some ⟨g, 0, none⟩) bs.length bs :=
  ⟨rfl, by unfold M63; omega, .inr ⟨g, 0, rfl, hS, h.2.2, fun i x hx => ⟨_, ⟨(h.1 i x hx).1, rfl⟩, fun j v hv => by
    have := (h.1 i x hx).2 j v hv
    rwa [show 0 + i * kBk.sz + j = i * 256 + j from by show 0 + i * 256 + j = _; omega]⟩⟩⟩
theorem own_bks {w : World} {B : Nat} {v : Value} {bs : List (List Nat)} (h : OwnK kBk w B 78 v bs) (h0 : 0 < bs.length) : ∃ g c, v = .slice (some ⟨g, 0, none⟩) bs.length c ∧ bs.length ≤ c ∧ c ≤ M63 ∧ Bks w g bs ∧ B ≤ g := by
  obtain ⟨rows, h1, h2, h3⟩ := h
  have hl := OwnK.rows_len h1 h2
  rcases h3.2 with ⟨rfl, h0'⟩ | ⟨g, cap, cur, rfl, hg, hh, n1, n2, n3⟩
  · omega
  · simp only [maxLen] at n2
    refine ⟨g, cap, rfl, n1, n2, ⟨fun i x hx => ?_, fun j hj => ?_, row_lt hh⟩, hg⟩
    · obtain ⟨cs, c1, hxl, rfl⟩ := h2 i x hx
      refine ⟨hxl, fun j u hu => ?_⟩
      have := World.ownsRow.cells h3 (g := g) rfl (i * 256 + j) u (flat_get hl i _ j u c1 hu)
      rw [addr_add] at this
      rwa [show i * 256 + j = 0 + (i * 256 + j) from by omega]
    · rw [Nat.zero_add]
      have hjl : j < rows.flatten.length := by rw [flat_len hl, h1]; exact hj
      have := World.ownsRow.cells h3 (g := g) rfl j _ (List.getElem?_eq_getElem hjl)
      rw [addr_add, Nat.zero_add] at this
      exact ⟨by rw [this]; rfl, frozen_of_row _ _ _ _ _ hh⟩
set_option maxHeartbeats 1000000 in
theorem image_any (d g : Nat) (s : Dv) (w : World) (hd : Dev w d g s) (hn : s.bs.length ≤ 1000) (h0 : 0 < s.bs.length) :
    Calls Tryz.prog 32 #[.pointer (some ⟨d, 0, none⟩)] w fun e w' => ∃ g' c', e = .returned (.slice (some ⟨g', 0, none⟩) s.bs.length c') ∧ Bks w' g' s.bs ∧ w.heap.size ≤ g' ∧ s.bs.length ≤ c' ∧ c' ≤ M63 ∧ Below w.heap.size w w' := by
  have hgsz := hd.2.1.2.2
  have hb1 : Below w.heap.size w (w.alloc (.cells #[] 78)) := (Below.refl _ _).alloc (Nat.le_refl _) _
  have hd1 := hd.keep hb1
  have ho := ownK_empty (E := 78) (w := w) kBk (Nat.le_refl w.heap.size)
  have hys : Rw kBk (w.alloc (.cells #[] 78)) (fun b => some b ≠ (Value.slice (some ⟨w.heap.size, 0, none⟩) 0 0).ownBlock ∧ b < (w.alloc (.cells #[] 78)).heap.size) (some ⟨g, 0, none⟩) s.bs.length s.bs :=
    hd1.2.1.rw_ ⟨by simp [Value.ownBlock]; omega, hd1.2.1.2.2⟩ hn
  obtain ⟨e0, e1, e2, e3, e4, e5⟩ := dev_cells hd1
  clear hd hd1
  go_enter Tryz.func32, Tryz.ntmps32
  go_wp2_with (at_builtin; go_loud (refine wpList_appKs (k := kBk) rfl _ _ 74 rfl (.agg (blk zblk)) 256 Tryz.underlying74 blkInfo3 zblk_size (by decide) rfl g 0 s.cap rfl ho hys (by simp; omega) (by simp; omega) (by simp) ?_); intro v2 w2 hown2 hg2 hat2)
  rw [List.nil_append] at hown2
  obtain ⟨g', c', rfl, q1, q2, q3, q4⟩ := own_bks hown2 h0
  go_ret
  refine ⟨g', c', rfl, q3, q4, q1, q2, hb1.grown hg2 (by simp) (fun q hq => ?_)⟩
  replace hq : some w.heap.size = some q := hq
  injection hq with hq
  omega
end Go.Proofs.YtbamhiegabeicaaGreat.Db

