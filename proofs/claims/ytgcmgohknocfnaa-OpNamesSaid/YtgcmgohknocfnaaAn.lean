/- Answers: Tell, and both Same. No statement is proved here. -/
import Derived.Test.YtgcmgohknocfnaaOp8
import Derived.Test.YtgcmgohknocfnaaSame
namespace Go.Proofs.Ytgcmgohknocfnaa.Opk
open Go.RowKit Go.Proofs.Ytgcmgohknocfnaa.Mem Go.Proofs.Ytgcmgohknocfnaa.Open Go.Proofs.Ytgcmgohknocfnaa.Kind Go.Proofs.Ytgcmgohknocfnaa.Blk Go.Proofs.Ytgcmgohknocfnaa.App Go.Proofs.Ytgcmgohknocfnaa.Same
set_option linter.unusedVariables false
set_option linter.unusedSimpArgs false
/-- An answer as data. -/
structure AnD where
  e : Int
  i : Int
  k : Int
  l : Int
  s : Int
  d : List Nat
  t : List ByteArray
abbrev ansC (x : AnD) (A : Option Addr) (c : Nat) (B : Option Addr) (b : Nat) : Array Value := #[.int .i64 x.e, .int .i64 x.i, .int .i64 x.k, .int .i64 x.l, .int .i64 x.s, .slice A x.d.length c, .slice B x.t.length b]
theorem ansSize : (Try.prog.info? 94).map (·.size) = some 7 := by kernel_rfl
theorem ret_bool {a b : Bool} (h : a = b) : Ending.returned (.bool a) = .returned (.bool b) := by rw [h]
theorem tell_any (x : AnD) (A : Option Addr) (c : Nat) (B : Option Addr) (b : Nat) (w : World) :
    Calls Try.prog 54 #[.agg (ansC x A c B b)] w fun e w' => e = .returned (.agg (ansC x A c B b)) ∧ Below w.heap.size w w' := by
  obtain ⟨xe, xi, xk, xl, xs, xd, xt⟩ := x
  go_enter Try.func54, Try.ntmps54
  go_wp2
  have hr := Row.new (w.alloc (.cells (ansC ⟨xe, xi, xk, xl, xs, xd, xt⟩ A c B b) 89)) 94 (ansC ⟨xe, xi, xk, xl, xs, xd, xt⟩ A c B b)
  rw [show (w.alloc (.cells (ansC ⟨xe, xi, xk, xl, xs, xd, xt⟩ A c B b) 89)).heap.size = w.heap.size + 1 from by simp] at hr
  exact bodyPost_ret (v := .agg (ansC ⟨xe, xi, xk, xl, xs, xd, xt⟩ A c B b)) (results_cell_row rfl _ _ (w.heap.size + 1) 94 _ (0, 0) _ rfl hr Try.underlying94 rfl ansSize) rfl ⟨rfl, ((Below.refl _ _).alloc (Nat.le_refl _) _).alloc (by simp) _⟩
/-- The same answer? -/
def sameA (x y : AnD) : Bool := x.e == y.e && (x.i == y.i && (x.k == y.k && (x.l == y.l && (x.s == y.s && (decide (x.d = y.d) && decide (x.t = y.t))))))
theorem bstr_inj {a b : List Nat} (ha : ∀ x ∈ a, x < 256) (hb : ∀ x ∈ b, x < 256) (h : bstr a = bstr b) : a = b := by
  unfold bstr ints at h
  have h1 := congrArg (fun s => s.data.toList) h
  simp only [strOfNums_data, List.map_map] at h1
  have hl : a.length = b.length := by simpa using congrArg List.length h1
  refine List.ext_getElem hl fun i hi hj => ?_
  have h2 := congrArg (fun l => l[i]?) h1
  simp only [List.getElem?_map, List.getElem?_eq_getElem hi, List.getElem?_eq_getElem hj, Option.map_some, Function.comp_apply, Int.toNat_natCast, Option.some.injEq] at h2
  have h3 := congrArg UInt8.toNat h2
  simp only [UInt8.toNat_ofNat'] at h3
  have h4 := ha _ (List.getElem_mem hi)
  have h5 := hb _ (List.getElem_mem hj)
  omega
theorem bstr_ne {a b : List Nat} (ha : ∀ x ∈ a, x < 256) (hb : ∀ x ∈ b, x < 256) : ((bstr a).toList != (bstr b).toList) = !decide (a = b) := by
  by_cases h : a = b
  · subst h; simp
  · rw [decide_eq_false h, Bool.not_false, bne_iff_ne]
    intro e
    apply h
    refine bstr_inj ha hb ?_
    rw [ByteArray.toList_eq, ByteArray.toList_eq] at e
    apply ByteArray.ext
    exact Array.ext' e
set_option maxHeartbeats 2000000 in
set_option maxRecDepth 100000 in
theorem osame_any (x y : AnD) (A : Option Addr) (c : Nat) (B : Option Addr) (b : Nat) (A2 : Option Addr) (c2 : Nat) (B2 : Option Addr) (b2 : Nat) (w : World) (hx : By w A x.d) (hy : By w A2 y.d) (ht : Sl w Value.string B x.t.length x.t) (hu : Sl w Value.string B2 y.t.length y.t) :
    Calls Try.prog 53 #[.agg (ansC x A c B b), .agg (ansC y A2 c2 B2 b2)] w fun e w' => e = .returned (.bool (sameA x y)) ∧ Below w.heap.size w w' := by
  obtain ⟨xe, xi, xk, xl, xs, xd, xt⟩ := x
  obtain ⟨ye, yi, yk, yl, ys, yd, yt⟩ := y
  have hbel : Below w.heap.size w ((w.alloc (.cells (ansC ⟨xe, xi, xk, xl, xs, xd, xt⟩ A c B b) 94)).alloc (.cells (ansC ⟨ye, yi, yk, yl, ys, yd, yt⟩ A2 c2 B2 b2) 94)) := ((Below.refl _ _).alloc (Nat.le_refl _) _).alloc (by simp) _
  have k1 := run_conv (c := c) (hx.below hbel)
  have k2 := run_conv (c := c2) (hy.below hbel)
  have ht2 := ht.below hbel
  have hu2 := hu.below hbel
  have hlx := ht.2.1
  have hly := hu.2.1
  have hdx := hx.2.1
  have hdy := hy.2.1
  have hbn := bstr_ne hx.lt_byte hy.lt_byte
  have HV : Hid (sameA ⟨xe, xi, xk, xl, xs, xd, xt⟩ ⟨ye, yi, yk, yl, ys, yd, yt⟩ = (xe == ye && (xi == yi && (xk == yk && (xl == yl && (xs == ys && (decide (xd = yd) && decide (xt = yt)))))))) := Lib.hid rfl
  generalize sameA ⟨xe, xi, xk, xl, xs, xd, xt⟩ ⟨ye, yi, yk, yl, ys, yd, yt⟩ = r at *
  simp only at k1 k2 ht2 hu2 hlx hly hdx hdy hbn hbel
  clear hx hy ht hu
  by_cases h0 : ¬ xe = ye
  · have hne : (xe != ye) = true := by rw [bne_iff_ne]; exact h0
    rw [show (xe == ye) = false from by rw [beq_eq_false_iff_ne]; exact h0, Bool.false_and] at HV
    clear hbn ht2 hu2
    go_enter Try.func53, Try.ntmps53
    go_wp2
    go_ret
    exact ⟨ret_bool HV.out.symm, hbel⟩
  obtain rfl : xe = ye := Classical.not_not.1 h0
  rw [beq_self_eq_true, Bool.true_and] at HV
  clear h0
  by_cases h1 : ¬ xi = yi
  · have hne : (xi != yi) = true := by rw [bne_iff_ne]; exact h1
    rw [show (xi == yi) = false from by rw [beq_eq_false_iff_ne]; exact h1, Bool.false_and] at HV
    clear hbn ht2 hu2
    go_enter Try.func53, Try.ntmps53
    go_wp2
    go_ret
    exact ⟨ret_bool HV.out.symm, hbel⟩
  obtain rfl : xi = yi := Classical.not_not.1 h1
  rw [beq_self_eq_true, Bool.true_and] at HV
  clear h1
  by_cases h2 : ¬ xk = yk
  · have hne : (xk != yk) = true := by rw [bne_iff_ne]; exact h2
    rw [show (xk == yk) = false from by rw [beq_eq_false_iff_ne]; exact h2, Bool.false_and] at HV
    clear hbn ht2 hu2
    go_enter Try.func53, Try.ntmps53
    go_wp2
    go_ret
    exact ⟨ret_bool HV.out.symm, hbel⟩
  obtain rfl : xk = yk := Classical.not_not.1 h2
  rw [beq_self_eq_true, Bool.true_and] at HV
  clear h2
  by_cases h3 : ¬ xl = yl
  · have hne : (xl != yl) = true := by rw [bne_iff_ne]; exact h3
    rw [show (xl == yl) = false from by rw [beq_eq_false_iff_ne]; exact h3, Bool.false_and] at HV
    clear hbn ht2 hu2
    go_enter Try.func53, Try.ntmps53
    go_wp2
    go_ret
    exact ⟨ret_bool HV.out.symm, hbel⟩
  obtain rfl : xl = yl := Classical.not_not.1 h3
  rw [beq_self_eq_true, Bool.true_and] at HV
  clear h3
  by_cases h4 : ¬ xs = ys
  · have hne : (xs != ys) = true := by rw [bne_iff_ne]; exact h4
    rw [show (xs == ys) = false from by rw [beq_eq_false_iff_ne]; exact h4, Bool.false_and] at HV
    clear hbn ht2 hu2
    go_enter Try.func53, Try.ntmps53
    go_wp2
    go_ret
    exact ⟨ret_bool HV.out.symm, hbel⟩
  obtain rfl : xs = ys := Classical.not_not.1 h4
  rw [beq_self_eq_true, Bool.true_and] at HV
  clear h4
  by_cases h6 : ¬ xd = yd
  · rw [decide_eq_false h6] at hbn HV
    rw [Bool.false_and] at HV
    rw [Bool.not_false] at hbn
    generalize bstr xd = s1 at *
    generalize bstr yd = s2 at *
    have hbe : (s1.toList == s2.toList) = false := by rw [beq_eq_false_iff_ne]; exact bne_iff_ne.1 hbn
    clear ht2 hu2 hbn
    go_enter Try.func53, Try.ntmps53
    go_wp2
    go_ret
    exact ⟨ret_bool HV.out.symm, hbel⟩
  obtain rfl : xd = yd := Classical.not_not.1 h6
  clear h6
  clear hbn
  rw [decide_eq_true rfl, Bool.true_and] at HV
  have hbe : ((bstr xd).toList == (bstr xd).toList) = true := beq_self_eq_true _
  generalize bstr xd = s1 at *
  by_cases h7 : ¬ xt.length = yt.length
  · have hne : ((xt.length : Int) != (yt.length : Int)) = true := by rw [bne_iff_ne]; omega
    rw [decide_eq_false (fun e => h7 (by rw [e]))] at HV
    clear ht2 hu2
    go_enter Try.func53, Try.ntmps53
    go_wp2
    go_ret
    exact ⟨ret_bool HV.out.symm, hbel⟩
  replace h7 := Classical.not_not.1 h7
  have hne : ((xt.length : Int) != (yt.length : Int)) = false := by rw [h7]; simp
  go_enter Try.func53, Try.ntmps53
  go_wp2
  go_loopw [61] (fun i wr => ∃ k : Nat, k ≤ xt.length ∧ i = .int .i64 k ∧ (∀ j, j < k → xt[j]? = yt[j]?) ∧ ((w.alloc (.cells (ansC ⟨xe, xi, xk, xl, xs, xd, xt⟩ A c B b) 94)).alloc (.cells (ansC ⟨xe, xi, xk, xl, xs, xd, yt⟩ A2 c2 B2 b2) 94)) = wr) (fun i _ => xt.length - (intOf i).toNat)
  case atStart => exact ⟨0, by omega, rfl, fun j hj => by omega, rfl⟩
  case round =>
    obtain ⟨k, hk, rfl, he, hw⟩ := hrel
    subst hw
    have HE := Lib.hid he
    clear he hne k1 k2 hbe
    by_cases hlt : k < xt.length
    · obtain ⟨a1, rfl, ha1, hca⟩ := ht2.at_ hlt
      obtain ⟨a2, rfl, ha2, hcb⟩ := hu2.at_ (show k < yt.length by omega)
      have hky : k < yt.length := by omega
      have ex : xt[k]? = some (xt[k]) := List.getElem?_eq_getElem _
      have ey : yt[k]? = some (yt[k]) := List.getElem?_eq_getElem _
      generalize xt[k] = p at hca ex
      generalize yt[k] = q at hcb ey
      by_cases hpq : p = q
      · have hc : (p.toList == q.toList) = true := by rw [str_eq, decide_eq_true_eq]; exact hpq
        have HE' : Hid (∀ j, j < k + 1 → xt[j]? = yt[j]?) := same_step HE.out (by rw [ex, ey, hpq])
        clear ex ey hpq ht2 hu2 HE
        go_wp2
        go_roundw
        case rel => exact ⟨k + 1, by omega, by go_num, HE'.out, trivial⟩
        case measure => simp [intOf]; omega
      · have hc : (p.toList == q.toList) = false := by rw [str_eq, decide_eq_false_iff_not]; exact hpq
        have HF : Hid (r = false) := by
          show _ = _
          rw [HV.out, decide_eq_false_iff_not]
          intro h
          rw [h] at ex
          rw [ex] at ey
          exact hpq (Option.some.inj ey)
        clear ex ey hpq ht2 hu2 HE
        go_wp2
        go_ret
        exact ⟨ret_bool HF.out.symm, hbel⟩
    · have HF : Hid (r = true) := by
        show _ = _
        rw [HV.out, decide_eq_true_eq]
        exact same_all h7 (fun j hj => HE.out j (by omega))
      have hkx : k = xt.length := by omega
      subst hkx
      clear ht2 hu2 HE
      go_wp2
      go_ret
      exact ⟨ret_bool HF.out.symm, hbel⟩
end Go.Proofs.Ytgcmgohknocfnaa.Opk
