/- The contract of the reference's From, on: the walk. -/
import Derived.Test.YthgncnpemnlodaaFr2
namespace Go.Proofs.Ythgncnpemnlodaa.Fl
open Go.RowKit
set_option linter.unusedVariables false
set_option linter.unusedSimpArgs false
/-- The number of some bits, or nought. -/
def frV (b : Nat) : Nat := if nan b then 0 else b
theorem sgn_one {b : Nat} (hb : b < 18446744073709551616) (h : sgn b = true) : ((b : Int) / 9223372036854775808 == 1) = true := by
  have h7 : sgn b = (b / 9223372036854775808 % 2 == 1) := rfl
  rw [h] at h7
  have := h7.symm
  simp at this
  rw [beq_iff_eq]
  omega
theorem sgn_two {b : Nat} (hb : b < 18446744073709551616) (h : sgn b = false) : ((b : Int) / 9223372036854775808 == 1) = false := by
  have h7 : sgn b = (b / 9223372036854775808 % 2 == 1) := rfl
  rw [h] at h7
  have := h7.symm
  simp at this
  rw [beq_eq_false_iff_ne]
  omega
theorem ret_two {a b : Nat} (h : frV b = b) (h2 : a = b) : Ending.returned (.tuple #[F a, .bool true]) = .returned (.tuple #[F (frV b), .bool true]) := by rw [h, h2]
set_option maxHeartbeats 1000000 in
set_option maxRecDepth 100000 in
theorem from5_any (b : Nat) (hb : b < 18446744073709551616) (w : World) :
    Calls Try.prog 18 #[.int .u64 b] w fun e w' => e = .returned (.tuple #[F (frV b), .bool (!nan b)]) ∧ w' = w := by
  have hu : (b : Int) / 4503599627370496 % 2048 = (upB b : Int) := by unfold upB; omega
  have hp : (b : Int) % 4503599627370496 = (ptB b : Int) := by unfold ptB; omega
  have hn := nan_parts b
  have hlu := upB_lt b
  cases hnb : nan b with
  | true =>
    rw [hnb] at hn
    have HF : Hid (frV b = 0) := Lib.hid (by unfold frV; rw [hnb]; rfl)
    replace hn := hn.symm
    simp at hn
    have hp0 : ((ptB b : Int) != 0) = true := by rw [bne_iff_ne]; omega
    have hu2 : (b : Int) / 4503599627370496 % 2048 = 2047 := by omega
    clear hnb hlu hn hu
    go_enter Try.func18, Try.ntmps18
    go_wp2
    go_ret2
    exact ⟨by rw [HF.out]; rfl, rfl⟩
  | false =>
    have HF : Hid (frV b = b) := Lib.hid (by unfold frV; rw [hnb]; rfl)
    have SU := Lib.hid (fun r e he h => step_up (b := b) (r := r) (e := e) hnb he h)
    have SD := Lib.hid (fun r e he h => step_down (b := b) (r := r) (e := e) he h)
    have FE := Lib.hid (fun r h => from_end (b := b) (r := r) hb h)
    obtain ⟨rp, hrp, hvp⟩ := part_is b
    have hci := int_is hrp hvp
    obtain ⟨rs, hrs, hvs⟩ := first_is b
    have hul := up_lt b
    have hst : Hid (upB b = 0 ∧ upS b = 1 ∧ mnt b = ptB b ∨ 1 ≤ upB b ∧ upS b = upB b) := Lib.hid (by
      unfold upS mnt
      by_cases h0 : upB b = 0
      · rw [if_pos h0, if_pos h0]; exact .inl ⟨h0, rfl, rfl⟩
      · rw [if_neg h0]; exact .inr ⟨by omega, rfl⟩)
    have hadd : 1 ≤ upB b → floatBits .add .f64 rp big = some rs := fun h => first_add (by omega) hrp hrs hvp hvs
    have hcond : upB b = 2047 → ((ptB b : Int) != 0) = false := by
      intro h
      rw [h, hnb] at hn
      have hn := hn.symm
      simp at hn
      rw [hn]; rfl
    clear hn hnb hrp hrs
    have hciI : floatOfInt .f64 ((ptB b : Nat) : Int) = rp := hci
    clear hci
    generalize upS b = U at *
    generalize mnt b = M at *
    generalize upB b = u0 at *
    rcases hst.out with ⟨g1, g2, g3⟩ | ⟨g1, g2⟩
    · have H0 : Hid (V rp = M * 2 ^ 1074) := Lib.hid (by rw [g3]; exact hvp)
      rw [g1] at hu
      replace hu : (b : Int) / 4503599627370496 % 2048 = 0 := hu
      obtain ⟨r0, hr0⟩ : ∃ r0, r0 = rp := ⟨_, rfl⟩
      rw [← hr0] at H0 hciI
      have HG := Lib.hid g2
      clear g1 g2 g3 hvp hvs hadd hcond hst hlu hr0
      go_enter Try.func18, Try.ntmps18
      go_wp2
      clear hu hp
      go_loopw [5, 7] (fun uv xv wr => ∃ u r : Nat, uv = .int .i64 u ∧ xv = F r ∧ 1 ≤ u ∧ u ≤ U ∧ (u = U ∨ 1075 ≤ u) ∧ V r = M * 2 ^ (1074 + U - u) ∧ w = wr) (fun uv _ _ => (intOf uv).toNat)
      case atStart => exact ⟨U, r0, by first | rfl | (rw [HG.out]; done) | (rw [HG.out]; rfl), rfl, by omega, by omega, .inl rfl, by rw [H0.out, show 1074 + U - U = 1074 from by omega], rfl⟩
      case round =>
        obtain ⟨u, r, rfl, rfl, h1, h2, h3, hv, rfl⟩ := hrel
        have HV := Lib.hid hv
        clear hv
        by_cases hlt : 1075 < u
        · obtain ⟨s, hs1, hs2⟩ := SU.out r (1074 + U - u) (by omega) HV.out
          have hm : ∀ t w, (binOp .mul t (F r) (.float .f64 4611686018427387904)).run Try.prog w = .ok (F s) w := fun t w => run_float_arith w .mul t .f64 _ _ _ hs1
          have HS2 := Lib.hid hs2
          clear hs1 hs2
          go_wp2
          go_roundw
          case rel => exact ⟨u - 1, s, by go_num, rfl, by omega, by omega, by omega, by rw [HS2.out, show 1074 + U - u + 1 = 1074 + U - (u - 1) from by omega], trivial⟩
          case measure => simp [intOf]; omega
        · go_wp2
          go_loopw [5, 7] (fun uv xv wr => ∃ u r : Nat, uv = .int .i64 u ∧ xv = F r ∧ u ≤ 1075 ∧ (u = 1075 ∨ U ≤ u) ∧ V r = M * 2 ^ (1074 + U - u) ∧ w = wr) (fun uv _ _ => 1075 - (intOf uv).toNat)
          case atStart => exact ⟨u, r, rfl, rfl, by omega, by omega, HV.out, rfl⟩
          case round =>
            clear HV h1 h2 h3 hlt
            obtain ⟨u, r, rfl, rfl, h1, h3, hv, rfl⟩ := hrel
            have HV := Lib.hid hv
            clear hv
            by_cases hlt : u < 1075
            · obtain ⟨s, hs1, hs2⟩ := SD.out r (1073 + U - u) (by omega) (by rw [HV.out, show 1074 + U - u = 1073 + U - u + 1 from by omega])
              have hm : ∀ t w, (binOp .quo t (F r) (.float .f64 4611686018427387904)).run Try.prog w = .ok (F s) w := fun t w => run_float_arith w .quo t .f64 _ _ _ hs1
              have HS2 := Lib.hid hs2
              clear hs1 hs2
              go_wp2
              go_roundw
              case rel => exact ⟨u + 1, s, by go_num, rfl, by omega, by omega, by rw [HS2.out, show 1073 + U - u = 1074 + U - (u + 1) from by omega], trivial⟩
              case measure => simp [intOf]; omega
            · have HE := Lib.hid (FE.out r (by rw [HV.out, show 1074 + U - u = U - 1 from by omega]))
              cases hsg : sgn b with
              | true =>
                have hs1 := sgn_one hb hsg
                have HE2 : Hid (ng r = b) := Lib.hid (by have := HE.out; rw [hsg] at this; simpa using this)
                clear HE hsg
                go_wp2
                go_ret2
                exact ⟨ret_two HF.out HE2.out, rfl⟩
              | false =>
                have hs1 := sgn_two hb hsg
                have HE2 : Hid (r = b) := Lib.hid (by have := HE.out; rw [hsg] at this; simpa using this)
                clear HE hsg
                go_wp2
                go_ret2
                exact ⟨ret_two HF.out HE2.out, rfl⟩
    · have H0 : Hid (V rs = M * 2 ^ 1074) := Lib.hid hvs
      have hadd2 := hadd g1
      have hm : ∀ t w, (binOp .add t (F rp) (.float .f64 4841369599423283200)).run Try.prog w = .ok (F rs) w := fun t w => run_float_arith w .add t .f64 _ _ _ hadd2
      obtain ⟨r0, hr0⟩ : ∃ r0, r0 = rs := ⟨_, rfl⟩
      rw [← hr0] at H0 hm
      clear hvp hvs hadd hadd2 hst hr0
      by_cases h7 : u0 = 2047
      · have hp0 := hcond h7
        rw [h7] at hu
        replace hu : (b : Int) / 4503599627370496 % 2048 = 2047 := hu
        have HG : Hid (U = 2047) := Lib.hid (g2.trans h7)
        clear hcond hlu g2 h7 g1
        go_enter Try.func18, Try.ntmps18
        go_wp2
        clear hu hp
        go_loopw [5, 7] (fun uv xv wr => ∃ u r : Nat, uv = .int .i64 u ∧ xv = F r ∧ 1 ≤ u ∧ u ≤ U ∧ (u = U ∨ 1075 ≤ u) ∧ V r = M * 2 ^ (1074 + U - u) ∧ w = wr) (fun uv _ _ => (intOf uv).toNat)
        case atStart => exact ⟨U, r0, by first | rfl | (rw [HG.out]; done) | (rw [HG.out]; rfl), rfl, by omega, by omega, .inl rfl, by rw [H0.out, show 1074 + U - U = 1074 from by omega], rfl⟩
        case round =>
          obtain ⟨u, r, rfl, rfl, h1, h2, h3, hv, rfl⟩ := hrel
          have HV := Lib.hid hv
          clear hv
          by_cases hlt : 1075 < u
          · obtain ⟨s, hs1, hs2⟩ := SU.out r (1074 + U - u) (by omega) HV.out
            have hm : ∀ t w, (binOp .mul t (F r) (.float .f64 4611686018427387904)).run Try.prog w = .ok (F s) w := fun t w => run_float_arith w .mul t .f64 _ _ _ hs1
            have HS2 := Lib.hid hs2
            clear hs1 hs2
            go_wp2
            go_roundw
            case rel => exact ⟨u - 1, s, by go_num, rfl, by omega, by omega, by omega, by rw [HS2.out, show 1074 + U - u + 1 = 1074 + U - (u - 1) from by omega], trivial⟩
            case measure => simp [intOf]; omega
          · go_wp2
            go_loopw [5, 7] (fun uv xv wr => ∃ u r : Nat, uv = .int .i64 u ∧ xv = F r ∧ u ≤ 1075 ∧ (u = 1075 ∨ U ≤ u) ∧ V r = M * 2 ^ (1074 + U - u) ∧ w = wr) (fun uv _ _ => 1075 - (intOf uv).toNat)
            case atStart => exact ⟨u, r, rfl, rfl, by omega, by omega, HV.out, rfl⟩
            case round =>
              clear HV h1 h2 h3 hlt
              obtain ⟨u, r, rfl, rfl, h1, h3, hv, rfl⟩ := hrel
              have HV := Lib.hid hv
              clear hv
              by_cases hlt : u < 1075
              · obtain ⟨s, hs1, hs2⟩ := SD.out r (1073 + U - u) (by omega) (by rw [HV.out, show 1074 + U - u = 1073 + U - u + 1 from by omega])
                have hm : ∀ t w, (binOp .quo t (F r) (.float .f64 4611686018427387904)).run Try.prog w = .ok (F s) w := fun t w => run_float_arith w .quo t .f64 _ _ _ hs1
                have HS2 := Lib.hid hs2
                clear hs1 hs2
                go_wp2
                go_roundw
                case rel => exact ⟨u + 1, s, by go_num, rfl, by omega, by omega, by rw [HS2.out, show 1073 + U - u = 1074 + U - (u + 1) from by omega], trivial⟩
                case measure => simp [intOf]; omega
              · have HE := Lib.hid (FE.out r (by rw [HV.out, show 1074 + U - u = U - 1 from by omega]))
                cases hsg : sgn b with
                | true =>
                  have hs1 := sgn_one hb hsg
                  have HE2 : Hid (ng r = b) := Lib.hid (by have := HE.out; rw [hsg] at this; simpa using this)
                  clear HE hsg
                  go_wp2
                  go_ret2
                  exact ⟨ret_two HF.out HE2.out, rfl⟩
                | false =>
                  have hs1 := sgn_two hb hsg
                  have HE2 : Hid (r = b) := Lib.hid (by have := HE.out; rw [hsg] at this; simpa using this)
                  clear HE hsg
                  go_wp2
                  go_ret2
                  exact ⟨ret_two HF.out HE2.out, rfl⟩
      · clear hcond hlu
        have HG := Lib.hid g2
        clear g2
        have hu7 : ((u0 : Int) == 2047) = false := by rw [beq_eq_false_iff_ne]; omega
        go_enter Try.func18, Try.ntmps18
        go_wp2
        clear hu hp
        go_loopw [5, 7] (fun uv xv wr => ∃ u r : Nat, uv = .int .i64 u ∧ xv = F r ∧ 1 ≤ u ∧ u ≤ U ∧ (u = U ∨ 1075 ≤ u) ∧ V r = M * 2 ^ (1074 + U - u) ∧ w = wr) (fun uv _ _ => (intOf uv).toNat)
        case atStart => exact ⟨U, r0, by first | rfl | (rw [HG.out]; done) | (rw [HG.out]; rfl), rfl, by omega, by omega, .inl rfl, by rw [H0.out, show 1074 + U - U = 1074 from by omega], rfl⟩
        case round =>
          obtain ⟨u, r, rfl, rfl, h1, h2, h3, hv, rfl⟩ := hrel
          have HV := Lib.hid hv
          clear hv
          by_cases hlt : 1075 < u
          · obtain ⟨s, hs1, hs2⟩ := SU.out r (1074 + U - u) (by omega) HV.out
            have hm : ∀ t w, (binOp .mul t (F r) (.float .f64 4611686018427387904)).run Try.prog w = .ok (F s) w := fun t w => run_float_arith w .mul t .f64 _ _ _ hs1
            have HS2 := Lib.hid hs2
            clear hs1 hs2
            go_wp2
            go_roundw
            case rel => exact ⟨u - 1, s, by go_num, rfl, by omega, by omega, by omega, by rw [HS2.out, show 1074 + U - u + 1 = 1074 + U - (u - 1) from by omega], trivial⟩
            case measure => simp [intOf]; omega
          · go_wp2
            go_loopw [5, 7] (fun uv xv wr => ∃ u r : Nat, uv = .int .i64 u ∧ xv = F r ∧ u ≤ 1075 ∧ (u = 1075 ∨ U ≤ u) ∧ V r = M * 2 ^ (1074 + U - u) ∧ w = wr) (fun uv _ _ => 1075 - (intOf uv).toNat)
            case atStart => exact ⟨u, r, rfl, rfl, by omega, by omega, HV.out, rfl⟩
            case round =>
              clear HV h1 h2 h3 hlt
              obtain ⟨u, r, rfl, rfl, h1, h3, hv, rfl⟩ := hrel
              have HV := Lib.hid hv
              clear hv
              by_cases hlt : u < 1075
              · obtain ⟨s, hs1, hs2⟩ := SD.out r (1073 + U - u) (by omega) (by rw [HV.out, show 1074 + U - u = 1073 + U - u + 1 from by omega])
                have hm : ∀ t w, (binOp .quo t (F r) (.float .f64 4611686018427387904)).run Try.prog w = .ok (F s) w := fun t w => run_float_arith w .quo t .f64 _ _ _ hs1
                have HS2 := Lib.hid hs2
                clear hs1 hs2
                go_wp2
                go_roundw
                case rel => exact ⟨u + 1, s, by go_num, rfl, by omega, by omega, by rw [HS2.out, show 1073 + U - u = 1074 + U - (u + 1) from by omega], trivial⟩
                case measure => simp [intOf]; omega
              · have HE := Lib.hid (FE.out r (by rw [HV.out, show 1074 + U - u = U - 1 from by omega]))
                cases hsg : sgn b with
                | true =>
                  have hs1 := sgn_one hb hsg
                  have HE2 : Hid (ng r = b) := Lib.hid (by have := HE.out; rw [hsg] at this; simpa using this)
                  clear HE hsg
                  go_wp2
                  go_ret2
                  exact ⟨ret_two HF.out HE2.out, rfl⟩
                | false =>
                  have hs1 := sgn_two hb hsg
                  have HE2 : Hid (r = b) := Lib.hid (by have := HE.out; rw [hsg] at this; simpa using this)
                  clear HE hsg
                  go_wp2
                  go_ret2
                  exact ⟨ret_two HF.out HE2.out, rfl⟩
end Go.Proofs.Ythgncnpemnlodaa.Fl
