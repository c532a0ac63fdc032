/- units.MulDiv returns a * b / c rounded down, or the error where it does not fit. -/
import Derived.Test.YtknfdnlmkjhmcaaDoorU2
import Derived.Test.YtknfdnlmkjhmcaaDoorM1
namespace Go.Proofs.YtknfdnlmkjhmcaaDoor
open Go.RowKit
set_option linter.unusedVariables false

theorem mul64_rel (x y H L : Nat) (hx : x < 18446744073709551616) (hy : y < 18446744073709551616) (hH : Hid (H = x * y / 18446744073709551616)) (hL : Hid (L = x * y % 18446744073709551616)) (w : World) :
    Calls Tryd.prog 33 #[.int .u64 x, .int .u64 y] w fun e w' => e = .returned (.tuple #[.int .u64 H, .int .u64 L]) ∧ w = w' := by
  rw [hH.out, hL.out]; exact mul64_any x y hx hy w
theorem div64_rel (hi lo y : Nat) (q r : Int) (hl : lo < 18446744073709551616) (hy : y < 18446744073709551616) (hh : hi < y) (hq : Hid (q = (((hi * 18446744073709551616 + lo) / y : Nat) : Int))) (hr : Hid (r = (((hi * 18446744073709551616 + lo) % y : Nat) : Int))) (w : World) :
    Calls Tryd.prog 35 #[.int .u64 hi, .int .u64 lo, .int .u64 y] w fun e w' => e = .returned (.tuple #[.int .u64 q, .int .u64 r]) ∧ ∃ n, w' = w.drewN n := by
  rw [hq.out, hr.out]; exact div64_any hi lo y hl hy hh w

theorem wrap_neg (q : Nat) (h : (q : Int) ≤ 9223372036854775808) : wrap64 (IntKind.u64.wrap (-(q : Int))) = -(q : Int) := by
  unfold wrap64; rw [IntKind.wrap_u64]; omega

theorem wrap_neg' (q : Int) (h0 : 0 ≤ q) (h : q < 9223372036854775808) : wrap64 (IntKind.u64.wrap (-(q + 1))) = -q - 1 := by
  unfold wrap64; rw [IntKind.wrap_u64]; omega

set_option maxRecDepth 100000 in
set_option maxHeartbeats 2000000 in
theorem muldiv_any (a b c : Int) (ha0 : -9223372036854775808 ≤ a) (ha1 : a ≤ 9223372036854775807) (hb0 : -9223372036854775808 ≤ b) (hb1 : b ≤ 9223372036854775807) (hc1 : c ≤ 9223372036854775807) (w : World) :
    Calls Tryd.prog 17 #[.int .i64 a, .int .i64 b, .int .i64 c] w fun e w' => e = .returned (.tuple #[.int .i64 (mdV a b c), .int .i64 (mdE a b c)]) ∧ ∃ n, w' = w.drewN n := by
  by_cases hc : c ≤ 0
  · obtain ⟨hV, hE⟩ := md_no (a := a) (b := b) (c := c) (by omega)
    have HV := Lib.hid hV; have HE := Lib.hid hE
    clear hV hE
    go_enter Tryd.func17, Tryd.ntmps17
    go_wp2
    go_ret2
    exact ⟨ret_two HV.out.symm HE.out.symm, 0, rfl⟩
  · obtain ⟨C, hC⟩ := Int.eq_ofNat_of_zero_le (show 0 ≤ c by omega)
    have hA : a.natAbs < 18446744073709551616 := by omega
    have hB : b.natAbs < 18446744073709551616 := by omega
    obtain ⟨P, hP⟩ : ∃ P, P = a.natAbs * b.natAbs := ⟨_, rfl⟩
    obtain ⟨H, hH⟩ : ∃ H, H = a.natAbs * b.natAbs / 18446744073709551616 := ⟨_, rfl⟩
    obtain ⟨L, hL⟩ : ∃ L, L = a.natAbs * b.natAbs % 18446744073709551616 := ⟨_, rfl⟩
    have hPe : H * 18446744073709551616 + L = P := by rw [hH, hL, hP]; omega
    obtain ⟨q, hq⟩ : ∃ q, q = P / C := ⟨_, rfl⟩
    obtain ⟨r, hr⟩ : ∃ r, r = P % C := ⟨_, rfl⟩
    have hqr : C * q + r = P := by rw [hq, hr]; exact Nat.div_add_mod _ _
    have hrC : r < C := by rw [hr]; exact Nat.mod_lt _ (by omega)
    have hL64 : L < 18446744073709551616 := by rw [hL]; exact Nat.mod_lt _ (by omega)
    have HH : Hid (H = a.natAbs * b.natAbs / 18446744073709551616) := hH
    have HL : Hid (L = a.natAbs * b.natAbs % 18446744073709551616) := hL
    have Hq : Hid (q = (H * 18446744073709551616 + L) / C) := by rw [hPe]; exact hq
    have Hr : Hid (r = (H * 18446744073709551616 + L) % C) := by rw [hPe]; exact hr
    have Hqr := Lib.hid hqr; have HP := Lib.hid hP; have HPe := Lib.hid hPe
    clear hP hH hL hq hr hqr hPe
    by_cases hHC : (C : Int) ≤ (H : Int)
    · have hbig : Hid (18446744073709551616 ≤ q) := by
        have h1 := Hqr.out
        have h2 := HPe.out
        show _ ≤ _
        have h3 : C * 18446744073709551616 ≤ H * 18446744073709551616 := Nat.mul_le_mul_right _ (by omega)
        have h4 : C * 18446744073709551616 < C * (q + 1) := by rw [Nat.mul_add]; omega
        have := Nat.lt_of_mul_lt_mul_left h4
        omega
      have hno : Hid (mdV a b c = 0 ∧ mdE a b c = 9) := by
        refine md_no fun hh => ?_
        have hb := hbig.out
        by_cases hs : (a < 0) = (b < 0)
        · rw [Md.same (by rw [HP.out]; exact Md.pos_of a b hs) hC (by omega) Hqr.out hrC] at hh; omega
        · have hn : a * b = -(P : Int) := by rw [HP.out]; exact Md.neg_of a b hs
          rcases Nat.eq_zero_or_pos r with h0 | h0
          · rw [Md.other0 hn hC (by omega) (by have := Hqr.out; rw [h0] at this; exact this)] at hh; omega
          · rw [Md.other1 hn hC h0 Hqr.out hrC] at hh; omega
      subst hC
      go_enter Tryd.func17, Tryd.ntmps17
      go_wp2_with (first | (go_at_call 34; refine (mag_any _ _ (by omega) (by omega)).mono ?_; rintro e w' ⟨rfl, rfl⟩) | (go_at_call 33; refine (mul64_rel _ _ _ _ hA hB HH HL _).mono ?_; rintro e w' ⟨rfl, rfl⟩))
      go_ret2
      exact ⟨ret_two hno.out.1.symm hno.out.2.symm, 0, rfl⟩
    · by_cases hs : (a < 0) = (b < 0)
      · have hsame := Lib.hid (Md.same (by rw [HP.out]; exact Md.pos_of a b hs) hC (by omega) Hqr.out hrC)
        have hd : (decide (a < 0) == decide (b < 0)) = true := by rw [beq_iff_eq, decide_eq_decide, hs]
        clear hs
        by_cases hqm : (9223372036854775807 : Int) < (q : Int)
        · have hno := Lib.hid (md_no (a := a) (b := b) (c := c) (by rw [hsame.out]; omega))
          subst hC
          go_enter Tryd.func17, Tryd.ntmps17
          go_wp2_with (first | (go_at_call 34; refine (mag_any _ _ (by omega) (by omega)).mono ?_; rintro e w' ⟨rfl, rfl⟩) | (go_at_call 33; refine (mul64_rel _ _ _ _ hA hB HH HL _).mono ?_; rintro e w' ⟨rfl, rfl⟩) | (go_at_call 35; refine (div64_rel _ _ _ _ _ hL64 (by omega) (by omega) (congrArg Nat.cast Hq.out) (congrArg Nat.cast Hr.out) _).mono ?_; rintro e w' ⟨rfl, n, rfl⟩))
          go_ret2
          exact ⟨ret_two hno.out.1.symm hno.out.2.symm, n, rfl⟩
        · have hok := Lib.hid (md_ok (a := a) (b := b) (c := c) (by omega) (by rw [hsame.out]; omega) (by rw [hsame.out]; omega))
          subst hC
          go_enter Tryd.func17, Tryd.ntmps17
          go_wp2_with (first | (go_at_call 34; refine (mag_any _ _ (by omega) (by omega)).mono ?_; rintro e w' ⟨rfl, rfl⟩) | (go_at_call 33; refine (mul64_rel _ _ _ _ hA hB HH HL _).mono ?_; rintro e w' ⟨rfl, rfl⟩) | (go_at_call 35; refine (div64_rel _ _ _ _ _ hL64 (by omega) (by omega) (congrArg Nat.cast Hq.out) (congrArg Nat.cast Hr.out) _).mono ?_; rintro e w' ⟨rfl, n, rfl⟩))
          go_ret2
          exact ⟨ret_two (by rw [hok.out.1, hsame.out]) hok.out.2.symm, n, rfl⟩
      · have hn : Hid (a * b = -(P : Int)) := by show _ = _; rw [HP.out]; exact Md.neg_of a b hs
        have hd : (decide (a < 0) == decide (b < 0)) = false := by rw [beq_eq_false_iff_ne, ne_eq, decide_eq_decide]; exact fun h => hs (propext h)
        clear hs
        rcases Nat.eq_zero_or_pos r with h0 | h0
        · have hv := Lib.hid (Md.other0 hn.out hC (by omega) (by have := Hqr.out; rw [h0] at this; exact this))
          have h0' : ¬ (0 : Int) < (r : Int) := by omega
          clear h0
          by_cases hq1 : (9223372036854775808 : Int) < (q : Int)
          · have hno := Lib.hid (md_no (a := a) (b := b) (c := c) (by rw [hv.out]; omega))
            subst hC
            go_enter Tryd.func17, Tryd.ntmps17
            go_wp2_with (first | (go_at_call 34; refine (mag_any _ _ (by omega) (by omega)).mono ?_; rintro e w' ⟨rfl, rfl⟩) | (go_at_call 33; refine (mul64_rel _ _ _ _ hA hB HH HL _).mono ?_; rintro e w' ⟨rfl, rfl⟩) | (go_at_call 35; refine (div64_rel _ _ _ _ _ hL64 (by omega) (by omega) (congrArg Nat.cast Hq.out) (congrArg Nat.cast Hr.out) _).mono ?_; rintro e w' ⟨rfl, n, rfl⟩))
            go_ret2
            exact ⟨ret_two hno.out.1.symm hno.out.2.symm, n, rfl⟩
          · have hok := Lib.hid (md_ok (a := a) (b := b) (c := c) (by omega) (by rw [hv.out]; omega) (by rw [hv.out]; omega))
            have hwn := Lib.hid (wrap_neg q (by omega))
            subst hC
            by_cases hq2 : ((q : Int) == 9223372036854775808) = true
            all_goals
              go_enter Tryd.func17, Tryd.ntmps17
              go_wp2_with (first | (go_at_call 34; refine (mag_any _ _ (by omega) (by omega)).mono ?_; rintro e w' ⟨rfl, rfl⟩) | (go_at_call 33; refine (mul64_rel _ _ _ _ hA hB HH HL _).mono ?_; rintro e w' ⟨rfl, rfl⟩) | (go_at_call 35; refine (div64_rel _ _ _ _ _ hL64 (by omega) (by omega) (congrArg Nat.cast Hq.out) (congrArg Nat.cast Hr.out) _).mono ?_; rintro e w' ⟨rfl, n, rfl⟩))
              go_ret2
              exact ⟨ret_two (by rw [hok.out.1, hv.out]; exact hwn.out) hok.out.2.symm, n, rfl⟩
        · have hv := Lib.hid (Md.other1 hn.out hC h0 Hqr.out hrC)
          by_cases hq1 : (9223372036854775808 : Int) < (q : Int)
          · have hno := Lib.hid (md_no (a := a) (b := b) (c := c) (by rw [hv.out]; omega))
            subst hC
            go_enter Tryd.func17, Tryd.ntmps17
            go_wp2_with (first | (go_at_call 34; refine (mag_any _ _ (by omega) (by omega)).mono ?_; rintro e w' ⟨rfl, rfl⟩) | (go_at_call 33; refine (mul64_rel _ _ _ _ hA hB HH HL _).mono ?_; rintro e w' ⟨rfl, rfl⟩) | (go_at_call 35; refine (div64_rel _ _ _ _ _ hL64 (by omega) (by omega) (congrArg Nat.cast Hq.out) (congrArg Nat.cast Hr.out) _).mono ?_; rintro e w' ⟨rfl, n, rfl⟩))
            go_ret2
            exact ⟨ret_two hno.out.1.symm hno.out.2.symm, n, rfl⟩
          · by_cases hq2 : ((q : Int) == 9223372036854775808) = true
            · have hno := Lib.hid (md_no (a := a) (b := b) (c := c) (by rw [hv.out]; rw [beq_iff_eq] at hq2; omega))
              subst hC
              go_enter Tryd.func17, Tryd.ntmps17
              go_wp2_with (first | (go_at_call 34; refine (mag_any _ _ (by omega) (by omega)).mono ?_; rintro e w' ⟨rfl, rfl⟩) | (go_at_call 33; refine (mul64_rel _ _ _ _ hA hB HH HL _).mono ?_; rintro e w' ⟨rfl, rfl⟩) | (go_at_call 35; refine (div64_rel _ _ _ _ _ hL64 (by omega) (by omega) (congrArg Nat.cast Hq.out) (congrArg Nat.cast Hr.out) _).mono ?_; rintro e w' ⟨rfl, n, rfl⟩))
              go_ret2
              exact ⟨ret_two hno.out.1.symm hno.out.2.symm, n, rfl⟩
            · have hq3 : (q : Int) < 9223372036854775808 := by rw [beq_iff_eq] at hq2; omega
              have hq4 : ((q : Int) == 9223372036854775808) = false := by simpa using hq2
              clear hq1 hq2
              have hok := Lib.hid (md_ok (a := a) (b := b) (c := c) (by omega) (by rw [hv.out]; omega) (by rw [hv.out]; omega))
              subst hC
              obtain ⟨z, hz⟩ : ∃ z : Int, z = (q : Int) := ⟨_, rfl⟩
              obtain ⟨t, ht⟩ : ∃ t : Int, t = (r : Int) := ⟨_, rfl⟩
              have hz0 : 0 ≤ z := by omega
              have hz1 : z < 9223372036854775808 := by omega
              have ht0 : 0 < t := by omega
              have hz4 : (z == 9223372036854775808) = false := by rw [hz]; exact hq4
              have Hz := Lib.hid hz
              have Hq' : Hid (z = (((H * 18446744073709551616 + L) / C : Nat) : Int)) := by show _ = _; rw [hz, ← Hq.out]
              have Hr' : Hid (t = (((H * 18446744073709551616 + L) % C : Nat) : Int)) := by show _ = _; rw [ht, ← Hr.out]
              clear hz ht hq3 hq4 h0 hrC
              go_enter Tryd.func17, Tryd.ntmps17
              go_wp2_with (first | (go_at_call 34; refine (mag_any _ _ (by omega) (by omega)).mono ?_; rintro e w' ⟨rfl, rfl⟩) | (go_at_call 33; refine (mul64_rel _ _ _ _ hA hB HH HL _).mono ?_; rintro e w' ⟨rfl, rfl⟩) | (go_at_call 35; refine (div64_rel _ _ _ _ _ hL64 (by omega) (by omega) Hq' Hr' _).mono ?_; rintro e w' ⟨rfl, n, rfl⟩))
              go_ret2
              exact ⟨ret_two (by rw [hok.out.1, hv.out]; rw [← Hz.out]; exact wrap_neg' z hz0 hz1) hok.out.2.symm, n, rfl⟩
end Go.Proofs.YtknfdnlmkjhmcaaDoor
