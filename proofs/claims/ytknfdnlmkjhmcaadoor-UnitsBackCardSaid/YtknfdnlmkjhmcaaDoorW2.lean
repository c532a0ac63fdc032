/- The reference's Floor and Nearest; Toward of both; Root. -/
import Derived.Test.YtknfdnlmkjhmcaaDoorW1
import Derived.Test.YtknfdnlmkjhmcaaDoorU3
namespace Go.Proofs.YtknfdnlmkjhmcaaDoor
open Go.RowKit
set_option linter.unusedVariables false

set_option maxHeartbeats 2000000 in
theorem rfloor_any (a b : Int) (w : World) (ha0 : -9223372036854775808 ≤ a) (ha1 : a ≤ 9223372036854775807) (hb0 : -9223372036854775808 ≤ b) (hb1 : b ≤ 9223372036854775807) :
    Calls Tryd.prog 14 #[.int .i64 a, .int .i64 b] w fun e w' => e = .returned (.tuple #[.int .i64 (Un.flQ a b), .bool (Un.flOk a b)]) ∧ w = w' := by
  by_cases hok : Un.flOk a b = true
  · have D := dv_of ha0 ha1 hb0 hb1 hok
    generalize a.tdiv b = q0 at D
    generalize a.tmod b = r0 at D
    have hQ : Un.flQ a b = Un.flD a b := by simp [Un.flQ, hok]
    have HQ := Lib.hid hQ
    clear hQ
    generalize hq : Un.flD a b = q at D
    have Hq := Lib.hid hq
    clear hq
    generalize a - q * b = r at D
    have hb : (b == 0) = false := by
      simp only [Un.flOk, Bool.and_eq_true, Bool.not_eq_true'] at hok
      exact hok.1
    have hb' : ¬ b = 0 := by simpa using hb
    have hab : (a == -9223372036854775808 && b == -1) = false := by
      simp only [Un.flOk, Bool.and_eq_true, Bool.not_eq_true'] at hok
      exact hok.2
    have HO := Lib.hid hok
    clear hok
    cases ha : (a == -9223372036854775808) with
    | true =>
      have hb' : (b == -1) = false := by rw [ha] at hab; exact hab
      clear hab
      have e1 := D.quo; have e2 := D.rem; have e3 := D.q0lo; have e4 := D.q0hi; have e5 := D.qlo; have e6 := D.qhi
      rcases D.cor with ⟨c1, c2, c3⟩ | ⟨c1, c3⟩
      · have g1 : (r0 != 0) = true := by simpa using c1
        have H3 := Lib.hid c3.symm
        have e10 : -9223372036854775808 ≤ q0 - 1 := by omega
        clear D c3 c1
        by_cases na : a < 0
        · have nb : ¬ b < 0 := fun h => c2 ⟨fun _ => h, fun _ => na⟩
          have n1 : decide (a < 0) = true := decide_eq_true na
          have n2 : decide (b < 0) = false := decide_eq_false nb
          clear c2
          go_enter Tryd.func14, Tryd.ntmps14
          go_wp2_with fail
          try rw [H3.out]
          go_ret2
          exact ⟨ret_ib (by rw [HQ.out, Hq.out]) HO.out.symm, rfl⟩
        · have nb : b < 0 := Classical.byContradiction fun h => c2 ⟨fun g => absurd g na, fun g => absurd g h⟩
          have n1 : decide (a < 0) = false := decide_eq_false na
          have n2 : decide (b < 0) = true := decide_eq_true nb
          clear c2
          go_enter Tryd.func14, Tryd.ntmps14
          go_wp2_with fail
          try rw [H3.out]
          go_ret2
          exact ⟨ret_ib (by rw [HQ.out, Hq.out]) HO.out.symm, rfl⟩
      · subst c3
        clear D
        by_cases g0 : r0 = 0
        · have g1 : (r0 != 0) = false := by simp [g0]
          clear c1 g0
          have H3 := Lib.hid (rfl : q = q)
          go_enter Tryd.func14, Tryd.ntmps14
          go_wp2_with fail
          try rw [H3.out]
          go_ret2
          exact ⟨ret_ib (by rw [HQ.out, Hq.out]) HO.out.symm, rfl⟩
        · have g1 : (r0 != 0) = true := by simpa using g0
          have H3 := Lib.hid (rfl : q = q)
          by_cases na : a < 0
          · have nb : b < 0 := Classical.byContradiction fun h => c1 ⟨g0, fun g => h (g.1 na)⟩
            have n1 : decide (a < 0) = true := decide_eq_true na
            have n2 : decide (b < 0) = true := decide_eq_true nb
            clear c1 g0
            go_enter Tryd.func14, Tryd.ntmps14
            go_wp2_with fail
            try rw [H3.out]
            go_ret2
            exact ⟨ret_ib (by rw [HQ.out, Hq.out]) HO.out.symm, rfl⟩
          · have nb : ¬ b < 0 := fun h => c1 ⟨g0, fun g => na (g.2 h)⟩
            have n1 : decide (a < 0) = false := decide_eq_false na
            have n2 : decide (b < 0) = false := decide_eq_false nb
            clear c1 g0
            go_enter Tryd.func14, Tryd.ntmps14
            go_wp2_with fail
            try rw [H3.out]
            go_ret2
            exact ⟨ret_ib (by rw [HQ.out, Hq.out]) HO.out.symm, rfl⟩
    | false =>
      clear hab
      have e1 := D.quo; have e2 := D.rem; have e3 := D.q0lo; have e4 := D.q0hi; have e5 := D.qlo; have e6 := D.qhi
      rcases D.cor with ⟨c1, c2, c3⟩ | ⟨c1, c3⟩
      · have g1 : (r0 != 0) = true := by simpa using c1
        have H3 := Lib.hid c3.symm
        have e10 : -9223372036854775808 ≤ q0 - 1 := by omega
        clear D c3 c1
        by_cases na : a < 0
        · have nb : ¬ b < 0 := fun h => c2 ⟨fun _ => h, fun _ => na⟩
          have n1 : decide (a < 0) = true := decide_eq_true na
          have n2 : decide (b < 0) = false := decide_eq_false nb
          clear c2
          go_enter Tryd.func14, Tryd.ntmps14
          go_wp2_with fail
          try rw [H3.out]
          go_ret2
          exact ⟨ret_ib (by rw [HQ.out, Hq.out]) HO.out.symm, rfl⟩
        · have nb : b < 0 := Classical.byContradiction fun h => c2 ⟨fun g => absurd g na, fun g => absurd g h⟩
          have n1 : decide (a < 0) = false := decide_eq_false na
          have n2 : decide (b < 0) = true := decide_eq_true nb
          clear c2
          go_enter Tryd.func14, Tryd.ntmps14
          go_wp2_with fail
          try rw [H3.out]
          go_ret2
          exact ⟨ret_ib (by rw [HQ.out, Hq.out]) HO.out.symm, rfl⟩
      · subst c3
        clear D
        by_cases g0 : r0 = 0
        · have g1 : (r0 != 0) = false := by simp [g0]
          clear c1 g0
          have H3 := Lib.hid (rfl : q = q)
          go_enter Tryd.func14, Tryd.ntmps14
          go_wp2_with fail
          try rw [H3.out]
          go_ret2
          exact ⟨ret_ib (by rw [HQ.out, Hq.out]) HO.out.symm, rfl⟩
        · have g1 : (r0 != 0) = true := by simpa using g0
          have H3 := Lib.hid (rfl : q = q)
          by_cases na : a < 0
          · have nb : b < 0 := Classical.byContradiction fun h => c1 ⟨g0, fun g => h (g.1 na)⟩
            have n1 : decide (a < 0) = true := decide_eq_true na
            have n2 : decide (b < 0) = true := decide_eq_true nb
            clear c1 g0
            go_enter Tryd.func14, Tryd.ntmps14
            go_wp2_with fail
            try rw [H3.out]
            go_ret2
            exact ⟨ret_ib (by rw [HQ.out, Hq.out]) HO.out.symm, rfl⟩
          · have nb : ¬ b < 0 := fun h => c1 ⟨g0, fun g => na (g.2 h)⟩
            have n1 : decide (a < 0) = false := decide_eq_false na
            have n2 : decide (b < 0) = false := decide_eq_false nb
            clear c1 g0
            go_enter Tryd.func14, Tryd.ntmps14
            go_wp2_with fail
            try rw [H3.out]
            go_ret2
            exact ⟨ret_ib (by rw [HQ.out, Hq.out]) HO.out.symm, rfl⟩
  · have hok' : Un.flOk a b = false := by simpa using hok
    have hQ : Hid (Un.flQ a b = 0) := by show _ = _; simp [Un.flQ, hok']
    have hO := Lib.hid hok'
    simp only [Un.flOk, Bool.and_eq_false_iff, Bool.not_eq_false', Bool.and_eq_true, beq_iff_eq] at hok'
    rcases hok' with rfl | ⟨rfl, rfl⟩
    all_goals
      go_enter Tryd.func14, Tryd.ntmps14
      go_wp2
      go_ret2
      exact ⟨ret_ib hQ.out.symm hO.out.symm, rfl⟩
theorem rfloor_eq (a b q : Int) (o : Bool) (hq : Hid (Un.flQ a b = q)) (ho : Hid (Un.flOk a b = o)) (w : World) (ha0 : -9223372036854775808 ≤ a) (ha1 : a ≤ 9223372036854775807) (hb0 : -9223372036854775808 ≤ b) (hb1 : b ≤ 9223372036854775807) :
    Calls Tryd.prog 14 #[.int .i64 a, .int .i64 b] w fun e w' => e = .returned (.tuple #[.int .i64 q, .bool o]) ∧ w = w' := by
  have := rfloor_any a b w ha0 ha1 hb0 hb1
  rw [hq.out, ho.out] at this
  exact this

set_option maxHeartbeats 2000000 in
theorem rnearest_any (a b : Int) (w : World) (ha0 : -9223372036854775808 ≤ a) (ha1 : a ≤ 9223372036854775807) (hb0 : -9223372036854775808 ≤ b) (hb1 : b ≤ 9223372036854775807) :
    Calls Tryd.prog 15 #[.int .i64 a, .int .i64 b] w fun e w' => e = .returned (.tuple #[.int .i64 (Un.nrQ a b), .bool (Un.flOk a b)]) ∧ w = w' := by
  by_cases hok : Un.flOk a b = true
  · have D := dv_of ha0 ha1 hb0 hb1 hok
    have F := Un.fl_of ha0 ha1 hok
    have hQ : Un.flQ a b = Un.flD a b := by simp [Un.flQ, hok]
    have hN : Un.nrQ a b = if Un.up a b then Un.flD a b + 1 else Un.flD a b := by simp [Un.nrQ, hok]
    have hU : Un.up a b = true → Un.flD a b + 1 ≤ 9223372036854775807 := Un.up_hi ha0 ha1 hb0 hb1 hok
    have hb : b ≠ 0 := by
      simp only [Un.flOk, Bool.and_eq_true, Bool.not_eq_true'] at hok
      simpa using hok.1
    have hup : Un.up a b = decide (0 < b ∧ b ≤ 2 * (a - Un.flD a b * b) ∨ b < 0 ∧ 2 * (a - Un.flD a b * b) ≤ b) := rfl
    generalize Un.flD a b = q at *
    have R3 := Lib.hid D.rest
    have p1 := F.pos; have p2 := F.neg; have e5 := F.lo; have e6 := F.hi
    clear D F
    generalize a - q * b = r at *
    have HQ := Lib.hid hQ; have HO := Lib.hid hok
    clear hQ hok
    rcases Int.lt_or_gt_of_ne hb with g | g
    · have p3 := p2 g
      clear p1 p2
      by_cases c : r ≤ b - r
      · have hu : Un.up a b = true := by rw [hup]; exact decide_eq_true (by omega)
        have e7 := hU hu
        have HN : Hid (Un.nrQ a b = q + 1) := by show _ = _; rw [hN, hu]; rfl
        clear hup hU hu hN hb
        go_enter Tryd.func15, Tryd.ntmps15
        go_wp2_with fail
        (with_reducible refine (rfloor_eq _ _ _ _ HQ HO _ ha0 ha1 hb0 hb1).mono ?_)
        rintro e w1 ⟨rfl, rfl⟩
        have R4 := R3.out
        go_wp2_with fail
        go_ret2
        exact ⟨ret_ib (by rw [HN.out]) HO.out.symm, rfl⟩
      · have hu : Un.up a b = false := by rw [hup]; exact decide_eq_false (by omega)
        have HN : Hid (Un.nrQ a b = q) := by show _ = _; rw [hN, hu]; rfl
        clear hup hU hu hN hb
        go_enter Tryd.func15, Tryd.ntmps15
        go_wp2_with fail
        (with_reducible refine (rfloor_eq _ _ _ _ HQ HO _ ha0 ha1 hb0 hb1).mono ?_)
        rintro e w1 ⟨rfl, rfl⟩
        have R4 := R3.out
        go_wp2_with fail
        go_ret2
        exact ⟨ret_ib (by rw [HN.out]) HO.out.symm, rfl⟩
    · have p3 := p1 g
      clear p1 p2
      by_cases c : b - r ≤ r
      · have hu : Un.up a b = true := by rw [hup]; exact decide_eq_true (by omega)
        have e7 := hU hu
        have HN : Hid (Un.nrQ a b = q + 1) := by show _ = _; rw [hN, hu]; rfl
        clear hup hU hu hN hb
        go_enter Tryd.func15, Tryd.ntmps15
        go_wp2_with fail
        (with_reducible refine (rfloor_eq _ _ _ _ HQ HO _ ha0 ha1 hb0 hb1).mono ?_)
        rintro e w1 ⟨rfl, rfl⟩
        have R4 := R3.out
        go_wp2_with fail
        go_ret2
        exact ⟨ret_ib (by rw [HN.out]) HO.out.symm, rfl⟩
      · have hu : Un.up a b = false := by rw [hup]; exact decide_eq_false (by omega)
        have HN : Hid (Un.nrQ a b = q) := by show _ = _; rw [hN, hu]; rfl
        clear hup hU hu hN hb
        go_enter Tryd.func15, Tryd.ntmps15
        go_wp2_with fail
        (with_reducible refine (rfloor_eq _ _ _ _ HQ HO _ ha0 ha1 hb0 hb1).mono ?_)
        rintro e w1 ⟨rfl, rfl⟩
        have R4 := R3.out
        go_wp2_with fail
        go_ret2
        exact ⟨ret_ib (by rw [HN.out]) HO.out.symm, rfl⟩
  · have hok' : Un.flOk a b = false := by simpa using hok
    have hQ : Hid (Un.nrQ a b = 0) := by show _ = _; simp [Un.nrQ, hok']
    have hF : Hid (Un.flQ a b = 0) := by show _ = _; simp [Un.flQ, hok']
    have hO := Lib.hid hok'
    clear hok hok'
    go_enter Tryd.func15, Tryd.ntmps15
    go_wp2_with fail
    (with_reducible refine (rfloor_eq _ _ _ _ hF hO _ ha0 ha1 hb0 hb1).mono ?_)
    rintro e w1 ⟨rfl, rfl⟩
    go_wp2_with fail
    go_ret2
    exact ⟨ret_ib hQ.out.symm hO.out.symm, rfl⟩

/-! ### Toward -/
theorem mul64_int (x y h l : Int) (hx : 0 ≤ x) (hx1 : x ≤ 18446744073709551615) (hy : 0 ≤ y) (hy1 : y ≤ 18446744073709551615) (hh : Hid (x * y / 18446744073709551616 = h)) (hl : Hid (x * y % 18446744073709551616 = l)) (w : World) :
    Calls Tryd.prog 33 #[.int .u64 x, .int .u64 y] w fun e w' => e = .returned (.tuple #[.int .u64 h, .int .u64 l]) ∧ w = w' := by
  obtain ⟨X, rfl⟩ := Int.eq_ofNat_of_zero_le hx
  obtain ⟨Y, rfl⟩ := Int.eq_ofNat_of_zero_le hy
  have := mul64_any X Y (by omega) (by omega) w
  rw [← hh.out, ← hl.out]
  rw [Int.natCast_ediv, Int.natCast_emod, Int.natCast_mul] at this
  exact this
theorem div64_int (hi lo y q : Int) (h0 : 0 ≤ hi) (h1 : hi < y) (l0 : 0 ≤ lo) (l1 : lo ≤ 18446744073709551615) (y1 : y ≤ 18446744073709551615) (hq : Hid ((hi * 18446744073709551616 + lo) / y = q)) (w : World) :
    Calls Tryd.prog 35 #[.int .u64 hi, .int .u64 lo, .int .u64 y] w fun e w' => e = .returned (.tuple #[.int .u64 q, .int .u64 ((hi * 18446744073709551616 + lo) % y)]) ∧ ∃ n, w' = w.drewN n := by
  obtain ⟨H, rfl⟩ := Int.eq_ofNat_of_zero_le h0
  obtain ⟨L, rfl⟩ := Int.eq_ofNat_of_zero_le l0
  obtain ⟨Y, rfl⟩ := Int.eq_ofNat_of_zero_le (show 0 ≤ y by omega)
  have := div64_any H L Y (by omega) (by omega) (by omega) w
  rw [← hq.out]
  rw [Int.natCast_ediv, Int.natCast_emod, Int.natCast_add, Int.natCast_mul] at this
  exact this
theorem u64_sub (a b : Int) (h : b ≤ a) (ha : -9223372036854775808 ≤ b) (hb : a ≤ 9223372036854775807) : IntKind.u64.wrap (IntKind.u64.wrap a - IntKind.u64.wrap b) = a - b := by
  simp only [IntKind.wrap_u64]; omega
theorem back_add (a d : Int) (h0 : -9223372036854775808 ≤ a) (hd : 0 ≤ d) (h : a + d ≤ 9223372036854775807) : wrap64 (IntKind.u64.wrap (IntKind.u64.wrap a + d)) = a + d := by
  unfold wrap64; simp only [IntKind.wrap_u64]; omega
theorem back_sub (a d : Int) (h0 : a ≤ 9223372036854775807) (hd : 0 ≤ d) (h : -9223372036854775808 ≤ a - d) : wrap64 (IntKind.u64.wrap (IntKind.u64.wrap a - d)) = a - d := by
  unfold wrap64; simp only [IntKind.wrap_u64]; omega
theorem clamp_eq (n l h c : Int) (hc : Hid (Un.clV n l h = c)) (w : World) :
    Calls Tryd.prog 19 #[.int .i64 n, .int .i64 l, .int .i64 h] w fun e w' => e = .returned (.int .i64 c) ∧ w = w' := by
  have := clamp_any n l h w
  rw [hc.out] at this
  exact this
theorem rclamp_eq (n l h c : Int) (hc : Hid (Un.clV n l h = c)) (w : World) :
    Calls Tryd.prog 20 #[.int .i64 n, .int .i64 l, .int .i64 h] w fun e w' => e = .returned (.int .i64 c) ∧ w = w' := by
  have := rclamp_any n l h w
  rw [hc.out] at this
  exact this

set_option maxHeartbeats 2000000 in
theorem toward_any (a b k : Int) (w : World) (ha0 : -9223372036854775808 ≤ a) (ha1 : a ≤ 9223372036854775807) (hb0 : -9223372036854775808 ≤ b) (hb1 : b ≤ 9223372036854775807) :
    Calls Tryd.prog 21 #[.int .i64 a, .int .i64 b, .int .i64 k] w fun e w' => e = .returned (.int .i64 (Un.twV a b k)) ∧ ∃ n, w' = w.drewN n := by
  have hcr := Un.clV_range (n := k) (l := 0) (h := 10000) (by omega)
  generalize hc : Un.clV k 0 10000 = c at hcr
  have HC := Lib.hid hc
  clear hc
  by_cases hab : a = b
  · subst hab
    have hv : Hid (Un.twV a a k = a) := by show _ = _; unfold Un.twV; rw [if_pos (by omega)]; simp [Un.ptV]
    by_cases h0 : c = 0
    all_goals
      go_enter Tryd.func21, Tryd.ntmps21
      go_wp2_with fail
      (with_reducible refine (clamp_eq _ _ _ _ HC _).mono ?_)
      rintro e w1 ⟨rfl, rfl⟩
      go_wp2_with fail
      go_ret
      exact ⟨ret_int hv.out.symm, 0, rfl⟩
  · have hab' : (a == b) = false := by simpa using hab
    by_cases h0 : c = 0
    · subst h0
      have hv : Hid (Un.twV a b k = a) := by show _ = _; unfold Un.twV; rw [HC.out]; simp [Un.ptV]
      clear hab
      go_enter Tryd.func21, Tryd.ntmps21
      go_wp2_with fail
      (with_reducible refine (clamp_eq _ _ _ _ HC _).mono ?_)
      rintro e w1 ⟨rfl, rfl⟩
      go_wp2_with fail
      go_ret
      exact ⟨ret_int hv.out.symm, 0, rfl⟩
    · have h0' : (c == 0) = false := by simpa using h0
      by_cases hlt : b < a
      · have hv : Hid (Un.twV a b k = a - Un.ptV (a - b) c) := by show _ = _; unfold Un.twV; rw [if_neg (by omega), HC.out]
        have hp := Un.pt_range (u := a - b) (k := c) (by omega) hcr.1 hcr.2
        have hbp : 0 ≤ (a - b) * c := Int.mul_nonneg (by omega) hcr.1
        have hbq : (a - b) * c ≤ 18446744073709551615 * 10000 := Int.mul_le_mul (by omega) hcr.2 hcr.1 (by omega)
        have hpt : Un.ptV (a - b) c = if (a - b) * c / 10000 < 1 then 1 else (a - b) * c / 10000 := by
          have := hp.2.2.2.2
          unfold Un.ptV at *
          split <;> split <;> omega
        have Hs := Lib.hid (u64_sub a b (by omega) hb0 ha1)
        have hm0 : 0 ≤ (a - b) * c / 18446744073709551616 := by omega
        have hm1 : (a - b) * c / 18446744073709551616 < 10000 := by omega
        have hm2 : 0 ≤ (a - b) * c % 18446744073709551616 := by omega
        have hm3 : (a - b) * c % 18446744073709551616 ≤ 18446744073709551615 := by omega
        have hd0 : 0 ≤ (a - b) * c / 10000 := by omega
        have hd1 : (a - b) * c / 10000 ≤ a - b := by
          have := Int.mul_le_mul_of_nonneg_left hcr.2 (show 0 ≤ a - b by omega)
          omega
        have hD : ((a - b) * c / 18446744073709551616 * 18446744073709551616 + (a - b) * c % 18446744073709551616) / 10000 = (a - b) * c / 10000 := by
          rw [Int.mul_comm, Int.mul_ediv_add_emod]
        have hq : Un.ptV (a - b) c = if (a - b) * c / 10000 < 1 then 1 else (a - b) * c / 10000 := hpt
        generalize hH : (a - b) * c / 18446744073709551616 = H at *
        generalize hL : (a - b) * c % 18446744073709551616 = L at *
        generalize (a - b) * c / 10000 = d at *
        have HH := Lib.hid hH; have HL := Lib.hid hL; have HD := Lib.hid hD; have HP := Lib.hid hq
        have hp2 := hp.2.1; have hp1 := hp.1
        clear hH hL hD hpt hq hab h0 hp hbp hbq
        go_enter Tryd.func21, Tryd.ntmps21
        go_wp2_with fail
        (with_reducible refine (clamp_eq _ _ _ _ HC _).mono ?_)
        rintro e w1 ⟨rfl, rfl⟩
        go_wp2_with fail
        simp only [Hs.out]
        (with_reducible refine (mul64_int _ _ _ _ (by omega) (by omega) (by omega) (by omega) HH HL _).mono ?_)
        rintro e w1 ⟨rfl, rfl⟩
        go_wp2_with fail
        (with_reducible refine (div64_int _ _ _ _ (by omega) (by omega) (by omega) (by omega) (by omega) HD _).mono ?_)
        rintro e w1 ⟨rfl, n, rfl⟩
        go_wp2_with fail
        go_ret
        have hpm : Un.ptV (a - b) c = max d 1 := by rw [HP.out]; split <;> omega
        rw [hpm] at hp1 hp2
        exact ⟨ret_int (by rw [hv.out, hpm]; exact back_sub a _ ha1 hp1 (by omega)), n, rfl⟩
      · have hv : Hid (Un.twV a b k = a + Un.ptV (b - a) c) := by show _ = _; unfold Un.twV; rw [if_pos (by omega), HC.out]
        have hp := Un.pt_range (u := b - a) (k := c) (by omega) hcr.1 hcr.2
        have hbp : 0 ≤ (b - a) * c := Int.mul_nonneg (by omega) hcr.1
        have hbq : (b - a) * c ≤ 18446744073709551615 * 10000 := Int.mul_le_mul (by omega) hcr.2 hcr.1 (by omega)
        have hpt : Un.ptV (b - a) c = if (b - a) * c / 10000 < 1 then 1 else (b - a) * c / 10000 := by
          have := hp.2.2.2.2
          unfold Un.ptV at *
          split <;> split <;> omega
        have Hs := Lib.hid (u64_sub b a (by omega) ha0 hb1)
        have hm0 : 0 ≤ (b - a) * c / 18446744073709551616 := by omega
        have hm1 : (b - a) * c / 18446744073709551616 < 10000 := by omega
        have hm2 : 0 ≤ (b - a) * c % 18446744073709551616 := by omega
        have hm3 : (b - a) * c % 18446744073709551616 ≤ 18446744073709551615 := by omega
        have hd0 : 0 ≤ (b - a) * c / 10000 := by omega
        have hd1 : (b - a) * c / 10000 ≤ b - a := by
          have := Int.mul_le_mul_of_nonneg_left hcr.2 (show 0 ≤ b - a by omega)
          omega
        have hD : ((b - a) * c / 18446744073709551616 * 18446744073709551616 + (b - a) * c % 18446744073709551616) / 10000 = (b - a) * c / 10000 := by
          rw [Int.mul_comm, Int.mul_ediv_add_emod]
        have hq : Un.ptV (b - a) c = if (b - a) * c / 10000 < 1 then 1 else (b - a) * c / 10000 := hpt
        generalize hH : (b - a) * c / 18446744073709551616 = H at *
        generalize hL : (b - a) * c % 18446744073709551616 = L at *
        generalize (b - a) * c / 10000 = d at *
        have HH := Lib.hid hH; have HL := Lib.hid hL; have HD := Lib.hid hD; have HP := Lib.hid hq
        have hp2 := hp.2.1; have hp1 := hp.1
        clear hH hL hD hpt hq hab h0 hp hbp hbq
        go_enter Tryd.func21, Tryd.ntmps21
        go_wp2_with fail
        (with_reducible refine (clamp_eq _ _ _ _ HC _).mono ?_)
        rintro e w1 ⟨rfl, rfl⟩
        go_wp2_with fail
        simp only [Hs.out]
        (with_reducible refine (mul64_int _ _ _ _ (by omega) (by omega) (by omega) (by omega) HH HL _).mono ?_)
        rintro e w1 ⟨rfl, rfl⟩
        go_wp2_with fail
        (with_reducible refine (div64_int _ _ _ _ (by omega) (by omega) (by omega) (by omega) (by omega) HD _).mono ?_)
        rintro e w1 ⟨rfl, n, rfl⟩
        go_wp2_with fail
        go_ret
        have hpm : Un.ptV (b - a) c = max d 1 := by rw [HP.out]; split <;> omega
        rw [hpm] at hp1 hp2
        exact ⟨ret_int (by rw [hv.out, hpm]; exact back_add a _ ha0 hp1 (by omega)), n, rfl⟩

theorem part_any (u k : Int) (w : World) (hu0 : 0 ≤ u) (hu1 : u ≤ 18446744073709551615) (hk0 : 0 ≤ k) (hk1 : k ≤ 10000) :
    Calls Tryd.prog 38 #[.int .u64 u, .int .u64 k] w fun e w' => e = .returned (.int .u64 (Un.ptV u k)) ∧ w = w' := by
  have hq0 : 0 ≤ u / 10000 * k := Int.mul_nonneg (by omega) hk0
  have hq1 : u / 10000 * k ≤ u / 10000 * 10000 := Int.mul_le_mul_of_nonneg_left hk1 (by omega)
  have hr0 : 0 ≤ u % 10000 * k := Int.mul_nonneg (by omega) hk0
  have hr1 : u % 10000 * k ≤ 9999 * 10000 := Int.mul_le_mul (by omega) hk1 hk0 (by omega)
  have he := Un.part_eq u k
  have hs : u / 10000 * k + u % 10000 * k / 10000 ≤ 18446744073709551615 := by
    have hm : u % 10000 * k ≤ u % 10000 * 10000 := Int.mul_le_mul_of_nonneg_left hk1 (by omega)
    omega
  have hv : Un.ptV u k = if 0 < k ∧ 0 < u ∧ u / 10000 * k + u % 10000 * k / 10000 = 0 then 1 else u / 10000 * k + u % 10000 * k / 10000 := by rw [he]; rfl
  have HV := Lib.hid hv
  clear hv he
  generalize hx : u / 10000 * k = x at *
  generalize hy : u % 10000 * k = y at *
  by_cases c1 : 0 < k
  · by_cases c2 : 0 < u
    · by_cases c3 : x + y / 10000 = 0
      · have c3' : (x + y / 10000 == 0) = true := by simp [c3]
        have HV' : Hid (Un.ptV u k = 1) := by show _ = _; rw [HV.out, if_pos ⟨c1, c2, c3⟩]
        clear c3
        go_enter Tryd.func38, Tryd.ntmps38
        go_wp2
        go_ret
        exact ⟨ret_int HV'.out.symm, rfl⟩
      · have c3' : (x + y / 10000 == 0) = false := by simp [c3]
        have HV' : Hid (Un.ptV u k = x + y / 10000) := by show _ = _; rw [HV.out, if_neg (by omega)]
        clear c3
        go_enter Tryd.func38, Tryd.ntmps38
        go_wp2
        go_ret
        exact ⟨ret_int HV'.out.symm, rfl⟩
    · have HV' : Hid (Un.ptV u k = x + y / 10000) := by show _ = _; rw [HV.out, if_neg (by omega)]
      go_enter Tryd.func38, Tryd.ntmps38
      go_wp2
      go_ret
      exact ⟨ret_int HV'.out.symm, rfl⟩
  · have HV' : Hid (Un.ptV u k = x + y / 10000) := by show _ = _; rw [HV.out, if_neg (by omega)]
    go_enter Tryd.func38, Tryd.ntmps38
    go_wp2
    go_ret
    exact ⟨ret_int HV'.out.symm, rfl⟩

set_option maxHeartbeats 2000000 in
theorem rtoward_any (a b k : Int) (w : World) (ha0 : -9223372036854775808 ≤ a) (ha1 : a ≤ 9223372036854775807) (hb0 : -9223372036854775808 ≤ b) (hb1 : b ≤ 9223372036854775807) :
    Calls Tryd.prog 22 #[.int .i64 a, .int .i64 b, .int .i64 k] w fun e w' => e = .returned (.int .i64 (Un.twV a b k)) ∧ w = w' := by
  have hcr := Un.clV_range (n := k) (l := 0) (h := 10000) (by omega)
  generalize hc : Un.clV k 0 10000 = c at hcr
  have HC := Lib.hid hc
  clear hc
  by_cases hab : a ≤ b
  · have hv : Hid (Un.twV a b k = a + Un.ptV (b - a) c) := by show _ = _; unfold Un.twV; rw [if_pos hab, HC.out]
    have hp := Un.pt_range (u := b - a) (k := c) (by omega) hcr.1 hcr.2
    have Hs := Lib.hid (u64_sub b a (by omega) ha0 hb1)
    have hp1 := hp.1; have hp2 := hp.2.1
    clear hp
    go_enter Tryd.func22, Tryd.ntmps22
    go_wp2_with fail
    (with_reducible refine (rclamp_eq _ _ _ _ HC _).mono ?_)
    rintro e w1 ⟨rfl, rfl⟩
    go_wp2_with fail
    simp only [Hs.out]
    (with_reducible refine (part_any _ _ _ (by omega) (by omega) (by omega) (by omega)).mono ?_)
    rintro e w1 ⟨rfl, rfl⟩
    go_wp2_with fail
    go_ret
    exact ⟨ret_int (by rw [hv.out]; exact back_add a _ ha0 hp1 (by omega)), rfl⟩
  · have hv : Hid (Un.twV a b k = a - Un.ptV (a - b) c) := by show _ = _; unfold Un.twV; rw [if_neg hab, HC.out]
    have hp := Un.pt_range (u := a - b) (k := c) (by omega) hcr.1 hcr.2
    have Hs := Lib.hid (u64_sub a b (by omega) hb0 ha1)
    have hp1 := hp.1; have hp2 := hp.2.1
    clear hp
    go_enter Tryd.func22, Tryd.ntmps22
    go_wp2_with fail
    (with_reducible refine (rclamp_eq _ _ _ _ HC _).mono ?_)
    rintro e w1 ⟨rfl, rfl⟩
    go_wp2_with fail
    simp only [Hs.out]
    (with_reducible refine (part_any _ _ _ (by omega) (by omega) (by omega) (by omega)).mono ?_)
    rintro e w1 ⟨rfl, rfl⟩
    go_wp2_with fail
    go_ret
    exact ⟨ret_int (by rw [hv.out]; exact back_sub a _ ha1 hp1 (by omega)), rfl⟩

/-! ### Root -/
def SomeRoot (n : Int) (w : World) (e : Ending) (w' : World) : Prop := ∃ r : Int, Un.IsRoot n r ∧ e = .returned (.int .i64 r) ∧ w = w'
/-- The bit that is next where i bits are left; 0 behind the last one. -/
def pwB : Nat → Int
  | 0 => 0
  | i + 1 => ((2 ^ i : Nat) : Int)
/-- What holds of the root where i bits are left. -/
structure RtInv (n : Int) (i r : Nat) : Prop where
  mul : r % 2 ^ i = 0
  hi : r + 2 ^ i ≤ 4294967296
  sq : ((r * r : Nat) : Int) ≤ n
  nx : n < (((r + 2 ^ i) * (r + 2 ^ i) : Nat) : Int)
theorem RtInv.next {n : Int} {i r : Nat} (h : RtInv n (i + 1) r) : bits .or .u64 (r : Int) ((2 ^ i : Nat) : Int) = ((r + 2 ^ i : Nat) : Int) ∧ (r + 2 ^ i) ≤ 4294967295 ∧ ((((r + 2 ^ i) * (r + 2 ^ i) : Nat) : Int) ≤ n → RtInv n i (r + 2 ^ i)) ∧ (¬ (((r + 2 ^ i) * (r + 2 ^ i) : Nat) : Int) ≤ n → RtInv n i r) := by
  obtain ⟨h1, h2, h3, h4⟩ := h
  have hp : 0 < 2 ^ i := Nat.pow_pos (by omega)
  have e : 2 ^ (i + 1) = 2 ^ i + 2 ^ i := by rw [Nat.pow_succ]; omega
  rw [e] at h2 h4
  have hm : r % 2 ^ i = 0 := by
    have : 2 ^ i ∣ 2 ^ (i + 1) := Nat.pow_dvd_pow 2 (by omega)
    have h5 : 2 ^ (i + 1) ∣ r := Nat.dvd_of_mod_eq_zero h1
    exact Nat.mod_eq_zero_of_dvd (Nat.dvd_trans this h5)
  refine ⟨?_, by omega, fun g => ⟨?_, by omega, g, ?_⟩, fun g => ⟨hm, by omega, h3, by omega⟩⟩
  · rw [bits_or_u64_nat r (2 ^ i) (by omega) (by omega), Un.or_bit r i h1]
  · rw [Nat.add_mod, hm]; simp
  · rw [show r + 2 ^ i + 2 ^ i = r + (2 ^ i + 2 ^ i) by omega]; exact h4
theorem pw_half (i : Nat) : ((2 ^ i : Nat) : Int) / 2 = pwB i := by
  cases i with
  | zero => rfl
  | succ i => simp only [pwB]; rw [Nat.pow_succ]; omega
theorem rt_start {n : Int} (h0 : 0 ≤ n) (h1 : n ≤ 9223372036854775807) : RtInv n 32 0 := ⟨by simp, by simp, by simpa using h0, by simp; omega⟩
theorem rt_end {n : Int} {r : Nat} (h0 : 0 ≤ n) (h : RtInv n 0 r) : Un.IsRoot n (r : Int) :=
  ⟨by omega, fun g => by omega, fun _ => by have := h.sq; rwa [Int.natCast_mul] at this, fun _ => by have := h.nx; simpa using this⟩
set_option maxHeartbeats 2000000 in
theorem root_any (n : Int) (w : World) (h1 : n ≤ 9223372036854775807) :
    Calls Tryd.prog 23 #[.int .i64 n] w (SomeRoot n w) := by
  by_cases hn : n < 0
  · have hr : Hid (Un.IsRoot n 0) := ⟨by omega, fun _ => rfl, fun g => by omega, fun g => by omega⟩
    go_enter Tryd.func23, Tryd.ntmps23
    go_wp2
    go_ret
    exact ⟨0, hr.out, rfl, rfl⟩
  · have hst := Lib.hid (rt_start (n := n) (by omega) h1)
    have hn0 : 0 ≤ n := by omega
    go_enter Tryd.func23, Tryd.ntmps23
    go_wp2
    go_loop [3, 4] (fun v b => ∃ i r : Nat, v = .int .u64 r ∧ b = .int .u64 (pwB i) ∧ Hid (RtInv n i r)) (fun _ b => (intOf b).toNat)
    case atStart => exact ⟨32, 0, rfl, rfl, hst⟩
    case round =>
      obtain ⟨i, r, rfl, rfl, hI⟩ := hrel
      cases i with
      | zero =>
        have hR := Lib.hid (rt_end hn0 hI.out)
        have hhi := hI.out.hi
        simp only [pwB]
        go_wp2
        go_ret
        exact ⟨r, hR.out, rfl, rfl⟩
      | succ i =>
        obtain ⟨s1, s2, s3, s4⟩ := hI.out.next
        have hp : 0 < 2 ^ i := Nat.pow_pos (by omega)
        have e1 := pw_half i
        have hm : (r + 2 ^ i) * (r + 2 ^ i) ≤ 4294967295 * 4294967295 := Nat.mul_le_mul s2 s2
        simp only [pwB]
        generalize 2 ^ i = b at *
        have hb0 : (0 : Int) < (b : Int) := by omega
        have hb1 : (b : Int) ≤ 4294967295 := by omega
        have S3 := Lib.hid s3; have S4 := Lib.hid s4
        clear s3 s4 hI hst
        have e2 : ((r + b : Nat) : Int) * ((r + b : Nat) : Int) = (((r + b) * (r + b) : Nat) : Int) := (Int.natCast_mul _ _).symm
        generalize (r + b) * (r + b) = m at *
        generalize r + b = c at *
        have hm2 : (m : Int) ≤ 18446744065119617025 := by omega
        have hmes : (pwB i).toNat < b := by rw [← e1]; omega
        have HM := Lib.hid hmes
        clear hmes hm
        by_cases c1 : (m : Int) ≤ n
        · have hI2 := Lib.hid (S3.out c1)
          go_wp2
          go_round
          case rel => exact ⟨i, c, rfl, rfl, hI2⟩
          case measure => simp [intOf]; exact HM.out
        · have hI2 := Lib.hid (S4.out c1)
          go_wp2
          go_round
          case rel => exact ⟨i, r, rfl, rfl, hI2⟩
          case measure => simp [intOf]; exact HM.out
end Go.Proofs.YtknfdnlmkjhmcaaDoor
