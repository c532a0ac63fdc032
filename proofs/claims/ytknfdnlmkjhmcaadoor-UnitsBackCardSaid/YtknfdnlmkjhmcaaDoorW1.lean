/- Package units and its reference: Clamp, Floor, Nearest. -/
import Derived.Test.YtknfdnlmkjhmcaaDoorK
import Derived.Test.YtknfdnlmkjhmcaaDoorU1
import Derived.Test.YtknfdnlmkjhmcaaDoorV0
import Derived.Laws.EntriesVeiled
namespace Go.Proofs.YtknfdnlmkjhmcaaDoor
open Go.RowKit
set_option linter.unusedVariables false

theorem ret_ib {k : IntKind} {a b : Int} {c d : Bool} (h : a = b) (h' : c = d) : Ending.returned (.tuple #[.int k a, .bool c]) = .returned (.tuple #[.int k b, .bool d]) := by rw [h, h']

theorem clamp_any (n l h : Int) (w : World) :
    Calls Tryd.prog 19 #[.int .i64 n, .int .i64 l, .int .i64 h] w fun e w' => e = .returned (.int .i64 (Un.clV n l h)) ∧ w = w' := by
  by_cases h1 : h < l
  · have hv : Hid (Un.clV n l h = l) := by show _ = _; unfold Un.clV; rw [if_pos (by omega)]
    go_enter Tryd.func19, Tryd.ntmps19
    go_wp2
    go_ret
    exact ⟨ret_int hv.out.symm, rfl⟩
  · by_cases h2 : n < l
    · have hv : Hid (Un.clV n l h = l) := by show _ = _; unfold Un.clV; rw [if_pos (by omega)]
      go_enter Tryd.func19, Tryd.ntmps19
      go_wp2
      go_ret
      exact ⟨ret_int hv.out.symm, rfl⟩
    · by_cases h3 : h < n
      · have hv : Hid (Un.clV n l h = h) := by show _ = _; unfold Un.clV; rw [if_neg (by omega), if_pos (by omega)]
        go_enter Tryd.func19, Tryd.ntmps19
        go_wp2
        go_ret
        exact ⟨ret_int hv.out.symm, rfl⟩
      · have hv : Hid (Un.clV n l h = n) := by show _ = _; unfold Un.clV; rw [if_neg (by omega), if_neg (by omega)]
        go_enter Tryd.func19, Tryd.ntmps19
        go_wp2
        go_ret
        exact ⟨ret_int hv.out.symm, rfl⟩
theorem rclamp_any (n l h : Int) (w : World) :
    Calls Tryd.prog 20 #[.int .i64 n, .int .i64 l, .int .i64 h] w fun e w' => e = .returned (.int .i64 (Un.clV n l h)) ∧ w = w' := by
  by_cases h1 : h < l
  · have hv : Hid (Un.clV n l h = l) := by show _ = _; unfold Un.clV; rw [if_pos (by omega)]
    go_enter Tryd.func20, Tryd.ntmps20
    go_wp2
    go_ret
    exact ⟨ret_int hv.out.symm, rfl⟩
  · by_cases h2 : n < l
    · have hv : Hid (Un.clV n l h = l) := by show _ = _; unfold Un.clV; rw [if_pos (by omega)]
      go_enter Tryd.func20, Tryd.ntmps20
      go_wp2
      go_ret
      exact ⟨ret_int hv.out.symm, rfl⟩
    · by_cases h3 : h < n
      · have hv : Hid (Un.clV n l h = h) := by show _ = _; unfold Un.clV; rw [if_neg (by omega), if_pos (by omega)]
        go_enter Tryd.func20, Tryd.ntmps20
        go_wp2
        go_ret
        exact ⟨ret_int hv.out.symm, rfl⟩
      · have hv : Hid (Un.clV n l h = n) := by show _ = _; unfold Un.clV; rw [if_neg (by omega), if_neg (by omega)]
        go_enter Tryd.func20, Tryd.ntmps20
        go_wp2
        go_ret
        exact ⟨ret_int hv.out.symm, rfl⟩

theorem raise_no (x y : Int) (w : World) : Calls Tryd.prog 30 #[.int .u64 x, .int .u64 y] w fun e w' => e = .returned (.bool false) ∧ w = w' := by
  go_enter Tryd.func30, Tryd.ntmps30
  go_wp2
  go_ret
  exact ⟨rfl, rfl⟩
theorem raise_near (x y : Int) (w : World) (h0 : 0 ≤ x) (h1 : x ≤ y) (h2 : y ≤ 18446744073709551615) : Calls Tryd.prog 32 #[.int .u64 x, .int .u64 y] w fun e w' => e = .returned (.bool (decide (y ≤ 2 * x))) ∧ w = w' := by
  by_cases h : y - x ≤ x
  · have hv : Hid (decide (y ≤ 2 * x) = true) := decide_eq_true (by omega)
    go_enter Tryd.func32, Tryd.ntmps32
    go_wp2
    go_ret
    exact ⟨ret_bool hv.out.symm, rfl⟩
  · have hv : Hid (decide (y ≤ 2 * x) = false) := decide_eq_false (by omega)
    go_enter Tryd.func32, Tryd.ntmps32
    go_wp2
    go_ret
    exact ⟨ret_bool hv.out.symm, rfl⟩

theorem rest_eq (a q b r : Int) (h : a - q * b = r) (h0 : -9223372036854775808 ≤ r) (h1 : r ≤ 9223372036854775807) : wrap64 (a - wrap64 (q * b)) = r := by
  unfold wrap64
  generalize q * b = p at *
  omega
/-- What the walk of divide needs of the quotient. -/
structure Dv (a b q0 r0 q r : Int) : Prop where
  quo : a.tdiv b = q0
  rem : a.tmod b = r0
  q0lo : -9223372036854775808 ≤ q0
  q0hi : q0 ≤ 9223372036854775807
  qlo : -9223372036854775808 ≤ q
  qhi : q ≤ 9223372036854775807
  cor : (r0 ≠ 0 ∧ ¬ (a < 0 ↔ b < 0) ∧ q = q0 - 1) ∨ (¬ (r0 ≠ 0 ∧ ¬ (a < 0 ↔ b < 0)) ∧ q = q0)
  rest : wrap64 (a - wrap64 (q * b)) = r
  rle : r.natAbs ≤ b.natAbs
  rlo : -9223372036854775808 ≤ r
  rhi : r ≤ 9223372036854775807
  val : q = Un.flD a b
  ups : Un.up a b = decide ((b.natAbs : Int) ≤ 2 * (r.natAbs : Int))
theorem dv_of {a b : Int} (ha0 : -9223372036854775808 ≤ a) (ha1 : a ≤ 9223372036854775807) (hb0 : -9223372036854775808 ≤ b) (hb1 : b ≤ 9223372036854775807) (h : Un.flOk a b = true) :
    Dv a b (a.tdiv b) (a.tmod b) (Un.flD a b) (a - Un.flD a b * b) := by
  have f := Un.fl_of ha0 ha1 h
  have hb : b ≠ 0 := by
    simp only [Un.flOk, Bool.and_eq_true, Bool.not_eq_true', beq_eq_false_iff_ne] at h
    exact h.1
  obtain ⟨e, p, n, q1, q2⟩ := Un.tdiv_facts a b hb
  have hcor : (a.tmod b ≠ 0 ∧ ¬ (a < 0 ↔ b < 0) ∧ Un.flD a b = a.tdiv b - 1) ∨ (¬ (a.tmod b ≠ 0 ∧ ¬ (a < 0 ↔ b < 0)) ∧ Un.flD a b = a.tdiv b) := by
    unfold Un.flD
    by_cases c : a.tmod b ≠ 0 ∧ ¬ (a < 0 ↔ b < 0)
    · left; exact ⟨c.1, c.2, by rw [if_pos c]⟩
    · right; exact ⟨c, by rw [if_neg c]⟩
  have hr : (a - Un.flD a b * b).natAbs ≤ b.natAbs ∧ -9223372036854775808 ≤ a - Un.flD a b * b ∧ a - Un.flD a b * b ≤ 9223372036854775807 := by
    rcases Int.lt_or_gt_of_ne hb with g | g
    · have := f.neg g; omega
    · have := f.pos g; omega
  refine ⟨rfl, rfl, ?_, ?_, f.lo, f.hi, hcor, rest_eq _ _ _ _ rfl hr.2.1 hr.2.2, hr.1, hr.2.1, hr.2.2, rfl, ?_⟩
  · exact (Un.quo_range ha0 ha1 h).1
  · exact (Un.quo_range ha0 ha1 h).2
  · unfold Un.up
    congr 1
    rw [eq_iff_iff]
    rcases Int.lt_or_gt_of_ne hb with g | g
    · have := f.neg g; omega
    · have := f.pos g; omega
theorem mag_same (n : Int) (w : World) (h0 : -9223372036854775808 ≤ n) (h1 : n ≤ 9223372036854775807) :
    Calls Tryd.prog 34 #[.int .i64 n] w fun e w' => e = .returned (.int .u64 n.natAbs) ∧ w' = w := (mag_any n w h0 h1).mono fun _ _ ⟨a, b⟩ => ⟨a, b.symm⟩
theorem raise_no' (x y : Int) (w : World) : Calls Tryd.prog 30 #[.int .u64 x, .int .u64 y] w fun e w' => e = .returned (.bool false) ∧ w' = w := (raise_no x y w).mono fun _ _ ⟨a, b⟩ => ⟨a, b.symm⟩
set_option maxHeartbeats 2000000 in
theorem divide_floor (a b : Int) (w : World) (ha0 : -9223372036854775808 ≤ a) (ha1 : a ≤ 9223372036854775807) (hb0 : -9223372036854775808 ≤ b) (hb1 : b ≤ 9223372036854775807) :
    Calls Tryd.prog 31 #[.agg #[.func (.func 30) #[] #[]], .int .i64 a, .int .i64 b] w fun e w' => e = .returned (.tuple #[.int .i64 (Un.flQ a b), .bool (Un.flOk a b)]) ∧ Below w.heap.size w w' := by
  by_cases hok : Un.flOk a b = true
  · have D := dv_of ha0 ha1 hb0 hb1 hok
    generalize a.tdiv b = q0 at D
    generalize a.tmod b = r0 at D
    have hQ : Un.flQ a b = Un.flD a b := by simp [Un.flQ, hok]
    have HQ := Lib.hid hQ
    clear hQ
    generalize hq : Un.flD a b = q at D
    have Hq := Lib.hid hq
    clear hq
    generalize a - q * b = r at D
    have hb : (b == 0) = false := by
      simp only [Un.flOk, Bool.and_eq_true, Bool.not_eq_true'] at hok
      exact hok.1
    have hb' : ¬ b = 0 := by simpa using hb
    have hab : (a == -9223372036854775808 && b == -1) = false := by
      simp only [Un.flOk, Bool.and_eq_true, Bool.not_eq_true'] at hok
      exact hok.2
    have HO := Lib.hid hok
    clear hok
    cases ha : (a == -9223372036854775808) with
    | true =>
      have hb' : (b == -1) = false := by rw [ha] at hab; exact hab
      clear hab
      have e1 := D.quo; have e2 := D.rem; have e3 := D.q0lo; have e4 := D.q0hi; have e5 := D.qlo; have e6 := D.qhi; have e7 := D.rlo; have e8 := D.rhi; have e9 := D.rle
      have R3 := Lib.hid D.rest; have U3 := Lib.hid D.ups
      rcases D.cor with ⟨c1, c2, c3⟩ | ⟨c1, c3⟩
      · have g1 : (r0 != 0) = true := by simpa using c1
        have H3 := Lib.hid c3.symm
        have e10 : -9223372036854775808 ≤ q0 - 1 := by omega
        clear D c3 c1
        by_cases na : a < 0
        · have nb : ¬ b < 0 := fun h => c2 ⟨fun _ => h, fun _ => na⟩
          have n1 : decide (a < 0) = true := decide_eq_true na
          have n2 : decide (b < 0) = false := decide_eq_false nb
          clear c2
          go_enter Tryd.func31, Tryd.ntmps31
          go_wp2_with fail
          try rw [H3.out]
          rw [R3.out]
          go_quiet ((
            first | (go_at_call 34; (with_reducible exact Calls.quiet_of_same (mag_same _ _ (by omega) (by omega)))) | (go_at_call 30; (with_reducible exact Calls.quiet_of_same (raise_no' _ _ _)))
            ))
          go_wp2_with fail
          go_ret2
          exact ⟨ret_ib (by rw [HQ.out, Hq.out]) HO.out.symm, below_drewN ((Below.refl _ _).alloc (Nat.le_refl _) _) _⟩
        · have nb : b < 0 := Classical.byContradiction fun h => c2 ⟨fun g => absurd g na, fun g => absurd g h⟩
          have n1 : decide (a < 0) = false := decide_eq_false na
          have n2 : decide (b < 0) = true := decide_eq_true nb
          clear c2
          go_enter Tryd.func31, Tryd.ntmps31
          go_wp2_with fail
          try rw [H3.out]
          rw [R3.out]
          go_quiet ((
            first | (go_at_call 34; (with_reducible exact Calls.quiet_of_same (mag_same _ _ (by omega) (by omega)))) | (go_at_call 30; (with_reducible exact Calls.quiet_of_same (raise_no' _ _ _)))
            ))
          go_wp2_with fail
          go_ret2
          exact ⟨ret_ib (by rw [HQ.out, Hq.out]) HO.out.symm, below_drewN ((Below.refl _ _).alloc (Nat.le_refl _) _) _⟩
      · subst c3
        clear D
        by_cases g0 : r0 = 0
        · have g1 : (r0 != 0) = false := by simp [g0]
          clear c1 g0
          have H3 := Lib.hid (rfl : q = q)
          go_enter Tryd.func31, Tryd.ntmps31
          go_wp2_with fail
          try rw [H3.out]
          rw [R3.out]
          go_quiet ((
            first | (go_at_call 34; (with_reducible exact Calls.quiet_of_same (mag_same _ _ (by omega) (by omega)))) | (go_at_call 30; (with_reducible exact Calls.quiet_of_same (raise_no' _ _ _)))
            ))
          go_wp2_with fail
          go_ret2
          exact ⟨ret_ib (by rw [HQ.out, Hq.out]) HO.out.symm, below_drewN ((Below.refl _ _).alloc (Nat.le_refl _) _) _⟩
        · have g1 : (r0 != 0) = true := by simpa using g0
          have H3 := Lib.hid (rfl : q = q)
          by_cases na : a < 0
          · have nb : b < 0 := Classical.byContradiction fun h => c1 ⟨g0, fun g => h (g.1 na)⟩
            have n1 : decide (a < 0) = true := decide_eq_true na
            have n2 : decide (b < 0) = true := decide_eq_true nb
            clear c1 g0
            go_enter Tryd.func31, Tryd.ntmps31
            go_wp2_with fail
            try rw [H3.out]
            rw [R3.out]
            go_quiet ((
              first | (go_at_call 34; (with_reducible exact Calls.quiet_of_same (mag_same _ _ (by omega) (by omega)))) | (go_at_call 30; (with_reducible exact Calls.quiet_of_same (raise_no' _ _ _)))
              ))
            go_wp2_with fail
            go_ret2
            exact ⟨ret_ib (by rw [HQ.out, Hq.out]) HO.out.symm, below_drewN ((Below.refl _ _).alloc (Nat.le_refl _) _) _⟩
          · have nb : ¬ b < 0 := fun h => c1 ⟨g0, fun g => na (g.2 h)⟩
            have n1 : decide (a < 0) = false := decide_eq_false na
            have n2 : decide (b < 0) = false := decide_eq_false nb
            clear c1 g0
            go_enter Tryd.func31, Tryd.ntmps31
            go_wp2_with fail
            try rw [H3.out]
            rw [R3.out]
            go_quiet ((
              first | (go_at_call 34; (with_reducible exact Calls.quiet_of_same (mag_same _ _ (by omega) (by omega)))) | (go_at_call 30; (with_reducible exact Calls.quiet_of_same (raise_no' _ _ _)))
              ))
            go_wp2_with fail
            go_ret2
            exact ⟨ret_ib (by rw [HQ.out, Hq.out]) HO.out.symm, below_drewN ((Below.refl _ _).alloc (Nat.le_refl _) _) _⟩
    | false =>
      clear hab
      have e1 := D.quo; have e2 := D.rem; have e3 := D.q0lo; have e4 := D.q0hi; have e5 := D.qlo; have e6 := D.qhi; have e7 := D.rlo; have e8 := D.rhi; have e9 := D.rle
      have R3 := Lib.hid D.rest; have U3 := Lib.hid D.ups
      rcases D.cor with ⟨c1, c2, c3⟩ | ⟨c1, c3⟩
      · have g1 : (r0 != 0) = true := by simpa using c1
        have H3 := Lib.hid c3.symm
        have e10 : -9223372036854775808 ≤ q0 - 1 := by omega
        clear D c3 c1
        by_cases na : a < 0
        · have nb : ¬ b < 0 := fun h => c2 ⟨fun _ => h, fun _ => na⟩
          have n1 : decide (a < 0) = true := decide_eq_true na
          have n2 : decide (b < 0) = false := decide_eq_false nb
          clear c2
          go_enter Tryd.func31, Tryd.ntmps31
          go_wp2_with fail
          try rw [H3.out]
          rw [R3.out]
          go_quiet ((
            first | (go_at_call 34; (with_reducible exact Calls.quiet_of_same (mag_same _ _ (by omega) (by omega)))) | (go_at_call 30; (with_reducible exact Calls.quiet_of_same (raise_no' _ _ _)))
            ))
          go_wp2_with fail
          go_ret2
          exact ⟨ret_ib (by rw [HQ.out, Hq.out]) HO.out.symm, below_drewN ((Below.refl _ _).alloc (Nat.le_refl _) _) _⟩
        · have nb : b < 0 := Classical.byContradiction fun h => c2 ⟨fun g => absurd g na, fun g => absurd g h⟩
          have n1 : decide (a < 0) = false := decide_eq_false na
          have n2 : decide (b < 0) = true := decide_eq_true nb
          clear c2
          go_enter Tryd.func31, Tryd.ntmps31
          go_wp2_with fail
          try rw [H3.out]
          rw [R3.out]
          go_quiet ((
            first | (go_at_call 34; (with_reducible exact Calls.quiet_of_same (mag_same _ _ (by omega) (by omega)))) | (go_at_call 30; (with_reducible exact Calls.quiet_of_same (raise_no' _ _ _)))
            ))
          go_wp2_with fail
          go_ret2
          exact ⟨ret_ib (by rw [HQ.out, Hq.out]) HO.out.symm, below_drewN ((Below.refl _ _).alloc (Nat.le_refl _) _) _⟩
      · subst c3
        clear D
        by_cases g0 : r0 = 0
        · have g1 : (r0 != 0) = false := by simp [g0]
          clear c1 g0
          have H3 := Lib.hid (rfl : q = q)
          go_enter Tryd.func31, Tryd.ntmps31
          go_wp2_with fail
          try rw [H3.out]
          rw [R3.out]
          go_quiet ((
            first | (go_at_call 34; (with_reducible exact Calls.quiet_of_same (mag_same _ _ (by omega) (by omega)))) | (go_at_call 30; (with_reducible exact Calls.quiet_of_same (raise_no' _ _ _)))
            ))
          go_wp2_with fail
          go_ret2
          exact ⟨ret_ib (by rw [HQ.out, Hq.out]) HO.out.symm, below_drewN ((Below.refl _ _).alloc (Nat.le_refl _) _) _⟩
        · have g1 : (r0 != 0) = true := by simpa using g0
          have H3 := Lib.hid (rfl : q = q)
          by_cases na : a < 0
          · have nb : b < 0 := Classical.byContradiction fun h => c1 ⟨g0, fun g => h (g.1 na)⟩
            have n1 : decide (a < 0) = true := decide_eq_true na
            have n2 : decide (b < 0) = true := decide_eq_true nb
            clear c1 g0
            go_enter Tryd.func31, Tryd.ntmps31
            go_wp2_with fail
            try rw [H3.out]
            rw [R3.out]
            go_quiet ((
              first | (go_at_call 34; (with_reducible exact Calls.quiet_of_same (mag_same _ _ (by omega) (by omega)))) | (go_at_call 30; (with_reducible exact Calls.quiet_of_same (raise_no' _ _ _)))
              ))
            go_wp2_with fail
            go_ret2
            exact ⟨ret_ib (by rw [HQ.out, Hq.out]) HO.out.symm, below_drewN ((Below.refl _ _).alloc (Nat.le_refl _) _) _⟩
          · have nb : ¬ b < 0 := fun h => c1 ⟨g0, fun g => na (g.2 h)⟩
            have n1 : decide (a < 0) = false := decide_eq_false na
            have n2 : decide (b < 0) = false := decide_eq_false nb
            clear c1 g0
            go_enter Tryd.func31, Tryd.ntmps31
            go_wp2_with fail
            try rw [H3.out]
            rw [R3.out]
            go_quiet ((
              first | (go_at_call 34; (with_reducible exact Calls.quiet_of_same (mag_same _ _ (by omega) (by omega)))) | (go_at_call 30; (with_reducible exact Calls.quiet_of_same (raise_no' _ _ _)))
              ))
            go_wp2_with fail
            go_ret2
            exact ⟨ret_ib (by rw [HQ.out, Hq.out]) HO.out.symm, below_drewN ((Below.refl _ _).alloc (Nat.le_refl _) _) _⟩
  · have hok' : Un.flOk a b = false := by simpa using hok
    have hQ : Hid (Un.flQ a b = 0) := by show _ = _; simp [Un.flQ, hok']
    have hO := Lib.hid hok'
    simp only [Un.flOk, Bool.and_eq_false_iff, Bool.not_eq_false', Bool.and_eq_true, beq_iff_eq] at hok'
    rcases hok' with rfl | ⟨rfl, rfl⟩
    all_goals
      go_enter Tryd.func31, Tryd.ntmps31
      go_wp2
      go_ret2
      exact ⟨ret_ib hQ.out.symm hO.out.symm, (Below.refl _ _).alloc (Nat.le_refl _) _⟩

theorem raise_near' (x y : Int) (w : World) (h0 : 0 ≤ x) (h1 : x ≤ y) (h2 : y ≤ 18446744073709551615) (b : Bool) (hb : Hid (decide (y ≤ 2 * x) = b)) : Calls Tryd.prog 32 #[.int .u64 x, .int .u64 y] w fun e w' => e = .returned (.bool b) ∧ w' = w := by
  have := raise_near x y w h0 h1 h2
  rw [hb.out] at this
  exact this.mono fun _ _ ⟨a, b⟩ => ⟨a, b.symm⟩
set_option maxHeartbeats 4000000 in
theorem divide_near (a b : Int) (w : World) (ha0 : -9223372036854775808 ≤ a) (ha1 : a ≤ 9223372036854775807) (hb0 : -9223372036854775808 ≤ b) (hb1 : b ≤ 9223372036854775807) :
    Calls Tryd.prog 31 #[.agg #[.func (.func 32) #[] #[]], .int .i64 a, .int .i64 b] w fun e w' => e = .returned (.tuple #[.int .i64 (Un.nrQ a b), .bool (Un.flOk a b)]) ∧ Below w.heap.size w w' := by
  by_cases hok : Un.flOk a b = true
  · have D := dv_of ha0 ha1 hb0 hb1 hok
    generalize a.tdiv b = q0 at D
    generalize a.tmod b = r0 at D
    have hQ : Un.nrQ a b = if Un.up a b then Un.flD a b + 1 else Un.flD a b := by simp [Un.nrQ, hok]
    have HQ := Lib.hid hQ
    clear hQ
    generalize hq : Un.flD a b = q at D
    have Hq := Lib.hid hq
    clear hq
    generalize a - q * b = r at D
    have hb : (b == 0) = false := by
      simp only [Un.flOk, Bool.and_eq_true, Bool.not_eq_true'] at hok
      exact hok.1
    have hb' : ¬ b = 0 := by simpa using hb
    have hab : (a == -9223372036854775808 && b == -1) = false := by
      simp only [Un.flOk, Bool.and_eq_true, Bool.not_eq_true'] at hok
      exact hok.2
    have HO := Lib.hid hok
    clear hok
    cases ha : (a == -9223372036854775808) with
    | true =>
      have hb' : (b == -1) = false := by rw [ha] at hab; exact hab
      clear hab
      cases hup : Un.up a b with
      | true =>
        have hup' := hup
        rw [D.ups] at hup'
        have e11 : q + 1 ≤ 9223372036854775807 := by have := Un.up_hi ha0 ha1 hb0 hb1 HO.out hup; rw [Hq.out] at this; exact this
        have hup := Lib.hid hup
        have hup2 := Lib.hid hup'
        clear hup'
        have e1 := D.quo; have e2 := D.rem; have e3 := D.q0lo; have e4 := D.q0hi; have e5 := D.qlo; have e6 := D.qhi; have e7 := D.rlo; have e8 := D.rhi; have e9 := D.rle
        have R3 := Lib.hid D.rest; have U3 := Lib.hid D.ups
        rcases D.cor with ⟨c1, c2, c3⟩ | ⟨c1, c3⟩
        · have g1 : (r0 != 0) = true := by simpa using c1
          have H3 := Lib.hid c3.symm
          have e10 : -9223372036854775808 ≤ q0 - 1 := by omega
          clear D c3 c1
          by_cases na : a < 0
          · have nb : ¬ b < 0 := fun h => c2 ⟨fun _ => h, fun _ => na⟩
            have n1 : decide (a < 0) = true := decide_eq_true na
            have n2 : decide (b < 0) = false := decide_eq_false nb
            clear c2
            go_enter Tryd.func31, Tryd.ntmps31
            go_wp2_with fail
            try rw [H3.out]
            rw [R3.out]
            go_quiet ((
              first | (go_at_call 34; (with_reducible exact Calls.quiet_of_same (mag_same _ _ (by omega) (by omega)))) | (go_at_call 32; (with_reducible exact Calls.quiet_of_same (raise_near' _ _ _ (by omega) (by omega) (by omega) _ hup2)))
              ))
            go_wp2_with fail
            go_ret2
            exact ⟨ret_ib (by rw [HQ.out, hup.out, Hq.out]; rfl) HO.out.symm, below_drewN ((Below.refl _ _).alloc (Nat.le_refl _) _) _⟩
          · have nb : b < 0 := Classical.byContradiction fun h => c2 ⟨fun g => absurd g na, fun g => absurd g h⟩
            have n1 : decide (a < 0) = false := decide_eq_false na
            have n2 : decide (b < 0) = true := decide_eq_true nb
            clear c2
            go_enter Tryd.func31, Tryd.ntmps31
            go_wp2_with fail
            try rw [H3.out]
            rw [R3.out]
            go_quiet ((
              first | (go_at_call 34; (with_reducible exact Calls.quiet_of_same (mag_same _ _ (by omega) (by omega)))) | (go_at_call 32; (with_reducible exact Calls.quiet_of_same (raise_near' _ _ _ (by omega) (by omega) (by omega) _ hup2)))
              ))
            go_wp2_with fail
            go_ret2
            exact ⟨ret_ib (by rw [HQ.out, hup.out, Hq.out]; rfl) HO.out.symm, below_drewN ((Below.refl _ _).alloc (Nat.le_refl _) _) _⟩
        · subst c3
          clear D
          by_cases g0 : r0 = 0
          · have g1 : (r0 != 0) = false := by simp [g0]
            clear c1 g0
            have H3 := Lib.hid (rfl : q = q)
            go_enter Tryd.func31, Tryd.ntmps31
            go_wp2_with fail
            try rw [H3.out]
            rw [R3.out]
            go_quiet ((
              first | (go_at_call 34; (with_reducible exact Calls.quiet_of_same (mag_same _ _ (by omega) (by omega)))) | (go_at_call 32; (with_reducible exact Calls.quiet_of_same (raise_near' _ _ _ (by omega) (by omega) (by omega) _ hup2)))
              ))
            go_wp2_with fail
            go_ret2
            exact ⟨ret_ib (by rw [HQ.out, hup.out, Hq.out]; rfl) HO.out.symm, below_drewN ((Below.refl _ _).alloc (Nat.le_refl _) _) _⟩
          · have g1 : (r0 != 0) = true := by simpa using g0
            have H3 := Lib.hid (rfl : q = q)
            by_cases na : a < 0
            · have nb : b < 0 := Classical.byContradiction fun h => c1 ⟨g0, fun g => h (g.1 na)⟩
              have n1 : decide (a < 0) = true := decide_eq_true na
              have n2 : decide (b < 0) = true := decide_eq_true nb
              clear c1 g0
              go_enter Tryd.func31, Tryd.ntmps31
              go_wp2_with fail
              try rw [H3.out]
              rw [R3.out]
              go_quiet ((
                first | (go_at_call 34; (with_reducible exact Calls.quiet_of_same (mag_same _ _ (by omega) (by omega)))) | (go_at_call 32; (with_reducible exact Calls.quiet_of_same (raise_near' _ _ _ (by omega) (by omega) (by omega) _ hup2)))
                ))
              go_wp2_with fail
              go_ret2
              exact ⟨ret_ib (by rw [HQ.out, hup.out, Hq.out]; rfl) HO.out.symm, below_drewN ((Below.refl _ _).alloc (Nat.le_refl _) _) _⟩
            · have nb : ¬ b < 0 := fun h => c1 ⟨g0, fun g => na (g.2 h)⟩
              have n1 : decide (a < 0) = false := decide_eq_false na
              have n2 : decide (b < 0) = false := decide_eq_false nb
              clear c1 g0
              go_enter Tryd.func31, Tryd.ntmps31
              go_wp2_with fail
              try rw [H3.out]
              rw [R3.out]
              go_quiet ((
                first | (go_at_call 34; (with_reducible exact Calls.quiet_of_same (mag_same _ _ (by omega) (by omega)))) | (go_at_call 32; (with_reducible exact Calls.quiet_of_same (raise_near' _ _ _ (by omega) (by omega) (by omega) _ hup2)))
                ))
              go_wp2_with fail
              go_ret2
              exact ⟨ret_ib (by rw [HQ.out, hup.out, Hq.out]; rfl) HO.out.symm, below_drewN ((Below.refl _ _).alloc (Nat.le_refl _) _) _⟩
      | false =>
        have hup' := hup
        rw [D.ups] at hup'
        have hup := Lib.hid hup
        have hup2 := Lib.hid hup'
        clear hup'
        have e1 := D.quo; have e2 := D.rem; have e3 := D.q0lo; have e4 := D.q0hi; have e5 := D.qlo; have e6 := D.qhi; have e7 := D.rlo; have e8 := D.rhi; have e9 := D.rle
        have R3 := Lib.hid D.rest; have U3 := Lib.hid D.ups
        rcases D.cor with ⟨c1, c2, c3⟩ | ⟨c1, c3⟩
        · have g1 : (r0 != 0) = true := by simpa using c1
          have H3 := Lib.hid c3.symm
          have e10 : -9223372036854775808 ≤ q0 - 1 := by omega
          clear D c3 c1
          by_cases na : a < 0
          · have nb : ¬ b < 0 := fun h => c2 ⟨fun _ => h, fun _ => na⟩
            have n1 : decide (a < 0) = true := decide_eq_true na
            have n2 : decide (b < 0) = false := decide_eq_false nb
            clear c2
            go_enter Tryd.func31, Tryd.ntmps31
            go_wp2_with fail
            try rw [H3.out]
            rw [R3.out]
            go_quiet ((
              first | (go_at_call 34; (with_reducible exact Calls.quiet_of_same (mag_same _ _ (by omega) (by omega)))) | (go_at_call 32; (with_reducible exact Calls.quiet_of_same (raise_near' _ _ _ (by omega) (by omega) (by omega) _ hup2)))
              ))
            go_wp2_with fail
            go_ret2
            exact ⟨ret_ib (by rw [HQ.out, hup.out, Hq.out]; rfl) HO.out.symm, below_drewN ((Below.refl _ _).alloc (Nat.le_refl _) _) _⟩
          · have nb : b < 0 := Classical.byContradiction fun h => c2 ⟨fun g => absurd g na, fun g => absurd g h⟩
            have n1 : decide (a < 0) = false := decide_eq_false na
            have n2 : decide (b < 0) = true := decide_eq_true nb
            clear c2
            go_enter Tryd.func31, Tryd.ntmps31
            go_wp2_with fail
            try rw [H3.out]
            rw [R3.out]
            go_quiet ((
              first | (go_at_call 34; (with_reducible exact Calls.quiet_of_same (mag_same _ _ (by omega) (by omega)))) | (go_at_call 32; (with_reducible exact Calls.quiet_of_same (raise_near' _ _ _ (by omega) (by omega) (by omega) _ hup2)))
              ))
            go_wp2_with fail
            go_ret2
            exact ⟨ret_ib (by rw [HQ.out, hup.out, Hq.out]; rfl) HO.out.symm, below_drewN ((Below.refl _ _).alloc (Nat.le_refl _) _) _⟩
        · subst c3
          clear D
          by_cases g0 : r0 = 0
          · have g1 : (r0 != 0) = false := by simp [g0]
            clear c1 g0
            have H3 := Lib.hid (rfl : q = q)
            go_enter Tryd.func31, Tryd.ntmps31
            go_wp2_with fail
            try rw [H3.out]
            rw [R3.out]
            go_quiet ((
              first | (go_at_call 34; (with_reducible exact Calls.quiet_of_same (mag_same _ _ (by omega) (by omega)))) | (go_at_call 32; (with_reducible exact Calls.quiet_of_same (raise_near' _ _ _ (by omega) (by omega) (by omega) _ hup2)))
              ))
            go_wp2_with fail
            go_ret2
            exact ⟨ret_ib (by rw [HQ.out, hup.out, Hq.out]; rfl) HO.out.symm, below_drewN ((Below.refl _ _).alloc (Nat.le_refl _) _) _⟩
          · have g1 : (r0 != 0) = true := by simpa using g0
            have H3 := Lib.hid (rfl : q = q)
            by_cases na : a < 0
            · have nb : b < 0 := Classical.byContradiction fun h => c1 ⟨g0, fun g => h (g.1 na)⟩
              have n1 : decide (a < 0) = true := decide_eq_true na
              have n2 : decide (b < 0) = true := decide_eq_true nb
              clear c1 g0
              go_enter Tryd.func31, Tryd.ntmps31
              go_wp2_with fail
              try rw [H3.out]
              rw [R3.out]
              go_quiet ((
                first | (go_at_call 34; (with_reducible exact Calls.quiet_of_same (mag_same _ _ (by omega) (by omega)))) | (go_at_call 32; (with_reducible exact Calls.quiet_of_same (raise_near' _ _ _ (by omega) (by omega) (by omega) _ hup2)))
                ))
              go_wp2_with fail
              go_ret2
              exact ⟨ret_ib (by rw [HQ.out, hup.out, Hq.out]; rfl) HO.out.symm, below_drewN ((Below.refl _ _).alloc (Nat.le_refl _) _) _⟩
            · have nb : ¬ b < 0 := fun h => c1 ⟨g0, fun g => na (g.2 h)⟩
              have n1 : decide (a < 0) = false := decide_eq_false na
              have n2 : decide (b < 0) = false := decide_eq_false nb
              clear c1 g0
              go_enter Tryd.func31, Tryd.ntmps31
              go_wp2_with fail
              try rw [H3.out]
              rw [R3.out]
              go_quiet ((
                first | (go_at_call 34; (with_reducible exact Calls.quiet_of_same (mag_same _ _ (by omega) (by omega)))) | (go_at_call 32; (with_reducible exact Calls.quiet_of_same (raise_near' _ _ _ (by omega) (by omega) (by omega) _ hup2)))
                ))
              go_wp2_with fail
              go_ret2
              exact ⟨ret_ib (by rw [HQ.out, hup.out, Hq.out]; rfl) HO.out.symm, below_drewN ((Below.refl _ _).alloc (Nat.le_refl _) _) _⟩
    | false =>
      clear hab
      cases hup : Un.up a b with
      | true =>
        have hup' := hup
        rw [D.ups] at hup'
        have e11 : q + 1 ≤ 9223372036854775807 := by have := Un.up_hi ha0 ha1 hb0 hb1 HO.out hup; rw [Hq.out] at this; exact this
        have hup := Lib.hid hup
        have hup2 := Lib.hid hup'
        clear hup'
        have e1 := D.quo; have e2 := D.rem; have e3 := D.q0lo; have e4 := D.q0hi; have e5 := D.qlo; have e6 := D.qhi; have e7 := D.rlo; have e8 := D.rhi; have e9 := D.rle
        have R3 := Lib.hid D.rest; have U3 := Lib.hid D.ups
        rcases D.cor with ⟨c1, c2, c3⟩ | ⟨c1, c3⟩
        · have g1 : (r0 != 0) = true := by simpa using c1
          have H3 := Lib.hid c3.symm
          have e10 : -9223372036854775808 ≤ q0 - 1 := by omega
          clear D c3 c1
          by_cases na : a < 0
          · have nb : ¬ b < 0 := fun h => c2 ⟨fun _ => h, fun _ => na⟩
            have n1 : decide (a < 0) = true := decide_eq_true na
            have n2 : decide (b < 0) = false := decide_eq_false nb
            clear c2
            go_enter Tryd.func31, Tryd.ntmps31
            go_wp2_with fail
            try rw [H3.out]
            rw [R3.out]
            go_quiet ((
              first | (go_at_call 34; (with_reducible exact Calls.quiet_of_same (mag_same _ _ (by omega) (by omega)))) | (go_at_call 32; (with_reducible exact Calls.quiet_of_same (raise_near' _ _ _ (by omega) (by omega) (by omega) _ hup2)))
              ))
            go_wp2_with fail
            go_ret2
            exact ⟨ret_ib (by rw [HQ.out, hup.out, Hq.out]; rfl) HO.out.symm, below_drewN ((Below.refl _ _).alloc (Nat.le_refl _) _) _⟩
          · have nb : b < 0 := Classical.byContradiction fun h => c2 ⟨fun g => absurd g na, fun g => absurd g h⟩
            have n1 : decide (a < 0) = false := decide_eq_false na
            have n2 : decide (b < 0) = true := decide_eq_true nb
            clear c2
            go_enter Tryd.func31, Tryd.ntmps31
            go_wp2_with fail
            try rw [H3.out]
            rw [R3.out]
            go_quiet ((
              first | (go_at_call 34; (with_reducible exact Calls.quiet_of_same (mag_same _ _ (by omega) (by omega)))) | (go_at_call 32; (with_reducible exact Calls.quiet_of_same (raise_near' _ _ _ (by omega) (by omega) (by omega) _ hup2)))
              ))
            go_wp2_with fail
            go_ret2
            exact ⟨ret_ib (by rw [HQ.out, hup.out, Hq.out]; rfl) HO.out.symm, below_drewN ((Below.refl _ _).alloc (Nat.le_refl _) _) _⟩
        · subst c3
          clear D
          by_cases g0 : r0 = 0
          · have g1 : (r0 != 0) = false := by simp [g0]
            clear c1 g0
            have H3 := Lib.hid (rfl : q = q)
            go_enter Tryd.func31, Tryd.ntmps31
            go_wp2_with fail
            try rw [H3.out]
            rw [R3.out]
            go_quiet ((
              first | (go_at_call 34; (with_reducible exact Calls.quiet_of_same (mag_same _ _ (by omega) (by omega)))) | (go_at_call 32; (with_reducible exact Calls.quiet_of_same (raise_near' _ _ _ (by omega) (by omega) (by omega) _ hup2)))
              ))
            go_wp2_with fail
            go_ret2
            exact ⟨ret_ib (by rw [HQ.out, hup.out, Hq.out]; rfl) HO.out.symm, below_drewN ((Below.refl _ _).alloc (Nat.le_refl _) _) _⟩
          · have g1 : (r0 != 0) = true := by simpa using g0
            have H3 := Lib.hid (rfl : q = q)
            by_cases na : a < 0
            · have nb : b < 0 := Classical.byContradiction fun h => c1 ⟨g0, fun g => h (g.1 na)⟩
              have n1 : decide (a < 0) = true := decide_eq_true na
              have n2 : decide (b < 0) = true := decide_eq_true nb
              clear c1 g0
              go_enter Tryd.func31, Tryd.ntmps31
              go_wp2_with fail
              try rw [H3.out]
              rw [R3.out]
              go_quiet ((
                first | (go_at_call 34; (with_reducible exact Calls.quiet_of_same (mag_same _ _ (by omega) (by omega)))) | (go_at_call 32; (with_reducible exact Calls.quiet_of_same (raise_near' _ _ _ (by omega) (by omega) (by omega) _ hup2)))
                ))
              go_wp2_with fail
              go_ret2
              exact ⟨ret_ib (by rw [HQ.out, hup.out, Hq.out]; rfl) HO.out.symm, below_drewN ((Below.refl _ _).alloc (Nat.le_refl _) _) _⟩
            · have nb : ¬ b < 0 := fun h => c1 ⟨g0, fun g => na (g.2 h)⟩
              have n1 : decide (a < 0) = false := decide_eq_false na
              have n2 : decide (b < 0) = false := decide_eq_false nb
              clear c1 g0
              go_enter Tryd.func31, Tryd.ntmps31
              go_wp2_with fail
              try rw [H3.out]
              rw [R3.out]
              go_quiet ((
                first | (go_at_call 34; (with_reducible exact Calls.quiet_of_same (mag_same _ _ (by omega) (by omega)))) | (go_at_call 32; (with_reducible exact Calls.quiet_of_same (raise_near' _ _ _ (by omega) (by omega) (by omega) _ hup2)))
                ))
              go_wp2_with fail
              go_ret2
              exact ⟨ret_ib (by rw [HQ.out, hup.out, Hq.out]; rfl) HO.out.symm, below_drewN ((Below.refl _ _).alloc (Nat.le_refl _) _) _⟩
      | false =>
        have hup' := hup
        rw [D.ups] at hup'
        have hup := Lib.hid hup
        have hup2 := Lib.hid hup'
        clear hup'
        have e1 := D.quo; have e2 := D.rem; have e3 := D.q0lo; have e4 := D.q0hi; have e5 := D.qlo; have e6 := D.qhi; have e7 := D.rlo; have e8 := D.rhi; have e9 := D.rle
        have R3 := Lib.hid D.rest; have U3 := Lib.hid D.ups
        rcases D.cor with ⟨c1, c2, c3⟩ | ⟨c1, c3⟩
        · have g1 : (r0 != 0) = true := by simpa using c1
          have H3 := Lib.hid c3.symm
          have e10 : -9223372036854775808 ≤ q0 - 1 := by omega
          clear D c3 c1
          by_cases na : a < 0
          · have nb : ¬ b < 0 := fun h => c2 ⟨fun _ => h, fun _ => na⟩
            have n1 : decide (a < 0) = true := decide_eq_true na
            have n2 : decide (b < 0) = false := decide_eq_false nb
            clear c2
            go_enter Tryd.func31, Tryd.ntmps31
            go_wp2_with fail
            try rw [H3.out]
            rw [R3.out]
            go_quiet ((
              first | (go_at_call 34; (with_reducible exact Calls.quiet_of_same (mag_same _ _ (by omega) (by omega)))) | (go_at_call 32; (with_reducible exact Calls.quiet_of_same (raise_near' _ _ _ (by omega) (by omega) (by omega) _ hup2)))
              ))
            go_wp2_with fail
            go_ret2
            exact ⟨ret_ib (by rw [HQ.out, hup.out, Hq.out]; rfl) HO.out.symm, below_drewN ((Below.refl _ _).alloc (Nat.le_refl _) _) _⟩
          · have nb : b < 0 := Classical.byContradiction fun h => c2 ⟨fun g => absurd g na, fun g => absurd g h⟩
            have n1 : decide (a < 0) = false := decide_eq_false na
            have n2 : decide (b < 0) = true := decide_eq_true nb
            clear c2
            go_enter Tryd.func31, Tryd.ntmps31
            go_wp2_with fail
            try rw [H3.out]
            rw [R3.out]
            go_quiet ((
              first | (go_at_call 34; (with_reducible exact Calls.quiet_of_same (mag_same _ _ (by omega) (by omega)))) | (go_at_call 32; (with_reducible exact Calls.quiet_of_same (raise_near' _ _ _ (by omega) (by omega) (by omega) _ hup2)))
              ))
            go_wp2_with fail
            go_ret2
            exact ⟨ret_ib (by rw [HQ.out, hup.out, Hq.out]; rfl) HO.out.symm, below_drewN ((Below.refl _ _).alloc (Nat.le_refl _) _) _⟩
        · subst c3
          clear D
          by_cases g0 : r0 = 0
          · have g1 : (r0 != 0) = false := by simp [g0]
            clear c1 g0
            have H3 := Lib.hid (rfl : q = q)
            go_enter Tryd.func31, Tryd.ntmps31
            go_wp2_with fail
            try rw [H3.out]
            rw [R3.out]
            go_quiet ((
              first | (go_at_call 34; (with_reducible exact Calls.quiet_of_same (mag_same _ _ (by omega) (by omega)))) | (go_at_call 32; (with_reducible exact Calls.quiet_of_same (raise_near' _ _ _ (by omega) (by omega) (by omega) _ hup2)))
              ))
            go_wp2_with fail
            go_ret2
            exact ⟨ret_ib (by rw [HQ.out, hup.out, Hq.out]; rfl) HO.out.symm, below_drewN ((Below.refl _ _).alloc (Nat.le_refl _) _) _⟩
          · have g1 : (r0 != 0) = true := by simpa using g0
            have H3 := Lib.hid (rfl : q = q)
            by_cases na : a < 0
            · have nb : b < 0 := Classical.byContradiction fun h => c1 ⟨g0, fun g => h (g.1 na)⟩
              have n1 : decide (a < 0) = true := decide_eq_true na
              have n2 : decide (b < 0) = true := decide_eq_true nb
              clear c1 g0
              go_enter Tryd.func31, Tryd.ntmps31
              go_wp2_with fail
              try rw [H3.out]
              rw [R3.out]
              go_quiet ((
                first | (go_at_call 34; (with_reducible exact Calls.quiet_of_same (mag_same _ _ (by omega) (by omega)))) | (go_at_call 32; (with_reducible exact Calls.quiet_of_same (raise_near' _ _ _ (by omega) (by omega) (by omega) _ hup2)))
                ))
              go_wp2_with fail
              go_ret2
              exact ⟨ret_ib (by rw [HQ.out, hup.out, Hq.out]; rfl) HO.out.symm, below_drewN ((Below.refl _ _).alloc (Nat.le_refl _) _) _⟩
            · have nb : ¬ b < 0 := fun h => c1 ⟨g0, fun g => na (g.2 h)⟩
              have n1 : decide (a < 0) = false := decide_eq_false na
              have n2 : decide (b < 0) = false := decide_eq_false nb
              clear c1 g0
              go_enter Tryd.func31, Tryd.ntmps31
              go_wp2_with fail
              try rw [H3.out]
              rw [R3.out]
              go_quiet ((
                first | (go_at_call 34; (with_reducible exact Calls.quiet_of_same (mag_same _ _ (by omega) (by omega)))) | (go_at_call 32; (with_reducible exact Calls.quiet_of_same (raise_near' _ _ _ (by omega) (by omega) (by omega) _ hup2)))
                ))
              go_wp2_with fail
              go_ret2
              exact ⟨ret_ib (by rw [HQ.out, hup.out, Hq.out]; rfl) HO.out.symm, below_drewN ((Below.refl _ _).alloc (Nat.le_refl _) _) _⟩
  · have hok' : Un.flOk a b = false := by simpa using hok
    have hQ : Hid (Un.nrQ a b = 0) := by show _ = _; simp [Un.nrQ, hok']
    have hO := Lib.hid hok'
    simp only [Un.flOk, Bool.and_eq_false_iff, Bool.not_eq_false', Bool.and_eq_true, beq_iff_eq] at hok'
    rcases hok' with rfl | ⟨rfl, rfl⟩
    all_goals
      go_enter Tryd.func31, Tryd.ntmps31
      go_wp2
      go_ret2
      exact ⟨ret_ib hQ.out.symm hO.out.symm, (Below.refl _ _).alloc (Nat.le_refl _) _⟩
theorem floor_any (a b : Int) (w : World) (ha0 : -9223372036854775808 ≤ a) (ha1 : a ≤ 9223372036854775807) (hb0 : -9223372036854775808 ≤ b) (hb1 : b ≤ 9223372036854775807) :
    Calls Tryd.prog 12 #[.int .i64 a, .int .i64 b] w fun e w' => e = .returned (.tuple #[.int .i64 (Un.flQ a b), .bool (Un.flOk a b)]) ∧ Below w.heap.size w w' := by
  go_enter Tryd.func12, Tryd.ntmps12
  go_wp2_with fail
  (with_reducible refine (divide_floor _ _ _ ha0 ha1 hb0 hb1).mono ?_)
  rintro e w1 ⟨rfl, hb⟩
  go_wp2_with fail
  go_ret2
  exact ⟨rfl, below_old ((Below.refl _ _).alloc (Nat.le_refl _) _) hb⟩
theorem nearest_any (a b : Int) (w : World) (ha0 : -9223372036854775808 ≤ a) (ha1 : a ≤ 9223372036854775807) (hb0 : -9223372036854775808 ≤ b) (hb1 : b ≤ 9223372036854775807) :
    Calls Tryd.prog 13 #[.int .i64 a, .int .i64 b] w fun e w' => e = .returned (.tuple #[.int .i64 (Un.nrQ a b), .bool (Un.flOk a b)]) ∧ Below w.heap.size w w' := by
  go_enter Tryd.func13, Tryd.ntmps13
  go_wp2_with fail
  (with_reducible refine (divide_near _ _ _ ha0 ha1 hb0 hb1).mono ?_)
  rintro e w1 ⟨rfl, hb⟩
  go_wp2_with fail
  go_ret2
  exact ⟨rfl, below_old ((Below.refl _ _).alloc (Nat.le_refl _) _) hb⟩
end Go.Proofs.YtknfdnlmkjhmcaaDoor
