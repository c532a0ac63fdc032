/- The walk of the law StackWeighs. -/
import Derived.Test.YtgkkhbhobbhlpaaS5
namespace Go.Proofs.Ytgkkhbhobbhlpaa
open Go.RowKit
set_option linter.unusedVariables false

theorem floor_add (x y d : Int) (hd : 0 < d) : (x + y) / d = x / d + y / d ∨ (x + y) / d = x / d + y / d + 1 := by
  have e1 := Int.mul_ediv_add_emod x d
  have e2 := Int.mul_ediv_add_emod y d
  have r1 := Int.emod_nonneg x (show d ≠ 0 by omega)
  have r2 := Int.emod_lt_of_pos x hd
  have r3 := Int.emod_nonneg y (show d ≠ 0 by omega)
  have r4 := Int.emod_lt_of_pos y hd
  by_cases h : x % d + y % d < d
  · left
    refine Md.floor_of (r := x % d + y % d) hd ?_ (by omega) h
    rw [Int.mul_add]; omega
  · right
    refine Md.floor_of (r := x % d + y % d - d) hd ?_ (by omega) (by omega)
    rw [Int.mul_add, Int.mul_add]; omega

theorem weigh_sum {a b l d : Int} (ha : 0 ≤ a ∧ a ≤ 500000000000) (hb : 0 ≤ b ∧ b ≤ 500000000000) (hl : 0 ≤ l ∧ l ≤ 2000) (hd : 0 ≤ d ∧ d ≤ 20000) :
    wtV (a + b) l d = wtV a l d + wtV b l d ∨ wtV (a + b) l d = wtV a l d + wtV b l d + 1 := by
  rw [wt_ok (v := a + b) ⟨by omega, hl, hd⟩, wt_ok (v := a) ⟨by omega, hl, hd⟩, wt_ok (v := b) ⟨by omega, hl, hd⟩, Int.add_mul, Int.add_mul]
  exact floor_add _ _ _ (by omega)
theorem weigh_mono {v l h d e : Int} (hv : 0 ≤ v ∧ v ≤ 1000000000000) (hl : 0 ≤ l) (hlh : l ≤ h) (hh : h ≤ 2000) (hd : 0 ≤ d) (hde : d ≤ e) (he : e ≤ 20000) : wtV v l d ≤ wtV v h e := by
  rw [wt_ok (v := v) (d := l) (m := d) ⟨hv, by omega, by omega⟩, wt_ok (v := v) (d := h) (m := e) ⟨hv, by omega, by omega⟩]
  apply Int.ediv_le_ediv (by omega)
  have h1 : v * l ≤ v * h := Int.mul_le_mul_of_nonneg_left hlh hv.1
  exact Int.mul_le_mul h1 (by omega) (by omega) (Int.mul_nonneg hv.1 (by omega))
theorem wt_range {v d m : Int} : 0 ≤ wtV v d m ∧ wtV v d m ≤ 6000000000 := by
  by_cases h : (0 ≤ v ∧ v ≤ 1000000000000) ∧ (0 ≤ d ∧ d ≤ 2000) ∧ 0 ≤ m ∧ m ≤ 20000
  · rw [wt_ok h]; exact (wt_bound h).2.2
  · rw [wt_no h]; omega

set_option maxRecDepth 100000 in
set_option maxHeartbeats 4000000 in
theorem stackWeighs_walk (a b x y s t : Int) (w : World) :
    Calls Try.prog 14 #[.agg #[.int .i64 a, .int .i64 b], .agg #[.int .i64 x, .int .i64 y], .agg #[.int .i64 s, .int .i64 t]] w fun e w' => e = .returned (.bool true) ∧ Below w.heap.size w w' := by
  have hB0 : Below w.heap.size w (((w.alloc (.cells #[.int .i64 a, .int .i64 b] 48)).alloc (.cells #[.int .i64 x, .int .i64 y] 48)).alloc (.cells #[.int .i64 s, .int .i64 t] 48)) := (((Below.refl _ _).alloc (Nat.le_refl _) _).alloc (by simp) _).alloc (by simp; omega) _
  obtain ⟨low, hlow⟩ : ∃ l, min x y = l := ⟨_, rfl⟩
  obtain ⟨high, hhigh⟩ : ∃ l, max x y = l := ⟨_, rfl⟩
  obtain ⟨dry, hdry⟩ : ∃ l, min s t = l := ⟨_, rfl⟩
  obtain ⟨wet, hwet⟩ : ∃ l, max s t = l := ⟨_, rfl⟩
  have lh : low ≤ high := by omega
  have dw : dry ≤ wet := by omega
  have HB0 := Lib.hid hB0
  clear hB0
  go_enter Try.func14, Try.ntmps14
  go_wp2_with fail
  go_quiet (fail)
  go_wp2_with fail
  go_quiet (fail)
  go_wp2_with fail
  go_quiet (fail)
  go_wp2_with fail
  all_goals (try (go_at_call 34; (with_reducible refine (awake_any _).mono ?_); rintro e w1 ⟨rfl, hb⟩; go_wp2_with fail; go_ret; exact ⟨rfl, below_old (below_drewN HB0.out _) hb⟩))
  have ha : 0 ≤ a ∧ a ≤ 500000000000 := by omega
  have hb : 0 ≤ b ∧ b ≤ 500000000000 := by omega
  have hl : 0 ≤ low ∧ high ≤ 2000 := by omega
  have hd : 0 ≤ dry ∧ wet ≤ 20000 := by omega
  have k1 := weigh_sum ha hb (l := low) (d := dry) (by omega) (by omega)
  have k2 := weigh_mono (v := a + b) (l := low) (h := high) (d := dry) (e := dry) (by omega) hl.1 lh hl.2 hd.1 (by omega) (by omega)
  have k3 := weigh_mono (v := a + b) (l := low) (h := low) (d := dry) (e := wet) (by omega) hl.1 (by omega) (by omega) hd.1 dw hd.2
  have r1 := wt_range (v := a + b) (d := low) (m := dry)
  have r2 := wt_range (v := a) (d := low) (m := dry)
  have r3 := wt_range (v := b) (d := low) (m := dry)
  obtain ⟨n, hn⟩ : ∃ n, wtV (a + b) low dry = n := ⟨_, rfl⟩
  obtain ⟨s1, hs1⟩ : ∃ n, wtV a low dry = n := ⟨_, rfl⟩
  obtain ⟨s2, hs2⟩ : ∃ n, wtV b low dry = n := ⟨_, rfl⟩
  obtain ⟨m1, hm1⟩ : ∃ n, wtV (a + b) high dry = n := ⟨_, rfl⟩
  obtain ⟨m2, hm2⟩ : ∃ n, wtV (a + b) low wet = n := ⟨_, rfl⟩
  rw [hn, hs1, hs2] at k1
  rw [hn, hm1] at k2
  rw [hn, hm2] at k3
  rw [hn] at r1
  rw [hs1] at r2
  rw [hs2] at r3
  have Hn := Lib.hid hn; have Hs1 := Lib.hid hs1; have Hs2 := Lib.hid hs2; have Hm1 := Lib.hid hm1; have Hm2 := Lib.hid hm2
  clear hn hs1 hs2 hm1 hm2
  rcases k1 with k1 | k1
  all_goals
    subst k1
    (with_reducible refine (weight_eq _ _ _ _ Hn _).mono ?_)
    rintro e w1 ⟨rfl, n1, rfl⟩
    go_wp2_with fail
    (with_reducible refine (weight_eq _ _ _ _ Hs1 _).mono ?_)
    rintro e w1 ⟨rfl, n2, rfl⟩
    go_wp2_with fail
    (with_reducible refine (weight_eq _ _ _ _ Hs2 _).mono ?_)
    rintro e w1 ⟨rfl, n3, rfl⟩
    go_wp2_with fail
    (with_reducible refine (weight_eq _ _ _ _ Hm1 _).mono ?_)
    rintro e w1 ⟨rfl, n4, rfl⟩
    go_wp2_with fail
    (with_reducible refine (weight_eq _ _ _ _ Hm2 _).mono ?_)
    rintro e w1 ⟨rfl, n5, rfl⟩
    go_wp2_with fail
    (with_reducible refine (awake_any _).mono ?_)
    rintro e w1 ⟨rfl, hb⟩
    go_wp2_with fail
    go_ret
    exact ⟨rfl, below_old (below_drewN HB0.out _) hb⟩
end Go.Proofs.Ytgkkhbhobbhlpaa
