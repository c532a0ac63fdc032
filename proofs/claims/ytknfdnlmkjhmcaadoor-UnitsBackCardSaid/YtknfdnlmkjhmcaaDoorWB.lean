/- The walks of the laws of chapter 1, second part. -/
import Derived.Test.YtknfdnlmkjhmcaaDoorWA
namespace Go.Proofs.YtknfdnlmkjhmcaaDoor
open Go.RowKit
set_option linter.unusedVariables false

set_option maxRecDepth 100000 in
set_option maxHeartbeats 4000000 in
theorem unitsFloors_walk (a b : Int) (wa : (Lit.int .i64 a).wf = true) (wb : (Lit.int .i64 b).wf = true) (w : World) (ht : TabOk w) :
    Calls Tryd.prog 8 #[.int .i64 a, .int .i64 b] w fun e w' => e = .returned (.bool true) ∧ Below w.heap.size w w' := by
  have HTAB := Lib.hid ht
  have H0 := Lib.hid (Below.refl w.heap.size w)
  obtain ⟨a0, a1⟩ := wfI wa
  obtain ⟨b0, b1⟩ := wfI wb
  clear ht wa wb
  cases hok : Un.flOk a b with
  | false =>
    have HQ : Hid (Un.flQ a b = 0 ∧ Un.flOk a b = false) := ⟨by unfold Un.flQ; rw [hok]; rfl, hok⟩
    have HN : Hid (Un.nrQ a b = 0 ∧ Un.flOk a b = false) := ⟨by unfold Un.nrQ; rw [hok]; rfl, hok⟩
    simp only [Un.flOk, Bool.and_eq_false_iff, Bool.not_eq_false', Bool.and_eq_true, beq_iff_eq] at hok
    rcases hok with rfl | ⟨rfl, rfl⟩
    · go_enter Tryd.func8, Tryd.ntmps8
      go_wp2_with fail
      (with_reducible refine (floor_eq _ _ _ _ HQ _ a0 a1 b0 b1).mono ?_)
      rintro e w1 ⟨rfl, hb⟩
      have H1 := Lib.hid (below_old H0.out hb)
      clear hb
      go_wp2_with fail
      (with_reducible refine (nearest_eq _ _ _ _ HN _ a0 a1 b0 b1).mono ?_)
      rintro e w2 ⟨rfl, hb⟩
      have H2 := Lib.hid (below_old H1.out hb)
      clear hb
      go_wp2_with fail
      (with_reducible refine (awake_any _ (HTAB.out.below H2.out)).mono ?_)
      rintro e w99 ⟨rfl, hb⟩
      have H99 := Lib.hid (below_old H2.out hb)
      clear hb
      go_wp2_with fail
      go_ret
      exact ⟨rfl, H99.out⟩
    · go_enter Tryd.func8, Tryd.ntmps8
      go_wp2_with fail
      (with_reducible refine (floor_eq _ _ _ _ HQ _ a0 a1 b0 b1).mono ?_)
      rintro e w1 ⟨rfl, hb⟩
      have H1 := Lib.hid (below_old H0.out hb)
      clear hb
      go_wp2_with fail
      (with_reducible refine (nearest_eq _ _ _ _ HN _ a0 a1 b0 b1).mono ?_)
      rintro e w2 ⟨rfl, hb⟩
      have H2 := Lib.hid (below_old H1.out hb)
      clear hb
      go_wp2_with fail
      (with_reducible refine (awake_any _ (HTAB.out.below H2.out)).mono ?_)
      rintro e w99 ⟨rfl, hb⟩
      have H99 := Lib.hid (below_old H2.out hb)
      clear hb
      go_wp2_with fail
      go_ret
      exact ⟨rfl, H99.out⟩
  | true =>
    have F := Un.fl_of a0 a1 hok
    have R3 := (dv_of a0 a1 b0 b1 hok).rest
    have hq : Un.flQ a b = Un.flD a b := by unfold Un.flQ; rw [hok]; rfl
    have hn : Un.nrQ a b = if Un.up a b then Un.flD a b + 1 else Un.flD a b := by unfold Un.nrQ; rw [hok]; rfl
    have hU : Un.up a b = true → Un.flD a b + 1 ≤ 9223372036854775807 := Un.up_hi a0 a1 b0 b1 hok
    have hup : Un.up a b = decide (0 < b ∧ b ≤ 2 * (a - Un.flD a b * b) ∨ b < 0 ∧ 2 * (a - Un.flD a b * b) ≤ b) := rfl
    have hb : b ≠ 0 := by
      have := hok
      simp only [Un.flOk, Bool.and_eq_true, Bool.not_eq_true'] at this
      simpa using this.1
    have hb' : (b == 0) = false := by simpa using hb
    generalize Un.flD a b = q at *
    have p1 := F.pos; have p2 := F.neg; have e5 := F.lo; have e6 := F.hi
    clear F
    generalize a - q * b = r at *
    have HQ := Lib.hid (And.intro hq hok)
    have R4 := Lib.hid R3
    rcases Int.lt_or_gt_of_ne hb with g | g
    · have p3 := p2 g
      clear p1 p2
      by_cases c : r ≤ b - r
      · have hu : Un.up a b = true := by rw [hup]; exact decide_eq_true (by omega)
        have e7 := hU hu
        have HN : Hid (Un.nrQ a b = q + 1 ∧ Un.flOk a b = true) := ⟨by rw [hn, hu]; rfl, hok⟩
        clear hup hU hu hn hb hq hok
        go_enter Tryd.func8, Tryd.ntmps8
        go_wp2_with fail
        (with_reducible refine (floor_eq _ _ _ _ HQ _ a0 a1 b0 b1).mono ?_)
        rintro e w1 ⟨rfl, hb⟩
        have H1 := Lib.hid (below_old H0.out hb)
        clear hb
        go_wp2_with fail
        (with_reducible refine (nearest_eq _ _ _ _ HN _ a0 a1 b0 b1).mono ?_)
        rintro e w2 ⟨rfl, hb⟩
        have H2 := Lib.hid (below_old H1.out hb)
        clear hb
        go_wp2_with fail
        (with_reducible refine (awake_any _ (HTAB.out.below H2.out)).mono ?_)
        rintro e w99 ⟨rfl, hb⟩
        have H99 := Lib.hid (below_old H2.out hb)
        clear hb
        go_wp2_with fail
        go_ret
        exact ⟨rfl, H99.out⟩
      · have hu : Un.up a b = false := by rw [hup]; exact decide_eq_false (by omega)
        have HN : Hid (Un.nrQ a b = q ∧ Un.flOk a b = true) := ⟨by rw [hn, hu]; rfl, hok⟩
        clear hup hU hu hn hb hq hok
        go_enter Tryd.func8, Tryd.ntmps8
        go_wp2_with fail
        (with_reducible refine (floor_eq _ _ _ _ HQ _ a0 a1 b0 b1).mono ?_)
        rintro e w1 ⟨rfl, hb⟩
        have H1 := Lib.hid (below_old H0.out hb)
        clear hb
        go_wp2_with fail
        (with_reducible refine (nearest_eq _ _ _ _ HN _ a0 a1 b0 b1).mono ?_)
        rintro e w2 ⟨rfl, hb⟩
        have H2 := Lib.hid (below_old H1.out hb)
        clear hb
        go_wp2_with fail
        (with_reducible refine (awake_any _ (HTAB.out.below H2.out)).mono ?_)
        rintro e w99 ⟨rfl, hb⟩
        have H99 := Lib.hid (below_old H2.out hb)
        clear hb
        go_wp2_with fail
        go_ret
        exact ⟨rfl, H99.out⟩
    · have p3 := p1 g
      clear p1 p2
      by_cases c : b - r ≤ r
      · have hu : Un.up a b = true := by rw [hup]; exact decide_eq_true (by omega)
        have e7 := hU hu
        have HN : Hid (Un.nrQ a b = q + 1 ∧ Un.flOk a b = true) := ⟨by rw [hn, hu]; rfl, hok⟩
        clear hup hU hu hn hb hq hok
        go_enter Tryd.func8, Tryd.ntmps8
        go_wp2_with fail
        (with_reducible refine (floor_eq _ _ _ _ HQ _ a0 a1 b0 b1).mono ?_)
        rintro e w1 ⟨rfl, hb⟩
        have H1 := Lib.hid (below_old H0.out hb)
        clear hb
        go_wp2_with fail
        (with_reducible refine (nearest_eq _ _ _ _ HN _ a0 a1 b0 b1).mono ?_)
        rintro e w2 ⟨rfl, hb⟩
        have H2 := Lib.hid (below_old H1.out hb)
        clear hb
        go_wp2_with fail
        (with_reducible refine (awake_any _ (HTAB.out.below H2.out)).mono ?_)
        rintro e w99 ⟨rfl, hb⟩
        have H99 := Lib.hid (below_old H2.out hb)
        clear hb
        go_wp2_with fail
        go_ret
        exact ⟨rfl, H99.out⟩
      · have hu : Un.up a b = false := by rw [hup]; exact decide_eq_false (by omega)
        have HN : Hid (Un.nrQ a b = q ∧ Un.flOk a b = true) := ⟨by rw [hn, hu]; rfl, hok⟩
        clear hup hU hu hn hb hq hok
        go_enter Tryd.func8, Tryd.ntmps8
        go_wp2_with fail
        (with_reducible refine (floor_eq _ _ _ _ HQ _ a0 a1 b0 b1).mono ?_)
        rintro e w1 ⟨rfl, hb⟩
        have H1 := Lib.hid (below_old H0.out hb)
        clear hb
        go_wp2_with fail
        (with_reducible refine (nearest_eq _ _ _ _ HN _ a0 a1 b0 b1).mono ?_)
        rintro e w2 ⟨rfl, hb⟩
        have H2 := Lib.hid (below_old H1.out hb)
        clear hb
        go_wp2_with fail
        (with_reducible refine (awake_any _ (HTAB.out.below H2.out)).mono ?_)
        rintro e w99 ⟨rfl, hb⟩
        have H99 := Lib.hid (below_old H2.out hb)
        clear hb
        go_wp2_with fail
        go_ret
        exact ⟨rfl, H99.out⟩
end Go.Proofs.YtknfdnlmkjhmcaaDoor
