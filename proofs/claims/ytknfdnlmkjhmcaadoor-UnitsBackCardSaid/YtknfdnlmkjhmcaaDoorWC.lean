/- The walks of the laws of chapter 1, third part. -/
import Derived.Test.YtknfdnlmkjhmcaaDoorWB
namespace Go.Proofs.YtknfdnlmkjhmcaaDoor
open Go.RowKit
set_option linter.unusedVariables false

theorem small_yes (n : Int) (h : -2147483648 ≤ n ∧ n ≤ 2147483648) (w : World) : Calls Tryd.prog 28 #[.int .i64 n] w fun e w' => e = .returned (.bool true) ∧ w = w' := by
  go_enter Tryd.func28, Tryd.ntmps28
  go_wp2
  go_ret
  exact ⟨rfl, rfl⟩
theorem small_no (n : Int) (h : ¬ (-2147483648 ≤ n ∧ n ≤ 2147483648)) (w : World) : Calls Tryd.prog 28 #[.int .i64 n] w fun e w' => e = .returned (.bool false) ∧ w = w' := by
  by_cases h1 : -2147483648 ≤ n
  · have h2 : ¬ n ≤ 2147483648 := by omega
    clear h
    go_enter Tryd.func28, Tryd.ntmps28
    go_wp2
    go_ret
    exact ⟨rfl, rfl⟩
  · clear h
    go_enter Tryd.func28, Tryd.ntmps28
    go_wp2
    go_ret
    exact ⟨rfl, rfl⟩
theorem between_yes (n a b : Int) (h : a ≤ n ∧ n ≤ b ∨ b ≤ n ∧ n ≤ a) (w : World) : Calls Tryd.prog 29 #[.int .i64 n, .int .i64 a, .int .i64 b] w fun e w' => e = .returned (.bool true) ∧ w = w' := by
  by_cases h1 : a ≤ n
  · by_cases h2 : n ≤ b
    · clear h
      go_enter Tryd.func29, Tryd.ntmps29
      go_wp2
      go_ret
      exact ⟨rfl, rfl⟩
    · have h3 : b ≤ n := by omega
      have h4 : n ≤ a := by omega
      clear h
      go_enter Tryd.func29, Tryd.ntmps29
      go_wp2
      go_ret
      exact ⟨rfl, rfl⟩
  · have h3 : b ≤ n := by omega
    have h4 : n ≤ a := by omega
    clear h
    go_enter Tryd.func29, Tryd.ntmps29
    go_wp2
    go_ret
    exact ⟨rfl, rfl⟩

theorem md_through {a c : Int} (a0 : -9223372036854775808 ≤ a) (a1 : a ≤ 9223372036854775807) (hc : 0 < c) : mdV a c c = a ∧ mdE a c c = 0 := by
  have e : a * c / c = a := Int.mul_ediv_cancel a (by omega)
  have := md_ok (a := a) (b := c) (c := c) hc (by rw [e]; exact a0) (by rw [e]; exact a1)
  rwa [e] at this
theorem md_one {a b : Int} (ha : -2147483648 ≤ a ∧ a ≤ 2147483648) (hb : -2147483648 ≤ b ∧ b ≤ 2147483648) : (mdV a b 1 = a * b ∧ mdE a b 1 = 0) ∧ -9223372036854775808 ≤ a * b ∧ a * b ≤ 9223372036854775807 := by
  have hn : (a * b).natAbs ≤ 2147483648 * 2147483648 := by rw [Int.natAbs_mul]; exact Nat.mul_le_mul (by omega) (by omega)
  have hr : -9223372036854775808 ≤ a * b ∧ a * b ≤ 9223372036854775807 := by omega
  have := md_ok (a := a) (b := b) (c := 1) (by omega) (by rw [Int.ediv_one]; exact hr.1) (by rw [Int.ediv_one]; exact hr.2)
  rw [Int.ediv_one] at this
  exact ⟨this, hr⟩
theorem md_comm (a b c : Int) : mdV b a c = mdV a b c ∧ mdE b a c = mdE a b c := by
  unfold mdV mdE mdOk
  rw [Int.mul_comm b a]
  exact ⟨rfl, rfl⟩

set_option maxHeartbeats 4000000 in
theorem unitsProducts_walk (a b c : Int) (wa : (Lit.int .i64 a).wf = true) (wb : (Lit.int .i64 b).wf = true) (wc : (Lit.int .i64 c).wf = true) (w : World) (ht : TabOk w) :
    Calls Tryd.prog 9 #[.int .i64 a, .int .i64 b, .int .i64 c] w fun e w' => e = .returned (.bool true) ∧ Below w.heap.size w w' := by
  have HTAB := Lib.hid ht
  have H0 := Lib.hid (Below.refl w.heap.size w)
  obtain ⟨a0, a1⟩ := wfI wa
  obtain ⟨b0, b1⟩ := wfI wb
  obtain ⟨c0, c1⟩ := wfI wc
  clear ht wa wb wc
  obtain ⟨x, hx⟩ : ∃ x, mdV a b c = x := ⟨_, rfl⟩
  obtain ⟨y, hy⟩ : ∃ x, mdE a b c = x := ⟨_, rfl⟩
  have HX := Lib.hid (And.intro hx hy)
  have HY : Hid (mdV b a c = x ∧ mdE b a c = y) := by show _ ∧ _; rw [(md_comm a b c).1, (md_comm a b c).2]; exact ⟨hx, hy⟩
  clear hx hy
  by_cases hc : 0 < c
  · have HA := Lib.hid (md_through (a := a) a0 a1 hc)
    by_cases sa : -2147483648 ≤ a ∧ a ≤ 2147483648
    · by_cases sb : -2147483648 ≤ b ∧ b ≤ 2147483648
      · obtain ⟨h1, h2, h3⟩ := md_one sa sb
        have HB := Lib.hid h1
        clear h1
        generalize hab : a * b = ab at *
        go_enter Tryd.func9, Tryd.ntmps9
        go_wp2_with fail
        (with_reducible refine (muldiv_eq _ _ _ _ _ HA a0 a1 c0 c1 c1 _).mono ?_)
        rintro e w1 ⟨rfl, hb⟩
        have H1 := Lib.hid (below_old H0.out hb)
        clear hb
        go_wp2_with fail
        (with_reducible refine (muldiv_eq _ _ _ _ _ HB a0 a1 b0 b1 (by omega) _).mono ?_)
        rintro e w2 ⟨rfl, hb⟩
        have H2 := Lib.hid (below_old H1.out hb)
        clear hb
        go_wp2_with fail
        (with_reducible refine (small_yes _ sa _).mono ?_)
        rintro e w3 ⟨rfl, rfl⟩
        go_wp2_with fail
        (with_reducible refine (small_yes _ sb _).mono ?_)
        rintro e w4 ⟨rfl, rfl⟩
        go_wp2_with fail
        (with_reducible refine (muldiv_eq _ _ _ _ _ HX a0 a1 b0 b1 c1 _).mono ?_)
        rintro e w5 ⟨rfl, hb⟩
        have H5 := Lib.hid (below_old H2.out hb)
        clear hb
        go_wp2_with fail
        (with_reducible refine (muldiv_eq _ _ _ _ _ HY b0 b1 a0 a1 c1 _).mono ?_)
        rintro e w6 ⟨rfl, hb⟩
        have H6 := Lib.hid (below_old H5.out hb)
        clear hb
        go_wp2_with fail
        (with_reducible refine (awake_any _ (HTAB.out.below H6.out)).mono ?_)
        rintro e w99 ⟨rfl, hb⟩
        have H99 := Lib.hid (below_old H6.out hb)
        clear hb
        go_wp2_with fail
        go_ret
        exact ⟨rfl, H99.out⟩
      · obtain ⟨v1, hv1⟩ : ∃ x, mdV a b 1 = x := ⟨_, rfl⟩
        obtain ⟨v2, hv2⟩ : ∃ x, mdE a b 1 = x := ⟨_, rfl⟩
        have HB := Lib.hid (And.intro hv1 hv2)
        clear hv1 hv2
        go_enter Tryd.func9, Tryd.ntmps9
        go_wp2_with fail
        (with_reducible refine (muldiv_eq _ _ _ _ _ HA a0 a1 c0 c1 c1 _).mono ?_)
        rintro e w1 ⟨rfl, hb⟩
        have H1 := Lib.hid (below_old H0.out hb)
        clear hb
        go_wp2_with fail
        (with_reducible refine (muldiv_eq _ _ _ _ _ HB a0 a1 b0 b1 (by omega) _).mono ?_)
        rintro e w2 ⟨rfl, hb⟩
        have H2 := Lib.hid (below_old H1.out hb)
        clear hb
        go_wp2_with fail
        (with_reducible refine (small_yes _ sa _).mono ?_)
        rintro e w3 ⟨rfl, rfl⟩
        go_wp2_with fail
        (with_reducible refine (small_no _ sb _).mono ?_)
        rintro e w4 ⟨rfl, rfl⟩
        go_wp2_with fail
        (with_reducible refine (muldiv_eq _ _ _ _ _ HX a0 a1 b0 b1 c1 _).mono ?_)
        rintro e w5 ⟨rfl, hb⟩
        have H5 := Lib.hid (below_old H2.out hb)
        clear hb
        go_wp2_with fail
        (with_reducible refine (muldiv_eq _ _ _ _ _ HY b0 b1 a0 a1 c1 _).mono ?_)
        rintro e w6 ⟨rfl, hb⟩
        have H6 := Lib.hid (below_old H5.out hb)
        clear hb
        go_wp2_with fail
        (with_reducible refine (awake_any _ (HTAB.out.below H6.out)).mono ?_)
        rintro e w99 ⟨rfl, hb⟩
        have H99 := Lib.hid (below_old H6.out hb)
        clear hb
        go_wp2_with fail
        go_ret
        exact ⟨rfl, H99.out⟩
    · obtain ⟨v1, hv1⟩ : ∃ x, mdV a b 1 = x := ⟨_, rfl⟩
      obtain ⟨v2, hv2⟩ : ∃ x, mdE a b 1 = x := ⟨_, rfl⟩
      have HB := Lib.hid (And.intro hv1 hv2)
      clear hv1 hv2
      go_enter Tryd.func9, Tryd.ntmps9
      go_wp2_with fail
      (with_reducible refine (muldiv_eq _ _ _ _ _ HA a0 a1 c0 c1 c1 _).mono ?_)
      rintro e w1 ⟨rfl, hb⟩
      have H1 := Lib.hid (below_old H0.out hb)
      clear hb
      go_wp2_with fail
      (with_reducible refine (muldiv_eq _ _ _ _ _ HB a0 a1 b0 b1 (by omega) _).mono ?_)
      rintro e w2 ⟨rfl, hb⟩
      have H2 := Lib.hid (below_old H1.out hb)
      clear hb
      go_wp2_with fail
      (with_reducible refine (small_no _ sa _).mono ?_)
      rintro e w3 ⟨rfl, rfl⟩
      go_wp2_with fail
      (with_reducible refine (muldiv_eq _ _ _ _ _ HX a0 a1 b0 b1 c1 _).mono ?_)
      rintro e w5 ⟨rfl, hb⟩
      have H5 := Lib.hid (below_old H2.out hb)
      clear hb
      go_wp2_with fail
      (with_reducible refine (muldiv_eq _ _ _ _ _ HY b0 b1 a0 a1 c1 _).mono ?_)
      rintro e w6 ⟨rfl, hb⟩
      have H6 := Lib.hid (below_old H5.out hb)
      clear hb
      go_wp2_with fail
      (with_reducible refine (awake_any _ (HTAB.out.below H6.out)).mono ?_)
      rintro e w99 ⟨rfl, hb⟩
      have H99 := Lib.hid (below_old H6.out hb)
      clear hb
      go_wp2_with fail
      go_ret
      exact ⟨rfl, H99.out⟩
  · obtain ⟨p, hp⟩ : ∃ x, mdV a c c = x := ⟨_, rfl⟩
    obtain ⟨q, hq⟩ : ∃ x, mdE a c c = x := ⟨_, rfl⟩
    have HA := Lib.hid (And.intro hp hq)
    clear hp hq
    by_cases sa : -2147483648 ≤ a ∧ a ≤ 2147483648
    · by_cases sb : -2147483648 ≤ b ∧ b ≤ 2147483648
      · obtain ⟨h1, h2, h3⟩ := md_one sa sb
        have HB := Lib.hid h1
        clear h1
        generalize hab : a * b = ab at *
        go_enter Tryd.func9, Tryd.ntmps9
        go_wp2_with fail
        (with_reducible refine (muldiv_eq _ _ _ _ _ HA a0 a1 c0 c1 c1 _).mono ?_)
        rintro e w1 ⟨rfl, hb⟩
        have H1 := Lib.hid (below_old H0.out hb)
        clear hb
        go_wp2_with fail
        (with_reducible refine (muldiv_eq _ _ _ _ _ HB a0 a1 b0 b1 (by omega) _).mono ?_)
        rintro e w2 ⟨rfl, hb⟩
        have H2 := Lib.hid (below_old H1.out hb)
        clear hb
        go_wp2_with fail
        (with_reducible refine (small_yes _ sa _).mono ?_)
        rintro e w3 ⟨rfl, rfl⟩
        go_wp2_with fail
        (with_reducible refine (small_yes _ sb _).mono ?_)
        rintro e w4 ⟨rfl, rfl⟩
        go_wp2_with fail
        (with_reducible refine (muldiv_eq _ _ _ _ _ HX a0 a1 b0 b1 c1 _).mono ?_)
        rintro e w5 ⟨rfl, hb⟩
        have H5 := Lib.hid (below_old H2.out hb)
        clear hb
        go_wp2_with fail
        (with_reducible refine (muldiv_eq _ _ _ _ _ HY b0 b1 a0 a1 c1 _).mono ?_)
        rintro e w6 ⟨rfl, hb⟩
        have H6 := Lib.hid (below_old H5.out hb)
        clear hb
        go_wp2_with fail
        (with_reducible refine (awake_any _ (HTAB.out.below H6.out)).mono ?_)
        rintro e w99 ⟨rfl, hb⟩
        have H99 := Lib.hid (below_old H6.out hb)
        clear hb
        go_wp2_with fail
        go_ret
        exact ⟨rfl, H99.out⟩
      · obtain ⟨v1, hv1⟩ : ∃ x, mdV a b 1 = x := ⟨_, rfl⟩
        obtain ⟨v2, hv2⟩ : ∃ x, mdE a b 1 = x := ⟨_, rfl⟩
        have HB := Lib.hid (And.intro hv1 hv2)
        clear hv1 hv2
        go_enter Tryd.func9, Tryd.ntmps9
        go_wp2_with fail
        (with_reducible refine (muldiv_eq _ _ _ _ _ HA a0 a1 c0 c1 c1 _).mono ?_)
        rintro e w1 ⟨rfl, hb⟩
        have H1 := Lib.hid (below_old H0.out hb)
        clear hb
        go_wp2_with fail
        (with_reducible refine (muldiv_eq _ _ _ _ _ HB a0 a1 b0 b1 (by omega) _).mono ?_)
        rintro e w2 ⟨rfl, hb⟩
        have H2 := Lib.hid (below_old H1.out hb)
        clear hb
        go_wp2_with fail
        (with_reducible refine (small_yes _ sa _).mono ?_)
        rintro e w3 ⟨rfl, rfl⟩
        go_wp2_with fail
        (with_reducible refine (small_no _ sb _).mono ?_)
        rintro e w4 ⟨rfl, rfl⟩
        go_wp2_with fail
        (with_reducible refine (muldiv_eq _ _ _ _ _ HX a0 a1 b0 b1 c1 _).mono ?_)
        rintro e w5 ⟨rfl, hb⟩
        have H5 := Lib.hid (below_old H2.out hb)
        clear hb
        go_wp2_with fail
        (with_reducible refine (muldiv_eq _ _ _ _ _ HY b0 b1 a0 a1 c1 _).mono ?_)
        rintro e w6 ⟨rfl, hb⟩
        have H6 := Lib.hid (below_old H5.out hb)
        clear hb
        go_wp2_with fail
        (with_reducible refine (awake_any _ (HTAB.out.below H6.out)).mono ?_)
        rintro e w99 ⟨rfl, hb⟩
        have H99 := Lib.hid (below_old H6.out hb)
        clear hb
        go_wp2_with fail
        go_ret
        exact ⟨rfl, H99.out⟩
    · obtain ⟨v1, hv1⟩ : ∃ x, mdV a b 1 = x := ⟨_, rfl⟩
      obtain ⟨v2, hv2⟩ : ∃ x, mdE a b 1 = x := ⟨_, rfl⟩
      have HB := Lib.hid (And.intro hv1 hv2)
      clear hv1 hv2
      go_enter Tryd.func9, Tryd.ntmps9
      go_wp2_with fail
      (with_reducible refine (muldiv_eq _ _ _ _ _ HA a0 a1 c0 c1 c1 _).mono ?_)
      rintro e w1 ⟨rfl, hb⟩
      have H1 := Lib.hid (below_old H0.out hb)
      clear hb
      go_wp2_with fail
      (with_reducible refine (muldiv_eq _ _ _ _ _ HB a0 a1 b0 b1 (by omega) _).mono ?_)
      rintro e w2 ⟨rfl, hb⟩
      have H2 := Lib.hid (below_old H1.out hb)
      clear hb
      go_wp2_with fail
      (with_reducible refine (small_no _ sa _).mono ?_)
      rintro e w3 ⟨rfl, rfl⟩
      go_wp2_with fail
      (with_reducible refine (muldiv_eq _ _ _ _ _ HX a0 a1 b0 b1 c1 _).mono ?_)
      rintro e w5 ⟨rfl, hb⟩
      have H5 := Lib.hid (below_old H2.out hb)
      clear hb
      go_wp2_with fail
      (with_reducible refine (muldiv_eq _ _ _ _ _ HY b0 b1 a0 a1 c1 _).mono ?_)
      rintro e w6 ⟨rfl, hb⟩
      have H6 := Lib.hid (below_old H5.out hb)
      clear hb
      go_wp2_with fail
      (with_reducible refine (awake_any _ (HTAB.out.below H6.out)).mono ?_)
      rintro e w99 ⟨rfl, hb⟩
      have H99 := Lib.hid (below_old H6.out hb)
      clear hb
      go_wp2_with fail
      go_ret
      exact ⟨rfl, H99.out⟩

set_option maxHeartbeats 4000000 in
theorem unitsSteps_walk (a b k : Int) (wa : (Lit.int .i64 a).wf = true) (wb : (Lit.int .i64 b).wf = true) (w : World) (ht : TabOk w) :
    Calls Tryd.prog 10 #[.int .i64 a, .int .i64 b, .int .i64 k] w fun e w' => e = .returned (.bool true) ∧ Below w.heap.size w w' := by
  have HTAB := Lib.hid ht
  have H0 := Lib.hid (Below.refl w.heap.size w)
  obtain ⟨a0, a1⟩ := wfI wa
  obtain ⟨b0, b1⟩ := wfI wb
  clear ht wa wb
  obtain ⟨r1, r2, r3, r4, r5⟩ := Un.tw_range (a := a) (b := b) (k := k)
  have HW := Lib.hid ((Un.tw_range (a := a) (b := b) (k := 10000)).2.2.2.1 (by omega))
  have HZ := Lib.hid ((Un.tw_range (a := a) (b := b) (k := 0)).2.2.1 (by omega))
  have hnx := fun h0 h1 => Un.tw_next (a := a) (b := b) (k := k) h0 h1
  have hr2 := Un.tw_range (a := a) (b := b) (k := k + 1)
  obtain ⟨n, hn⟩ : ∃ n, Un.twV a b k = n := ⟨_, rfl⟩
  obtain ⟨m, hm⟩ : ∃ n, Un.twV a b (k + 1) = n := ⟨_, rfl⟩
  rw [hn] at r1 r2 r3 r4 r5
  rw [hn, hm] at hnx
  rw [hm] at hr2
  have hbt : a ≤ n ∧ n ≤ b ∨ b ≤ n ∧ n ≤ a := by omega
  have hbt2 : 0 < k → k < 10000 → n ≤ m ∧ m ≤ b ∨ b ≤ m ∧ m ≤ n := fun h0 h1 => by
    have x1 := hnx h0 h1
    have x2 := hr2.1
    have x3 := hr2.2.1
    omega
  have HN := Lib.hid hn
  have HM := Lib.hid hm
  clear hn hm hnx hr2 r1 r2
  by_cases k0 : k ≤ 0
  · obtain rfl := r3 k0
    clear r3 r4 r5 hbt2
    go_enter Tryd.func10, Tryd.ntmps10
    go_wp2_with fail
    (with_reducible refine (toward_eq _ _ _ _ HN _ a0 a1 b0 b1).mono ?_)
    rintro e w1 ⟨rfl, hb⟩
    have H1 := Lib.hid (below_old H0.out hb)
    clear hb
    go_wp2_with fail
    (with_reducible refine (between_yes _ _ _ hbt _).mono ?_)
    rintro e w2 ⟨rfl, rfl⟩
    go_wp2_with fail
    (with_reducible refine (toward_eq _ _ _ _ HW _ a0 a1 b0 b1).mono ?_)
    rintro e w5 ⟨rfl, hb⟩
    have H5 := Lib.hid (below_old H1.out hb)
    clear hb
    go_wp2_with fail
    (with_reducible refine (toward_eq _ _ _ _ HZ _ a0 a1 b0 b1).mono ?_)
    rintro e w6 ⟨rfl, hb⟩
    have H6 := Lib.hid (below_old H5.out hb)
    clear hb
    go_wp2_with fail
    (with_reducible refine (awake_any _ (HTAB.out.below H6.out)).mono ?_)
    rintro e w99 ⟨rfl, hb⟩
    have H99 := Lib.hid (below_old H6.out hb)
    clear hb
    go_wp2_with fail
    go_ret
    exact ⟨rfl, H99.out⟩
  · by_cases k1 : 10000 ≤ k
    · obtain rfl := r4 k1
      have hk2 : 0 < k := by omega
      by_cases hab : a = n
      · subst hab
        clear r3 r4 r5 hbt2
        go_enter Tryd.func10, Tryd.ntmps10
        go_wp2_with fail
        (with_reducible refine (toward_eq _ _ _ _ HN _ a0 a1 b0 b1).mono ?_)
        rintro e w1 ⟨rfl, hb⟩
        have H1 := Lib.hid (below_old H0.out hb)
        clear hb
        go_wp2_with fail
        (with_reducible refine (between_yes _ _ _ hbt _).mono ?_)
        rintro e w2 ⟨rfl, rfl⟩
        go_wp2_with fail
        (with_reducible refine (toward_eq _ _ _ _ HW _ a0 a1 b0 b1).mono ?_)
        rintro e w5 ⟨rfl, hb⟩
        have H5 := Lib.hid (below_old H1.out hb)
        clear hb
        go_wp2_with fail
        (with_reducible refine (toward_eq _ _ _ _ HZ _ a0 a1 b0 b1).mono ?_)
        rintro e w6 ⟨rfl, hb⟩
        have H6 := Lib.hid (below_old H5.out hb)
        clear hb
        go_wp2_with fail
        (with_reducible refine (awake_any _ (HTAB.out.below H6.out)).mono ?_)
        rintro e w99 ⟨rfl, hb⟩
        have H99 := Lib.hid (below_old H6.out hb)
        clear hb
        go_wp2_with fail
        go_ret
        exact ⟨rfl, H99.out⟩
      · have hab1 : (a != n) = true := by simpa using hab
        have hab2 : (n == a) = false := by simp; exact fun e => hab e.symm
        clear r3 r4 r5 hbt2 hab
        go_enter Tryd.func10, Tryd.ntmps10
        go_wp2_with fail
        (with_reducible refine (toward_eq _ _ _ _ HN _ a0 a1 b0 b1).mono ?_)
        rintro e w1 ⟨rfl, hb⟩
        have H1 := Lib.hid (below_old H0.out hb)
        clear hb
        go_wp2_with fail
        (with_reducible refine (between_yes _ _ _ hbt _).mono ?_)
        rintro e w2 ⟨rfl, rfl⟩
        go_wp2_with fail
        (with_reducible refine (toward_eq _ _ _ _ HW _ a0 a1 b0 b1).mono ?_)
        rintro e w5 ⟨rfl, hb⟩
        have H5 := Lib.hid (below_old H1.out hb)
        clear hb
        go_wp2_with fail
        (with_reducible refine (toward_eq _ _ _ _ HZ _ a0 a1 b0 b1).mono ?_)
        rintro e w6 ⟨rfl, hb⟩
        have H6 := Lib.hid (below_old H5.out hb)
        clear hb
        go_wp2_with fail
        (with_reducible refine (awake_any _ (HTAB.out.below H6.out)).mono ?_)
        rintro e w99 ⟨rfl, hb⟩
        have H99 := Lib.hid (below_old H6.out hb)
        clear hb
        go_wp2_with fail
        go_ret
        exact ⟨rfl, H99.out⟩
    · have hk2 : 0 < k := by omega
      have hb2 := hbt2 hk2 (by omega)
      by_cases hab : a = b
      · subst hab
        have hna : n = a := by omega
        subst hna
        clear r3 r4 r5 hbt2
        go_enter Tryd.func10, Tryd.ntmps10
        go_wp2_with fail
        (with_reducible refine (toward_eq _ _ _ _ HN _ a0 a1 b0 b1).mono ?_)
        rintro e w1 ⟨rfl, hb⟩
        have H1 := Lib.hid (below_old H0.out hb)
        clear hb
        go_wp2_with fail
        (with_reducible refine (between_yes _ _ _ hbt _).mono ?_)
        rintro e w2 ⟨rfl, rfl⟩
        go_wp2_with fail
        (with_reducible refine (toward_eq _ _ _ _ HM _ a0 a1 b0 b1).mono ?_)
        rintro e w3 ⟨rfl, hb⟩
        have H3 := Lib.hid (below_old H1.out hb)
        clear hb
        go_wp2_with fail
        (with_reducible refine (between_yes _ _ _ hb2 _).mono ?_)
        rintro e w4 ⟨rfl, rfl⟩
        go_wp2_with fail
        (with_reducible refine (toward_eq _ _ _ _ HW _ a0 a1 b0 b1).mono ?_)
        rintro e w5 ⟨rfl, hb⟩
        have H5 := Lib.hid (below_old H3.out hb)
        clear hb
        go_wp2_with fail
        (with_reducible refine (toward_eq _ _ _ _ HZ _ a0 a1 b0 b1).mono ?_)
        rintro e w6 ⟨rfl, hb⟩
        have H6 := Lib.hid (below_old H5.out hb)
        clear hb
        go_wp2_with fail
        (with_reducible refine (awake_any _ (HTAB.out.below H6.out)).mono ?_)
        rintro e w99 ⟨rfl, hb⟩
        have H99 := Lib.hid (below_old H6.out hb)
        clear hb
        go_wp2_with fail
        go_ret
        exact ⟨rfl, H99.out⟩
      · have hna := r5 hk2 hab
        have hab1 : (a != b) = true := by simpa using hab
        have hab2 : (n == a) = false := by simpa using hna
        clear r3 r4 r5 hbt2 hab hna
        go_enter Tryd.func10, Tryd.ntmps10
        go_wp2_with fail
        (with_reducible refine (toward_eq _ _ _ _ HN _ a0 a1 b0 b1).mono ?_)
        rintro e w1 ⟨rfl, hb⟩
        have H1 := Lib.hid (below_old H0.out hb)
        clear hb
        go_wp2_with fail
        (with_reducible refine (between_yes _ _ _ hbt _).mono ?_)
        rintro e w2 ⟨rfl, rfl⟩
        go_wp2_with fail
        (with_reducible refine (toward_eq _ _ _ _ HM _ a0 a1 b0 b1).mono ?_)
        rintro e w3 ⟨rfl, hb⟩
        have H3 := Lib.hid (below_old H1.out hb)
        clear hb
        go_wp2_with fail
        (with_reducible refine (between_yes _ _ _ hb2 _).mono ?_)
        rintro e w4 ⟨rfl, rfl⟩
        go_wp2_with fail
        (with_reducible refine (toward_eq _ _ _ _ HW _ a0 a1 b0 b1).mono ?_)
        rintro e w5 ⟨rfl, hb⟩
        have H5 := Lib.hid (below_old H3.out hb)
        clear hb
        go_wp2_with fail
        (with_reducible refine (toward_eq _ _ _ _ HZ _ a0 a1 b0 b1).mono ?_)
        rintro e w6 ⟨rfl, hb⟩
        have H6 := Lib.hid (below_old H5.out hb)
        clear hb
        go_wp2_with fail
        (with_reducible refine (awake_any _ (HTAB.out.below H6.out)).mono ?_)
        rintro e w99 ⟨rfl, hb⟩
        have H99 := Lib.hid (below_old H6.out hb)
        clear hb
        go_wp2_with fail
        go_ret
        exact ⟨rfl, H99.out⟩

theorem pa_range (L : List UInt8) (k : Nat) : -9223372036854775808 ≤ Un.paV L k ∧ Un.paV L k ≤ 9223372036854775807 := by
  unfold Un.paV
  by_cases h : Un.paE L k = 0
  · rw [if_pos h]
    have hl : ¬ Un.lim L < Un.valL (Un.frL (Un.tlT L) k) := by
      unfold Un.paE at h
      split at h
      · cases h
      · split at h
        · cases h
        · split at h
          · cases h
          · assumption
    unfold Un.lim at hl
    cases hn : Un.ngB L with
    | true => rw [hn] at hl; simp only [if_true] at hl ⊢; omega
    | false => rw [hn] at hl; simp only [Bool.false_eq_true, if_false] at hl ⊢; omega
  · rw [if_neg h]; omega
theorem dec_size (n : Int) (k : Nat) (h0 : -9223372036854775808 ≤ n) (h1 : n ≤ 9223372036854775807) (hk : k ≤ 9) : (Un.decT n k).length ≤ 100 := by
  have h2 := Lib.nDigits_le20 n.natAbs (by omega)
  have hb : (Un.bodyT n.natAbs k).length ≤ 40 := by
    unfold Un.bodyT
    have hl := Un.pad_length n.natAbs k
    have hc : Un.cnt n.natAbs k ≤ 20 := by unfold Un.cnt; omega
    split
    · omega
    · simp; omega
  unfold Un.decT
  split
  · simp; omega
  · omega
set_option maxHeartbeats 4000000 in
theorem unitsBack_walk (n d : Int) (s : ByteArray) (wn : (Lit.int .i64 n).wf = true) (hs : (s.size : Int) ≤ 9223372036854775807) (w : World) (ht : TabOk w) :
    Calls Tryd.prog 11 #[.int .i64 n, .int .i64 d, .string s] w fun e w' => e = .returned (.bool true) ∧ Below w.heap.size w w' := by
  have HTAB := Lib.hid ht
  have H0 := Lib.hid (Below.refl w.heap.size w)
  obtain ⟨n0, n1⟩ := wfI wn
  clear ht wn
  by_cases hl : (s.size : Int) ≤ 100
  · have hcr := Un.clV_range (n := d) (l := 0) (h := 9) (by omega)
    have hpd := Un.pa_dec n (Un.clV d 0 9).toNat n0 n1
    have hdp := Un.dec_pa s.data.toList (Un.clV d 0 9).toNat
    have hrg := pa_range s.data.toList (Un.clV d 0 9).toNat
    have hds := dec_size n (Un.clV d 0 9).toNat n0 n1 (by omega)
    obtain ⟨v, hv⟩ : ∃ v, Un.paV s.data.toList (Un.clV d 0 9).toNat = v := ⟨_, rfl⟩
    obtain ⟨x, hx⟩ : ∃ v, Un.paE s.data.toList (Un.clV d 0 9).toNat = v := ⟨_, rfl⟩
    obtain ⟨t, hT⟩ : ∃ t, (⟨(Un.decT n (Un.clV d 0 9).toNat).toArray⟩ : ByteArray) = t := ⟨_, rfl⟩
    have hTl : t.data.toList = Un.decT n (Un.clV d 0 9).toNat := by rw [← hT]
    have hts : (t.size : Int) ≤ 9223372036854775807 := by rw [← list_len, hTl]; omega
    rw [hv] at hrg
    rw [hx, hv] at hdp
    have HP := Lib.hid (And.intro hv hx)
    have HD := Lib.hid hT
    have HQ : Hid (Un.paV t.data.toList (Un.clV d 0 9).toNat = n ∧ Un.paE t.data.toList (Un.clV d 0 9).toNat = 0) := by show _ ∧ _; rw [hTl]; exact ⟨hpd.2, hpd.1⟩
    have hx2 : x ≠ 0 → v = 0 := fun h => by rw [← hv]; unfold Un.paV; rw [if_neg (by rw [hx]; exact h)]
    clear hv hx hT hTl hpd hds
    by_cases hx0 : x = 0
    · subst hx0
      have HE : Hid ((⟨(Un.decT v (Un.clV d 0 9).toNat).toArray⟩ : ByteArray) = s) := by show _ = _; rw [hdp rfl]
      clear hdp hx2
      go_enter Tryd.func11, Tryd.ntmps11
      go_wp2_with fail
      (with_reducible refine (decimal_eq _ _ _ HD n0 n1 _ HTAB).mono ?_)
      rintro e w1 ⟨rfl, hb⟩
      have H1 := Lib.hid (below_old H0.out hb)
      clear hb
      go_wp2_with fail
      (with_reducible refine (parse_eq _ _ _ _ HQ hts _).mono ?_)
      rintro e w2 ⟨rfl, hb⟩
      have H2 := Lib.hid (below_old H1.out hb)
      clear hb
      go_wp2_with fail
      (with_reducible refine (parse_eq _ _ _ _ HP hs _).mono ?_)
      rintro e w3 ⟨rfl, hb⟩
      have H3 := Lib.hid (below_old H2.out hb)
      clear hb
      go_wp2_with fail
      (with_reducible refine (decimal_eq _ _ _ HE hrg.1 hrg.2 _ (Lib.hid (HTAB.out.below H3.out))).mono ?_)
      rintro e w4 ⟨rfl, hb⟩
      have H4 := Lib.hid (below_old H3.out hb)
      clear hb
      go_wp2_with fail
      (with_reducible refine (awake_any _ (HTAB.out.below H4.out)).mono ?_)
      rintro e w99 ⟨rfl, hb⟩
      have H99 := Lib.hid (below_old H4.out hb)
      clear hb
      go_wp2_with fail
      go_ret
      exact ⟨rfl, H99.out⟩
    · have hx1 : (x != 0) = true := by simpa using hx0
      obtain rfl := hx2 hx0
      clear hdp hx2 hx0
      go_enter Tryd.func11, Tryd.ntmps11
      go_wp2_with fail
      (with_reducible refine (decimal_eq _ _ _ HD n0 n1 _ HTAB).mono ?_)
      rintro e w1 ⟨rfl, hb⟩
      have H1 := Lib.hid (below_old H0.out hb)
      clear hb
      go_wp2_with fail
      (with_reducible refine (parse_eq _ _ _ _ HQ hts _).mono ?_)
      rintro e w2 ⟨rfl, hb⟩
      have H2 := Lib.hid (below_old H1.out hb)
      clear hb
      go_wp2_with fail
      (with_reducible refine (parse_eq _ _ _ _ HP hs _).mono ?_)
      rintro e w3 ⟨rfl, hb⟩
      have H3 := Lib.hid (below_old H2.out hb)
      clear hb
      go_wp2_with fail
      (with_reducible refine (awake_any _ (HTAB.out.below H3.out)).mono ?_)
      rintro e w99 ⟨rfl, hb⟩
      have H99 := Lib.hid (below_old H3.out hb)
      clear hb
      go_wp2_with fail
      go_ret
      exact ⟨rfl, H99.out⟩
  · go_enter Tryd.func11, Tryd.ntmps11
    go_wp2_with fail
    (with_reducible refine (awake_any _ (HTAB.out.below H0.out)).mono ?_)
    rintro e w99 ⟨rfl, hb⟩
    have H99 := Lib.hid (below_old H0.out hb)
    clear hb
    go_wp2_with fail
    go_ret
    exact ⟨rfl, H99.out⟩
end Go.Proofs.YtknfdnlmkjhmcaaDoor
