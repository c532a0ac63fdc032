/- The walks of the laws of chapter 1, first part. -/
import Derived.Test.YtknfdnlmkjhmcaaDoorW9
namespace Go.Proofs.YtknfdnlmkjhmcaaDoor
open Go.RowKit
set_option linter.unusedVariables false

theorem wfI {n : Int} (h : (Lit.int .i64 n).wf = true) : -9223372036854775808 ≤ n ∧ n ≤ 9223372036854775807 := by
  simp [Lit.wf, IntKind.min, IntKind.max, IntKind.signed, IntKind.bits] at h
  omega
set_option maxHeartbeats 2000000 in
theorem unitsDivides_walk (a b : Int) (wa : (Lit.int .i64 a).wf = true) (wb : (Lit.int .i64 b).wf = true) (w : World) (ht : TabOk w) :
    Calls Tryd.prog 3 #[.int .i64 a, .int .i64 b] w fun e w' => e = .returned (.bool true) ∧ Below w.heap.size w w' := by
  have HTAB := Lib.hid ht
  have H0 := Lib.hid (Below.refl w.heap.size w)
  obtain ⟨a0, a1⟩ := wfI wa
  obtain ⟨b0, b1⟩ := wfI wb
  clear ht wa wb
  go_enter Tryd.func3, Tryd.ntmps3
  go_wp2_with fail
  (with_reducible refine (floor_any _ _ _ a0 a1 b0 b1).mono ?_)
  rintro e w1 ⟨rfl, hb⟩
  have H1 := Lib.hid (below_old H0.out hb)
  clear hb
  go_wp2_with fail
  (with_reducible refine (nearest_any _ _ _ a0 a1 b0 b1).mono ?_)
  rintro e w2 ⟨rfl, hb⟩
  have H2 := Lib.hid (below_old H1.out hb)
  clear hb
  go_wp2_with fail
  (with_reducible refine (rfloor_any _ _ _ a0 a1 b0 b1).mono ?_)
  rintro e w3 ⟨rfl, rfl⟩
  go_wp2_with fail
  (with_reducible refine (rnearest_any _ _ _ a0 a1 b0 b1).mono ?_)
  rintro e w4 ⟨rfl, rfl⟩
  go_wp2_with fail
  (with_reducible refine (awake_any _ (HTAB.out.below H2.out)).mono ?_)
  rintro e w99 ⟨rfl, hb⟩
  have H99 := Lib.hid (below_old H2.out hb)
  clear hb
  go_wp2_with fail
  go_ret
  exact ⟨rfl, H99.out⟩
set_option maxHeartbeats 2000000 in
theorem unitsScales_walk (a b c : Int) (wa : (Lit.int .i64 a).wf = true) (wb : (Lit.int .i64 b).wf = true) (wc : (Lit.int .i64 c).wf = true) (w : World) (ht : TabOk w) :
    Calls Tryd.prog 4 #[.int .i64 a, .int .i64 b, .int .i64 c] w fun e w' => e = .returned (.bool true) ∧ Below w.heap.size w w' := by
  have HTAB := Lib.hid ht
  have H0 := Lib.hid (Below.refl w.heap.size w)
  obtain ⟨a0, a1⟩ := wfI wa
  obtain ⟨b0, b1⟩ := wfI wb
  obtain ⟨c0, c1⟩ := wfI wc
  clear ht wa wb wc
  go_enter Tryd.func4, Tryd.ntmps4
  go_wp2_with fail
  (with_reducible refine (calls_drew (muldiv_any _ _ _ a0 a1 b0 b1 c1 _)).mono ?_)
  rintro e w1 ⟨rfl, hb⟩
  have H1 := Lib.hid (below_old H0.out hb)
  clear hb
  go_wp2_with fail
  (with_reducible refine (rmuldiv_any _ _ _ a0 a1 b0 b1 c1 _).mono ?_)
  rintro e w3 ⟨rfl, rfl⟩
  go_wp2_with fail
  (with_reducible refine (awake_any _ (HTAB.out.below H1.out)).mono ?_)
  rintro e w99 ⟨rfl, hb⟩
  have H99 := Lib.hid (below_old H1.out hb)
  clear hb
  go_wp2_with fail
  go_ret
  exact ⟨rfl, H99.out⟩
set_option maxHeartbeats 2000000 in
theorem unitsMoves_walk (a b c : Int) (wa : (Lit.int .i64 a).wf = true) (wb : (Lit.int .i64 b).wf = true) (wc : (Lit.int .i64 c).wf = true) (w : World) (ht : TabOk w) :
    Calls Tryd.prog 5 #[.int .i64 a, .int .i64 b, .int .i64 c] w fun e w' => e = .returned (.bool true) ∧ Below w.heap.size w w' := by
  have HTAB := Lib.hid ht
  have H0 := Lib.hid (Below.refl w.heap.size w)
  obtain ⟨a0, a1⟩ := wfI wa
  obtain ⟨b0, b1⟩ := wfI wb
  obtain ⟨c0, c1⟩ := wfI wc
  clear ht wa wb wc
  go_enter Tryd.func5, Tryd.ntmps5
  go_wp2_with fail
  (with_reducible refine (clamp_any _ _ _ _).mono ?_)
  rintro e w1 ⟨rfl, rfl⟩
  go_wp2_with fail
  (with_reducible refine (rclamp_any _ _ _ _).mono ?_)
  rintro e w2 ⟨rfl, rfl⟩
  go_wp2_with fail
  (with_reducible refine (calls_drew (toward_any _ _ _ _ a0 a1 b0 b1)).mono ?_)
  rintro e w3 ⟨rfl, hb⟩
  have H3 := Lib.hid (below_old H0.out hb)
  clear hb
  go_wp2_with fail
  (with_reducible refine (rtoward_any _ _ _ _ a0 a1 b0 b1).mono ?_)
  rintro e w4 ⟨rfl, rfl⟩
  go_wp2_with fail
  (with_reducible refine (awake_any _ (HTAB.out.below H3.out)).mono ?_)
  rintro e w99 ⟨rfl, hb⟩
  have H99 := Lib.hid (below_old H3.out hb)
  clear hb
  go_wp2_with fail
  go_ret
  exact ⟨rfl, H99.out⟩
set_option maxHeartbeats 2000000 in
theorem unitsRoots_walk (n : Int) (wn : (Lit.int .i64 n).wf = true) (w : World) (ht : TabOk w) :
    Calls Tryd.prog 6 #[.int .i64 n] w fun e w' => e = .returned (.bool true) ∧ Below w.heap.size w w' := by
  have HTAB := Lib.hid ht
  have H0 := Lib.hid (Below.refl w.heap.size w)
  obtain ⟨n0, n1⟩ := wfI wn
  clear ht wn
  by_cases hn : n < 0
  · go_enter Tryd.func6, Tryd.ntmps6
    go_wp2_with fail
    (with_reducible refine (root_any _ _ n1).mono ?_)
    rintro e w1 ⟨r, hr, rfl, rfl⟩
    obtain rfl := hr.neg hn
    have HR := Lib.hid hr
    clear hr
    go_wp2_with fail
    (with_reducible refine (awake_any _ (HTAB.out.below H0.out)).mono ?_)
    rintro e w99 ⟨rfl, hb⟩
    have H99 := Lib.hid (below_old H0.out hb)
    clear hb
    go_wp2_with fail
    go_ret
    exact ⟨rfl, H99.out⟩
  · go_enter Tryd.func6, Tryd.ntmps6
    go_wp2_with fail
    (with_reducible refine (root_any _ _ n1).mono ?_)
    rintro e w1 ⟨r, hr, rfl, rfl⟩
    have r1 := Un.root_hi hr n1
    have r0 := hr.r0
    have s1 := hr.sq (by omega)
    have s2 := hr.nx (by omega)
    have e2 : (r + 1) * (r + 1) = r * r + 2 * r + 1 := by rw [Int.add_mul, Int.mul_add]; omega
    rw [e2] at s2
    have s0 : 0 ≤ r * r := Int.mul_nonneg r0 r0
    have s3 : n - r * r ≤ 2 * r := by omega
    clear hr e2
    generalize hp : r * r = p at *
    go_wp2_with fail
    (with_reducible refine (awake_any _ (HTAB.out.below H0.out)).mono ?_)
    rintro e w99 ⟨rfl, hb⟩
    have H99 := Lib.hid (below_old H0.out hb)
    clear hb
    go_wp2_with fail
    go_ret
    exact ⟨rfl, H99.out⟩
set_option maxHeartbeats 2000000 in
theorem unitsTexts_walk (n d : Int) (s : ByteArray) (wn : (Lit.int .i64 n).wf = true) (hs : (s.size : Int) ≤ 9223372036854775807) (w : World) (ht : TabOk w) :
    Calls Tryd.prog 7 #[.int .i64 n, .int .i64 d, .string s] w fun e w' => e = .returned (.bool true) ∧ Below w.heap.size w w' := by
  have HTAB := Lib.hid ht
  have H0 := Lib.hid (Below.refl w.heap.size w)
  obtain ⟨n0, n1⟩ := wfI wn
  clear ht wn
  by_cases hl : (s.size : Int) ≤ 100
  · have HV := Lib.hid (show Un.paV s.data.toList (Un.clV d 0 9).toNat = Un.paV s.data.toList (Un.clV d 0 9).toNat ∧ Un.paE s.data.toList (Un.clV d 0 9).toNat = Un.paE s.data.toList (Un.clV d 0 9).toNat from ⟨rfl, rfl⟩)
    obtain ⟨v, hv⟩ : ∃ v, Un.paV s.data.toList (Un.clV d 0 9).toNat = v := ⟨_, rfl⟩
    obtain ⟨x, hx⟩ : ∃ v, Un.paE s.data.toList (Un.clV d 0 9).toNat = v := ⟨_, rfl⟩
    obtain ⟨t, hT⟩ : ∃ t, (⟨(Un.decT n (Un.clV d 0 9).toNat).toArray⟩ : ByteArray) = t := ⟨_, rfl⟩
    have HP := Lib.hid (And.intro hv hx)
    have HD := Lib.hid hT
    clear hv hx hT HV
    go_enter Tryd.func7, Tryd.ntmps7
    go_wp2_with fail
    (with_reducible refine (parse_eq _ _ _ _ HP hs _).mono ?_)
    rintro e w1 ⟨rfl, hb⟩
    have H1 := Lib.hid (below_old H0.out hb)
    clear hb
    go_wp2_with fail
    (with_reducible refine (rparse_eq _ _ _ _ HP hl _).mono ?_)
    rintro e w2 ⟨rfl, hb⟩
    have H2 := Lib.hid (below_old H1.out hb)
    clear hb
    go_wp2_with fail
    (with_reducible refine (decimal_eq _ _ _ HD n0 n1 _ (Lib.hid (HTAB.out.below H2.out))).mono ?_)
    rintro e w3 ⟨rfl, hb⟩
    have H3 := Lib.hid (below_old H2.out hb)
    clear hb
    go_wp2_with fail
    (with_reducible refine (rdecimal_eq _ _ _ HD n0 n1 _).mono ?_)
    rintro e w4 ⟨rfl, hb⟩
    have H4 := Lib.hid (below_old H3.out hb)
    clear hb
    go_wp2_with fail
    (with_reducible refine (awake_any _ (HTAB.out.below H4.out)).mono ?_)
    rintro e w99 ⟨rfl, hb⟩
    have H99 := Lib.hid (below_old H4.out hb)
    clear hb
    go_wp2_with fail
    go_ret
    exact ⟨rfl, H99.out⟩
  · go_enter Tryd.func7, Tryd.ntmps7
    go_wp2_with fail
    (with_reducible refine (awake_any _ (HTAB.out.below H0.out)).mono ?_)
    rintro e w99 ⟨rfl, hb⟩
    have H99 := Lib.hid (below_old H0.out hb)
    clear hb
    go_wp2_with fail
    go_ret
    exact ⟨rfl, H99.out⟩
end Go.Proofs.YtknfdnlmkjhmcaaDoor
