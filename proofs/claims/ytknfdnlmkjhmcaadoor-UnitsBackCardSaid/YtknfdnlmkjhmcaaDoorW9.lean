/- law01.awake; the walks of the laws UnitsDivides, UnitsScales, UnitsMoves, UnitsRoots. -/
import Derived.Test.YtknfdnlmkjhmcaaDoorW8
import Derived.Test.YtknfdnlmkjhmcaaDoorU5
namespace Go.Proofs.YtknfdnlmkjhmcaaDoor
open Go.RowKit
set_option linter.unusedVariables false

theorem floor_eq (a b q : Int) (o : Bool) (h : Hid (Un.flQ a b = q ∧ Un.flOk a b = o)) (w : World) (ha0 : -9223372036854775808 ≤ a) (ha1 : a ≤ 9223372036854775807) (hb0 : -9223372036854775808 ≤ b) (hb1 : b ≤ 9223372036854775807) :
    Calls Tryd.prog 12 #[.int .i64 a, .int .i64 b] w fun e w' => e = .returned (.tuple #[.int .i64 q, .bool o]) ∧ Below w.heap.size w w' := by
  have := floor_any a b w ha0 ha1 hb0 hb1
  rw [h.out.1, h.out.2] at this
  exact this
theorem nearest_eq (a b q : Int) (o : Bool) (h : Hid (Un.nrQ a b = q ∧ Un.flOk a b = o)) (w : World) (ha0 : -9223372036854775808 ≤ a) (ha1 : a ≤ 9223372036854775807) (hb0 : -9223372036854775808 ≤ b) (hb1 : b ≤ 9223372036854775807) :
    Calls Tryd.prog 13 #[.int .i64 a, .int .i64 b] w fun e w' => e = .returned (.tuple #[.int .i64 q, .bool o]) ∧ Below w.heap.size w w' := by
  have := nearest_any a b w ha0 ha1 hb0 hb1
  rw [h.out.1, h.out.2] at this
  exact this
theorem muldiv_eq (a b c v x : Int) (h : Hid (mdV a b c = v ∧ mdE a b c = x)) (ha0 : -9223372036854775808 ≤ a) (ha1 : a ≤ 9223372036854775807) (hb0 : -9223372036854775808 ≤ b) (hb1 : b ≤ 9223372036854775807) (hc1 : c ≤ 9223372036854775807) (w : World) :
    Calls Tryd.prog 17 #[.int .i64 a, .int .i64 b, .int .i64 c] w fun e w' => e = .returned (.tuple #[.int .i64 v, .int .i64 x]) ∧ Below w.heap.size w w' := by
  have := muldiv_any a b c ha0 ha1 hb0 hb1 hc1 w
  rw [h.out.1, h.out.2] at this
  exact calls_drew this
theorem toward_eq (a b k t : Int) (h : Hid (Un.twV a b k = t)) (w : World) (ha0 : -9223372036854775808 ≤ a) (ha1 : a ≤ 9223372036854775807) (hb0 : -9223372036854775808 ≤ b) (hb1 : b ≤ 9223372036854775807) :
    Calls Tryd.prog 21 #[.int .i64 a, .int .i64 b, .int .i64 k] w fun e w' => e = .returned (.int .i64 t) ∧ Below w.heap.size w w' := by
  have := toward_any a b k w ha0 ha1 hb0 hb1
  rw [h.out] at this
  exact calls_drew this
theorem parse_eq (s : ByteArray) (d v x : Int) (h : Hid (Un.paV s.data.toList (Un.clV d 0 9).toNat = v ∧ Un.paE s.data.toList (Un.clV d 0 9).toNat = x)) (hs : (s.size : Int) ≤ 9223372036854775807) (w : World) :
    Calls Tryd.prog 24 #[.string s, .int .i64 d] w fun e w' => e = .returned (.tuple #[.int .i64 v, .int .i64 x]) ∧ Below w.heap.size w w' :=
  (parse_any s d w hs).mono fun e w' ⟨he, n, hw⟩ => ⟨by rw [he, h.out.1, h.out.2], by rw [hw]; exact below_drewN (Below.refl _ _) n⟩
theorem rparse_eq (s : ByteArray) (d v x : Int) (h : Hid (Un.paV s.data.toList (Un.clV d 0 9).toNat = v ∧ Un.paE s.data.toList (Un.clV d 0 9).toNat = x)) (hs : (s.size : Int) ≤ 100) (w : World) :
    Calls Tryd.prog 25 #[.string s, .int .i64 d] w fun e w' => e = .returned (.tuple #[.int .i64 v, .int .i64 x]) ∧ Below w.heap.size w w' :=
  (rparse_any s d w hs).mono fun e w' ⟨he, hw⟩ => ⟨by rw [he, h.out.1, h.out.2], hw⟩
theorem decimal_eq (n d : Int) (t : ByteArray) (h : Hid ((⟨(Un.decT n (Un.clV d 0 9).toNat).toArray⟩ : ByteArray) = t)) (h0 : -9223372036854775808 ≤ n) (h1 : n ≤ 9223372036854775807) (w : World) (ht : Hid (TabOk w)) :
    Calls Tryd.prog 26 #[.int .i64 n, .int .i64 d] w fun e w' => e = .returned (.string t) ∧ Below w.heap.size w w' := by
  have := decimal_any n d w h0 h1 ht.out
  rw [h.out] at this
  exact this
theorem rdecimal_eq (n d : Int) (t : ByteArray) (h : Hid ((⟨(Un.decT n (Un.clV d 0 9).toNat).toArray⟩ : ByteArray) = t)) (h0 : -9223372036854775808 ≤ n) (h1 : n ≤ 9223372036854775807) (w : World) :
    Calls Tryd.prog 27 #[.int .i64 n, .int .i64 d] w fun e w' => e = .returned (.string t) ∧ Below w.heap.size w w' := by
  have := rdecimal_any n d w h0 h1
  rw [h.out] at this
  exact this
theorem root_99 (w : World) : Calls Tryd.prog 23 #[.int .i64 99] w fun e w' => e = .returned (.int .i64 9) ∧ w = w' :=
  (root_any 99 w (by omega)).mono fun e w' ⟨r, hr, he, hw⟩ => ⟨by rw [he, Un.root_99 hr], hw⟩

theorem aw_floor : Un.flQ (-7) 2 = -4 ∧ Un.flOk (-7) 2 = true := by decide +kernel
theorem aw_near : Un.nrQ (-5) 2 = -2 ∧ Un.flOk (-5) 2 = true := by decide +kernel
theorem aw_md : mdV 1000000000000000000 1000000000000000000 1000000000000000000 = 1000000000000000000 ∧ mdE 1000000000000000000 1000000000000000000 1000000000000000000 = 0 := by decide +kernel
theorem aw_pa : Un.paV (⟨#[45, 48, 46, 48, 53]⟩ : ByteArray).data.toList (Un.clV 2 0 9).toNat = -5 ∧ Un.paE (⟨#[45, 48, 46, 48, 53]⟩ : ByteArray).data.toList (Un.clV 2 0 9).toNat = 0 := by decide +kernel
theorem aw_cl : Un.clV 7 1 5 = 5 := by decide +kernel
theorem aw_t1 : Un.twV 2000 2600 500 = 2030 := by decide +kernel
theorem aw_t2 : Un.twV (-9223372036854775808) 9223372036854775807 5000 = -1 := by decide +kernel
theorem aw_dec : (⟨(Un.decT 1234 (Un.clV 1 0 9).toNat).toArray⟩ : ByteArray) = ⟨#[49, 50, 51, 46, 52]⟩ := by
  have h : Lib.nDigits 1234 = 4 := Lib.nDigits_unique 3 1234 (by omega) (by omega)
  have hc : Un.cnt 1234 1 = 4 := by unfold Un.cnt; rw [h]; rfl
  have hk : (Un.clV 1 0 9).toNat = 1 := by decide +kernel
  have hd : Un.digL 1234 4 = [49, 50, 51, 52] := by decide +kernel
  rw [hk]
  unfold Un.decT
  rw [if_neg (by omega), show (1234 : Int).natAbs = 1234 from rfl]
  unfold Un.bodyT Un.padT
  rw [hc, hd]
  rfl
set_option maxHeartbeats 4000000 in
theorem awake_any (w : World) (ht : TabOk w) : Calls Tryd.prog 16 #[] w fun e w' => e = .returned (.bool true) ∧ Below w.heap.size w w' := by
  have HTAB := Lib.hid ht
  have H0 := Lib.hid (Below.refl w.heap.size w)
  clear ht
  go_enter Tryd.func16, Tryd.ntmps16
  go_wp2_with fail
  (with_reducible refine (floor_eq _ _ _ _ (Lib.hid aw_floor) _ (by omega) (by omega) (by omega) (by omega)).mono ?_)
  rintro e w1 ⟨rfl, hb⟩
  have H1 := Lib.hid (below_old H0.out hb)
  clear hb
  go_wp2_with fail
  (with_reducible refine (nearest_eq _ _ _ _ (Lib.hid aw_near) _ (by omega) (by omega) (by omega) (by omega)).mono ?_)
  rintro e w2 ⟨rfl, hb⟩
  have H2 := Lib.hid (below_old H1.out hb)
  clear hb
  go_wp2_with fail
  (with_reducible refine (muldiv_eq _ _ _ _ _ (Lib.hid aw_md) (by omega) (by omega) (by omega) (by omega) (by omega) _).mono ?_)
  rintro e w3 ⟨rfl, hb⟩
  have H3 := Lib.hid (below_old H2.out hb)
  clear hb
  go_wp2_with fail
  (with_reducible refine (parse_eq _ _ _ _ (Lib.hid aw_pa) (by decide) _).mono ?_)
  rintro e w4 ⟨rfl, hb⟩
  have H4 := Lib.hid (below_old H3.out hb)
  clear hb
  go_wp2_with fail
  (with_reducible refine (clamp_eq _ _ _ _ (Lib.hid aw_cl) _).mono ?_)
  rintro e w5 ⟨rfl, rfl⟩
  go_wp2_with fail
  (with_reducible refine (toward_eq _ _ _ _ (Lib.hid aw_t1) _ (by omega) (by omega) (by omega) (by omega)).mono ?_)
  rintro e w6 ⟨rfl, hb⟩
  have H6 := Lib.hid (below_old H4.out hb)
  clear hb
  go_wp2_with fail
  (with_reducible refine (toward_eq _ _ _ _ (Lib.hid aw_t2) _ (by omega) (by omega) (by omega) (by omega)).mono ?_)
  rintro e w7 ⟨rfl, hb⟩
  have H7 := Lib.hid (below_old H6.out hb)
  clear hb
  go_wp2_with fail
  (with_reducible refine (root_99 _).mono ?_)
  rintro e w8 ⟨rfl, rfl⟩
  go_wp2_with fail
  (with_reducible refine (decimal_eq _ _ _ (Lib.hid aw_dec) (by omega) (by omega) _ (Lib.hid (HTAB.out.below H7.out))).mono ?_)
  rintro e w9 ⟨rfl, hb⟩
  have H9 := Lib.hid (below_old H7.out hb)
  clear hb
  go_wp2_with fail
  go_ret
  exact ⟨rfl, H9.out⟩
end Go.Proofs.YtknfdnlmkjhmcaaDoor
