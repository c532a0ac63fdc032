/- The reference's scaled: the quotient and the remainder of a * b by c, bit by bit, or false where the quotient is above 2^63. -/
import Derived.Test.YtknfdnlmkjhmcaaDoorU3
import Derived.Test.YtknfdnlmkjhmcaaDoorM2
namespace Go.Proofs.YtknfdnlmkjhmcaaDoor
open Go.RowKit
set_option linter.unusedVariables false

theorem ret_qrb {k l : IntKind} {a b c d : Int} {x y : Bool} (h : a = b) (h' : c = d) (h2 : x = y) : Ending.returned (.tuple #[.int k a, .int l c, .bool x]) = .returned (.tuple #[.int k b, .int l d, .bool y]) := by rw [h, h', h2]

set_option maxRecDepth 100000 in
set_option maxHeartbeats 4000000 in
theorem scaled_any (a b c : Int) (ha0 : 0 ≤ a) (ha1 : a ≤ 9223372036854775808) (hb0 : 0 ≤ b) (hb1 : b ≤ 9223372036854775808) (hc0 : 0 < c) (hc1 : c ≤ 9223372036854775807) (w : World) :
    Calls Tryd.prog 36 #[.int .u64 a, .int .u64 b, .int .u64 c] w fun e w' => e = .returned (.tuple #[.int .u64 (scQ a b c), .int .u64 (scR a b c), .bool (scOk a b c)]) ∧ w = w' := by
  obtain ⟨A, hA⟩ : ∃ A, A = a / c := ⟨_, rfl⟩
  obtain ⟨B, hB⟩ : ∃ B, B = a % c := ⟨_, rfl⟩
  have hAB : Hid (A * c + B = a) := by show _ = _; rw [hA, hB, Int.mul_comm]; exact Int.mul_ediv_add_emod _ _
  have hA0 : 0 ≤ A := by rw [hA]; exact Int.ediv_nonneg ha0 (by omega)
  have hA1 : A ≤ a := by rw [hA]; exact Int.ediv_le_self _ ha0
  have hB0 : 0 ≤ B := by rw [hB]; exact Int.emod_nonneg _ (by omega)
  have hB1 : B < c := by rw [hB]; exact Int.emod_lt_of_pos _ hc0
  have eA := hA.symm
  have eB := hB.symm
  clear hA hB
  have e0 : (c == 0) = false := by rw [beq_eq_false_iff_ne]; omega
  go_enter Tryd.func36, Tryd.ntmps36
  go_wp2
  go_loop [9, 10, 11] (fun qs rs is => ∃ (m : Nat) (q r : Int), qs = .int .u64 q ∧ rs = .int .u64 r ∧ is = .int .i64 ((m : Int) - 1) ∧ m ≤ 64 ∧ 0 ≤ q ∧ q ≤ 9223372036854775808 ∧ 0 ≤ r ∧ r < c ∧ Hid (q * c + r = a * (b / 2 ^ m))) (fun _ _ is => (intOf is + 1).toNat)
  case atStart => exact ⟨64, 0, 0, rfl, rfl, rfl, by omega, by omega, by omega, by omega, hc0, by show _ = _; rw [Sc.top b hb0 (by omega)]; simp⟩
  case round =>
    obtain ⟨m, q, r, rfl, rfl, rfl, hm, hq0, hq1, hr0, hr1, he⟩ := hrel
    rcases m with _ | k
    · have hz : ((0 : Nat) : Int) - 1 = -1 := rfl
      rw [hz]
      clear hz
      have hok := Lib.hid (sc_ok hc0 (by simpa using he.out) hr0 hr1 hq1)
      go_wp2
      go_ret3
      exact ⟨ret_qrb hok.out.1.symm hok.out.2.1.symm hok.out.2.2.symm, rfl⟩
    · have hz : ((k + 1 : Nat) : Int) - 1 = (k : Int) := by omega
      rw [hz]
      have hk : k ≤ 63 := by omega
      clear hz hm
      obtain ⟨hX, hx0, hXb⟩ := Sc.bit b k hb0
      obtain ⟨x, hx⟩ : ∃ x, x = b / 2 ^ (k + 1) := ⟨_, rfl⟩
      obtain ⟨X, e3⟩ : ∃ X, b / 2 ^ k = X := ⟨_, rfl⟩
      rw [e3, ← hx] at hX
      rw [e3] at hXb
      rw [← hx] at he hx0
      have HX := Lib.hid hX
      have HE := Lib.hid e3
      have hX0 : 0 ≤ X := by omega
      clear hX hx
      by_cases c1 : 4611686018427387904 < q
      · clear eA eB e3
        have hno := Lib.hid (sc_no (y := 2 * q) (x := 2 * x) (b := b) hc0 ha0 (by have := Sc.dbl he.out; omega) (by have := HX.out; omega) (by omega))
        go_wp2
        go_ret3
        exact ⟨ret_qrb hno.out.1.symm hno.out.2.1.symm hno.out.2.2.symm, rfl⟩
      · by_cases c2 : c ≤ 2 * r
        · skip
          by_cases c3 : 9223372036854775808 < 2 * q + 1
          · clear eA eB e3
            have hno := Lib.hid (sc_no (y := 2 * q + 1) (x := 2 * x) (b := b) hc0 ha0 (by have := Sc.dbl1 he.out; omega) (by have := HX.out; omega) (by omega))
            go_wp2
            go_ret3
            exact ⟨ret_qrb hno.out.1.symm hno.out.2.1.symm hno.out.2.2.symm, rfl⟩
          · by_cases bit : X % 2 = 1
            · have bit' : (X % 2 == 1) = true := by rw [beq_iff_eq]; exact bit
              have Hbit := Lib.hid bit
              clear bit
              by_cases c4 : 9223372036854775808 - (2 * q + 1) < A
              · have hXe : X = 2 * x + 1 := by have := HX.out; have := Hbit.out; omega
                have hno := Lib.hid (sc_no (y := 2 * q + 1 + A) (x := 2 * x + 1) (b := b) hc0 ha0 (by have := Sc.add (Sc.dbl1 he.out) hAB.out; omega) (by omega) (by omega))
                clear hXe
                go_wp2
                go_ret3
                exact ⟨ret_qrb hno.out.1.symm hno.out.2.1.symm hno.out.2.2.symm, rfl⟩
              · by_cases c5 : c ≤ 2 * r - c + B
                · by_cases c6 : 9223372036854775808 < 2 * q + 1 + A + 1
                  · have hXe : X = 2 * x + 1 := by have := HX.out; have := Hbit.out; omega
                    have hno := Lib.hid (sc_no (y := 2 * q + 1 + A + 1) (x := 2 * x + 1) (b := b) hc0 ha0 (by have := Sc.add1 (Sc.dbl1 he.out) hAB.out; omega) (by omega) (by omega))
                    clear hXe
                    go_wp2
                    go_ret3
                    exact ⟨ret_qrb hno.out.1.symm hno.out.2.1.symm hno.out.2.2.symm, rfl⟩
                  · have bit := Hbit
                    go_wp2
                    go_round
                    case rel => exact ⟨k, 2 * q + 1 + A + 1, 2 * r - c + B - c, by go_num, by go_num, by go_num, by omega, by omega, by omega, by omega, by omega, by show _ = _; rw [HE.out, HX.out]; have hb := bit; rw [hb.out]; exact Sc.add1 (Sc.dbl1 he.out) hAB.out⟩
                    case measure => first | (simp [intOf]; done) | (simp [intOf]; omega)
                · have bit := Hbit
                  go_wp2
                  go_round
                  case rel => exact ⟨k, 2 * q + 1 + A, 2 * r - c + B, by go_num, by go_num, by go_num, by omega, by omega, by omega, by omega, by omega, by show _ = _; rw [HE.out, HX.out]; have hb := bit; rw [hb.out]; exact Sc.add (Sc.dbl1 he.out) hAB.out⟩
                  case measure => first | (simp [intOf]; done) | (simp [intOf]; omega)
            · have bit' : (X % 2 == 1) = false := by rw [beq_eq_false_iff_ne]; exact bit
              have hev : X % 2 = 0 := by omega
              have Hbit := Lib.hid hev
              clear bit hev
              have bit := Hbit
              go_wp2
              go_round
              case rel => exact ⟨k, 2 * q + 1, 2 * r - c, by go_num, by go_num, by go_num, by omega, by omega, by omega, by omega, by omega, by show _ = _; rw [HE.out, HX.out]; have hb := bit; rw [hb.out, Int.add_zero]; exact Sc.dbl1 he.out⟩
              case measure => first | (simp [intOf]; done) | (simp [intOf]; omega)
        · skip
          by_cases c3 : 9223372036854775808 < 2 * q
          · clear eA eB e3
            have hno := Lib.hid (sc_no (y := 2 * q) (x := 2 * x) (b := b) hc0 ha0 (by have := Sc.dbl he.out; omega) (by have := HX.out; omega) (by omega))
            go_wp2
            go_ret3
            exact ⟨ret_qrb hno.out.1.symm hno.out.2.1.symm hno.out.2.2.symm, rfl⟩
          · by_cases bit : X % 2 = 1
            · have bit' : (X % 2 == 1) = true := by rw [beq_iff_eq]; exact bit
              have Hbit := Lib.hid bit
              clear bit
              by_cases c4 : 9223372036854775808 - (2 * q) < A
              · have hXe : X = 2 * x + 1 := by have := HX.out; have := Hbit.out; omega
                have hno := Lib.hid (sc_no (y := 2 * q + A) (x := 2 * x + 1) (b := b) hc0 ha0 (by have := Sc.add (Sc.dbl he.out) hAB.out; omega) (by omega) (by omega))
                clear hXe
                go_wp2
                go_ret3
                exact ⟨ret_qrb hno.out.1.symm hno.out.2.1.symm hno.out.2.2.symm, rfl⟩
              · by_cases c5 : c ≤ 2 * r + B
                · by_cases c6 : 9223372036854775808 < 2 * q + A + 1
                  · have hXe : X = 2 * x + 1 := by have := HX.out; have := Hbit.out; omega
                    have hno := Lib.hid (sc_no (y := 2 * q + A + 1) (x := 2 * x + 1) (b := b) hc0 ha0 (by have := Sc.add1 (Sc.dbl he.out) hAB.out; omega) (by omega) (by omega))
                    clear hXe
                    go_wp2
                    go_ret3
                    exact ⟨ret_qrb hno.out.1.symm hno.out.2.1.symm hno.out.2.2.symm, rfl⟩
                  · have bit := Hbit
                    go_wp2
                    go_round
                    case rel => exact ⟨k, 2 * q + A + 1, 2 * r + B - c, by go_num, by go_num, by go_num, by omega, by omega, by omega, by omega, by omega, by show _ = _; rw [HE.out, HX.out]; have hb := bit; rw [hb.out]; exact Sc.add1 (Sc.dbl he.out) hAB.out⟩
                    case measure => first | (simp [intOf]; done) | (simp [intOf]; omega)
                · have bit := Hbit
                  go_wp2
                  go_round
                  case rel => exact ⟨k, 2 * q + A, 2 * r + B, by go_num, by go_num, by go_num, by omega, by omega, by omega, by omega, by omega, by show _ = _; rw [HE.out, HX.out]; have hb := bit; rw [hb.out]; exact Sc.add (Sc.dbl he.out) hAB.out⟩
                  case measure => first | (simp [intOf]; done) | (simp [intOf]; omega)
            · have bit' : (X % 2 == 1) = false := by rw [beq_eq_false_iff_ne]; exact bit
              have hev : X % 2 = 0 := by omega
              have Hbit := Lib.hid hev
              clear bit hev
              have bit := Hbit
              go_wp2
              go_round
              case rel => exact ⟨k, 2 * q, 2 * r, by go_num, by go_num, by go_num, by omega, by omega, by omega, by omega, by omega, by show _ = _; rw [HE.out, HX.out]; have hb := bit; rw [hb.out, Int.add_zero]; exact Sc.dbl he.out⟩
              case measure => first | (simp [intOf]; done) | (simp [intOf]; omega)
end Go.Proofs.YtknfdnlmkjhmcaaDoor
