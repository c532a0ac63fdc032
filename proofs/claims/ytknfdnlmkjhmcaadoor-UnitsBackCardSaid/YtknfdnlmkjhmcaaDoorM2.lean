/- Plain arithmetic for the reference's multiplication and division bit by bit; no program in sight. -/
import Derived.Test.YtknfdnlmkjhmcaaDoorM1
namespace Go.Proofs.YtknfdnlmkjhmcaaDoor

def scOk (a b c : Int) : Bool := decide (a * b / c ≤ 9223372036854775808)
def scQ (a b c : Int) : Int := if scOk a b c then a * b / c else 0
def scR (a b c : Int) : Int := if scOk a b c then a * b % c else 0

theorem sc_no {a b c y x : Int} (hc : 0 < c) (ha : 0 ≤ a) (h : y * c ≤ a * x) (hx : x ≤ b) (hy : 9223372036854775808 < y) : scQ a b c = 0 ∧ scR a b c = 0 ∧ scOk a b c = false := by
  have h1 : a * x ≤ a * b := Int.mul_le_mul_of_nonneg_left hx ha
  have h2 : y ≤ a * b / c := Int.le_ediv_of_mul_le hc (Int.le_trans h h1)
  have h3 : scOk a b c = false := decide_eq_false (by omega)
  simp [scQ, scR, h3]

theorem sc_ok {a b c q r : Int} (hc : 0 < c) (he : q * c + r = a * b) (h0 : 0 ≤ r) (h1 : r < c) (hq : q ≤ 9223372036854775808) : scQ a b c = q ∧ scR a b c = r ∧ scOk a b c = true := by
  obtain ⟨e1, e2⟩ := (Int.ediv_emod_unique hc (a := a * b) (q := q) (r := r)).2 ⟨by rw [Int.mul_comm]; omega, h0, h1⟩
  have h3 : scOk a b c = true := decide_eq_true (by omega)
  simp [scQ, scR, h3, e1, e2]

namespace Sc
theorem bit (b : Int) (k : Nat) (hb : 0 ≤ b) : b / 2 ^ k = 2 * (b / 2 ^ (k + 1)) + (b / 2 ^ k) % 2 ∧ 0 ≤ b / 2 ^ (k + 1) ∧ b / 2 ^ k ≤ b := by
  have e : b / 2 ^ (k + 1) = b / 2 ^ k / 2 := by rw [Int.pow_succ, Int.ediv_ediv_of_nonneg (Int.le_of_lt (Int.pow_pos (by omega)))]
  have h0 : 0 ≤ b / 2 ^ k := Int.ediv_nonneg hb (Int.le_of_lt (Int.pow_pos (by omega)))
  have h1 : b / 2 ^ k ≤ b := Int.ediv_le_self _ hb
  rw [e]
  omega
theorem top (b : Int) (h0 : 0 ≤ b) (h1 : b < 18446744073709551616) : b / 2 ^ 64 = 0 := Int.ediv_eq_zero_of_lt h0 h1
theorem dbl {q r c a x : Int} (h : q * c + r = a * x) : (2 * q) * c + 2 * r = a * (2 * x) := by grind
theorem dbl1 {q r c a x : Int} (h : q * c + r = a * x) : (2 * q + 1) * c + (2 * r - c) = a * (2 * x) := by grind
theorem add {q r c a x A B : Int} (h : q * c + r = a * x) (e : A * c + B = a) : (q + A) * c + (r + B) = a * (x + 1) := by grind
theorem add1 {q r c a x A B : Int} (h : q * c + r = a * x) (e : A * c + B = a) : (q + A + 1) * c + (r + B - c) = a * (x + 1) := by grind
end Sc
end Go.Proofs.YtknfdnlmkjhmcaaDoor
