/- Plain arithmetic: a * b / c rounded down, and when it fits; no program in sight. -/
import Derived.WalkKit
namespace Go.Proofs.YtknfdnlmkjhmcaaDoor

/-- The quotient a * b / c, rounded down, fits into an int (c above 0). -/
def mdOk (a b c : Int) : Bool := decide (0 < c ∧ -9223372036854775808 ≤ a * b / c ∧ a * b / c ≤ 9223372036854775807)
def mdV (a b c : Int) : Int := if mdOk a b c then a * b / c else 0
def mdE (a b c : Int) : Int := if mdOk a b c then 0 else 9

theorem md_ok {a b c : Int} (h0 : 0 < c) (h1 : -9223372036854775808 ≤ a * b / c) (h2 : a * b / c ≤ 9223372036854775807) : mdV a b c = a * b / c ∧ mdE a b c = 0 := by
  have : mdOk a b c = true := decide_eq_true ⟨h0, h1, h2⟩
  simp [mdV, mdE, this]
theorem md_no {a b c : Int} (h : ¬ (0 < c ∧ -9223372036854775808 ≤ a * b / c ∧ a * b / c ≤ 9223372036854775807)) : mdV a b c = 0 ∧ mdE a b c = 9 := by
  have : mdOk a b c = false := decide_eq_false h
  simp [mdV, mdE, this]

namespace Md
theorem floor_of {x c q r : Int} (hc : 0 < c) (he : c * q + r = x) (h0 : 0 ≤ r) (h1 : r < c) : x / c = q :=
  ((Int.ediv_emod_unique hc).2 ⟨by omega, h0, h1⟩).1

theorem pos_of (a b : Int) (h : (a < 0) = (b < 0)) : a * b = ((a.natAbs * b.natAbs : Nat) : Int) := by
  by_cases h1 : a < 0
  · have h2 : b < 0 := by rw [← h]; exact h1
    have ha : (a.natAbs : Int) = -a := by omega
    have hb : (b.natAbs : Int) = -b := by omega
    rw [Int.natCast_mul, ha, hb, Int.neg_mul_neg]
  · have h2 : ¬ b < 0 := by rw [← h]; exact h1
    have ha : (a.natAbs : Int) = a := by omega
    have hb : (b.natAbs : Int) = b := by omega
    rw [Int.natCast_mul, ha, hb]

theorem neg_of (a b : Int) (h : (a < 0) ≠ (b < 0)) : a * b = -((a.natAbs * b.natAbs : Nat) : Int) := by
  by_cases h1 : a < 0
  · have h2 : ¬ b < 0 := fun hb => h (by simp [h1, hb])
    have ha : (a.natAbs : Int) = -a := by omega
    have hb : (b.natAbs : Int) = b := by omega
    rw [Int.natCast_mul, ha, hb, Int.neg_mul, Int.neg_neg]
  · have h2 : b < 0 := Decidable.byContradiction fun hb => h (by simp [h1, hb])
    have ha : (a.natAbs : Int) = a := by omega
    have hb : (b.natAbs : Int) = -b := by omega
    rw [Int.natCast_mul, ha, hb, Int.mul_neg, Int.neg_neg]

/-- P: the product of the magnitudes; its quotient q and rest r by C. -/
theorem same {a b c : Int} {P C q r : Nat} (hp : a * b = (P : Int)) (hc : c = (C : Int)) (h0 : 0 < C) (he : C * q + r = P) (hr : r < C) : a * b / c = (q : Int) := by
  rw [hp, hc]
  exact floor_of (by omega) (by rw [← he, Int.natCast_add, Int.natCast_mul]) (by omega) (by omega)
theorem other0 {a b c : Int} {P C q : Nat} (hp : a * b = -(P : Int)) (hc : c = (C : Int)) (h0 : 0 < C) (he : C * q + 0 = P) : a * b / c = -(q : Int) := by
  rw [hp, hc]
  refine floor_of (r := 0) (by omega) ?_ (by omega) (by omega)
  rw [← he, Int.natCast_add, Int.natCast_mul, Int.mul_neg]; simp
theorem other1 {a b c : Int} {P C q r : Nat} (hp : a * b = -(P : Int)) (hc : c = (C : Int)) (h0 : 0 < r) (he : C * q + r = P) (hr : r < C) : a * b / c = -(q : Int) - 1 := by
  rw [hp, hc]
  refine floor_of (r := (C : Int) - r) (by omega) ?_ (by omega) (by omega)
  rw [← he, Int.natCast_add, Int.natCast_mul, Int.mul_sub, Int.mul_neg]; omega
end Md
end Go.Proofs.YtknfdnlmkjhmcaaDoor
