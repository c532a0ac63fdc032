/- Plain arithmetic: one half-step of the schoolbook division of 128 by 64 bits (no program in sight). -/
import Derived.Lib.BitFns
import Derived.WalkKit
namespace Go.Proofs.YtknfdnlmkjhmcaaDoor

namespace Kn
/-- u < v, d < 2^32, v normalized: the first guess is at most 2^32 + 1 and at least the quotient. -/
theorem guess_le (u v : Nat) (hv : 9223372036854775808 ≤ v) (hv2 : v < 18446744073709551616) (hu : u < v) : u / (v / 4294967296) ≤ 4294967297 := by
  have h1 : 2147483648 ≤ v / 4294967296 := by omega
  have h2 : u < 4294967296 * (v / 4294967296) + 4294967296 := by omega
  have h3 : u < (v / 4294967296) * 4294967298 := by omega
  have := Nat.div_lt_of_lt_mul h3
  omega

theorem true_lt (u d v : Nat) (hd : d < 4294967296) (hu : u < v) : (u * 4294967296 + d) / v < 4294967296 := by
  apply Nat.div_lt_of_lt_mul
  have : (u + 1) * 4294967296 ≤ v * 4294967296 := Nat.mul_le_mul_right _ hu
  omega

theorem true_le (u d v : Nat) (hv : 9223372036854775808 ≤ v) (hd : d < 4294967296) : (u * 4294967296 + d) / v ≤ u / (v / 4294967296) := by
  have h1 : 0 < v / 4294967296 := by omega
  rw [Nat.le_div_iff_mul_le h1]
  have hq : (u * 4294967296 + d) / v * v ≤ u * 4294967296 + d := Nat.div_mul_le_self _ _
  generalize (u * 4294967296 + d) / v = q at *
  have h2 : q * (v / 4294967296 * 4294967296) ≤ q * v := Nat.mul_le_mul_left _ (by omega)
  rw [← Nat.mul_assoc] at h2
  omega

/-- The test says that the guess is too great. -/
theorem step (u d v g r : Nat) (hd : d < 4294967296) (hu : u < v) (he : g * (v / 4294967296) + r = u) (hg : (u * 4294967296 + d) / v ≤ g)
    (hc : 4294967296 ≤ g ∨ 4294967296 * r + d < g * (v % 4294967296)) : 1 ≤ g ∧ (u * 4294967296 + d) / v ≤ g - 1 ∧ (g - 1) * (v / 4294967296) + (r + v / 4294967296) = u := by
  have hv : 0 < v := by omega
  have ht := true_lt u d v hd hu
  have hlt : (u * 4294967296 + d) / v < g := by
    rcases hc with hc | hc
    · omega
    · rw [Nat.div_lt_iff_lt_mul hv]
      have e : g * v = g * (v / 4294967296) * 4294967296 + g * (v % 4294967296) := by
        rw [Nat.mul_assoc, ← Nat.mul_add]
        congr 1
        omega
      rw [e]
      omega
  generalize (u * 4294967296 + d) / v = Q at *
  refine ⟨by omega, by omega, ?_⟩
  obtain ⟨k, rfl⟩ : ∃ k, g = k + 1 := ⟨g - 1, by omega⟩
  rw [Nat.add_mul] at he
  simp
  omega

theorem isDone (u d v g r : Nat) (hv : 0 < v) (he : g * (v / 4294967296) + r = u) (hg : (u * 4294967296 + d) / v ≤ g)
    (hc : g * (v % 4294967296) ≤ 4294967296 * r + d) : g = (u * 4294967296 + d) / v := by
  have : g ≤ (u * 4294967296 + d) / v := by
    rw [Nat.le_div_iff_mul_le hv]
    have e : g * v = g * (v / 4294967296) * 4294967296 + g * (v % 4294967296) := by
      rw [Nat.mul_assoc, ← Nat.mul_add]
      congr 1
      omega
    rw [e]
    omega
  omega

theorem isDone' (u d v g r : Nat) (hv : 0 < v) (he : g * (v / 4294967296) + r = u) (hg : (u * 4294967296 + d) / v ≤ g)
    (h1 : g ≤ 4294967296) (h2 : 4294967296 ≤ r) : g = (u * 4294967296 + d) / v := by
  refine isDone u d v g r hv he hg ?_
  have h3 : v % 4294967296 < 4294967296 := Nat.mod_lt _ (by omega)
  have : g * (v % 4294967296) ≤ 4294967296 * 4294967295 := Nat.mul_le_mul h1 (by omega)
  omega

/-- What is left behind the half-step, computed modulo 2^64. -/
theorem rest (u d v : Nat) (hv2 : v < 18446744073709551616) (hv : 0 < v) :
    IntKind.u64.wrap (IntKind.u64.wrap (IntKind.u64.wrap ((u : Int) * 4294967296) + (d : Int)) - IntKind.u64.wrap ((((u * 4294967296 + d) / v : Nat) : Int) * (v : Int))) = (((u * 4294967296 + d) % v : Nat) : Int) := by
  simp only [IntKind.wrap_u64]
  have h1 : (u * 4294967296 + d) % v < v := Nat.mod_lt _ hv
  have h2 := Nat.div_add_mod (u * 4294967296 + d) v
  have h3 : ((((u * 4294967296 + d) / v : Nat) : Int) * (v : Int)) = ((v * ((u * 4294967296 + d) / v) : Nat) : Int) := by rw [Int.natCast_mul, Int.mul_comm]
  rw [h3]
  generalize v * ((u * 4294967296 + d) / v) = z at *
  omega

/-- The two half-steps together. -/
theorem both (A B v : Nat) (hv : 0 < v) : A / v = A / v ∧ ((A / v) * B + (A % v * B) / v) = (A * B) / v ∧ (A % v * B) % v = (A * B) % v := by
  refine ⟨rfl, ?_, ?_⟩
  · have h := Nat.div_add_mod A v
    have e : A * B = (A / v * B) * v + A % v * B := by
      conv => lhs; rw [← h]
      rw [Nat.add_mul, Nat.mul_comm v, Nat.mul_assoc, Nat.mul_assoc, Nat.mul_comm v]
    rw [e, Nat.add_comm (A / v * B * v), Nat.add_mul_div_right _ _ hv, Nat.add_comm]
  · rw [Nat.mul_mod, Nat.mod_mod, ← Nat.mul_mod]

theorem bitLen_bounds : ∀ (n y : Nat), y < 2 ^ n → n ≤ 64 → 0 < y → 2 ^ (Lib.bitLen y - 1) ≤ y ∧ y < 2 ^ Lib.bitLen y ∧ 1 ≤ Lib.bitLen y
  | 0, y, h, _, h0 => by simp at h; omega
  | n + 1, y, h, hn, h0 => by
    have h64 : y < 2 ^ 64 := Nat.lt_of_lt_of_le h (Nat.pow_le_pow_right (by omega) hn)
    have hh := Lib.bitLen_half y (by omega) h64
    by_cases h1 : y / 2 = 0
    · have : y = 1 := by omega
      subst this
      refine ⟨?_, ?_, ?_⟩ <;> decide
    · obtain ⟨a, b, c⟩ := bitLen_bounds n (y / 2) (by rw [Nat.pow_succ] at h; omega) (by omega) (by omega)
      rw [hh]
      generalize Lib.bitLen (y / 2) = k at *
      obtain ⟨m, rfl⟩ : ∃ m, k = m + 1 := ⟨k - 1, by omega⟩
      simp only [Nat.add_sub_cancel] at a
      refine ⟨?_, ?_, by omega⟩
      · rw [show 1 + (m + 1) - 1 = m + 1 by omega, Nat.pow_succ]; omega
      · rw [show 1 + (m + 1) = (m + 1) + 1 by omega, Nat.pow_succ]; omega

/-- The shift that normalizes a divisor. -/
theorem normed (y : Nat) (hy : y < 18446744073709551616) (h0 : 0 < y) :
    ∃ s : Nat, s ≤ 63 ∧ Lib.bitLen y + s = 64 ∧ 9223372036854775808 ≤ y * 2 ^ s ∧ y * 2 ^ s < 18446744073709551616 := by
  obtain ⟨a, b, c⟩ := bitLen_bounds 64 y hy (Nat.le_refl _) h0
  have d := Lib.bitLen_le y 64 (Nat.le_refl _) hy
  refine ⟨64 - Lib.bitLen y, by omega, by omega, ?_, ?_⟩
  · have := Nat.mul_le_mul_right (2 ^ (64 - Lib.bitLen y)) a
    rw [← Nat.pow_add, show Lib.bitLen y - 1 + (64 - Lib.bitLen y) = 63 by omega] at this
    exact this
  · have := Nat.mul_lt_mul_of_pos_right b (Nat.two_pow_pos (64 - Lib.bitLen y))
    rw [← Nat.pow_add, show Lib.bitLen y + (64 - Lib.bitLen y) = 64 by omega] at this
    exact this

/-- The dividend, shifted. -/
theorem shifted (hi lo y s : Nat) (hs : s ≤ 63) (hl : lo < 18446744073709551616) (hh : hi < y) :
    hi * 2 ^ s + lo / 2 ^ (64 - s) < y * 2 ^ s ∧ lo / 2 ^ (64 - s) < 2 ^ s ∧
    (hi * 18446744073709551616 + lo) * 2 ^ s = (hi * 2 ^ s + lo / 2 ^ (64 - s)) * 18446744073709551616 + lo * 2 ^ s % 18446744073709551616 := by
  have e64 : (2 : Nat) ^ (64 - s) * 2 ^ s = 18446744073709551616 := by rw [← Nat.pow_add, show 64 - s + s = 64 by omega]
  have h1 : lo / 2 ^ (64 - s) < 2 ^ s := by
    apply Nat.div_lt_of_lt_mul
    rw [e64]; exact hl
  have h2 : (hi + 1) * 2 ^ s ≤ y * 2 ^ s := Nat.mul_le_mul_right _ hh
  rw [Nat.add_mul] at h2
  refine ⟨by omega, h1, ?_⟩
  have h3 : lo * 2 ^ s / 18446744073709551616 = lo / 2 ^ (64 - s) := by
    rw [← e64, Nat.mul_div_mul_right _ _ (Nat.two_pow_pos s)]
  have h4 := Nat.div_add_mod (lo * 2 ^ s) 18446744073709551616
  rw [h3] at h4
  rw [Nat.add_mul, Nat.add_mul, Nat.mul_right_comm]
  omega

theorem or_add (hi lo s : Nat) (h : lo < 2 ^ s) : hi * 2 ^ s ||| lo = hi * 2 ^ s + lo := by
  rw [← Nat.shiftLeft_eq, ← Nat.shiftLeft_add_eq_or_of_lt h]

theorem joined' (X y p v N d : Nat) (hp : 0 < p) (hv : 0 < v) (ev : y * p = v) (e3 : X * p = N * 4294967296 + d) :
    N / v * 4294967296 + (N % v * 4294967296 + d) / v = X / y ∧ (N % v * 4294967296 + d) % v / p = X % y := by
  have e1 : X * p / v = X / y := by rw [← ev]; exact Nat.mul_div_mul_right _ _ hp
  have e2 : X * p % v = X % y * p := by rw [← ev]; exact Nat.mul_mod_mul_right _ _ _
  have hd := Nat.div_add_mod N v
  have e4 : X * p = (N % v * 4294967296 + d) + (N / v * 4294967296) * v := by
    rw [e3]
    have : N * 4294967296 = (v * (N / v) + N % v) * 4294967296 := by rw [hd]
    rw [this, Nat.add_mul, Nat.mul_comm v, Nat.mul_right_comm]
    omega
  constructor
  · rw [← e1, e4, Nat.add_mul_div_right _ _ hv, Nat.add_comm]
  · have : X % y * p = (N % v * 4294967296 + d) % v := by rw [← e2, e4, Nat.add_mul_mod_self_right]
    rw [← this, Nat.mul_div_cancel _ hp]

/-- The whole division out of the two half-steps. -/
theorem joined (X y s u L : Nat) (hv : 0 < y * 2 ^ s) (he : X * 2 ^ s = u * 18446744073709551616 + L) :
    (u * 4294967296 + L / 4294967296) / (y * 2 ^ s) * 4294967296 + ((u * 4294967296 + L / 4294967296) % (y * 2 ^ s) * 4294967296 + L % 4294967296) / (y * 2 ^ s) = X / y ∧
    ((u * 4294967296 + L / 4294967296) % (y * 2 ^ s) * 4294967296 + L % 4294967296) % (y * 2 ^ s) / 2 ^ s = X % y :=
  joined' X y (2 ^ s) (y * 2 ^ s) _ _ (Nat.two_pow_pos s) hv rfl (by rw [he]; omega)

end Kn
end Go.Proofs.YtknfdnlmkjhmcaaDoor
