

/- Plain mathematics of package units: Floor, Nearest, Clamp, Toward, Root. No program in sight. -/
namespace Go.Proofs.YtcefmnkfkpoccaaDoor
set_option linter.unusedVariables false
namespace Un

/-! ### Floor and Nearest -/
def flOk (a b : Int) : Bool := !(b == 0) && !(a == -9223372036854775808 && b == -1)
/-- The quotient rounded down, where there is one. -/
def flD (a b : Int) : Int := if a.tmod b ≠ 0 ∧ ¬ (a < 0 ↔ b < 0) then a.tdiv b - 1 else a.tdiv b
def flQ (a b : Int) : Int := if flOk a b then flD a b else 0
/-- Is the nearest number the next one? -/
def up (a b : Int) : Bool := decide (0 < b ∧ b ≤ 2 * (a - flD a b * b) ∨ b < 0 ∧ 2 * (a - flD a b * b) ≤ b)
def nrQ (a b : Int) : Int := if flOk a b then (if up a b then flD a b + 1 else flD a b) else 0

theorem tdiv_facts (a b : Int) (hb : b ≠ 0) : a.tdiv b * b + a.tmod b = a ∧ (0 ≤ a → 0 ≤ a.tmod b ∧ a.tmod b < b.natAbs) ∧ (a < 0 → a.tmod b ≤ 0 ∧ -(b.natAbs : Int) < a.tmod b) ∧ (a.tdiv b).natAbs ≤ a.natAbs ∧ (a.tdiv b).natAbs * b.natAbs ≤ a.natAbs := by
  have e := Int.mul_tdiv_add_tmod a b
  have hB : 0 < b.natAbs := Int.natAbs_pos.2 hb
  have m := Int.natAbs_tmod a b
  have ml := Nat.mod_lt a.natAbs hB
  have d := Int.natAbs_tdiv a b
  refine ⟨by rw [Int.mul_comm]; exact e, fun h => ?_, fun h => ?_, by rw [d]; exact Nat.div_le_self _ _, by rw [d]; exact Nat.div_mul_le_self _ _⟩
  · have := Int.tmod_nonneg b h
    omega
  · have : 0 ≤ (-a).tmod b := Int.tmod_nonneg b (by omega)
    rw [Int.neg_tmod] at this
    omega

/-- What holds of the quotient rounded down. -/
structure Fl (a b q : Int) : Prop where
  pos : 0 < b → 0 ≤ a - q * b ∧ a - q * b < b
  neg : b < 0 → b < a - q * b ∧ a - q * b ≤ 0
  lo : -9223372036854775808 ≤ q
  hi : q ≤ 9223372036854775807
theorem quo_range {a b : Int} (ha0 : -9223372036854775808 ≤ a) (ha1 : a ≤ 9223372036854775807) (h : flOk a b = true) : -9223372036854775808 ≤ a.tdiv b ∧ a.tdiv b ≤ 9223372036854775807 := by
  simp only [flOk, Bool.and_eq_true, Bool.not_eq_true', beq_eq_false_iff_ne, Bool.and_eq_false_iff, beq_eq_false_iff_ne, ne_eq] at h
  obtain ⟨hb, hx⟩ := h
  obtain ⟨e, p, n, q1, q2⟩ := tdiv_facts a b hb
  refine ⟨by omega, ?_⟩
  rcases Int.lt_or_le (a.tdiv b) 9223372036854775808 with g | g
  · omega
  · exfalso
    have k1 : a.natAbs = 9223372036854775808 := by omega
    have k2 : (a.tdiv b).natAbs = 9223372036854775808 := by omega
    rw [k1, k2] at q2
    have k3 : b.natAbs = 1 := by omega
    have k4 : a = -9223372036854775808 := by omega
    have k5 : b = 1 ∨ b = -1 := by omega
    rcases k5 with k5 | k5
    · subst k5; simp at *; omega
    · rcases hx with hx | hx
      · exact hx k4
      · exact hx k5
theorem fl_of {a b : Int} (ha0 : -9223372036854775808 ≤ a) (ha1 : a ≤ 9223372036854775807) (h : flOk a b = true) : Fl a b (flD a b) := by
  have hqr := quo_range ha0 ha1 h
  simp only [flOk, Bool.and_eq_true, Bool.not_eq_true', beq_eq_false_iff_ne, Bool.and_eq_false_iff, beq_eq_false_iff_ne, ne_eq] at h
  obtain ⟨hb, hx⟩ := h
  obtain ⟨e, p, n, q1, q2⟩ := tdiv_facts a b hb
  have hq : -9223372036854775808 ≤ a.tdiv b := by omega
  have hq2 := hqr.2
  unfold flD
  by_cases c : a.tmod b ≠ 0 ∧ ¬ (a < 0 ↔ b < 0)
  · rw [if_pos c]
    have k : (a.tdiv b - 1) * b = a.tdiv b * b - b := by rw [Int.sub_mul, Int.one_mul]
    have lo : -9223372036854775808 ≤ a.tdiv b - 1 := by
      rcases Int.lt_or_le (-9223372036854775808) (a.tdiv b) with g | g
      · omega
      · exfalso
        have k1 : a.natAbs = 9223372036854775808 := by omega
        have k2 : (a.tdiv b).natAbs = 9223372036854775808 := by omega
        rw [k1, k2] at q2
        have k3 : b.natAbs = 1 := by omega
        have k4 : a.tmod b = 0 := by
          rcases Int.lt_or_le a 0 with g2 | g2
          · have := n g2; omega
          · have := p g2; omega
        exact c.1 k4
    refine ⟨fun g => ?_, fun g => ?_, lo, by omega⟩
    · rw [k]
      have ha : a < 0 := by omega
      have := n ha
      omega
    · rw [k]
      have ha : 0 ≤ a := by omega
      have := p ha
      omega
  · rw [if_neg c]
    refine ⟨fun g => ?_, fun g => ?_, hq, hq2⟩
    · rcases Int.lt_or_le a 0 with g2 | g2
      · have := n g2
        have : a.tmod b = 0 := Classical.byContradiction fun g3 => c ⟨g3, by omega⟩
        omega
      · have := p g2; omega
    · rcases Int.lt_or_le a 0 with g2 | g2
      · have := n g2; omega
      · have := p g2
        have : a.tmod b = 0 := Classical.byContradiction fun g3 => c ⟨g3, by omega⟩
        omega
theorem up_hi {a b : Int} (ha0 : -9223372036854775808 ≤ a) (ha1 : a ≤ 9223372036854775807) (hb0 : -9223372036854775808 ≤ b) (hb1 : b ≤ 9223372036854775807) (h : flOk a b = true) (hu : up a b = true) : flD a b + 1 ≤ 9223372036854775807 := by
  have f := fl_of ha0 ha1 h
  simp only [up, decide_eq_true_eq] at hu
  generalize flD a b = q at *
  obtain ⟨p, n, lo, hi⟩ := f
  rcases Int.lt_or_le q 9223372036854775807 with g | g
  · omega
  · exfalso
    obtain rfl : q = 9223372036854775807 := by omega
    omega

/-! ### Clamp, Toward -/
def clV (n l h : Int) : Int := if l > h ∨ n < l then l else if n > h then h else n
theorem clV_range {n l h : Int} (hh : l ≤ h) : l ≤ clV n l h ∧ clV n l h ≤ h := by unfold clV; split <;> (try split) <;> omega
/-- The part of a distance. -/
def ptV (u k : Int) : Int := if 0 < k ∧ 0 < u ∧ u * k / 10000 = 0 then 1 else u * k / 10000
def twV (a b k : Int) : Int := if a ≤ b then a + ptV (b - a) (clV k 0 10000) else a - ptV (a - b) (clV k 0 10000)

theorem part_eq (u k : Int) : u / 10000 * k + u % 10000 * k / 10000 = u * k / 10000 := by
  have e := Int.mul_ediv_add_emod u 10000
  have : u * k = u % 10000 * k + 10000 * (u / 10000 * k) := by
    conv => lhs; rw [← e, Int.add_mul, Int.mul_assoc]
    omega
  rw [this, Int.add_mul_ediv_left _ _ (by omega)]
  omega
theorem pt_range {u k : Int} (hu : 0 ≤ u) (hk : 0 ≤ k) (hk1 : k ≤ 10000) : 0 ≤ ptV u k ∧ ptV u k ≤ u ∧ (k = 0 → ptV u k = 0) ∧ (k = 10000 → ptV u k = u) ∧ (0 < k → 0 < u → 0 < ptV u k) := by
  have m0 : 0 ≤ u * k := Int.mul_nonneg hu hk
  have m1 : u * k ≤ u * 10000 := Int.mul_le_mul_of_nonneg_left hk1 hu
  unfold ptV
  refine ⟨?_, ?_, ?_, ?_, ?_⟩
  · split <;> omega
  · split <;> omega
  · rintro rfl; simp
  · rintro rfl; split <;> omega
  · intro h1 h2; split <;> omega
theorem pt_mono {u k : Int} (hu : 0 ≤ u) (hk : 0 ≤ k) : ptV u k ≤ ptV u (k + 1) := by
  have m0 : 0 ≤ u * k := Int.mul_nonneg hu hk
  have m1 : u * (k + 1) = u * k + u := by rw [Int.mul_add, Int.mul_one]
  unfold ptV
  rw [m1]
  split <;> split <;> omega
theorem tw_range {a b k : Int} : (a ≤ b → a ≤ twV a b k ∧ twV a b k ≤ b) ∧ (b ≤ a → b ≤ twV a b k ∧ twV a b k ≤ a) ∧ (k ≤ 0 → twV a b k = a) ∧ (10000 ≤ k → twV a b k = b) ∧ (0 < k → a ≠ b → twV a b k ≠ a) := by
  have hc := clV_range (n := k) (l := 0) (h := 10000) (by omega)
  have c0 : k ≤ 0 → clV k 0 10000 = 0 := fun h => by unfold clV; split <;> (try split) <;> omega
  have c1 : 10000 ≤ k → clV k 0 10000 = 10000 := fun h => by unfold clV; split <;> (try split) <;> omega
  have c2 : 0 < k → 0 < clV k 0 10000 := fun h => by unfold clV; split <;> (try split) <;> omega
  unfold twV
  generalize clV k 0 10000 = c at *
  by_cases h : a ≤ b
  · have p := pt_range (u := b - a) (k := c) (by omega) hc.1 hc.2
    rw [if_pos h]
    refine ⟨fun _ => by omega, fun _ => by omega, fun g => by have := p.2.2.1 (c0 g); omega, fun g => by have := p.2.2.2.1 (c1 g); omega, fun g g2 => by have := p.2.2.2.2 (c2 g); omega⟩
  · have p := pt_range (u := a - b) (k := c) (by omega) hc.1 hc.2
    rw [if_neg h]
    refine ⟨fun _ => by omega, fun _ => by omega, fun g => by have := p.2.2.1 (c0 g); omega, fun g => by have := p.2.2.2.1 (c1 g); omega, fun g g2 => by have := p.2.2.2.2 (c2 g); omega⟩
theorem tw_next {a b k : Int} (h0 : 0 < k) (h1 : k < 10000) : (a ≤ b → twV a b k ≤ twV a b (k + 1)) ∧ (b ≤ a → twV a b (k + 1) ≤ twV a b k) := by
  have e1 : clV k 0 10000 = k := by unfold clV; split <;> (try split) <;> omega
  have e2 : clV (k + 1) 0 10000 = k + 1 := by unfold clV; split <;> (try split) <;> omega
  unfold twV
  rw [e1, e2]
  by_cases h : a ≤ b
  · rw [if_pos h, if_pos h]
    have := pt_mono (u := b - a) (k := k) (by omega) (by omega)
    exact ⟨fun _ => by omega, fun g => by
      have : b - a = 0 := by omega
      rw [this]; simp [ptV]⟩
  · rw [if_neg h, if_neg h]
    have := pt_mono (u := a - b) (k := k) (by omega) (by omega)
    exact ⟨fun g => by omega, fun _ => by omega⟩

/-! ### Root -/
structure IsRoot (n r : Int) : Prop where
  r0 : 0 ≤ r
  neg : n < 0 → r = 0
  sq : 0 ≤ n → r * r ≤ n
  nx : 0 ≤ n → n < (r + 1) * (r + 1)
theorem root_hi {n r : Int} (h : IsRoot n r) (hn : n ≤ 9223372036854775807) : r ≤ 3037000499 := by
  rcases Int.lt_or_le n 0 with g | g
  · have := h.neg g; omega
  · rcases Int.lt_or_le r 3037000500 with k | k
    · omega
    · exfalso
      have := h.sq g
      have : 3037000500 * 3037000500 ≤ r * r := Int.mul_le_mul k k (by omega) (by omega)
      omega
theorem root_99 {r : Int} (h : IsRoot 99 r) : r = 9 := by
  have a := h.sq (by omega); have b := h.nx (by omega); have c := h.r0
  rcases Int.lt_or_le r 9 with g | g
  · have : (r + 1) * (r + 1) ≤ 9 * 9 := Int.mul_le_mul (by omega) (by omega) (by omega) (by omega)
    omega
  · rcases Int.lt_or_le 9 r with k | k
    · have : 10 * 10 ≤ r * r := Int.mul_le_mul (by omega) (by omega) (by omega) (by omega)
      omega
    · omega
theorem or_bit (x i : Nat) (h : x % 2 ^ (i + 1) = 0) : x ||| 2 ^ i = x + 2 ^ i := by
  obtain ⟨c, hc⟩ : ∃ c, x = 2 ^ (i + 1) * c := ⟨x / 2 ^ (i + 1), by have := Nat.div_add_mod x (2 ^ (i + 1)); omega⟩
  have hl : 2 ^ i < 2 ^ (i + 1) := Nat.pow_lt_pow_right (by omega) (by omega)
  rw [hc, Nat.two_pow_add_eq_or_of_lt hl]
end Un
end Go.Proofs.YtcefmnkfkpoccaaDoor
