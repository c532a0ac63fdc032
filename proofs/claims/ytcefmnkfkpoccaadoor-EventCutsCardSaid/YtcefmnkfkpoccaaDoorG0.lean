/- Plain mathematics of the wire's records. No program in sight. -/
import Derived.Test.YtcefmnkfkpoccaaDoorK
namespace Go.Proofs.YtcefmnkfkpoccaaDoor
set_option linter.unusedVariables false
namespace Wi
/-- The bytes of a number, at most f of them. -/
def uv : Nat → Nat → List UInt8
  | 0, _ => []
  | f + 1, n => if n < 128 then [UInt8.ofNat n] else UInt8.ofNat (128 + n % 128) :: uv f (n / 128)
def uvL (n : Nat) : List UInt8 := uv 10 n
def zz (n : Int) : Nat := if 0 ≤ n then 2 * n.toNat else 2 * (-(n + 1)).toNat + 1
def sg (u : Nat) : Int := if u % 2 = 1 then -((u / 2 : Nat) : Int) - 1 else ((u / 2 : Nat) : Int)
def inL (n : Int) : List UInt8 := uvL (zz n)
def txL (s : List UInt8) : List UInt8 := uvL s.length ++ s
def isL (l : List Int) : List UInt8 := uvL l.length ++ l.flatMap inL
theorem byte_nat {n : Nat} (h : n < 256) : (UInt8.ofNat n).toNat = n := by simp; omega
theorem uv_small {f n : Nat} (h : n < 128) : uv (f + 1) n = [UInt8.ofNat n] := by rw [uv, if_pos h]
theorem uv_big {f n : Nat} (h : ¬ n < 128) : uv (f + 1) n = UInt8.ofNat (128 + n % 128) :: uv f (n / 128) := by rw [uv, if_neg h]
theorem uv_more : ∀ (f n : Nat), 0 < f → n < 128 ^ f → uv (f + 1) n = uv f n
  | 0, n, h, _ => by omega
  | f + 1, n, _, hn => by
    by_cases g : n < 128
    · rw [uv_small g, uv_small g]
    · rw [uv_big g, uv_big g]
      have h1 : n / 128 < 128 ^ f := by
        rw [Nat.div_lt_iff_lt_mul (by decide)]
        rw [Nat.pow_succ] at hn
        exact hn
      cases f with
      | zero => simp at h1; omega
      | succ f => rw [uv_more (f + 1) (n / 128) (by omega) h1]
theorem uvL_small {n : Nat} (h : n < 128) : uvL n = [UInt8.ofNat n] := uv_small h
theorem uvL_big {n : Nat} (h : ¬ n < 128) (h2 : n < 18446744073709551616) : uvL n = UInt8.ofNat (128 + n % 128) :: uvL (n / 128) := by
  unfold uvL
  have h9 : (128 : Nat) ^ 9 = 9223372036854775808 := by decide
  have h3 : n / 128 < 128 ^ 9 := by omega
  rw [uv_big h, ← uv_more 9 (n / 128) (by decide) h3]
theorem uv_pos (f n : Nat) : 0 < (uv (f + 1) n).length := by
  by_cases g : n < 128
  · rw [uv_small g]; simp
  · rw [uv_big g]; simp
theorem uv_le : ∀ (f n : Nat), (uv f n).length ≤ f
  | 0, n => by simp [uv]
  | f + 1, n => by
    by_cases g : n < 128
    · rw [uv_small g]; simp
    · rw [uv_big g]
      have := uv_le f (n / 128)
      simp
      omega
theorem uvL_len (n : Nat) : 1 ≤ (uvL n).length ∧ (uvL n).length ≤ 10 := ⟨uv_pos 9 n, uv_le 10 n⟩
/-- Reads a number: its value, how many bytes it has, and the error (i bytes were read before, with the value v). -/
def rdL : List UInt8 → Nat → Nat → Nat × Nat × Int
  | [], i, v => (0, 0, 3)
  | c :: r, i, v => if i = 9 ∧ 1 < c.toNat then (0, 0, 5) else if c.toNat < 128 then (if c.toNat = 0 ∧ 0 < i then (0, 0, 5) else (v + c.toNat * 128 ^ i, i + 1, 0)) else rdL r (i + 1) (v + (c.toNat % 128) * 128 ^ i)
theorem rdL_nil (i v : Nat) : rdL [] i v = (0, 0, 3) := rfl
theorem rdL_nine {c : UInt8} {r : List UInt8} {i v : Nat} (h : i = 9 ∧ 1 < c.toNat) : rdL (c :: r) i v = (0, 0, 5) := by rw [rdL, if_pos h]
theorem rdL_zero {c : UInt8} {r : List UInt8} {i v : Nat} (h : ¬ (i = 9 ∧ 1 < c.toNat)) (h1 : c.toNat < 128) (h2 : c.toNat = 0 ∧ 0 < i) : rdL (c :: r) i v = (0, 0, 5) := by rw [rdL, if_neg h, if_pos h1, if_pos h2]
theorem rdL_end {c : UInt8} {r : List UInt8} {i v : Nat} (h : ¬ (i = 9 ∧ 1 < c.toNat)) (h1 : c.toNat < 128) (h2 : ¬ (c.toNat = 0 ∧ 0 < i)) : rdL (c :: r) i v = (v + c.toNat * 128 ^ i, i + 1, 0) := by rw [rdL, if_neg h, if_pos h1, if_neg h2]
theorem rdL_more {c : UInt8} {r : List UInt8} {i v : Nat} (h : ¬ (i = 9 ∧ 1 < c.toNat)) (h1 : ¬ c.toNat < 128) : rdL (c :: r) i v = rdL r (i + 1) (v + (c.toNat % 128) * 128 ^ i) := by rw [rdL, if_neg h, if_neg h1]
theorem pow9 : (128 : Nat) ^ 9 = 9223372036854775808 := by decide
/-- What was written is read. -/
theorem rdL_uv : ∀ (f i v n : Nat) (r : List UInt8), f + i = 10 → 0 < f → n < 128 ^ f → n * 128 ^ i < 18446744073709551616 → (0 < i → 0 < n) → rdL (uv f n ++ r) i v = (v + n * 128 ^ i, i + (uv f n).length, 0)
  | 0, i, v, n, r, _, h, _, _, _ => by omega
  | f + 1, i, v, n, r, hf, _, hn, hp, h0 => by
    by_cases g : n < 128
    · rw [uv_small g]
      have hb : (UInt8.ofNat n).toNat = n := byte_nat (by omega)
      rw [List.singleton_append, rdL_end, hb]
      · simp
      · rw [hb]
        rintro ⟨rfl, h1⟩
        rw [pow9] at hp
        omega
      · rw [hb]; exact g
      · rw [hb]
        rintro ⟨h1, h2⟩
        have := h0 h2
        omega
    · rw [uv_big g]
      have hb : (UInt8.ofNat (128 + n % 128)).toNat = 128 + n % 128 := byte_nat (by omega)
      have hf0 : 0 < f := by
        rcases Nat.eq_zero_or_pos f with h | h
        · subst h; simp at hn; omega
        · exact h
      have hi9 : i ≠ 9 := by omega
      have hnd : n / 128 < 128 ^ f := by
        rw [Nat.div_lt_iff_lt_mul (by decide)]
        rw [Nat.pow_succ] at hn
        exact hn
      have hdm : n = 128 * (n / 128) + n % 128 := (Nat.div_add_mod n 128).symm
      have hmul : n * 128 ^ i = (n % 128) * 128 ^ i + (n / 128) * 128 ^ (i + 1) := by
        conv => lhs; rw [hdm]
        rw [Nat.add_mul, Nat.pow_succ, Nat.add_comm]
        congr 1
        rw [Nat.mul_comm 128 (n / 128), Nat.mul_assoc, Nat.mul_comm 128]
      rw [List.cons_append, rdL_more (by rintro ⟨h1, _⟩; exact hi9 h1) (by rw [hb]; omega), hb, rdL_uv f (i + 1) _ (n / 128) r (by omega) hf0 hnd (by omega) (fun _ => by omega)]
      have e1 : (128 + n % 128) % 128 = n % 128 := by omega
      simp only [e1, List.length_cons, Prod.mk.injEq, and_true]
      omega
/-- What is read was written. -/
theorem rdL_is : ∀ (l : List UInt8) (f i v u k : Nat), f + i = 10 → 0 < f → rdL l i v = (u, k, 0) → ∃ n r, l = uv f n ++ r ∧ u = v + n * 128 ^ i ∧ k = i + (uv f n).length ∧ n * 128 ^ i < 18446744073709551616 ∧ n < 128 ^ f ∧ (0 < i → 0 < n)
  | [], f, i, v, u, k, _, _, h => by rw [rdL_nil] at h; simp at h
  | c :: r, f, i, v, u, k, hf, hf0, h => by
    obtain ⟨f, rfl⟩ : ∃ f', f = f' + 1 := ⟨f - 1, by omega⟩
    have hc := c.toNat_lt
    by_cases g9 : i = 9 ∧ 1 < c.toNat
    · rw [rdL_nine g9] at h; simp at h
    by_cases g1 : c.toNat < 128
    · by_cases g2 : c.toNat = 0 ∧ 0 < i
      · rw [rdL_zero g9 g1 g2] at h; simp at h
      rw [rdL_end g9 g1 g2] at h
      simp only [Prod.mk.injEq, and_true] at h
      obtain ⟨h1, h2⟩ := h
      refine ⟨c.toNat, r, ?_, h1.symm, ?_, ?_, ?_, fun h3 => ?_⟩
      · rw [uv_small g1]; simp
      · rw [uv_small g1]; simp; omega
      · rcases Nat.lt_or_ge i 9 with q | q
        · have h3 : 128 ^ i ≤ 128 ^ 8 := Nat.pow_le_pow_right (by decide) (by omega)
          have h4 : (128 : Nat) ^ 8 = 72057594037927936 := by decide
          have h5 : c.toNat * 128 ^ i ≤ 127 * 128 ^ 8 := Nat.mul_le_mul (by omega) h3
          omega
        · have : i = 9 := by omega
          subst this
          rw [pow9]
          have : ¬ 1 < c.toNat := fun q => g9 ⟨rfl, q⟩
          omega
      · rw [Nat.pow_succ]
        have : 0 < 128 ^ f := Nat.pow_pos (by decide)
        omega
      · rcases Nat.eq_zero_or_pos c.toNat with q | q
        · exact absurd ⟨q, h3⟩ g2
        · exact q
    · rw [rdL_more g9 g1] at h
      have hi : i ≠ 9 := fun q => g9 ⟨q, by omega⟩
      obtain ⟨n, r', e1, e2, e3, e4, e5, e6⟩ := rdL_is r f (i + 1) _ u k (by omega) (by omega) h
      have hn := e6 (by omega)
      have hmul : (c.toNat % 128 + 128 * n) * 128 ^ i = (c.toNat % 128) * 128 ^ i + n * 128 ^ (i + 1) := by
        rw [Nat.add_mul, Nat.pow_succ]
        congr 1
        rw [Nat.mul_comm 128 n, Nat.mul_assoc, Nat.mul_comm 128]
      have hbig : ¬ c.toNat % 128 + 128 * n < 128 := by omega
      have hd : (c.toNat % 128 + 128 * n) / 128 = n := by omega
      have hm : (c.toNat % 128 + 128 * n) % 128 = c.toNat % 128 := by omega
      have hcc : UInt8.ofNat (128 + c.toNat % 128) = c := by
        have : 128 + c.toNat % 128 = c.toNat := by omega
        rw [this]; simp
      refine ⟨c.toNat % 128 + 128 * n, r', ?_, ?_, ?_, ?_, ?_, fun _ => by omega⟩
      · rw [uv_big hbig, hd, hm, hcc, e1]; rfl
      · rw [hmul, e2]; omega
      · rw [uv_big hbig, hd]; simp; omega
      · rw [hmul]
        have h3 : 128 ^ i ≤ 128 ^ 8 := Nat.pow_le_pow_right (by decide) (by omega)
        have h7 : (c.toNat % 128) * 128 ^ i < 128 ^ (i + 1) := by
          rw [Nat.pow_succ, Nat.mul_comm (128 ^ i)]
          exact Nat.mul_lt_mul_of_pos_right (Nat.mod_lt _ (by decide)) (Nat.pow_pos (by decide))
        have h8 : (n + 1) * 128 ^ (i + 1) ≤ 18446744073709551616 := by
          obtain ⟨m, hm⟩ : ∃ m, (18446744073709551616 : Nat) = m * 128 ^ (i + 1) := by
            refine ⟨2 * 128 ^ (8 - i), ?_⟩
            rw [Nat.mul_assoc, ← Nat.pow_add, show 8 - i + (i + 1) = 9 by omega, pow9]
          rw [hm] at e4 ⊢
          have := Nat.lt_of_mul_lt_mul_right e4
          exact Nat.mul_le_mul_right _ this
        rw [Nat.add_mul, Nat.one_mul] at h8
        omega
      · rw [Nat.pow_succ, Nat.mul_comm (128 ^ f)]
        omega
/-- What is read is less than 2^64. -/
theorem rdL_lt {l : List UInt8} {u k : Nat} (h : rdL l 0 0 = (u, k, 0)) : u < 18446744073709551616 := by
  obtain ⟨n, r, _, e2, _, e4, _⟩ := rdL_is l 10 0 0 u k rfl (by decide) h
  simp at e2 e4
  omega
theorem sg_zz (n : Int) : sg (zz n) = n := by
  unfold sg zz
  split <;> split <;> omega
theorem zz_sg (u : Nat) : zz (sg u) = u := by
  unfold sg zz
  split <;> split <;> omega
theorem zz_lt {n : Int} (h1 : -9223372036854775808 ≤ n) (h2 : n ≤ 9223372036854775807) : zz n < 18446744073709551616 := by
  unfold zz
  split <;> omega
theorem sg_lt {u : Nat} (h : u < 18446744073709551616) : -9223372036854775808 ≤ sg u ∧ sg u ≤ 9223372036854775807 := by
  unfold sg
  split <;> omega
/-- The number at a position: its value, the position behind it, the error. -/
def numR (s : List UInt8) (p : Nat) : Nat × Nat × Int := ((rdL (s.drop p) 0 0).1, p + (rdL (s.drop p) 0 0).2.1, (rdL (s.drop p) 0 0).2.2)
theorem numR_uv {s : List UInt8} {p n : Nat} {r : List UInt8} (h : s.drop p = uvL n ++ r) (hn : n < 18446744073709551616) : numR s p = (n, p + (uvL n).length, 0) ∧ s.drop (p + (uvL n).length) = r := by
  have h1 : n < 128 ^ 10 := by
    have : (128 : Nat) ^ 10 = 1180591620717411303424 := by decide
    omega
  refine ⟨?_, ?_⟩
  · unfold numR
    rw [h]
    have := rdL_uv 10 0 0 n r rfl (by decide) h1 (by simpa using hn) (by omega)
    unfold uvL
    rw [this]
    simp
  · rw [← List.drop_drop, h]
    simp
theorem numR_is {s : List UInt8} {p n q : Nat} (h : numR s p = (n, q, 0)) : s.drop p = uvL n ++ s.drop q ∧ n < 18446744073709551616 ∧ q = p + (uvL n).length ∧ q ≤ s.length := by
  unfold numR at h
  obtain ⟨u, k, e⟩ : ∃ u k, rdL (s.drop p) 0 0 = (u, k, 0) := ⟨(rdL (s.drop p) 0 0).1, (rdL (s.drop p) 0 0).2.1, by simp only [Prod.mk.injEq] at h; rw [← h.2.2]⟩
  rw [e] at h
  simp only [Prod.mk.injEq, and_true] at h
  obtain ⟨rfl, rfl⟩ := h
  obtain ⟨m, r, e1, e2, e3, e4, e5, _⟩ := rdL_is _ 10 0 0 u k rfl (by decide) e
  simp at e2 e3 e4
  subst e2
  have e6 : s.drop (p + k) = r := by
    rw [← List.drop_drop, e1, e3]
    simp
  have hlen := congrArg List.length e1
  have hp : 0 < (uv 10 u).length := uv_pos 9 u
  simp at hlen
  refine ⟨by rw [e6]; exact e1, e4, by rw [e3]; rfl, ?_⟩
  omega
theorem rdL_err : ∀ (l : List UInt8) (i v : Nat), (rdL l i v).2.2 ≠ 0 → (rdL l i v).1 = 0 ∧ (rdL l i v).2.1 = 0
  | [], i, v, _ => ⟨rfl, rfl⟩
  | c :: r, i, v, h => by
    by_cases g9 : i = 9 ∧ 1 < c.toNat
    · rw [rdL_nine g9]; exact ⟨rfl, rfl⟩
    by_cases g1 : c.toNat < 128
    · by_cases g2 : c.toNat = 0 ∧ 0 < i
      · rw [rdL_zero g9 g1 g2]; exact ⟨rfl, rfl⟩
      · rw [rdL_end g9 g1 g2] at h; exact absurd rfl h
    · rw [rdL_more g9 g1] at h ⊢
      exact rdL_err r _ _ h
theorem numR_err {s : List UInt8} {p : Nat} (h : (numR s p).2.2 ≠ 0) : (numR s p).1 = 0 ∧ (numR s p).2.1 = p := by
  have := rdL_err (s.drop p) 0 0 h
  exact ⟨this.1, by show p + _ = p; rw [this.2]; rfl⟩
/-- A signed number within bounds. -/
def sgnR (s : List UInt8) (p : Nat) (lo hi : Int) : Int × Nat × Int :=
  if (numR s p).2.2 = 0 then (if lo ≤ sg (numR s p).1 ∧ sg (numR s p).1 ≤ hi then (sg (numR s p).1, (numR s p).2.1, 0) else (0, p, 9)) else (0, p, (numR s p).2.2)
theorem sgnR_in {s : List UInt8} {p : Nat} {n lo hi : Int} {r : List UInt8} (h : s.drop p = inL n ++ r) (h1 : -9223372036854775808 ≤ n) (h2 : n ≤ 9223372036854775807) (hl : lo ≤ n) (hh : n ≤ hi) : sgnR s p lo hi = (n, p + (inL n).length, 0) ∧ s.drop (p + (inL n).length) = r := by
  obtain ⟨e1, e2⟩ := numR_uv h (zz_lt h1 h2)
  refine ⟨?_, e2⟩
  unfold sgnR
  rw [e1]
  simp only [sg_zz, if_pos (And.intro hl hh), if_true]
  rfl
theorem sgnR_is {s : List UInt8} {p q : Nat} {n lo hi : Int} (h : sgnR s p lo hi = (n, q, 0)) : s.drop p = inL n ++ s.drop q ∧ q = p + (inL n).length ∧ q ≤ s.length ∧ lo ≤ n ∧ n ≤ hi ∧ -9223372036854775808 ≤ n ∧ n ≤ 9223372036854775807 := by
  unfold sgnR at h
  split at h
  · rename_i h0
    split at h
    · rename_i hb
      simp only [Prod.mk.injEq, and_true] at h
      obtain ⟨rfl, rfl⟩ := h
      obtain ⟨e1, e2, e3, e4⟩ := numR_is (s := s) (p := p) (n := (numR s p).1) (q := (numR s p).2.1) (by rw [← h0])
      refine ⟨?_, ?_, e4, hb.1, hb.2, (sg_lt e2).1, (sg_lt e2).2⟩
      · unfold inL; rw [zz_sg]; exact e1
      · unfold inL; rw [zz_sg]; exact e3
    · simp at h
  · rename_i h0
    simp only [Prod.mk.injEq] at h
    exact absurd h.2.2 h0
theorem sgnR_lo {s : List UInt8} {p : Nat} {lo hi : Int} (h : (sgnR s p lo hi).2.2 = 0) : s.drop p = inL (sgnR s p lo hi).1 ++ s.drop (sgnR s p lo hi).2.1 ∧ (sgnR s p lo hi).2.1 = p + (inL (sgnR s p lo hi).1).length ∧ (sgnR s p lo hi).2.1 ≤ s.length ∧ lo ≤ (sgnR s p lo hi).1 ∧ (sgnR s p lo hi).1 ≤ hi ∧ -9223372036854775808 ≤ (sgnR s p lo hi).1 ∧ (sgnR s p lo hi).1 ≤ 9223372036854775807 :=
  sgnR_is (by rw [← h])
/-- A number up to a bound. -/
def cntR (s : List UInt8) (p : Nat) (most : Nat) : Nat × Nat × Int :=
  if (numR s p).2.2 = 0 then (if (numR s p).1 ≤ most then ((numR s p).1, (numR s p).2.1, 0) else (0, p, 4)) else (0, p, (numR s p).2.2)
theorem cntR_uv {s : List UInt8} {p n most : Nat} {r : List UInt8} (h : s.drop p = uvL n ++ r) (h1 : n < 18446744073709551616) (hm : n ≤ most) : cntR s p most = (n, p + (uvL n).length, 0) ∧ s.drop (p + (uvL n).length) = r := by
  obtain ⟨e1, e2⟩ := numR_uv h h1
  refine ⟨?_, e2⟩
  unfold cntR
  rw [e1]
  simp only [if_pos hm, if_true]
theorem cntR_is {s : List UInt8} {p most : Nat} (h : (cntR s p most).2.2 = 0) : s.drop p = uvL (cntR s p most).1 ++ s.drop (cntR s p most).2.1 ∧ (cntR s p most).1 ≤ most ∧ (cntR s p most).2.1 ≤ s.length ∧ (cntR s p most).2.1 = p + (uvL (cntR s p most).1).length := by
  unfold cntR at h ⊢
  split at h
  · rename_i h0
    split at h
    · rename_i hb
      rw [if_pos h0, if_pos hb]
      obtain ⟨e1, e2, e3, e4⟩ := numR_is (s := s) (p := p) (n := (numR s p).1) (q := (numR s p).2.1) (by rw [← h0])
      exact ⟨e1, hb, e4, e3⟩
    · simp at h
  · rename_i h0
    exact absurd h h0
/-- A reader: its position and its error. -/
abbrev St := Nat × Int
def rdI (s : List UInt8) (t : St) (lo hi : Int) : St × Int :=
  if t.2 = 0 then (if (sgnR s t.1 lo hi).2.2 = 0 then (((sgnR s t.1 lo hi).2.1, 0), (sgnR s t.1 lo hi).1) else ((t.1, (sgnR s t.1 lo hi).2.2), 0)) else (t, 0)
def rdT (s : List UInt8) (t : St) (most : Nat) : St × List UInt8 :=
  if t.2 = 0 then (if (cntR s t.1 most).2.2 = 0 then (if (cntR s t.1 most).1 ≤ s.length - (cntR s t.1 most).2.1 then (((cntR s t.1 most).2.1 + (cntR s t.1 most).1, 0), (s.drop (cntR s t.1 most).2.1).take (cntR s t.1 most).1) else ((t.1, 3), [])) else ((t.1, (cntR s t.1 most).2.2), [])) else (t, [])
/-- Reads m numbers more. -/
def rdA (s : List UInt8) (lo hi : Int) : Nat → List Int → Nat → List Int × Nat × Int
  | 0, a, q => (a, q, 0)
  | m + 1, a, q => if (sgnR s q lo hi).2.2 = 0 then rdA s lo hi m (a ++ [(sgnR s q lo hi).1]) (sgnR s q lo hi).2.1 else ([], 0, (sgnR s q lo hi).2.2)
def rdS (s : List UInt8) (t : St) (most : Nat) (lo hi : Int) : St × List Int :=
  if t.2 = 0 then (if (cntR s t.1 most).2.2 = 0 then (if (rdA s lo hi (cntR s t.1 most).1 [] (cntR s t.1 most).2.1).2.2 = 0 then (((rdA s lo hi (cntR s t.1 most).1 [] (cntR s t.1 most).2.1).2.1, 0), (rdA s lo hi (cntR s t.1 most).1 [] (cntR s t.1 most).2.1).1) else ((t.1, (rdA s lo hi (cntR s t.1 most).1 [] (cntR s t.1 most).2.1).2.2), [])) else ((t.1, (cntR s t.1 most).2.2), [])) else (t, [])
theorem rdA_in {s : List UInt8} {lo hi : Int} (h1 : -9223372036854775808 ≤ lo) (h2 : hi ≤ 9223372036854775807) : ∀ (l : List Int) (a : List Int) (q : Nat) (r : List UInt8), s.drop q = l.flatMap inL ++ r → (∀ n ∈ l, lo ≤ n ∧ n ≤ hi) → rdA s lo hi l.length a q = (a ++ l, q + (l.flatMap inL).length, 0) ∧ s.drop (q + (l.flatMap inL).length) = r
  | [], a, q, r, h, _ => by simp [rdA]; simpa using h
  | n :: l, a, q, r, h, hb => by
    have hn := hb n (by simp)
    rw [List.flatMap_cons, List.append_assoc] at h
    obtain ⟨e1, e2⟩ := sgnR_in (lo := lo) (hi := hi) h (by omega) (by omega) hn.1 hn.2
    obtain ⟨e3, e4⟩ := rdA_in h1 h2 l (a ++ [n]) (q + (inL n).length) r e2 (fun m hm => hb m (by simp [hm]))
    refine ⟨?_, ?_⟩
    · rw [List.length_cons, rdA, e1, if_pos rfl]
      simp only
      rw [e3]
      simp only [List.flatMap_cons, List.length_append, List.append_assoc, List.singleton_append, Prod.mk.injEq, true_and, and_true]
      omega
    · rw [List.flatMap_cons, List.length_append, ← Nat.add_assoc]
      exact e4
theorem rdA_is {s : List UInt8} {lo hi : Int} : ∀ (m : Nat) (a : List Int) (q : Nat) (l : List Int) (q' : Nat), q ≤ s.length → rdA s lo hi m a q = (l, q', 0) → ∃ b, l = a ++ b ∧ b.length = m ∧ s.drop q = b.flatMap inL ++ s.drop q' ∧ q' ≤ s.length ∧ ∀ n ∈ b, lo ≤ n ∧ n ≤ hi
  | 0, a, q, l, q', hq, h => by
    simp only [rdA, Prod.mk.injEq, and_true] at h
    obtain ⟨rfl, rfl⟩ := h
    exact ⟨[], by simp, rfl, by simp, hq, fun n hn => by cases hn⟩
  | m + 1, a, q, l, q', hq, h => by
    rw [rdA] at h
    split at h
    · rename_i h0
      obtain ⟨e1, e2, e3, e4, e5, _⟩ := sgnR_lo h0
      obtain ⟨b, f1, f2, f3, f4, f5⟩ := rdA_is m _ _ l q' e3 h
      refine ⟨(sgnR s q lo hi).1 :: b, by rw [f1]; simp, by simp [f2], ?_, f4, ?_⟩
      · rw [e1, f3]; simp
      · intro n hn
        rcases List.mem_cons.1 hn with g | g
        · rw [g]; exact ⟨e4, e5⟩
        · exact f5 n g
    · rename_i h0
      simp only [Prod.mk.injEq] at h
      exact absurd h.2.2 h0
theorem rdA_len {s : List UInt8} {lo hi : Int} {m : Nat} {a : List Int} {q : Nat} (hq : q ≤ s.length) (h : (rdA s lo hi m a q).2.2 = 0) : (rdA s lo hi m a q).1.length = a.length + m ∧ (rdA s lo hi m a q).2.1 ≤ s.length := by
  obtain ⟨b, e1, e2, _, e4, _⟩ := rdA_is m a q (rdA s lo hi m a q).1 (rdA s lo hi m a q).2.1 hq (by rw [← h])
  rw [e1]
  simp [e2, e4]
/-- A reader's steps go on. -/
theorem rdI_in {s : List UInt8} {p : Nat} {n lo hi : Int} {r : List UInt8} (h : s.drop p = inL n ++ r) (h1 : -9223372036854775808 ≤ n) (h2 : n ≤ 9223372036854775807) (hl : lo ≤ n) (hh : n ≤ hi) : rdI s (p, 0) lo hi = ((p + (inL n).length, 0), n) ∧ s.drop (p + (inL n).length) = r := by
  obtain ⟨e1, e2⟩ := sgnR_in h h1 h2 hl hh
  refine ⟨?_, e2⟩
  unfold rdI
  simp [e1]
theorem rdT_in {s : List UInt8} {p most : Nat} {x r : List UInt8} (h : s.drop p = txL x ++ r) (h1 : x.length ≤ most) (h2 : most < 18446744073709551616) : rdT s (p, 0) most = ((p + (txL x).length, 0), x) ∧ s.drop (p + (txL x).length) = r := by
  unfold txL at h ⊢
  rw [List.append_assoc] at h
  obtain ⟨e1, e2⟩ := cntR_uv (most := most) h (by omega) h1
  have e3 : s.drop (p + ((uvL x.length).length + x.length)) = r := by
    rw [← Nat.add_assoc, ← List.drop_drop, e2]
    simp
  have e4 : x.length ≤ s.length - (p + (uvL x.length).length) := by
    have := congrArg List.length e2
    simp at this
    omega
  refine ⟨?_, by rw [List.length_append]; exact e3⟩
  unfold rdT
  simp only [e1, if_true, if_pos e4, e2, List.take_left', List.length_append, Prod.mk.injEq, and_true]
  omega
theorem rdS_in {s : List UInt8} {p most : Nat} {l : List Int} {lo hi : Int} {r : List UInt8} (h : s.drop p = isL l ++ r) (h1 : l.length ≤ most) (h2 : most < 18446744073709551616) (g1 : -9223372036854775808 ≤ lo) (g2 : hi ≤ 9223372036854775807) (hb : ∀ n ∈ l, lo ≤ n ∧ n ≤ hi) : rdS s (p, 0) most lo hi = ((p + (isL l).length, 0), l) ∧ s.drop (p + (isL l).length) = r := by
  unfold isL at h ⊢
  rw [List.append_assoc] at h
  obtain ⟨e1, e2⟩ := cntR_uv (most := most) h (by omega) h1
  obtain ⟨e3, e4⟩ := rdA_in g1 g2 l [] _ r e2 hb
  refine ⟨?_, by rw [List.length_append, ← Nat.add_assoc]; exact e4⟩
  unfold rdS
  simp only [e1, if_true, e3, List.nil_append, List.length_append, Prod.mk.injEq, and_true]
  omega
theorem rdI_bad {s : List UInt8} {t : St} (h : t.2 ≠ 0) (lo hi : Int) : rdI s t lo hi = (t, 0) := by rw [rdI, if_neg h]
theorem rdT_bad {s : List UInt8} {t : St} (h : t.2 ≠ 0) (most : Nat) : rdT s t most = (t, []) := by rw [rdT, if_neg h]
theorem rdS_bad {s : List UInt8} {t : St} (h : t.2 ≠ 0) (most : Nat) (lo hi : Int) : rdS s t most lo hi = (t, []) := by rw [rdS, if_neg h]
/-- A step that went well read what was written. -/
theorem rdI_is {s : List UInt8} {t : St} {lo hi : Int} (h : (rdI s t lo hi).1.2 = 0) : t.2 = 0 ∧ s.drop t.1 = inL (rdI s t lo hi).2 ++ s.drop (rdI s t lo hi).1.1 ∧ (rdI s t lo hi).1.1 ≤ s.length ∧ lo ≤ (rdI s t lo hi).2 ∧ (rdI s t lo hi).2 ≤ hi ∧ -9223372036854775808 ≤ (rdI s t lo hi).2 ∧ (rdI s t lo hi).2 ≤ 9223372036854775807 := by
  by_cases h0 : t.2 = 0
  · by_cases h1 : (sgnR s t.1 lo hi).2.2 = 0
    · have e : rdI s t lo hi = (((sgnR s t.1 lo hi).2.1, 0), (sgnR s t.1 lo hi).1) := by rw [rdI, if_pos h0, if_pos h1]
      obtain ⟨e1, e2, e3, e4, e5, e6, e7⟩ := sgnR_lo h1
      rw [e]
      exact ⟨h0, e1, e3, e4, e5, e6, e7⟩
    · have e : rdI s t lo hi = ((t.1, (sgnR s t.1 lo hi).2.2), 0) := by rw [rdI, if_pos h0, if_neg h1]
      rw [e] at h
      exact absurd h h1
  · rw [rdI_bad h0] at h
    exact absurd h h0
theorem rdT_is {s : List UInt8} {t : St} {most : Nat} (h : (rdT s t most).1.2 = 0) : t.2 = 0 ∧ s.drop t.1 = txL (rdT s t most).2 ++ s.drop (rdT s t most).1.1 ∧ (rdT s t most).1.1 ≤ s.length ∧ (rdT s t most).2.length ≤ most := by
  by_cases h0 : t.2 = 0
  · by_cases h1 : (cntR s t.1 most).2.2 = 0
    · by_cases h2 : (cntR s t.1 most).1 ≤ s.length - (cntR s t.1 most).2.1
      · have e : rdT s t most = (((cntR s t.1 most).2.1 + (cntR s t.1 most).1, 0), (s.drop (cntR s t.1 most).2.1).take (cntR s t.1 most).1) := by rw [rdT, if_pos h0, if_pos h1, if_pos h2]
        obtain ⟨e1, e2, e3, _⟩ := cntR_is h1
        rw [e]
        have hl : ((s.drop (cntR s t.1 most).2.1).take (cntR s t.1 most).1).length = (cntR s t.1 most).1 := by simp; omega
        refine ⟨h0, ?_, by simp only; omega, by simp only [hl]; exact e2⟩
        unfold txL
        simp only [hl]
        rw [List.append_assoc, ← List.drop_drop, List.take_append_drop]
        exact e1
      · have e : rdT s t most = ((t.1, 3), []) := by rw [rdT, if_pos h0, if_pos h1, if_neg h2]
        rw [e] at h
        simp at h
    · have e : rdT s t most = ((t.1, (cntR s t.1 most).2.2), []) := by rw [rdT, if_pos h0, if_neg h1]
      rw [e] at h
      exact absurd h h1
  · rw [rdT_bad h0] at h
    exact absurd h h0
theorem rdS_is {s : List UInt8} {t : St} {most : Nat} {lo hi : Int} (h : (rdS s t most lo hi).1.2 = 0) : t.2 = 0 ∧ s.drop t.1 = isL (rdS s t most lo hi).2 ++ s.drop (rdS s t most lo hi).1.1 ∧ (rdS s t most lo hi).1.1 ≤ s.length ∧ (rdS s t most lo hi).2.length ≤ most ∧ ∀ n ∈ (rdS s t most lo hi).2, lo ≤ n ∧ n ≤ hi := by
  by_cases h0 : t.2 = 0
  · by_cases h1 : (cntR s t.1 most).2.2 = 0
    · by_cases h2 : (rdA s lo hi (cntR s t.1 most).1 [] (cntR s t.1 most).2.1).2.2 = 0
      · have e : rdS s t most lo hi = (((rdA s lo hi (cntR s t.1 most).1 [] (cntR s t.1 most).2.1).2.1, 0), (rdA s lo hi (cntR s t.1 most).1 [] (cntR s t.1 most).2.1).1) := by rw [rdS, if_pos h0, if_pos h1, if_pos h2]
        obtain ⟨e1, e2, e3, _⟩ := cntR_is h1
        obtain ⟨b, f1, f2, f3, f4, f5⟩ := rdA_is _ _ _ _ _ e3 (show rdA s lo hi (cntR s t.1 most).1 [] (cntR s t.1 most).2.1 = ((rdA s lo hi (cntR s t.1 most).1 [] (cntR s t.1 most).2.1).1, (rdA s lo hi (cntR s t.1 most).1 [] (cntR s t.1 most).2.1).2.1, 0) by rw [← h2])
        rw [e]
        simp only
        rw [List.nil_append] at f1
        rw [f1]
        refine ⟨h0, ?_, f4, by omega, f5⟩
        unfold isL
        rw [f2, List.append_assoc, ← f3]
        exact e1
      · have e : rdS s t most lo hi = ((t.1, (rdA s lo hi (cntR s t.1 most).1 [] (cntR s t.1 most).2.1).2.2), []) := by rw [rdS, if_pos h0, if_pos h1, if_neg h2]
        rw [e] at h
        exact absurd h h2
    · have e : rdS s t most lo hi = ((t.1, (cntR s t.1 most).2.2), []) := by rw [rdS, if_pos h0, if_neg h1]
      rw [e] at h
      exact absurd h h1
  · rw [rdS_bad h0] at h
    exact absurd h h0
end Wi
end Go.Proofs.YtcefmnkfkpoccaaDoor
