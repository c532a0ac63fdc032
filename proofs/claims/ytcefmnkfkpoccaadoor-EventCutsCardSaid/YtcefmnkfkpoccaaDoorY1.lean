/- Plain mathematics of the clock's texts: the text of a time, the time of a text; they invert each other. No program in sight. -/
import Derived.Test.YtcefmnkfkpoccaaDoorV1
namespace Go.Proofs.YtcefmnkfkpoccaaDoor
set_option linter.unusedVariables false
namespace Ck
open Go.Lib

def two (n : Nat) : List UInt8 := [UInt8.ofNat (48 + n / 10), UInt8.ofNat (48 + n % 10)]
/-- The text of a time. -/
def fmN (t : Nat) : List UInt8 := 100 :: (decDigits (t / 1440) ++ (32 :: two (t % 1440 / 60) ++ 58 :: two (t % 60)))
def fmT (at_ : Int) : List UInt8 := if 0 ≤ at_ ∧ at_ ≤ 10000000 then fmN at_.toNat else []

/-- The day's digits: what stands between the first byte and the last six. -/
def dyL (L : List UInt8) : List UInt8 := (L.take (L.length - 6)).drop 1
def gt (L : List UInt8) (j : Nat) : Nat := (L.getD j 0).toNat
/-- Two digits. -/
def isP (a b : Nat) : Bool := decide (48 ≤ a ∧ a ≤ 57 ∧ 48 ≤ b ∧ b ≤ 57)
def pv (a b : Nat) : Nat := 10 * (a - 48) + (b - 48)
def dyB (D : List UInt8) : Bool := Un.frB D 0 && decide (Un.valL D ≤ 1099511627776)
/-- Has a text the form of a time? -/
def pcB (L : List UInt8) : Bool :=
  decide (8 ≤ L.length) && decide (gt L 0 = 100) && decide (gt L (L.length - 6) = 32) && decide (gt L (L.length - 3) = 58) && dyB (dyL L) &&
  (isP (gt L (L.length - 5)) (gt L (L.length - 4)) && decide (pv (gt L (L.length - 5)) (gt L (L.length - 4)) < 24)) &&
  (isP (gt L (L.length - 2)) (gt L (L.length - 1)) && decide (pv (gt L (L.length - 2)) (gt L (L.length - 1)) < 60))
def pcN (L : List UInt8) : Nat := Un.valL (dyL L) * 1440 + pv (gt L (L.length - 5)) (gt L (L.length - 4)) * 60 + pv (gt L (L.length - 2)) (gt L (L.length - 1))
def pcE (L : List UInt8) : Int := if pcB L = false then 5 else if 10000000 < pcN L then 15 else 0
def pcV (L : List UInt8) : Int := if pcE L = 0 then (pcN L : Int) else 0

theorem split_text {L : List UInt8} (h8 : 8 ≤ L.length) : ∃ D a b c d e f x, L = x :: (D ++ [a, b, c, d, e, f]) ∧ D ≠ [] := by
  match L, h8 with
  | x :: r, h8 =>
    have hl : r.length = (r.length - 6) + 6 := by simp at h8; omega
    have e := (List.take_append_drop (r.length - 6) r).symm
    have hd : (r.drop (r.length - 6)).length = 6 := by rw [List.length_drop]; omega
    match hq : r.drop (r.length - 6), hd with
    | [a, b, c, d, e', f], _ =>
      rw [hq] at e
      refine ⟨r.take (r.length - 6), a, b, c, d, e', f, x, by rw [← e], fun g => ?_⟩
      have := congrArg List.length g
      rw [List.length_take] at this
      simp at this h8
      omega
theorem gt_tail (D : List UInt8) (x a b c d e f : UInt8) : (x :: (D ++ [a, b, c, d, e, f])).length = D.length + 7 ∧ gt (x :: (D ++ [a, b, c, d, e, f])) 0 = x.toNat ∧
    gt (x :: (D ++ [a, b, c, d, e, f])) (D.length + 1) = a.toNat ∧ gt (x :: (D ++ [a, b, c, d, e, f])) (D.length + 2) = b.toNat ∧ gt (x :: (D ++ [a, b, c, d, e, f])) (D.length + 3) = c.toNat ∧
    gt (x :: (D ++ [a, b, c, d, e, f])) (D.length + 4) = d.toNat ∧ gt (x :: (D ++ [a, b, c, d, e, f])) (D.length + 5) = e.toNat ∧ gt (x :: (D ++ [a, b, c, d, e, f])) (D.length + 6) = f.toNat ∧ dyL (x :: (D ++ [a, b, c, d, e, f])) = D := by
  refine ⟨by simp, rfl, ?_, ?_, ?_, ?_, ?_, ?_, ?_⟩
  all_goals try (unfold gt; simp [List.getD_eq_getElem?_getD])
  unfold dyL
  simp
theorem body_zero (m : Nat) : Un.bodyT m 0 = decDigits m := by
  have : Un.cnt m 0 = nDigits m := by unfold Un.cnt; have := nDigits_pos m; omega
  unfold Un.bodyT Un.padT
  rw [if_pos rfl, this, Un.dec_digL]
theorem dec_form (m : Nat) : Un.frB (decDigits m) 0 = true ∧ Un.valL (decDigits m) = m := by
  have h := Un.body_form m 0
  rw [body_zero] at h
  refine ⟨h.1, ?_⟩
  have e : Un.frL (decDigits m) 0 = decDigits m := by simp [Un.frL]
  rw [← e, h.2.1, Un.val_pad]
theorem form_dec {D : List UInt8} (h : Un.frB D 0 = true) : decDigits (Un.valL D) = D := by
  have := Un.form_pad h
  have e : Un.frL D 0 = D := by simp [Un.frL]
  rwa [e, body_zero] at this
theorem two_back {a b : UInt8} (h : isP a.toNat b.toNat = true) : two (pv a.toNat b.toNat) = [a, b] := by
  simp only [isP, decide_eq_true_eq] at h
  unfold two pv
  rw [show 48 + (10 * (a.toNat - 48) + (b.toNat - 48)) / 10 = a.toNat by omega, show 48 + (10 * (a.toNat - 48) + (b.toNat - 48)) % 10 = b.toNat by omega, UInt8.ofNat_toNat, UInt8.ofNat_toNat]
theorem two_fwd {n : Nat} (h : n < 100) : isP (UInt8.ofNat (48 + n / 10)).toNat (UInt8.ofNat (48 + n % 10)).toNat = true ∧ pv (UInt8.ofNat (48 + n / 10)).toNat (UInt8.ofNat (48 + n % 10)).toNat = n := by
  rw [UInt8.toNat_ofNat_of_lt' (by show _ < 256; omega), UInt8.toNat_ofNat_of_lt' (by show _ < 256; omega)]
  unfold isP pv
  exact ⟨by simp; omega, by omega⟩

/-- The text of the time of a text is that text. -/
theorem fm_pc {L : List UInt8} (h : pcE L = 0) : 0 ≤ pcV L ∧ pcV L ≤ 10000000 ∧ fmT (pcV L) = L := by
  have hE := h
  unfold pcE at h
  split at h
  · cases h
  · rename_i hb
    split at h
    · cases h
    · rename_i hn
      have hB : pcB L = true := by simpa using hb
      have hV : pcV L = (pcN L : Int) := by unfold pcV; rw [if_pos hE]
      refine ⟨by omega, by omega, ?_⟩
      unfold fmT
      rw [hV, if_pos (by omega), Int.toNat_natCast]
      simp only [pcB, Bool.and_eq_true, decide_eq_true_eq] at hB
      obtain ⟨⟨⟨⟨⟨⟨b1, b2⟩, b3⟩, b4⟩, b5⟩, b6, b7⟩, b8, b9⟩ := hB
      obtain ⟨D, a, b, c, d, e, f, x, rfl, hD⟩ := split_text b1
      obtain ⟨g0, g1, g2, g3, g4, g5, g6, g7, g8⟩ := gt_tail D x a b c d e f
      rw [g0] at b3 b4 b6 b7 b8 b9
      rw [show D.length + 7 - 6 = D.length + 1 by omega, g2] at b3
      rw [show D.length + 7 - 3 = D.length + 4 by omega, g5] at b4
      rw [show D.length + 7 - 5 = D.length + 2 by omega, show D.length + 7 - 4 = D.length + 3 by omega, g3, g4] at b6 b7
      rw [show D.length + 7 - 2 = D.length + 5 by omega, show D.length + 7 - 1 = D.length + 6 by omega, g6, g7] at b8 b9
      have hN : pcN (x :: (D ++ [a, b, c, d, e, f])) = Un.valL D * 1440 + pv b.toNat c.toNat * 60 + pv e.toNat f.toNat := by
        unfold pcN
        rw [g8, g0, show D.length + 7 - 5 = D.length + 2 by omega, show D.length + 7 - 4 = D.length + 3 by omega, show D.length + 7 - 2 = D.length + 5 by omega, show D.length + 7 - 1 = D.length + 6 by omega, g3, g4, g6, g7]
      rw [g1] at b2
      rw [g8] at b5
      simp only [dyB, Bool.and_eq_true, decide_eq_true_eq] at b5
      rw [hN]
      unfold fmN
      generalize hp : pv b.toNat c.toNat = p at *
      generalize hq : pv e.toNat f.toNat = q at *
      rw [show (Un.valL D * 1440 + p * 60 + q) / 1440 = Un.valL D by omega, show (Un.valL D * 1440 + p * 60 + q) % 1440 / 60 = p by omega, show (Un.valL D * 1440 + p * 60 + q) % 60 = q by omega,
        form_dec b5.1, ← hp, ← hq, two_back b6, two_back b8]
      have e1 : x = 100 := UInt8.toNat_inj.1 (by rw [b2]; rfl)
      have e2 : a = 32 := UInt8.toNat_inj.1 (by rw [b3]; rfl)
      have e3 : d = 58 := UInt8.toNat_inj.1 (by rw [b4]; rfl)
      subst e1; subst e2; subst e3
      rfl
/-- The time of the text of a time is that time. -/
theorem pc_fm {t : Int} (h0 : 0 ≤ t) (h1 : t ≤ 10000000) : pcE (fmT t) = 0 ∧ pcV (fmT t) = t := by
  obtain ⟨n, rfl⟩ := Int.eq_ofNat_of_zero_le h0
  have hn : n ≤ 10000000 := by omega
  have e : fmT (n : Int) = fmN n := by unfold fmT; rw [if_pos ⟨h0, h1⟩, Int.toNat_natCast]
  rw [e]
  have hL : fmN n = 100 :: (decDigits (n / 1440) ++ [32, UInt8.ofNat (48 + n % 1440 / 60 / 10), UInt8.ofNat (48 + n % 1440 / 60 % 10), 58, UInt8.ofNat (48 + n % 60 / 10), UInt8.ofNat (48 + n % 60 % 10)]) := rfl
  obtain ⟨f1, f2⟩ := two_fwd (n := n % 1440 / 60) (by omega)
  obtain ⟨f3, f4⟩ := two_fwd (n := n % 60) (by omega)
  obtain ⟨d1, d2⟩ := dec_form (n / 1440)
  have dl := nDigits_pos (n / 1440)
  obtain ⟨g0, g1, g2, g3, g4, g5, g6, g7, g8⟩ := gt_tail (decDigits (n / 1440)) 100 32 (UInt8.ofNat (48 + n % 1440 / 60 / 10)) (UInt8.ofNat (48 + n % 1440 / 60 % 10)) 58 (UInt8.ofNat (48 + n % 60 / 10)) (UInt8.ofNat (48 + n % 60 % 10))
  rw [← hL] at g0 g1 g2 g3 g4 g5 g6 g7 g8
  have hlen : 1 ≤ (decDigits (n / 1440)).length := by rw [decDigits_length]; exact dl
  generalize decDigits (n / 1440) = D at *
  have hB : pcB (fmN n) = true := by
    unfold pcB
    rw [g0, show D.length + 7 - 6 = D.length + 1 by omega, show D.length + 7 - 3 = D.length + 4 by omega, show D.length + 7 - 5 = D.length + 2 by omega, show D.length + 7 - 4 = D.length + 3 by omega,
      show D.length + 7 - 2 = D.length + 5 by omega, show D.length + 7 - 1 = D.length + 6 by omega, g1, g2, g3, g4, g5, g6, g7, g8, f1, f2, f3, f4]
    have q1 : dyB D = true := by simp only [dyB, d1, d2, Bool.true_and, decide_eq_true_eq]; omega
    rw [q1]
    simp
    omega
  have hN : pcN (fmN n) = n := by
    unfold pcN
    rw [g0, show D.length + 7 - 5 = D.length + 2 by omega, show D.length + 7 - 4 = D.length + 3 by omega, show D.length + 7 - 2 = D.length + 5 by omega, show D.length + 7 - 1 = D.length + 6 by omega, g3, g4, g6, g7, g8, f2, f4, d2]
    omega
  have hE : pcE (fmN n) = 0 := by unfold pcE; rw [hB, hN, if_neg (by simp), if_neg (by omega)]
  exact ⟨hE, by unfold pcV; rw [if_pos hE, hN]⟩
end Ck
end Go.Proofs.YtcefmnkfkpoccaaDoor
