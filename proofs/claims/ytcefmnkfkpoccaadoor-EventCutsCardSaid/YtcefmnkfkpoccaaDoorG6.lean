/- wire: signed, counted, done, stopped; the reference's signed. -/
import Derived.Test.YtcefmnkfkpoccaaDoorG5
namespace Go.Proofs.YtcefmnkfkpoccaaDoor
open Go.RowKit
set_option linter.unusedVariables false
open Wi Evn
theorem sgnR_no {s : List UInt8} {p : Nat} {lo hi : Int} (h : (numR s p).2.2 ≠ 0) : sgnR s p lo hi = (0, p, (numR s p).2.2) := by rw [sgnR, if_neg h]
theorem sgnR_out {s : List UInt8} {p : Nat} {lo hi : Int} (h : (numR s p).2.2 = 0) (h1 : ¬ (lo ≤ sg (numR s p).1 ∧ sg (numR s p).1 ≤ hi)) : sgnR s p lo hi = (0, p, 9) := by rw [sgnR, if_pos h, if_neg h1]
theorem sgnR_ok {s : List UInt8} {p : Nat} {lo hi : Int} (h : (numR s p).2.2 = 0) (h1 : lo ≤ sg (numR s p).1 ∧ sg (numR s p).1 ≤ hi) : sgnR s p lo hi = (sg (numR s p).1, (numR s p).2.1, 0) := by rw [sgnR, if_pos h, if_pos h1]
theorem xor_neg {a : Int} (h0 : 0 ≤ a) (h1 : a ≤ 9223372036854775807) : bits .xor .i64 (-1) a = -a - 1 := by
  obtain ⟨n, rfl⟩ := Int.eq_ofNat_of_zero_le h0
  have h2 : (BitVec.ofInt 64 (n : Int)).toNat = n := by
    rw [BitVec.ofInt_natCast, BitVec.toNat_ofNat]; exact Nat.mod_eq_of_lt (by omega)
  show IntKind.i64.wrap ((BitVec.ofInt 64 (-1) ^^^ BitVec.ofInt 64 (n : Int)).toNat : Int) = _
  have h3 : BitVec.ofInt 64 (-1) = BitVec.allOnes 64 := by decide
  rw [h3, BitVec.allOnes_xor, BitVec.toNat_not, h2, IntKind.wrap_i64]
  omega
theorem and1 {u : Nat} (h : u < 18446744073709551616) : bits .and .u64 (u : Int) 1 = ((u % 2 : Nat) : Int) := by
  have := bits_and_u64_nat u 1 h (by decide)
  rw [show ((1 : Nat) : Int) = 1 from rfl] at this
  rw [this, Nat.and_one_is_mod]
set_option maxRecDepth 100000 in
set_option maxHeartbeats 4000000 in
theorem signed_any (b : Nat) (s : ByteArray) (p : Nat) (hp : p ≤ s.size) (hs : (s.size : Int) ≤ 1000000) (lo hi : Int) (n : Int) (q : Nat) (x : Int) (h : Hid (sgnR (bl s) p lo hi = (n, q, x))) (w : World) (hc : w.cell? ⟨b, 0, none⟩ = some (.string s)) :
    Calls Tryd.prog 62 #[.pointer (some ⟨b, 0, none⟩), .int .i64 p, .int .i64 lo, .int .i64 hi] w fun e w' => e = .returned (.tuple #[.int .i64 n, .int .i64 (if x = 0 then (q : Int) else 0), .int .i64 x]) ∧ w' = w := by
  obtain ⟨u, r, y, hN⟩ : ∃ u r y, numR (bl s) p = (u, r, y) := ⟨_, _, _, rfl⟩
  have HN := Lib.hid hN
  by_cases hy : y = 0
  · subst hy
    have hE : (numR (bl s) p).2.2 = 0 := by rw [hN]
    have hu := (numR_is hN).2.1
    have hsg : Hid (∀ z, z = sg u → (lo ≤ z ∧ z ≤ hi → n = z ∧ q = r ∧ x = 0) ∧ (¬ (lo ≤ z ∧ z ≤ hi) → n = 0 ∧ q = p ∧ x = 9)) := fun z hz => by
      have h' := h.out
      have hu1 : (numR (bl s) p).1 = u := by rw [hN]
      have hr1 : (numR (bl s) p).2.1 = r := by rw [hN]
      refine ⟨fun g => ?_, fun g => ?_⟩
      · rw [sgnR_ok hE (by rw [hu1, ← hz]; exact g), hu1, hr1, ← hz] at h'
        simp only [Prod.mk.injEq] at h'
        exact ⟨h'.1.symm, h'.2.1.symm, h'.2.2.symm⟩
      · rw [sgnR_out hE (by rw [hu1, ← hz]; exact g)] at h'
        simp only [Prod.mk.injEq] at h'
        exact ⟨h'.1.symm, h'.2.1.symm, h'.2.2.symm⟩
    obtain ⟨d, hd⟩ : ∃ d, u / 2 = d := ⟨_, rfl⟩
    have hd2 : (u : Int) / 2 = (d : Int) := by omega
    have hdl : (d : Int) ≤ 9223372036854775807 := by omega
    have hmod : u % 2 = 0 ∨ u % 2 = 1 := by omega
    clear hN hE h
    rcases hmod with hm | hm
    · have f1 := and1 hu
      rw [hm, show ((0 : Nat) : Int) = 0 from rfl] at f1
      have hz : (d : Int) = sg u := by unfold sg; rw [if_neg (by omega), hd]
      obtain ⟨g1, g2⟩ := hsg.out _ hz
      have HG1 := Lib.hid g1; have HG2 := Lib.hid g2
      clear g1 g2 hz hsg hd
      by_cases hlo : lo ≤ (d : Int)
      · by_cases hhi : (d : Int) ≤ hi
        · obtain ⟨e1, e2, e3⟩ := HG1.out ⟨hlo, hhi⟩
          subst e1 e2 e3
          clear HG1 HG2
          go_enter Tryd.func62, Tryd.ntmps62
          go_wp2_with fail
          (with_reducible refine (number_any b s p hp hs u _ 0 HN _ hc).mono ?_)
          rintro e w1 ⟨rfl, rfl⟩
          go_wp2_with fail
          go_ret3
          exact ⟨ret_three (by first | rfl | omega) (by first | rfl | omega) rfl, rfl⟩
        · obtain ⟨e1, e2, e3⟩ := HG2.out (fun g => hhi g.2)
          subst e1 e3
          clear HG1 HG2
          go_enter Tryd.func62, Tryd.ntmps62
          go_wp2_with fail
          (with_reducible refine (number_any b s p hp hs u _ 0 HN _ hc).mono ?_)
          rintro e w1 ⟨rfl, rfl⟩
          go_wp2_with fail
          go_ret3
          exact ⟨ret_three (by first | rfl | omega) (by first | rfl | omega) rfl, rfl⟩
      · obtain ⟨e1, e2, e3⟩ := HG2.out (fun g => hlo g.1)
        subst e1 e3
        clear HG1 HG2
        go_enter Tryd.func62, Tryd.ntmps62
        go_wp2_with fail
        (with_reducible refine (number_any b s p hp hs u _ 0 HN _ hc).mono ?_)
        rintro e w1 ⟨rfl, rfl⟩
        go_wp2_with fail
        go_ret3
        exact ⟨ret_three (by first | rfl | omega) (by first | rfl | omega) rfl, rfl⟩
    · have f1 := and1 hu
      rw [hm, show ((1 : Nat) : Int) = 1 from rfl] at f1
      obtain ⟨z, hz⟩ : ∃ z : Int, -(d : Int) - 1 = z := ⟨_, rfl⟩
      have f2 : bits .xor .i64 (-1) (d : Int) = z := by rw [xor_neg (by omega) hdl, hz]
      have hz2 : z = sg u := by unfold sg; rw [if_pos hm, hd, ← hz]
      have hz3 : -9223372036854775808 ≤ z ∧ z ≤ 9223372036854775807 := by omega
      obtain ⟨g1, g2⟩ := hsg.out _ hz2
      have HG1 := Lib.hid g1; have HG2 := Lib.hid g2
      clear g1 g2 hz2 hsg hd
      by_cases hlo : lo ≤ z
      · by_cases hhi : z ≤ hi
        · obtain ⟨e1, e2, e3⟩ := HG1.out ⟨hlo, hhi⟩
          subst e1 e2 e3
          clear HG1 HG2
          go_enter Tryd.func62, Tryd.ntmps62
          go_wp2_with fail
          (with_reducible refine (number_any b s p hp hs u _ 0 HN _ hc).mono ?_)
          rintro e w1 ⟨rfl, rfl⟩
          go_wp2_with fail
          go_ret3
          exact ⟨ret_three (by first | rfl | omega) (by first | rfl | omega) rfl, rfl⟩
        · obtain ⟨e1, e2, e3⟩ := HG2.out (fun g => hhi g.2)
          subst e1 e3
          clear HG1 HG2
          go_enter Tryd.func62, Tryd.ntmps62
          go_wp2_with fail
          (with_reducible refine (number_any b s p hp hs u _ 0 HN _ hc).mono ?_)
          rintro e w1 ⟨rfl, rfl⟩
          go_wp2_with fail
          go_ret3
          exact ⟨ret_three (by first | rfl | omega) (by first | rfl | omega) rfl, rfl⟩
      · obtain ⟨e1, e2, e3⟩ := HG2.out (fun g => hlo g.1)
        subst e1 e3
        clear HG1 HG2
        go_enter Tryd.func62, Tryd.ntmps62
        go_wp2_with fail
        (with_reducible refine (number_any b s p hp hs u _ 0 HN _ hc).mono ?_)
        rintro e w1 ⟨rfl, rfl⟩
        go_wp2_with fail
        go_ret3
        exact ⟨ret_three (by first | rfl | omega) (by first | rfl | omega) rfl, rfl⟩
  · have h' := h.out
    rw [sgnR_no (by rw [hN]; exact hy), hN] at h'
    simp only [Prod.mk.injEq] at h'
    obtain ⟨e1, e2, e3⟩ := h'
    have hu : u = 0 := by have := (numR_err (s := bl s) (p := p) (by rw [hN]; exact hy)).1; rw [hN] at this; exact this
    have hr : r = p := by have := (numR_err (s := bl s) (p := p) (by rw [hN]; exact hy)).2; rw [hN] at this; exact this
    have qy : (y != 0) = true := by simpa using hy
    have qy2 : (y == 0) = false := by simpa using hy
    subst e3
    have HE1 := Lib.hid e1; have HE2 := Lib.hid e2; have HRR := Lib.hid hr
    clear hN h e1 e2 hu hr
    go_enter Tryd.func62, Tryd.ntmps62
    go_wp2_with fail
    (with_reducible refine (number_any b s p hp hs u r y HN _ hc).mono ?_)
    rintro e w1 ⟨rfl, rfl⟩
    go_wp2_with fail
    go_ret3
    refine ⟨ret_three HE1.out ?_ rfl, rfl⟩
    first | rfl | (have := HE2.out; have := HRR.out; omega)
set_option maxRecDepth 100000 in
set_option maxHeartbeats 4000000 in
theorem rsigned_any  (s : ByteArray) (p : Nat) (hp : p ≤ s.size) (hs : (s.size : Int) ≤ 1000000) (lo hi : Int) (n : Int) (q : Nat) (x : Int) (h : Hid (sgnR (bl s) p lo hi = (n, q, x))) (w : World)  :
    Calls Tryd.prog 67 #[.string s, .int .i64 p, .int .i64 lo, .int .i64 hi] w fun e w' => e = .returned (.tuple #[.int .i64 n, .int .i64 (q : Int), .int .i64 x]) ∧ w' = w := by
  obtain ⟨u, r, y, hN⟩ : ∃ u r y, numR (bl s) p = (u, r, y) := ⟨_, _, _, rfl⟩
  have HN := Lib.hid hN
  by_cases hy : y = 0
  · subst hy
    have hE : (numR (bl s) p).2.2 = 0 := by rw [hN]
    have hu := (numR_is hN).2.1
    have hsg : Hid (∀ z, z = sg u → (lo ≤ z ∧ z ≤ hi → n = z ∧ q = r ∧ x = 0) ∧ (¬ (lo ≤ z ∧ z ≤ hi) → n = 0 ∧ q = p ∧ x = 9)) := fun z hz => by
      have h' := h.out
      have hu1 : (numR (bl s) p).1 = u := by rw [hN]
      have hr1 : (numR (bl s) p).2.1 = r := by rw [hN]
      refine ⟨fun g => ?_, fun g => ?_⟩
      · rw [sgnR_ok hE (by rw [hu1, ← hz]; exact g), hu1, hr1, ← hz] at h'
        simp only [Prod.mk.injEq] at h'
        exact ⟨h'.1.symm, h'.2.1.symm, h'.2.2.symm⟩
      · rw [sgnR_out hE (by rw [hu1, ← hz]; exact g)] at h'
        simp only [Prod.mk.injEq] at h'
        exact ⟨h'.1.symm, h'.2.1.symm, h'.2.2.symm⟩
    obtain ⟨d, hd⟩ : ∃ d, u / 2 = d := ⟨_, rfl⟩
    have hd2 : (u : Int) / 2 = (d : Int) := by omega
    have hdl : (d : Int) ≤ 9223372036854775807 := by omega
    have hmod : u % 2 = 0 ∨ u % 2 = 1 := by omega
    clear hN hE h
    rcases hmod with hm | hm
    · have f1 := and1 hu
      rw [hm, show ((0 : Nat) : Int) = 0 from rfl] at f1
      have hz : (d : Int) = sg u := by unfold sg; rw [if_neg (by omega), hd]
      obtain ⟨g1, g2⟩ := hsg.out _ hz
      have HG1 := Lib.hid g1; have HG2 := Lib.hid g2
      clear g1 g2 hz hsg hd
      by_cases hlo : lo ≤ (d : Int)
      · by_cases hhi : (d : Int) ≤ hi
        · obtain ⟨e1, e2, e3⟩ := HG1.out ⟨hlo, hhi⟩
          subst e1 e2 e3
          clear HG1 HG2
          go_enter Tryd.func67, Tryd.ntmps67
          go_wp2_with fail
          (with_reducible refine (rnumber_any s p hp hs u _ 0 HN _ ).mono ?_)
          rintro e w1 ⟨rfl, rfl⟩
          go_wp2_with fail
          go_ret3
          exact ⟨ret_three (by first | rfl | omega) (by first | rfl | omega) rfl, rfl⟩
        · obtain ⟨e1, e2, e3⟩ := HG2.out (fun g => hhi g.2)
          subst e1 e3
          clear HG1 HG2
          go_enter Tryd.func67, Tryd.ntmps67
          go_wp2_with fail
          (with_reducible refine (rnumber_any s p hp hs u _ 0 HN _ ).mono ?_)
          rintro e w1 ⟨rfl, rfl⟩
          go_wp2_with fail
          go_ret3
          exact ⟨ret_three (by first | rfl | omega) (by first | rfl | omega) rfl, rfl⟩
      · obtain ⟨e1, e2, e3⟩ := HG2.out (fun g => hlo g.1)
        subst e1 e3
        clear HG1 HG2
        go_enter Tryd.func67, Tryd.ntmps67
        go_wp2_with fail
        (with_reducible refine (rnumber_any s p hp hs u _ 0 HN _ ).mono ?_)
        rintro e w1 ⟨rfl, rfl⟩
        go_wp2_with fail
        go_ret3
        exact ⟨ret_three (by first | rfl | omega) (by first | rfl | omega) rfl, rfl⟩
    · have f1 := and1 hu
      rw [hm, show ((1 : Nat) : Int) = 1 from rfl] at f1
      obtain ⟨z, hz⟩ : ∃ z : Int, -(d : Int) - 1 = z := ⟨_, rfl⟩
      have f2 : bits .xor .i64 (-1) (d : Int) = z := by rw [xor_neg (by omega) hdl, hz]
      have hz2 : z = sg u := by unfold sg; rw [if_pos hm, hd, ← hz]
      have hz3 : -9223372036854775808 ≤ z ∧ z ≤ 9223372036854775807 := by omega
      obtain ⟨g1, g2⟩ := hsg.out _ hz2
      have HG1 := Lib.hid g1; have HG2 := Lib.hid g2
      clear g1 g2 hz2 hsg hd
      by_cases hlo : lo ≤ z
      · by_cases hhi : z ≤ hi
        · obtain ⟨e1, e2, e3⟩ := HG1.out ⟨hlo, hhi⟩
          subst e1 e2 e3
          clear HG1 HG2
          go_enter Tryd.func67, Tryd.ntmps67
          go_wp2_with fail
          (with_reducible refine (rnumber_any s p hp hs u _ 0 HN _ ).mono ?_)
          rintro e w1 ⟨rfl, rfl⟩
          go_wp2_with fail
          go_ret3
          exact ⟨ret_three (by first | rfl | omega) (by first | rfl | omega) rfl, rfl⟩
        · obtain ⟨e1, e2, e3⟩ := HG2.out (fun g => hhi g.2)
          subst e1 e3
          clear HG1 HG2
          go_enter Tryd.func67, Tryd.ntmps67
          go_wp2_with fail
          (with_reducible refine (rnumber_any s p hp hs u _ 0 HN _ ).mono ?_)
          rintro e w1 ⟨rfl, rfl⟩
          go_wp2_with fail
          go_ret3
          exact ⟨ret_three (by first | rfl | omega) (by first | rfl | omega) rfl, rfl⟩
      · obtain ⟨e1, e2, e3⟩ := HG2.out (fun g => hlo g.1)
        subst e1 e3
        clear HG1 HG2
        go_enter Tryd.func67, Tryd.ntmps67
        go_wp2_with fail
        (with_reducible refine (rnumber_any s p hp hs u _ 0 HN _ ).mono ?_)
        rintro e w1 ⟨rfl, rfl⟩
        go_wp2_with fail
        go_ret3
        exact ⟨ret_three (by first | rfl | omega) (by first | rfl | omega) rfl, rfl⟩
  · have h' := h.out
    rw [sgnR_no (by rw [hN]; exact hy), hN] at h'
    simp only [Prod.mk.injEq] at h'
    obtain ⟨e1, e2, e3⟩ := h'
    have hu : u = 0 := by have := (numR_err (s := bl s) (p := p) (by rw [hN]; exact hy)).1; rw [hN] at this; exact this
    have hr : r = p := by have := (numR_err (s := bl s) (p := p) (by rw [hN]; exact hy)).2; rw [hN] at this; exact this
    have qy : (y != 0) = true := by simpa using hy
    have qy2 : (y == 0) = false := by simpa using hy
    subst e3
    have HE1 := Lib.hid e1; have HE2 := Lib.hid e2; have HRR := Lib.hid hr
    clear hN h e1 e2 hu hr
    go_enter Tryd.func67, Tryd.ntmps67
    go_wp2_with fail
    (with_reducible refine (rnumber_any s p hp hs u r y HN _ ).mono ?_)
    rintro e w1 ⟨rfl, rfl⟩
    go_wp2_with fail
    go_ret3
    refine ⟨ret_three HE1.out ?_ rfl, rfl⟩
    first | rfl | (have := HE2.out; have := HRR.out; omega)
end Go.Proofs.YtcefmnkfkpoccaaDoor
