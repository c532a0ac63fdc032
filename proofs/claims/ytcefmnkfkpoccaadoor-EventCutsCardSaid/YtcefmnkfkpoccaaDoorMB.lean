/- wire: counted, done, stopped, Int, Text, End of a reader. -/
import Derived.Test.YtcefmnkfkpoccaaDoorG6
namespace Go.Proofs.YtcefmnkfkpoccaaDoor
open Go.RowKit
set_option linter.unusedVariables false
open Wi Evn
/-- A reader in memory. -/
def RdB (w : World) (b : Nat) (s : ByteArray) (t : St) : Prop := Blk w b 92 #[.string s, .int .i64 t.1, .int .i64 t.2]
section
variable {w w' : World} {b : Nat} {s : ByteArray} {t : St}
theorem RdB.cells (h : RdB w b s t) : w.cell? ⟨b, 0, none⟩ = some (.string s) ∧ w.cell? ⟨b, 1, none⟩ = some (.int .i64 t.1) ∧ w.cell? ⟨b, 2, none⟩ = some (.int .i64 t.2) := ⟨Blk.cell h 0, Blk.cell h 1, Blk.cell h 2⟩
theorem RdB.below (h : RdB w b s t) (hb : Below w.heap.size w w') : RdB w' b s t := Blk.below h hb
theorem RdB.err (h : RdB w b s t) (x : Int) : RdB (w.setCell ⟨b, 2, none⟩ (.int .i64 x)) b s (t.1, x) := by
  have := Blk.set_ h 2 (.int .i64 x)
  simpa [RdB] using this
theorem RdB.at_ (h : RdB w b s t) (x : Nat) : RdB (w.setCell ⟨b, 1, none⟩ (.int .i64 x)) b s (x, t.2) := by
  have := Blk.set_ h 1 (.int .i64 x)
  simpa [RdB] using this
end
theorem cntR_no {s : List UInt8} {p most : Nat} (h : (numR s p).2.2 ≠ 0) : cntR s p most = (0, p, (numR s p).2.2) := by rw [cntR, if_neg h]
theorem cntR_out {s : List UInt8} {p most : Nat} (h : (numR s p).2.2 = 0) (h1 : ¬ (numR s p).1 ≤ most) : cntR s p most = (0, p, 4) := by rw [cntR, if_pos h, if_neg h1]
theorem cntR_ok {s : List UInt8} {p most : Nat} (h : (numR s p).2.2 = 0) (h1 : (numR s p).1 ≤ most) : cntR s p most = ((numR s p).1, (numR s p).2.1, 0) := by rw [cntR, if_pos h, if_pos h1]
set_option maxRecDepth 100000 in
set_option maxHeartbeats 4000000 in
theorem counted_any (b : Nat) (s : ByteArray) (p : Nat) (hp : p ≤ s.size) (hs : (s.size : Int) ≤ 1000000) (most : Nat) (hm : (most : Int) ≤ 1000000) (n q : Nat) (x : Int) (h : Hid (cntR (bl s) p most = (n, q, x))) (w : World) (hc : w.cell? ⟨b, 0, none⟩ = some (.string s)) :
    Calls Tryd.prog 64 #[.pointer (some ⟨b, 0, none⟩), .int .i64 p, .int .i64 most] w fun e w' => e = .returned (.tuple #[.int .u64 n, .int .i64 (if x = 0 then (q : Int) else 0), .int .i64 x]) ∧ w' = w := by
  obtain ⟨u, r, y, hN⟩ : ∃ u r y, numR (bl s) p = (u, r, y) := ⟨_, _, _, rfl⟩
  have HN := Lib.hid hN
  have h' := h.out
  by_cases hy : y = 0
  · subst hy
    have hE : (numR (bl s) p).2.2 = 0 := by rw [hN]
    have hu1 : (numR (bl s) p).1 = u := by rw [hN]
    have hr1 : (numR (bl s) p).2.1 = r := by rw [hN]
    have hm0 : (0 : Int) ≤ (most : Int) := by omega
    by_cases hmo : u ≤ most
    · rw [cntR_ok hE (by rw [hu1]; exact hmo), hu1, hr1] at h'
      simp only [Prod.mk.injEq] at h'
      obtain ⟨e1, e2, e3⟩ := h'
      subst e1 e2 e3
      have z1 : ¬ (most : Int) < (u : Int) := by omega
      clear hN hE hu1 hr1 h
      go_enter Tryd.func64, Tryd.ntmps64
      go_wp2_with fail
      (with_reducible refine (number_any b s p hp hs u _ 0 HN _ hc).mono ?_)
      rintro e w1 ⟨rfl, rfl⟩
      go_wp2_with fail
      go_ret3
      exact ⟨rfl, rfl⟩
    · rw [cntR_out hE (by rw [hu1]; exact hmo)] at h'
      simp only [Prod.mk.injEq] at h'
      obtain ⟨e1, -, e3⟩ := h'
      subst e1 e3
      have z1 : (most : Int) < (u : Int) := by omega
      clear hN hE hu1 hr1 h
      go_enter Tryd.func64, Tryd.ntmps64
      go_wp2_with fail
      (with_reducible refine (number_any b s p hp hs u _ 0 HN _ hc).mono ?_)
      rintro e w1 ⟨rfl, rfl⟩
      go_wp2_with fail
      go_ret3
      exact ⟨rfl, rfl⟩
  · rw [cntR_no (by rw [hN]; exact hy), hN] at h'
    simp only [Prod.mk.injEq] at h'
    obtain ⟨e1, -, e3⟩ := h'
    subst e1 e3
    have qy : (y != 0) = true := by simpa using hy
    have qy2 : (y == 0) = false := by simpa using hy
    clear hN h
    go_enter Tryd.func64, Tryd.ntmps64
    go_wp2_with fail
    (with_reducible refine (number_any b s p hp hs u r y HN _ hc).mono ?_)
    rintro e w1 ⟨rfl, rfl⟩
    go_wp2_with fail
    go_ret3
    exact ⟨rfl, rfl⟩
theorem stopped_any (b : Nat) (s : ByteArray) (t : St) (x : Bool) (hx : Hid (decide (t.2 = 0) = !x)) (w : World) (HR : Hid (RdB w b s t)) :
    Calls Tryd.prog 61 #[.pointer (some ⟨b, 0, none⟩)] w fun e w' => e = .returned (.bool x) ∧ w' = w := by
  obtain ⟨c0, c1, c2⟩ := HR.out.cells
  by_cases h : t.2 = 0
  · have ex : x = false := by have := hx.out; simp [h] at this; exact this
    subst ex
    rw [h] at c2
    clear h
    go_enter Tryd.func61, Tryd.ntmps61
    go_wp2_with fail
    go_ret
    exact ⟨rfl, rfl⟩
  · have ex : x = true := by have := hx.out; simp [h] at this; exact this
    subst ex
    have q : (t.2 != 0) = true := by simpa using h
    have q2 : (t.2 == 0) = false := by simpa using h
    clear h
    go_enter Tryd.func61, Tryd.ntmps61
    go_wp2_with fail
    go_ret
    exact ⟨rfl, rfl⟩
/-- The state after a read. -/
def dnS (t : St) (q : Nat) (x : Int) : St := if x = 0 then (q, t.2) else (t.1, x)
theorem done_any (b : Nat) (s : ByteArray) (t : St) (q : Nat) (x : Int) (z : Int) (hz : Hid (x = 0 → z = (q : Int))) (w : World) (HR : Hid (RdB w b s t)) :
    Calls Tryd.prog 63 #[.pointer (some ⟨b, 0, none⟩), .int .i64 z, .int .i64 x] w fun e w' => e = .returned (.tuple #[]) ∧ RdB w' b s (dnS t q x) ∧ w.grownBy w' (some b) := by
  obtain ⟨c0, c1, c2⟩ := HR.out.cells
  have fz := Blk.frozen HR.out
  by_cases h : x = 0
  · subst h
    have hq := hz.out rfl
    subst hq
    go_enter Tryd.func63, Tryd.ntmps63
    go_wp2_with fail
    (try simp only [Exit.inBlock, Exit.then])
    exact bodyPost_end (results_none rfl _ _ _) rfl ⟨rfl, by rw [dnS, if_pos rfl]; exact HR.out.at_ q, set_grown _ _ _ _⟩
  · have q1 : (x != 0) = true := by simpa using h
    have q2 : (x == 0) = false := by simpa using h
    have HX := Lib.hid h
    clear h hz
    go_enter Tryd.func63, Tryd.ntmps63
    go_wp2_with fail
    (try simp only [Exit.inBlock, Exit.then])
    exact bodyPost_ret (results_none rfl _ _ _) rfl ⟨rfl, by rw [dnS, if_neg HX.out]; exact HR.out.err x, set_grown _ _ _ _⟩
theorem sgnR_bad {s : List UInt8} {p : Nat} {lo hi : Int} (h : (sgnR s p lo hi).2.2 ≠ 0) : (sgnR s p lo hi).1 = 0 := by
  unfold sgnR at h ⊢
  split
  · rename_i h0
    rw [if_pos h0] at h
    split
    · rename_i h1
      rw [if_pos h1] at h
      exact absurd rfl h
    · rfl
  · rfl
theorem rdI_eq {s : List UInt8} {t : St} {lo hi n : Int} {q : Nat} {x : Int} (h0 : t.2 = 0) (hs : sgnR s t.1 lo hi = (n, q, x)) : rdI s t lo hi = (dnS t q x, n) := by
  rw [rdI, if_pos h0, hs, dnS]
  by_cases hx : x = 0
  · subst hx
    simp [h0]
  · have : n = 0 := by have := sgnR_bad (s := s) (p := t.1) (lo := lo) (hi := hi) (by rw [hs]; exact hx); rw [hs] at this; exact this
    simp [hx, this]
theorem ret_i {k : IntKind} {a b : Int} (h : a = b) : Ending.returned (.int k a) = .returned (.int k b) := by rw [h]
theorem signed_z (b : Nat) (s : ByteArray) (p : Nat) (hp : p ≤ s.size) (hs : (s.size : Int) ≤ 1000000) (lo hi : Int) (n : Int) (q : Nat) (x z : Int) (h : Hid (sgnR (bl s) p lo hi = (n, q, x))) (hz : Hid ((if x = 0 then (q : Int) else 0) = z)) (w : World) (hc : w.cell? ⟨b, 0, none⟩ = some (.string s)) :
    Calls Tryd.prog 62 #[.pointer (some ⟨b, 0, none⟩), .int .i64 p, .int .i64 lo, .int .i64 hi] w fun e w' => e = .returned (.tuple #[.int .i64 n, .int .i64 z, .int .i64 x]) ∧ w' = w := by
  have := signed_any b s p hp hs lo hi n q x h w hc
  rw [hz.out] at this
  exact this
theorem counted_z (b : Nat) (s : ByteArray) (p : Nat) (hp : p ≤ s.size) (hs : (s.size : Int) ≤ 1000000) (most : Nat) (hm : (most : Int) ≤ 1000000) (n q : Nat) (x z : Int) (h : Hid (cntR (bl s) p most = (n, q, x))) (hz : Hid ((if x = 0 then (q : Int) else 0) = z)) (w : World) (hc : w.cell? ⟨b, 0, none⟩ = some (.string s)) :
    Calls Tryd.prog 64 #[.pointer (some ⟨b, 0, none⟩), .int .i64 p, .int .i64 most] w fun e w' => e = .returned (.tuple #[.int .u64 n, .int .i64 z, .int .i64 x]) ∧ w' = w := by
  have := counted_any b s p hp hs most hm n q x h w hc
  rw [hz.out] at this
  exact this
set_option maxRecDepth 100000 in
set_option maxHeartbeats 4000000 in
theorem rdInt_any (b : Nat) (s : ByteArray) (t : St) (hp : t.1 ≤ s.size) (hs : (s.size : Int) ≤ 1000000) (lo hi : Int) (T : St) (N : Int) (h : Hid (rdI (bl s) t lo hi = (T, N))) (w : World) (HR : Hid (RdB w b s t)) :
    Calls Tryd.prog 35 #[.pointer (some ⟨b, 0, none⟩), .int .i64 lo, .int .i64 hi] w fun e w' => e = .returned (.int .i64 N) ∧ RdB w' b s T ∧ w.grownBy w' (some b) := by
  obtain ⟨c0, c1, c2⟩ := HR.out.cells
  by_cases h0 : t.2 = 0
  · obtain ⟨n, q, x, hN⟩ : ∃ n q x, sgnR (bl s) t.1 lo hi = (n, q, x) := ⟨_, _, _, rfl⟩
    have HN := Lib.hid hN
    have h' := h.out
    rw [rdI_eq h0 hN] at h'
    simp only [Prod.mk.injEq] at h'
    obtain ⟨e1, e2⟩ := h'
    have HT := Lib.hid e1
    subst e2
    have HST : Hid (decide (t.2 = 0) = !false) := by show _ = _; simp [h0]
    obtain ⟨z, hz⟩ : ∃ z, (if x = 0 then (q : Int) else 0) = z := ⟨_, rfl⟩
    have HZ := Lib.hid hz
    clear hN h h0 e1 hz
    go_enter Tryd.func35, Tryd.ntmps35
    go_wp2_with fail
    (with_reducible refine (stopped_any b s t false HST _ HR).mono ?_)
    rintro e w1 ⟨rfl, rfl⟩
    go_wp2_with fail
    (with_reducible refine (signed_z b s t.1 hp hs lo hi n q x z HN HZ _ c0).mono ?_)
    rintro e w1 ⟨rfl, rfl⟩
    go_wp2_with fail
    (with_reducible refine (done_any b s t q x z (Lib.hid (fun hx => by rw [← HZ.out, if_pos hx])) _ HR).mono ?_)
    rintro e w1 ⟨rfl, h1, h2⟩
    have H1 := Lib.hid h1; have H2 := Lib.hid h2
    clear h1 h2
    go_wp2_with fail
    go_ret
    exact ⟨rfl, by rw [← HT.out]; exact H1.out, H2.out⟩
  · have h' := h.out
    rw [rdI_bad h0] at h'
    simp only [Prod.mk.injEq] at h'
    obtain ⟨e1, e2⟩ := h'
    subst e1 e2
    have HST : Hid (decide (t.2 = 0) = !true) := by show _ = _; simp [h0]
    clear h h0
    go_enter Tryd.func35, Tryd.ntmps35
    go_wp2_with fail
    (with_reducible refine (stopped_any b s t true HST _ HR).mono ?_)
    rintro e w1 ⟨rfl, rfl⟩
    go_wp2_with fail
    go_ret
    exact ⟨rfl, HR.out, below_grown (Below.refl _ _) _⟩
end Go.Proofs.YtcefmnkfkpoccaaDoor

namespace Go.Proofs.YtcefmnkfkpoccaaDoor
open Go.RowKit
set_option linter.unusedVariables false
open Wi Evn
theorem cntR_bad {s : List UInt8} {p most : Nat} (h : (cntR s p most).2.2 ≠ 0) : (cntR s p most).1 = 0 := by
  unfold cntR at h ⊢
  split
  · rename_i h0
    rw [if_pos h0] at h
    split
    · rename_i h1
      rw [if_pos h1] at h
      exact absurd rfl h
    · rfl
  · rfl
theorem rdT_err {s : List UInt8} {t : St} {most n q : Nat} {x : Int} (h0 : t.2 = 0) (hs : cntR s t.1 most = (n, q, x)) (hx : x ≠ 0) : rdT s t most = ((t.1, x), []) := by
  rw [rdT, if_pos h0, hs]
  simp [hx]
theorem rdT_short {s : List UInt8} {t : St} {most n q : Nat} (h0 : t.2 = 0) (hs : cntR s t.1 most = (n, q, 0)) (hx : ¬ n ≤ s.length - q) : rdT s t most = ((t.1, 3), []) := by
  rw [rdT, if_pos h0, hs, if_pos rfl, if_neg hx]
theorem rdT_ok {s : List UInt8} {t : St} {most n q : Nat} (h0 : t.2 = 0) (hs : cntR s t.1 most = (n, q, 0)) (hx : n ≤ s.length - q) : rdT s t most = ((q + n, 0), (s.drop q).take n) := by
  rw [rdT, if_pos h0, hs, if_pos rfl, if_pos hx]
theorem lb_sub (s : ByteArray) (q n : Nat) : s.extract q (q + n) = lb (((bl s).drop q).take n) := by
  apply ByteArray.ext
  apply Array.ext'
  simp [bl]
set_option maxRecDepth 100000 in
set_option maxHeartbeats 4000000 in
theorem rdText_any (b : Nat) (s : ByteArray) (t : St) (hp : t.1 ≤ s.size) (hs : (s.size : Int) ≤ 1000000) (most : Nat) (hm : (most : Int) ≤ 1000000) (T : St) (N : List UInt8) (h : Hid (rdT (bl s) t most = (T, N))) (w : World) (HR : Hid (RdB w b s t)) :
    Calls Tryd.prog 36 #[.pointer (some ⟨b, 0, none⟩), .int .i64 most] w fun e w' => e = .returned (.string (lb N)) ∧ RdB w' b s T ∧ w.grownBy w' (some b) := by
  obtain ⟨c0, c1, c2⟩ := HR.out.cells
  by_cases h0 : t.2 = 0
  · obtain ⟨n, q, x, hN⟩ : ∃ n q x, cntR (bl s) t.1 most = (n, q, x) := ⟨_, _, _, rfl⟩
    have HN := Lib.hid hN
    have h' := h.out
    have HST : Hid (decide (t.2 = 0) = !false) := by show _ = _; simp [h0]
    by_cases hx : x = 0
    · subst hx
      obtain ⟨-, g1, g2, -⟩ := cntR_is (s := bl s) (p := t.1) (most := most) (by rw [hN])
      rw [hN] at g1 g2
      simp only at g1 g2
      have hq : q ≤ s.size := g2
      by_cases hn : n ≤ s.size - q
      · rw [rdT_ok h0 hN hn] at h'
        simp only [Prod.mk.injEq] at h'
        obtain ⟨e1, e2⟩ := h'
        have HT := Lib.hid e1; have HE := Lib.hid e2
        have HX := Lib.hid h0
        have z1 : ¬ (s.size : Int) - (q : Int) < (n : Int) := by omega
        have z2 : (q : Int) + (n : Int) ≤ (s.size : Int) := by omega
        have HSL := Lib.hid (lb_sub s q n)
        obtain ⟨r, hr⟩ : ∃ r, q + n = r := ⟨_, rfl⟩
        have hr2 : (q : Int) + (n : Int) = (r : Int) := by omega
        have hr3 : (r : Int) ≤ (s.size : Int) := by omega
        have hr4 : (q : Int) ≤ (r : Int) := by omega
        have HRQ := Lib.hid hr
        have HT0 := Lib.hid h0
        clear hN h h0 e1 e2 hr
        clear HX
        go_enter Tryd.func36, Tryd.ntmps36
        go_wp2_with fail
        (with_reducible refine (stopped_any b s t false HST _ HR).mono ?_)
        rintro e w1 ⟨rfl, rfl⟩
        go_wp2_with fail
        (with_reducible refine (counted_z b s t.1 hp hs most hm n q 0 (q : Int) HN (Lib.hid (if_pos rfl)) _ c0).mono ?_)
        rintro e w1 ⟨rfl, rfl⟩
        go_wp2_with fail
        (with_reducible refine (done_any b s t r 0 _ (Lib.hid (fun _ => rfl)) _ HR).mono ?_)
        rintro e w1 ⟨rfl, h1, h2⟩
        have H1 := Lib.hid h1; have H2 := Lib.hid h2
        obtain ⟨d0, d1, d2⟩ := h1.cells
        clear h1 h2 c0 c1 c2
        go_wp2_with fail
        go_ret
        refine ⟨ret_st ?_, ?_, H2.out⟩
        · rw [← HE.out, ← HSL.out, HRQ.out]
        · rw [← HT.out, HRQ.out]
          have := H1.out
          rw [dnS, if_pos rfl, HT0.out] at this
          exact this
      · rw [rdT_short h0 hN hn] at h'
        simp only [Prod.mk.injEq] at h'
        obtain ⟨e1, e2⟩ := h'
        have HT := Lib.hid e1
        subst e2
        have HX := Lib.hid h0
        have z1 : (s.size : Int) - (q : Int) < (n : Int) := by omega
        clear hN h h0 e1
        clear HX
        go_enter Tryd.func36, Tryd.ntmps36
        go_wp2_with fail
        (with_reducible refine (stopped_any b s t false HST _ HR).mono ?_)
        rintro e w1 ⟨rfl, rfl⟩
        go_wp2_with fail
        (with_reducible refine (counted_z b s t.1 hp hs most hm n q 0 (q : Int) HN (Lib.hid (if_pos rfl)) _ c0).mono ?_)
        rintro e w1 ⟨rfl, rfl⟩
        go_wp2_with fail
        (with_reducible refine (done_any b s t 0 3 0 (Lib.hid (fun h => absurd h (by decide))) _ HR).mono ?_)
        rintro e w1 ⟨rfl, h1, h2⟩
        have H1 := Lib.hid h1; have H2 := Lib.hid h2
        clear h1 h2
        go_wp2_with fail
        go_ret
        exact ⟨rfl, by rw [← HT.out]; exact H1.out, H2.out⟩
    · rw [rdT_err h0 hN hx] at h'
      simp only [Prod.mk.injEq] at h'
      obtain ⟨e1, e2⟩ := h'
      have HT := Lib.hid e1
      subst e2
      have HX := Lib.hid h0
      have qx : (x == 0) = false := by simpa using hx
      have qx2 : (x != 0) = true := by simpa using hx
      have HZ : Hid ((if x = 0 then (q : Int) else 0) = 0) := if_neg hx
      have HXX := Lib.hid hx
      clear hN h h0 e1 hx
      clear HX
      go_enter Tryd.func36, Tryd.ntmps36
      go_wp2_with fail
      (with_reducible refine (stopped_any b s t false HST _ HR).mono ?_)
      rintro e w1 ⟨rfl, rfl⟩
      go_wp2_with fail
      (with_reducible refine (counted_z b s t.1 hp hs most hm n q x 0 HN HZ _ c0).mono ?_)
      rintro e w1 ⟨rfl, rfl⟩
      go_wp2_with fail
      (with_reducible refine (done_any b s t 0 x 0 (Lib.hid (fun _ => rfl)) _ HR).mono ?_)
      rintro e w1 ⟨rfl, h1, h2⟩
      have H1 := Lib.hid h1; have H2 := Lib.hid h2
      clear h1 h2
      go_wp2_with fail
      go_ret
      refine ⟨rfl, ?_, H2.out⟩
      rw [← HT.out]
      have := H1.out
      rw [dnS, if_neg HXX.out] at this
      exact this
  · have h' := h.out
    rw [rdT_bad h0] at h'
    simp only [Prod.mk.injEq] at h'
    obtain ⟨e1, e2⟩ := h'
    subst e1 e2
    have HST : Hid (decide (t.2 = 0) = !true) := by show _ = _; simp [h0]
    clear h h0
    go_enter Tryd.func36, Tryd.ntmps36
    go_wp2_with fail
    (with_reducible refine (stopped_any b s t true HST _ HR).mono ?_)
    rintro e w1 ⟨rfl, rfl⟩
    go_wp2_with fail
    go_ret
    exact ⟨rfl, HR.out, below_grown (Below.refl _ _) _⟩
theorem newr_any (s : ByteArray) (w : World) : Calls Tryd.prog 34 #[.string s] w fun e w' => e = .returned (.pointer (some ⟨w.heap.size, 0, none⟩)) ∧ w' = w.alloc (.cells #[.string s, .int .i64 0, .int .i64 0] 92) := by
  go_enter Tryd.func34, Tryd.ntmps34
  go_wp2_with fail
  go_ret
  exact ⟨rfl, rfl⟩
theorem RdB.new (w : World) (s : ByteArray) : RdB (w.alloc (.cells #[.string s, .int .i64 0, .int .i64 0] 92)) w.heap.size s (0, 0) := Blk.new _ _ _
/-- What End answers. -/
def enE (n : Nat) (t : St) : Int := if t.2 = 0 then (if t.1 < n then 4 else 0) else t.2
theorem err_any (b : Nat) (s : ByteArray) (t : St) (w : World) (HR : Hid (RdB w b s t)) :
    Calls Tryd.prog 65 #[.pointer (some ⟨b, 0, none⟩)] w fun e w' => e = .returned (.int .i64 t.2) ∧ w' = w := by
  obtain ⟨c0, c1, c2⟩ := HR.out.cells
  go_enter Tryd.func65, Tryd.ntmps65
  go_wp2_with fail
  go_ret
  exact ⟨rfl, rfl⟩
theorem left_any (b : Nat) (s : ByteArray) (t : St) (hp : t.1 ≤ s.size) (hs : (s.size : Int) ≤ 1000000) (w : World) (HR : Hid (RdB w b s t)) :
    Calls Tryd.prog 66 #[.pointer (some ⟨b, 0, none⟩)] w fun e w' => e = .returned (.int .i64 ((s.size : Int) - (t.1 : Int))) ∧ Below w.heap.size w w' := by
  obtain ⟨c0, c1, c2⟩ := HR.out.cells
  have z : (t.1 : Int) ≤ (s.size : Int) := by omega
  go_enter Tryd.func66, Tryd.ntmps66
  go_wp2_with fail
  go_quiet (fail)
  go_wp2_with fail
  go_ret
  exact ⟨ret_i rfl, below_drewN (Below.refl _ _) _⟩
theorem end_any (b : Nat) (s : ByteArray) (t : St) (hp : t.1 ≤ s.size) (hs : (s.size : Int) ≤ 1000000) (x : Int) (hx : Hid (enE s.size t = x)) (w : World) (HR : Hid (RdB w b s t)) :
    Calls Tryd.prog 38 #[.pointer (some ⟨b, 0, none⟩)] w fun e w' => e = .returned (.int .i64 x) ∧ Below w.heap.size w w' := by
  have h' := hx.out
  by_cases h0 : t.2 = 0
  · have HEX : Hid (∀ w, Hid (RdB w b s t) → Calls Tryd.prog 65 #[.pointer (some ⟨b, 0, none⟩)] w fun e w' => e = .returned (.int .i64 0) ∧ w' = w) := fun w hr => by have := err_any b s t w hr; rw [h0] at this; exact this
    by_cases h1 : t.1 < s.size
    · rw [enE, if_pos h0, if_pos h1] at h'
      subst h'
      have z : (t.1 : Int) < (s.size : Int) := by omega
      clear h0
      go_enter Tryd.func38, Tryd.ntmps38
      go_wp2_with fail
      (with_reducible refine (HEX.out _ HR).mono ?_)
      rintro e w1 ⟨rfl, rfl⟩
      go_wp2_with fail
      (with_reducible refine (left_any b s t hp hs _ HR).mono ?_)
      rintro e w1 ⟨rfl, hb⟩
      go_wp2_with fail
      go_ret
      exact ⟨rfl, hb⟩
    · rw [enE, if_pos h0, if_neg h1] at h'
      subst h'
      have z : ¬ (t.1 : Int) < (s.size : Int) := by omega
      clear h0
      go_enter Tryd.func38, Tryd.ntmps38
      go_wp2_with fail
      (with_reducible refine (HEX.out _ HR).mono ?_)
      rintro e w1 ⟨rfl, rfl⟩
      go_wp2_with fail
      (with_reducible refine (left_any b s t hp hs _ HR).mono ?_)
      rintro e w1 ⟨rfl, hb⟩
      go_wp2_with fail
      go_ret
      exact ⟨rfl, hb⟩
  · rw [enE, if_neg h0] at h'
    subst h'
    have q : (t.2 == 0) = false := by simpa using h0
    have q2 : (t.2 != 0) = true := by simpa using h0
    clear h0
    go_enter Tryd.func38, Tryd.ntmps38
    go_wp2_with fail
    (with_reducible refine (err_any b s t _ HR).mono ?_)
    rintro e w1 ⟨rfl, rfl⟩
    go_wp2_with fail
    go_ret
    exact ⟨rfl, Below.refl _ _⟩
end Go.Proofs.YtcefmnkfkpoccaaDoor

namespace Go.Proofs.YtcefmnkfkpoccaaDoor
open Go.RowKit
set_option linter.unusedVariables false
open Wi Evn
def i64c (l : List Int) : List Value := l.map fun n => .int .i64 n
theorem i64c_snoc (l : List Int) (x : Int) : i64c (l ++ [x]) = i64c l ++ [.int .i64 x] := by simp [i64c]
theorem i64c_len (l : List Int) : (i64c l).length = l.length := by simp [i64c]
theorem infoI : (Tryd.prog.info? 3).map (fun i => (i.zero, i.size, i.bytes)) = some (some (.int .i64 0), 1, 8) := by kernel_rfl
theorem rdS_err {s : List UInt8} {t : St} {most n q : Nat} {x lo hi : Int} (h0 : t.2 = 0) (hs : cntR s t.1 most = (n, q, x)) (hx : x ≠ 0) : rdS s t most lo hi = ((t.1, x), []) := by
  rw [rdS, if_pos h0, hs]
  simp [hx]
theorem rdS_bad2 {s : List UInt8} {t : St} {most n q : Nat} {lo hi : Int} {l : List Int} {r : Nat} {x : Int} (h0 : t.2 = 0) (hs : cntR s t.1 most = (n, q, 0)) (ha : rdA s lo hi n [] q = (l, r, x)) (hx : x ≠ 0) : rdS s t most lo hi = ((t.1, x), []) := by
  rw [rdS, if_pos h0, hs, if_pos rfl]
  simp only [ha, if_neg hx]
theorem rdS_ok {s : List UInt8} {t : St} {most n q : Nat} {lo hi : Int} {l : List Int} {r : Nat} (h0 : t.2 = 0) (hs : cntR s t.1 most = (n, q, 0)) (ha : rdA s lo hi n [] q = (l, r, 0)) : rdS s t most lo hi = ((r, 0), l) := by
  rw [rdS, if_pos h0, hs, if_pos rfl]
  simp only [ha, if_true]
/-- What Ints of a reader leaves. -/
structure InsR (w w' : World) (b : Nat) (s : ByteArray) (T : St) (v : Value) (l : List Int) : Prop where
  row : w'.ownsRow w.heap.size 3 1 v l.length (i64c l)
  rd : RdB w' b s T
  gr : w.grownBy w' (some b)
set_option maxRecDepth 100000 in
set_option maxHeartbeats 8000000 in
theorem rdInts_any (b : Nat) (s : ByteArray) (t : St) (hp : t.1 ≤ s.size) (hs : (s.size : Int) ≤ 1000000) (most : Nat) (hm : (most : Int) ≤ 1000000) (lo hi : Int) (T : St) (N : List Int) (h : Hid (rdS (bl s) t most lo hi = (T, N))) (w : World) (HR : Hid (RdB w b s t)) :
    Calls Tryd.prog 37 #[.pointer (some ⟨b, 0, none⟩), .int .i64 most, .int .i64 lo, .int .i64 hi] w fun e w' => ∃ v, e = .returned v ∧ InsR w w' b s T v N := by
  obtain ⟨c0, c1, c2⟩ := HR.out.cells
  have hblt : b < w.heap.size := Blk.lt HR.out
  by_cases h0 : t.2 = 0
  · obtain ⟨n, q, x, hN⟩ : ∃ n q x, cntR (bl s) t.1 most = (n, q, x) := ⟨_, _, _, rfl⟩
    have HN := Lib.hid hN
    have h' := h.out
    have HST : Hid (decide (t.2 = 0) = !false) := by show _ = _; simp [h0]
    by_cases hx : x = 0
    · subst hx
      obtain ⟨-, g1, g2, -⟩ := cntR_is (s := bl s) (p := t.1) (most := most) (by rw [hN])
      rw [hN] at g1 g2
      simp only at g1 g2
      have hq : q ≤ s.size := g2
      have hnm : n ≤ most := g1
      obtain ⟨l, r, y, hA⟩ : ∃ l r y, rdA (bl s) lo hi n [] q = (l, r, y) := ⟨_, _, _, rfl⟩
      have HA := Lib.hid hA
      have HTN : Hid ((y = 0 → T = (r, 0) ∧ N = l) ∧ (y ≠ 0 → T = (t.1, y) ∧ N = [])) := by
        refine ⟨fun hy => ?_, fun hy => ?_⟩
        · subst hy
          rw [rdS_ok h0 hN hA] at h'
          simp only [Prod.mk.injEq] at h'
          exact ⟨h'.1.symm, h'.2.symm⟩
        · rw [rdS_bad2 h0 hN hA hy] at h'
          simp only [Prod.mk.injEq] at h'
          exact ⟨h'.1.symm, h'.2.symm⟩
      have HT0 := Lib.hid h0
      clear h' h hN hA h0 g1 g2
      go_enter Tryd.func37, Tryd.ntmps37
      go_wp2_with fail
      (with_reducible refine (stopped_any b s t false HST _ HR).mono ?_)
      rintro e w1 ⟨rfl, rfl⟩
      go_wp2_with fail
      (with_reducible refine (counted_z b s t.1 hp hs most hm n q 0 (q : Int) HN (Lib.hid (if_pos rfl)) _ c0).mono ?_)
      rintro e w1 ⟨rfl, rfl⟩
      go_wp2_with fail
      go_loopw [10, 11, 12, 13] (fun at_ er v i wr => ∃ (k : Nat) (a : List Int) (p : Nat) (z x : Int), i = .int .u64 k ∧ at_ = .int .i64 z ∧ er = .int .i64 x ∧ k ≤ n ∧ a.length = k ∧ wr.ownsRow w1.heap.size 3 1 v a.length (i64c a) ∧ Below w1.heap.size w1 wr ∧ Hid (x = 0 → z = (p : Int) ∧ p ≤ s.size ∧ rdA (bl s) lo hi (n - k) a p = (l, r, y)) ∧ Hid (x ≠ 0 → y = x)) (fun _ _ _ i _ => n - (intOf i).toNat)
      case atStart => exact ⟨0, [], q, q, 0, rfl, rfl, rfl, by omega, rfl, World.ownsRow_nil _ _ _ _, Below.refl _ _, fun _ => ⟨rfl, hq, HA.out⟩, fun h => absurd rfl h⟩
      case round =>
        obtain ⟨k, a, p, z, x, rfl, rfl, rfl, hk, hal, hown, hB, HX0, HX1⟩ := hrel
        have hsz2 := hB.size
        have HRr : Hid (RdB wr b s t) := Blk.below HR.out hB
        by_cases hx : x = 0
        · subst hx
          obtain ⟨e1, hps, e3⟩ := HX0.out rfl
          subst e1
          have HE := Lib.hid e3
          clear e3 HX0 HX1
          by_cases hkn : k < n
          · have z1 : (k : Int) < (n : Int) := by omega
            obtain ⟨m, q2, x2, hS⟩ : ∃ m q2 x2, sgnR (bl s) p lo hi = (m, q2, x2) := ⟨_, _, _, rfl⟩
            have HS := Lib.hid hS
            obtain ⟨f, hf⟩ : ∃ f, n - k = f + 1 := ⟨n - k - 1, by omega⟩
            have hq2 : x2 = 0 → q2 ≤ s.size := fun g => by
              have := (sgnR_lo (s := bl s) (p := p) (lo := lo) (hi := hi) (by rw [hS]; exact g)).2.2.1
              rw [hS] at this
              exact this
            have HST2 : Hid (x2 = 0 → ((if x2 = 0 then (q2 : Int) else 0) = (q2 : Int)) ∧ q2 ≤ s.size ∧ rdA (bl s) lo hi (n - (k + 1)) (a ++ [m]) q2 = (l, r, y)) := fun g => by
              refine ⟨if_pos g, hq2 g, ?_⟩
              have h1 := HE.out
              rw [hf, rdA, hS, if_pos g] at h1
              rw [show n - (k + 1) = f by omega]
              exact h1
            have HST3 : Hid (x2 ≠ 0 → y = x2) := fun g => by
              have h1 := HE.out
              rw [hf, rdA, hS, if_neg g] at h1
              simp only [Prod.mk.injEq] at h1
              exact h1.2.2.symm
            obtain ⟨z2, hz2⟩ : ∃ z2, (if x2 = 0 then (q2 : Int) else 0) = z2 := ⟨_, rfl⟩
            have HZ2 := Lib.hid hz2
            rw [hz2] at HST2
            clear hS hz2 hf hq2 HE
            obtain ⟨d0, d1, d2⟩ := HRr.out.cells
            have hrow := hown.alloc (.cells #[.int .i64 m] 3)
            go_wp2_with fail
            (with_reducible refine (signed_z b s p hps hs lo hi m q2 x2 z2 HS HZ2 _ d0).mono ?_)
            rintro e w2 ⟨rfl, hw2⟩
            subst hw2
            go_wp2_with (at_builtin; refine wpList_append_c rfl _ _ 22 rfl w1.heap.size 3 (.int .i64 0) 1 8 Tryd.underlying22 infoI rfl (by decide) _ _ _ rfl hrow ⟨w2.heap.size, 0, none⟩ 1 1 [.int .i64 m] rfl rfl (cell_one_new _ _ _) (by intro u hu; simp at hu; subst hu; rfl) (by unfold maxLen; omega) (by omega) (by simp; omega) ?_)
            intro v' w3 hown' hgrow
            have hB2 := (hB.alloc hsz2 _).grown hgrow (by simp; omega) (fun j hj => (hrow.lt j hj).1)
            rw [← i64c_snoc] at hown'
            have HO : Hid (w3.ownsRow w1.heap.size 3 1 v' (a ++ [m]).length (i64c (a ++ [m]))) := by show World.ownsRow _ _ _ _ _ _ _; rw [List.length_append, hal]; exact hown'
            clear hgrow hrow hown' hown d0 d1 d2
            go_wp2_with fail
            go_roundw
            case rel => exact ⟨k + 1, a ++ [m], q2, z2, x2, by go_num, rfl, rfl, by omega, by simp [hal], HO.out, hB2, HST2, HST3⟩
            case measure => simp [intOf]; omega
          · have hkk : n - k = 0 := by omega
            have h1 := HE.out
            rw [hkk, rdA] at h1
            simp only [Prod.mk.injEq] at h1
            obtain ⟨f1, f2, f3⟩ := h1
            obtain rfl : l = a := f1.symm
            obtain rfl : r = p := f2.symm
            obtain rfl : y = 0 := f3.symm
            obtain ⟨g1, g2⟩ := HTN.out.1 rfl
            subst g1 g2
            have z1 : ¬ (k : Int) < (n : Int) := by omega
            clear HE
            go_wp2_with fail
            (with_reducible refine (done_any b s t _ 0 _ (Lib.hid (fun _ => rfl)) _ HRr).mono ?_)
            rintro e w2 ⟨rfl, h1, h2⟩
            have H1 := Lib.hid h1; have H2 := Lib.hid h2
            clear h1 h2
            have HO := Lib.hid <| hown.kept H2.out (by
              cases hv : (Value.ownBlock _) with
              | none => exact .inl rfl
              | some j => exact .inr fun e1 => by have := (hown.lt j hv).1; cases e1; omega)
            clear hown
            go_wp2_with fail
            go_ret
            refine ⟨_, rfl, HO.out, ?_, ?_⟩
            · have := H1.out
              rw [dnS, if_pos rfl, HT0.out] at this
              exact this
            · exact (below_grown hB _).trans H2.out
        · have hy := HX1.out hx
          subst hy
          obtain ⟨g1, g2⟩ := HTN.out.2 hx
          subst g1 g2
          have qx : (y == 0) = false := by simpa using hx
          have qx2 : (y != 0) = true := by simpa using hx
          have HXX := Lib.hid hx
          clear hx HX0 HX1 HTN
          by_cases hkn : k < n
          · have z1 : (k : Int) < (n : Int) := by omega
            go_wp2_with fail
            (with_reducible refine (done_any b s t 0 y _ (Lib.hid (fun g => absurd g HXX.out)) _ HRr).mono ?_)
            rintro e w2 ⟨rfl, h1, h2⟩
            have H1 := Lib.hid h1; have H2 := Lib.hid h2
            clear h1 h2
            go_wp2_with fail
            go_ret
            refine ⟨_, rfl, World.ownsRow_nil _ _ _ _, ?_, ?_⟩
            · have := H1.out
              rw [dnS, if_neg HXX.out] at this
              exact this
            · exact (below_grown hB _).trans H2.out
          · have z1 : ¬ (k : Int) < (n : Int) := by omega
            go_wp2_with fail
            (with_reducible refine (done_any b s t 0 y _ (Lib.hid (fun g => absurd g HXX.out)) _ HRr).mono ?_)
            rintro e w2 ⟨rfl, h1, h2⟩
            have H1 := Lib.hid h1; have H2 := Lib.hid h2
            clear h1 h2
            go_wp2_with fail
            go_ret
            refine ⟨_, rfl, World.ownsRow_nil _ _ _ _, ?_, ?_⟩
            · have := H1.out
              rw [dnS, if_neg HXX.out] at this
              exact this
            · exact (below_grown hB _).trans H2.out
    · rw [rdS_err h0 hN hx] at h'
      simp only [Prod.mk.injEq] at h'
      obtain ⟨e1, e2⟩ := h'
      have HT := Lib.hid e1
      subst e2
      have hn0 : n = 0 := by have := cntR_bad (s := bl s) (p := t.1) (most := most) (by rw [hN]; exact hx); rw [hN] at this; exact this
      subst hn0
      have qx : (x == 0) = false := by simpa using hx
      have qx2 : (x != 0) = true := by simpa using hx
      have HXX := Lib.hid hx
      have HZ : Hid ((if x = 0 then (q : Int) else 0) = 0) := if_neg hx
      clear hN h h0 e1 hx
      go_enter Tryd.func37, Tryd.ntmps37
      go_wp2_with fail
      (with_reducible refine (stopped_any b s t false HST _ HR).mono ?_)
      rintro e w1 ⟨rfl, rfl⟩
      go_wp2_with fail
      (with_reducible refine (counted_z b s t.1 hp hs most hm 0 q x 0 HN HZ _ c0).mono ?_)
      rintro e w1 ⟨rfl, rfl⟩
      go_wp2_with fail
      refine wp_loop_rounds 1 ?_
      rw [rounds_succ]
      go_wp2_with fail
      (with_reducible refine (done_any b s t 0 x _ (Lib.hid (fun g => absurd g HXX.out)) _ HR).mono ?_)
      rintro e w2 ⟨rfl, h1, h2⟩
      have H1 := Lib.hid h1; have H2 := Lib.hid h2
      clear h1 h2
      go_wp2_with fail
      go_ret
      refine ⟨_, rfl, World.ownsRow_nil _ _ _ _, ?_, H2.out⟩
      have := H1.out
      rw [dnS, if_neg HXX.out, HT.out] at this
      exact this
  · have h' := h.out
    rw [rdS_bad h0] at h'
    simp only [Prod.mk.injEq] at h'
    obtain ⟨e1, e2⟩ := h'
    subst e1 e2
    have HST : Hid (decide (t.2 = 0) = !true) := by show _ = _; simp [h0]
    clear h h0
    go_enter Tryd.func37, Tryd.ntmps37
    go_wp2_with fail
    (with_reducible refine (stopped_any b s t true HST _ HR).mono ?_)
    rintro e w1 ⟨rfl, rfl⟩
    go_wp2_with fail
    go_ret
    exact ⟨_, rfl, World.ownsRow_nil _ _ _ _, HR.out, below_grown (Below.refl _ _) _⟩
end Go.Proofs.YtcefmnkfkpoccaaDoor
