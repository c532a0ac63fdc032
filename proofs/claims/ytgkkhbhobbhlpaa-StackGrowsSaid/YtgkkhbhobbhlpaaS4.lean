/- The law's comparison of two lists; the examples of the chapter (awake). -/
import Derived.Test.YtgkkhbhobbhlpaaS3
namespace Go.Proofs.Ytgkkhbhobbhlpaa
open Go.RowKit
set_option linter.unusedVariables false

/-- A slice of ints that reads as xs. -/
def RdI (w : World) (v : Value) (xs : List Int) : Prop := ∃ A c, v = .slice A xs.length c ∧ ∀ i, i < xs.length → ∃ b off, A = some ⟨b, off, none⟩ ∧ b < w.heap.size ∧ w.cell? ⟨b, off + i, none⟩ = some (.int .i64 (xs.getD i 0))
theorem OwnI.rd {w : World} {B : Nat} {v : Value} {xs : List Int} (h : OwnI w B v xs) : RdI w v xs := by
  obtain ⟨h1, h2⟩ := h
  rcases h2 with ⟨hv, h0⟩ | ⟨g, cap, cur, hv, hg, hh, hn, hm, hs, ht⟩
  · refine ⟨none, 0, by rw [hv, h0], fun i hi => by omega⟩
  · refine ⟨_, cap, hv, fun i hi => ⟨g, 0, rfl, ?_, ?_⟩⟩
    · rcases Nat.lt_or_ge g w.heap.size with hlt | hge
      · exact hlt
      · rw [Array.getElem?_eq_none hge] at hh; cases hh
    · rw [Nat.zero_add, cell_of_row w g i cur 3 (0, 0) hh]
      have : (cur.toList.take (xs.length * 1))[i]? = some (.int .i64 (xs.getD i 0)) := by
        rw [ht]
        simp [hi]
      rw [List.getElem?_take_of_lt (by omega)] at this
      simpa using this
theorem RdI.below {w w' : World} {v : Value} {xs : List Int} (h : RdI w v xs) (hb : Below w.heap.size w w') : RdI w' v xs := by
  obtain ⟨A, c, hv, hc⟩ := h
  refine ⟨A, c, hv, fun i hi => ?_⟩
  obtain ⟨b, off, hA, hlt, hcell⟩ := hc i hi
  exact ⟨b, off, hA, Nat.lt_of_lt_of_le hlt hb.size, by rw [hb.cell hlt]; exact hcell⟩

set_option maxHeartbeats 2000000 in
theorem ints_same (xs : List Int) (v1 v2 : Value) (w : World) (hlen : (xs.length : Int) ≤ 100000) (h1 : RdI w v1 xs) (h2 : RdI w v2 xs) :
    Calls Try.prog 41 #[v1, v2] w fun e w' => e = .returned (.bool true) ∧ ∃ n, w' = w.drewN n := by
  obtain ⟨A1, c1, rfl, hc1⟩ := h1
  obtain ⟨A2, c2, rfl, hc2⟩ := h2
  have H1 := Lib.hid hc1; have H2 := Lib.hid hc2
  clear hc1 hc2
  go_enter Try.func41, Try.ntmps41
  go_wp2
  go_loopw [5] (fun i wr => ∃ k : Nat, i = .int .i64 k ∧ k ≤ xs.length ∧ ∃ n, wr = w.drewN n) (fun i _ => xs.length - (intOf i).toNat)
  case atStart => exact ⟨0, rfl, Nat.zero_le _, 0, rfl⟩
  case round =>
    obtain ⟨k, rfl, hk, n, rfl⟩ := hrel
    by_cases hlt : k < xs.length
    · obtain ⟨b1, o1, rfl, g1, d1⟩ := H1.out k hlt
      obtain ⟨b2, o2, rfl, g2, d2⟩ := H2.out k hlt
      have z1 : (k : Int) < (xs.length : Int) := by omega
      go_wp2
      go_quiet (fail)
      go_wp2
      go_roundw
      case rel => exact ⟨k + 1, by go_num, by omega, _, rfl⟩
      case measure => simp [intOf]; omega
    · go_wp2
      go_ret
      exact ⟨rfl, n, rfl⟩

/-! ### The examples -/
theorem rd_lit3 (w : World) (x y z : Int) (t : TypeId) : RdI (w.alloc (.cells #[.int .i64 x, .int .i64 y, .int .i64 z] t)) (.slice (some ⟨w.heap.size, 0, none⟩) 3 3) [x, y, z] := by
  refine ⟨_, _, rfl, fun i hi => ⟨w.heap.size, 0, rfl, by simp, ?_⟩⟩
  have h3 : i = 0 ∨ i = 1 ∨ i = 2 := by simp at hi; omega
  rcases h3 with rfl | rfl | rfl <;> simp

theorem place_eq (a b c i x y z : Int) (hi0 : -9223372036854775808 ≤ i) (hi1 : i ≤ 9223372036854775807) (h : Hid (plcC a b c i = x ∧ plcP a b c i = y ∧ plcE a b c i = z)) (w : World) :
    Calls Try.prog 29 #[.agg #[.int .i64 a, .int .i64 b, .int .i64 c], .int .i64 i] w fun e w' => e = .returned (.tuple #[.int .i64 x, .int .i64 y, .int .i64 z]) ∧ Below w.heap.size w w' := by
  have := place_any a b c i hi0 hi1 w
  rw [h.out.1, h.out.2.1, h.out.2.2] at this
  exact this
theorem size_eq (a b c x y n p q r : Int) (h : Hid (sizW a b c x y n = p ∧ sizH a b c x y n = q ∧ sizE a b c x y n = r)) (w : World) :
    Calls Try.prog 35 #[.agg #[.int .i64 a, .int .i64 b, .int .i64 c], .agg #[.string ⟨#[]⟩, .int .i64 x, .int .i64 y, .int .i64 0, .int .i64 0, .slice none 0 0, .slice none 0 0], .int .i64 n] w
      fun e w' => e = .returned (.tuple #[.int .i64 p, .int .i64 q, .int .i64 r]) ∧ Below w.heap.size w w' := by
  have := size_pkg a b c x y n w
  rw [h.out.1, h.out.2.1, h.out.2.2] at this
  exact this
theorem split_eq (a b c n er : Int) (xs : List Int) (h : Hid (splL a b c n = xs ∧ splE a b c n = er)) (w : World) :
    Calls Try.prog 39 #[.agg #[.int .i64 a, .int .i64 b, .int .i64 c], .int .i64 n] w (RetList w xs er) := by
  have := split_any a b c n w
  rw [h.out.1, h.out.2] at this
  exact this
theorem weight_eq (v d m x : Int) (h : Hid (wtV v d m = x)) (w : World) :
    Calls Try.prog 37 #[.int .i64 v, .int .i64 d, .int .i64 m] w fun e w' => e = .returned (.int .i64 x) ∧ ∃ n, w' = w.drewN n := by
  have := weight_any v d m w
  rw [h.out] at this
  exact this

/-- Two shapes in boxes of the call's own. -/
def Box2 (w w1 : World) (x0 x1 x2 y0 y1 y2 : Value) : Prop :=
  (w1.cell? ⟨w.heap.size, 0, none⟩ = some x0 ∧ w1.cell? ⟨w.heap.size, 1, none⟩ = some x1 ∧ w1.cell? ⟨w.heap.size, 2, none⟩ = some x2 ∧
    w1.cell? ⟨w.heap.size + 1, 0, none⟩ = some y0 ∧ w1.cell? ⟨w.heap.size + 1, 1, none⟩ = some y1 ∧ w1.cell? ⟨w.heap.size + 1, 2, none⟩ = some y2) ∧ w.heap.size + 2 ≤ w1.heap.size ∧ Below w.heap.size w w1
theorem Box2.next {w w1 w2 : World} {x0 x1 x2 y0 y1 y2 : Value} (h : Box2 w w1 x0 x1 x2 y0 y1 y2) (hb : Below w1.heap.size w1 w2) : Box2 w w2 x0 x1 x2 y0 y1 y2 := by
  obtain ⟨⟨a, b, c, d, e, f⟩, hs, hB⟩ := h
  refine ⟨⟨?_, ?_, ?_, ?_, ?_, ?_⟩, Nat.le_trans hs hb.size, below_old hB hb⟩
  · rw [hb.cell (by show w.heap.size < _; omega)]; exact a
  · rw [hb.cell (by show w.heap.size < _; omega)]; exact b
  · rw [hb.cell (by show w.heap.size < _; omega)]; exact c
  · rw [hb.cell (by show w.heap.size + 1 < _; omega)]; exact d
  · rw [hb.cell (by show w.heap.size + 1 < _; omega)]; exact e
  · rw [hb.cell (by show w.heap.size + 1 < _; omega)]; exact f

set_option maxRecDepth 100000 in
set_option maxHeartbeats 4000000 in
theorem awake_any (w : World) : Calls Try.prog 34 #[] w fun e w' => e = .returned (.bool true) ∧ Below w.heap.size w w' := by
  have k1 := Lib.hid (show splL 4 2 20 20 = [8, 8, 4] ∧ splE 4 2 20 20 = 0 by decide +kernel)
  have k2 := Lib.hid (show plcC 4 2 20 5 = 1 ∧ plcP 4 2 20 5 = 1 ∧ plcE 4 2 20 5 = 0 by decide +kernel)
  have k3 := Lib.hid (show sizW 4 3 20 40 100 10 = 400 ∧ sizH 4 3 20 40 100 10 = 160 ∧ sizE 4 3 20 40 100 10 = 0 by decide +kernel)
  have k4 := Lib.hid (show plcC 4 2 20 8 = 0 ∧ plcP 4 2 20 8 = 0 ∧ plcE 4 2 20 8 = 9 by decide +kernel)
  have k5 := Lib.hid (show chkE 4 2 20 = 0 by decide +kernel)
  have k6 := Lib.hid (show chkE 0 0 0 = 9 by decide +kernel)
  have k7 := Lib.hid (show wtV 8000000 500 1200 = 4480 by decide +kernel)
  have hB0 : Box2 w ((w.alloc (.cells #[.int .i64 4, .int .i64 2, .int .i64 20] 57)).alloc (.cells #[.int .i64 4, .int .i64 3, .int .i64 20] 57)) (.int .i64 4) (.int .i64 2) (.int .i64 20) (.int .i64 4) (.int .i64 3) (.int .i64 20) := by
    refine ⟨⟨?_, ?_, ?_, ?_, ?_, ?_⟩, by simp, ((Below.refl _ _).alloc (Nat.le_refl _) _).alloc (by simp) _⟩ <;> simp
  have HB0 := Lib.hid hB0
  clear hB0
  go_enter Try.func34, Try.ntmps34
  go_wp2_with fail
  refine (split_eq 4 2 20 20 0 [8, 8, 4] k1 _).mono ?_
  rintro e w1 ⟨v, rfl, ho, hb⟩
  have HB1 := Lib.hid (HB0.out.next hb)
  have HR1 := Lib.hid ho.rd
  clear ho hb
  obtain ⟨⟨a1, a2, a3, a4, a5, a6⟩, a7, _⟩ := HB1.out
  go_wp2_with fail
  refine (place_eq 4 2 20 5 1 1 0 (by omega) (by omega) k2 _).mono ?_
  rintro e w2 ⟨rfl, hb⟩
  have HB2 := Lib.hid (HB1.out.next hb)
  have HR2 := Lib.hid (HR1.out.below hb)
  clear hb a1 a2 a3 a4 a5 a6 a7 HB1 HR1
  obtain ⟨⟨a1, a2, a3, a4, a5, a6⟩, a7, _⟩ := HB2.out
  go_wp2_with fail
  refine (size_eq 4 3 20 40 100 10 400 160 0 k3 _).mono ?_
  rintro e w3 ⟨rfl, hb⟩
  have HB3 := Lib.hid (HB2.out.next hb)
  have HR3 := Lib.hid (HR2.out.below hb)
  clear hb a1 a2 a3 a4 a5 a6 a7 HB2 HR2
  obtain ⟨⟨a1, a2, a3, a4, a5, a6⟩, a7, _⟩ := HB3.out
  go_wp2_with fail
  refine (place_eq 4 2 20 8 0 0 9 (by omega) (by omega) k4 _).mono ?_
  rintro e w4 ⟨rfl, hb⟩
  have HB4 := Lib.hid (HB3.out.next hb)
  have HR4 := Lib.hid (HR3.out.below hb)
  clear hb a1 a2 a3 a4 a5 a6 a7 HB3 HR3
  obtain ⟨⟨a1, a2, a3, a4, a5, a6⟩, a7, _⟩ := HB4.out
  go_wp2_with fail
  refine (check_eq 4 2 20 0 k5 _).mono ?_
  rintro e w5 ⟨rfl, hb⟩
  have HB5 := Lib.hid (HB4.out.next hb)
  have HR5 := Lib.hid (HR4.out.below hb)
  clear hb a1 a2 a3 a4 a5 a6 a7 HB4 HR4
  go_wp2_with fail
  refine (check_eq 0 0 0 9 k6 _).mono ?_
  rintro e w6 ⟨rfl, hb⟩
  have HB6 := Lib.hid (HB5.out.next hb)
  have HR6 := Lib.hid (HR5.out.below hb)
  clear hb HB5 HR5
  go_wp2_with fail
  refine (ints_same [8, 8, 4] _ _ _ (by decide) (HR6.out.below ((Below.refl _ _).alloc (Nat.le_refl _) _)) (rd_lit3 _ _ _ _ _)).mono ?_
  rintro e w7 ⟨rfl, n, rfl⟩
  go_wp2_with fail
  refine (weight_eq 8000000 500 1200 4480 k7 _).mono ?_
  rintro e w8 ⟨rfl, n', rfl⟩
  go_wp2_with fail
  go_ret
  exact ⟨rfl, below_drewN (below_old HB6.out.2.2 ((Below.refl _ _).alloc (Nat.le_refl _) _)) _⟩
end Go.Proofs.Ytgkkhbhobbhlpaa
