/- The reference of event: Decode. -/
import Derived.Test.YtcefmnkfkpoccaaDoorGO
namespace Go.Proofs.YtcefmnkfkpoccaaDoor
open Go.RowKit
set_option linter.unusedVariables false
open Wi Evn
/-- The world of the reference's Decode. -/
structure RcW (w w' : World) (g : Nat) (s : ByteArray) (t : St) (cs : Array Value) : Prop where
  bel : Below w.heap.size w w'
  hg : w.heap.size + 2 ≤ g
  b0 : Blk w' w.heap.size 24 #[.int .i64 0, .int .i64 0, .string ⟨#[]⟩, .string ⟨#[]⟩, .slice none 0 0, .string ⟨#[]⟩]
  b1 : Blk w' (w.heap.size + 1) 24 cs
  b2 : Blk w' g 63 #[.string s, .int .i64 (t.1 : Int), .int .i64 t.2]
section
variable {w w' w'' : World} {g : Nat} {s : ByteArray} {t : St} {cs : Array Value}
theorem RcW.below (h : RcW w w' g s t cs) (hb : Below w'.heap.size w' w'') : RcW w w'' g s t cs := ⟨below_old h.bel hb, h.hg, h.b0.below hb, h.b1.below hb, h.b2.below hb⟩
theorem set3_gr (w' : World) (b : Nat) (x0 x1 x2 : Value) : w'.grownBy (((w'.setCell ⟨b, 0, none⟩ x0).setCell ⟨b, 1, none⟩ x1).setCell ⟨b, 2, none⟩ x2) (some b) := ((set_grown _ _ _ _).trans (set_grown _ _ _ _)).trans (set_grown _ _ _ _)
theorem RcW.putR (h : RcW w w' g s t cs) (T : St) : RcW w (((w'.setCell ⟨g, 0, none⟩ (.string s)).setCell ⟨g, 1, none⟩ (.int .i64 (T.1 : Int))).setCell ⟨g, 2, none⟩ (.int .i64 T.2)) g s T cs := by
  have hg := h.hg
  refine ⟨set3_bel h.bel (by omega) _ _ _, h.hg, h.b0.grown (set3_gr _ _ _ _ _) (by simp; omega), h.b1.grown (set3_gr _ _ _ _ _) (by simp; omega), ?_⟩
  have := ((h.b2.set_ 0 (.string s)).set_ 1 (.int .i64 (T.1 : Int))).set_ 2 (.int .i64 T.2)
  simpa using this
theorem RcW.putE (h : RcW w w' g s t cs) (j : Nat) (v : Value) : RcW w (w'.setCell ⟨w.heap.size + 1, j, none⟩ v) g s t (cs.setIfInBounds j v) := by
  have hg := h.hg
  exact ⟨h.bel.setCell (p := ⟨w.heap.size + 1, j, none⟩) (by simp) v, h.hg, h.b0.grown (set_grown _ _ _ _) (by simp), h.b1.set_ j v, h.b2.grown (set_grown _ _ _ _) (by simp; omega)⟩
end
/-- A row above everything. -/
theorem row_up {w' w'' : World} {B : Nat} {v : Value} {l : List Int} {b : Nat} (h : w'.ownsRow B 3 1 v l.length (i64c l)) (hg : w'.grownBy w'' (some b)) (hb : b < B) : w''.ownsRow B 3 1 v l.length (i64c l) := by
  refine h.kept hg ?_
  cases hv : v.ownBlock with
  | none => exact .inl rfl
  | some j => exact .inr fun e1 => by have := (h.lt j hv).1; cases e1; omega
set_option maxRecDepth 100000 in
set_option maxHeartbeats 8000000 in
theorem rdecode_w (s : ByteArray) (hs : (s.size : Int) ≤ 1000000) (T1 T2 T3 T4 T5 T6 : St) (N1 N2 : Int) (N3 N4 : List UInt8) (N5 : List Int) (N6 : List UInt8) (HX : Hid (Six s 1 14 0 10000000 8 T1 T2 T3 T4 T5 T6 N1 N2 N3 N4 N5 N6))
    (x y : Int) (z : Bool) (hx : Hid (enE s.size T6 = x)) (hy : Hid (chk ⟨N1, N2, lb N3, lb N4, N5, lb N6⟩ = y)) (hz : Hid (decide (recS ⟨N1, N2, lb N3, lb N4, N5, lb N6⟩ = s) = z)) (Y : Int) (hY : Hid ((if y = 0 then (if z = true then 0 else 5) else y) = Y)) (w : World) :
    Calls Tryd.prog 19 #[.string s] w fun r w' => DcO w w' r x Y ⟨N1, N2, lb N3, lb N4, N5, lb N6⟩ := by
  obtain ⟨p1, p2, p3, p4, p5, p6⟩ := HX.out.pos
  have HEO := Lib.hid (HX.out.ok (by decide))
  have H1 := Lib.hid HX.out.r1; have H2 := Lib.hid HX.out.r2; have H3 := Lib.hid HX.out.r3; have H4 := Lib.hid HX.out.r4; have H5 := Lib.hid HX.out.r5; have H6 := Lib.hid HX.out.r6
  obtain ⟨S3, hS3⟩ : ∃ S, lb N3 = S := ⟨_, rfl⟩
  obtain ⟨S4, hS4⟩ : ∃ S, lb N4 = S := ⟨_, rfl⟩
  obtain ⟨S6, hS6⟩ : ∃ S, lb N6 = S := ⟨_, rfl⟩
  have HT1 : Hid (∀ w, Calls Tryd.prog 41 #[.agg #[.string s, .int .i64 0, .int .i64 0], .int .i64 1, .int .i64 14] w fun e w' => e = .returned (.tuple #[rg s T1, .int .i64 N1]) ∧ Below w.heap.size w w') := fun w => rreadInt_any s (0, 0) (Nat.zero_le _) hs 1 14 T1 N1 H1 w
  have HT3 : Hid (∀ w, Calls Tryd.prog 42 #[rg s T2, .int .i64 8] w fun e w' => e = .returned (.tuple #[rg s T3, .string S3]) ∧ Below w.heap.size w w') := fun w => by rw [← hS3]; exact rreadText_any s T2 p2 hs 8 (by decide) T3 N3 H3 w
  have HT4 : Hid (∀ w, Calls Tryd.prog 42 #[rg s T3, .int .i64 8] w fun e w' => e = .returned (.tuple #[rg s T4, .string S4]) ∧ Below w.heap.size w w') := fun w => by rw [← hS4]; exact rreadText_any s T3 p3 hs 8 (by decide) T4 N4 H4 w
  have HT6 : Hid (∀ w, Calls Tryd.prog 42 #[rg s T5, .int .i64 16384] w fun e w' => e = .returned (.tuple #[rg s T6, .string S6]) ∧ Below w.heap.size w w') := fun w => by rw [← hS6]; exact rreadText_any s T5 p5 hs 16384 (by decide) T6 N6 H6 w
  have HT5 : Hid (∀ w, Calls Tryd.prog 43 #[rg s T4, .int .i64 600, .int .i64 (-1099511627776), .int .i64 1099511627776] w fun e w' => ∃ v, e = .returned (.tuple #[rg s T5, v]) ∧ w'.ownsRow w.heap.size 3 1 v N5.length (i64c N5) ∧ Below w.heap.size w w') := fun w => rreadInts_any s T4 p4 hs 600 (by decide) _ _ T5 N5 H5 w
  rw [hS3, hS4, hS6] at HEO hy hz ⊢
  clear hS3 hS4 hS6 HX
  go_enter Tryd.func19, Tryd.ntmps19
  go_wp2_with fail
  have HB0 := Lib.hid (two_bel w (.cells #[.int .i64 0, .int .i64 0, .string ⟨#[]⟩, .string ⟨#[]⟩, .slice none 0 0, .string ⟨#[]⟩] 24) (.cells #[.int .i64 0, .int .i64 0, .string ⟨#[]⟩, .string ⟨#[]⟩, .slice none 0 0, .string ⟨#[]⟩] 24))
  have HZ0 : Hid (Blk ((w.alloc (.cells #[.int .i64 0, .int .i64 0, .string ⟨#[]⟩, .string ⟨#[]⟩, .slice none 0 0, .string ⟨#[]⟩] 24)).alloc (.cells #[.int .i64 0, .int .i64 0, .string ⟨#[]⟩, .string ⟨#[]⟩, .slice none 0 0, .string ⟨#[]⟩] 24)) w.heap.size 24 #[.int .i64 0, .int .i64 0, .string ⟨#[]⟩, .string ⟨#[]⟩, .slice none 0 0, .string ⟨#[]⟩]) := (Blk.new w _ _).below ((Below.refl _ _).alloc (Nat.le_refl _) _)
  have HZ1 : Hid (Blk ((w.alloc (.cells #[.int .i64 0, .int .i64 0, .string ⟨#[]⟩, .string ⟨#[]⟩, .slice none 0 0, .string ⟨#[]⟩] 24)).alloc (.cells #[.int .i64 0, .int .i64 0, .string ⟨#[]⟩, .string ⟨#[]⟩, .slice none 0 0, .string ⟨#[]⟩] 24)) (w.heap.size + 1) 24 #[.int .i64 0, .int .i64 0, .string ⟨#[]⟩, .string ⟨#[]⟩, .slice none 0 0, .string ⟨#[]⟩]) := two_box w _ _
  (with_reducible refine (rnewr_any s _).mono ?_)
  rintro r w1 ⟨rfl, hb⟩
  have hal := (Below.refl w1.heap.size w1).alloc (Nat.le_refl _) (.cells #[.string s, .int .i64 0, .int .i64 0] 63)
  have HD0 : Hid (RcW w (w1.alloc (.cells #[.string s, .int .i64 0, .int .i64 0] 63)) w1.heap.size s (0, 0) #[.int .i64 0, .int .i64 0, .string ⟨#[]⟩, .string ⟨#[]⟩, .slice none 0 0, .string ⟨#[]⟩]) := by
    have h1 := (HZ1.out.below hb)
    exact ⟨below_old (below_old HB0.out hb) hal, by have := h1.lt; omega, (HZ0.out.below hb).below hal, h1.below hal, Blk.new _ _ _⟩
  clear hb hal HB0 HZ0 HZ1
  go_wp2_with fail
  generalize w1.alloc (.cells #[.string s, .int .i64 0, .int .i64 0] 63) = w2 at *
  generalize w1.heap.size = g at *
  have hgl := HD0.out.hg
  have hne : ¬ g = w.heap.size + 1 := by omega
  have hne2 : ¬ w.heap.size + 1 = g := by omega
  have hne3 : ¬ g = w.heap.size := by omega
  have hne4 : ¬ w.heap.size = g := by omega
  have g0 : w2.cell? ⟨g, 0, none⟩ = some (.string s) := HD0.out.b2.cell 0
  have g1 : w2.cell? ⟨g, 1, none⟩ = _ := HD0.out.b2.cell 1
  have g2 : w2.cell? ⟨g, 2, none⟩ = _ := HD0.out.b2.cell 2
  (with_reducible refine (HT1.out _).mono ?_)
  rintro r v1 ⟨rfl, hb⟩
  have HD1 := Lib.hid (HD0.out.below hb)
  clear hb g0 g1 g2
  have g0 : v1.cell? ⟨g, 0, none⟩ = some (.string s) := HD1.out.b2.cell 0
  have g1 : v1.cell? ⟨g, 1, none⟩ = _ := HD1.out.b2.cell 1
  have g2 : v1.cell? ⟨g, 2, none⟩ = _ := HD1.out.b2.cell 2
  have fz := HD1.out.b2.frozen
  have fz2 := HD1.out.b1.frozen
  have d0 : v1.cell? ⟨w.heap.size + 1, 0, none⟩ = _ := HD1.out.b1.cell 0
  go_wp2_with fail
  have HD1p := Lib.hid ((HD1.out.putR T1).putE 0 (.int .i64 N1))
  clear fz fz2 d0 HD1 g0 g1 g2
  generalize ((((v1.setCell ⟨g, 0, none⟩ (.string s)).setCell ⟨g, 1, none⟩ (.int .i64 (T1.1 : Int))).setCell ⟨g, 2, none⟩ (.int .i64 T1.2)).setCell ⟨w.heap.size + 1, 0, none⟩ (.int .i64 N1)) = v1p at *
  have g0 : v1p.cell? ⟨g, 0, none⟩ = some (.string s) := HD1p.out.b2.cell 0
  have g1 : v1p.cell? ⟨g, 1, none⟩ = _ := HD1p.out.b2.cell 1
  have g2 : v1p.cell? ⟨g, 2, none⟩ = _ := HD1p.out.b2.cell 2
  (with_reducible refine (rreadInt_any s T1 p1 hs 0 10000000 T2 N2 H2 _).mono ?_)
  rintro r v2 ⟨rfl, hb⟩
  have HD2 := Lib.hid (HD1p.out.below hb)
  clear hb g0 g1 g2
  have g0 : v2.cell? ⟨g, 0, none⟩ = some (.string s) := HD2.out.b2.cell 0
  have g1 : v2.cell? ⟨g, 1, none⟩ = _ := HD2.out.b2.cell 1
  have g2 : v2.cell? ⟨g, 2, none⟩ = _ := HD2.out.b2.cell 2
  have fz := HD2.out.b2.frozen
  have fz2 := HD2.out.b1.frozen
  have d1 : v2.cell? ⟨w.heap.size + 1, 1, none⟩ = _ := HD2.out.b1.cell 1
  go_wp2_with fail
  have HD2p := Lib.hid ((HD2.out.putR T2).putE 1 (.int .i64 N2))
  clear fz fz2 d1 HD2 g0 g1 g2
  generalize ((((v2.setCell ⟨g, 0, none⟩ (.string s)).setCell ⟨g, 1, none⟩ (.int .i64 (T2.1 : Int))).setCell ⟨g, 2, none⟩ (.int .i64 T2.2)).setCell ⟨w.heap.size + 1, 1, none⟩ (.int .i64 N2)) = v2p at *
  have g0 : v2p.cell? ⟨g, 0, none⟩ = some (.string s) := HD2p.out.b2.cell 0
  have g1 : v2p.cell? ⟨g, 1, none⟩ = _ := HD2p.out.b2.cell 1
  have g2 : v2p.cell? ⟨g, 2, none⟩ = _ := HD2p.out.b2.cell 2
  (with_reducible refine (HT3.out _).mono ?_)
  rintro r v3 ⟨rfl, hb⟩
  have HD3 := Lib.hid (HD2p.out.below hb)
  clear hb g0 g1 g2
  have g0 : v3.cell? ⟨g, 0, none⟩ = some (.string s) := HD3.out.b2.cell 0
  have g1 : v3.cell? ⟨g, 1, none⟩ = _ := HD3.out.b2.cell 1
  have g2 : v3.cell? ⟨g, 2, none⟩ = _ := HD3.out.b2.cell 2
  have fz := HD3.out.b2.frozen
  have fz2 := HD3.out.b1.frozen
  have d2 : v3.cell? ⟨w.heap.size + 1, 2, none⟩ = _ := HD3.out.b1.cell 2
  go_wp2_with fail
  have HD3p := Lib.hid ((HD3.out.putR T3).putE 2 (.string S3))
  clear fz fz2 d2 HD3 g0 g1 g2
  generalize ((((v3.setCell ⟨g, 0, none⟩ (.string s)).setCell ⟨g, 1, none⟩ (.int .i64 (T3.1 : Int))).setCell ⟨g, 2, none⟩ (.int .i64 T3.2)).setCell ⟨w.heap.size + 1, 2, none⟩ (.string S3)) = v3p at *
  have g0 : v3p.cell? ⟨g, 0, none⟩ = some (.string s) := HD3p.out.b2.cell 0
  have g1 : v3p.cell? ⟨g, 1, none⟩ = _ := HD3p.out.b2.cell 1
  have g2 : v3p.cell? ⟨g, 2, none⟩ = _ := HD3p.out.b2.cell 2
  (with_reducible refine (HT4.out _).mono ?_)
  rintro r v4 ⟨rfl, hb⟩
  have HD4 := Lib.hid (HD3p.out.below hb)
  clear hb g0 g1 g2
  have g0 : v4.cell? ⟨g, 0, none⟩ = some (.string s) := HD4.out.b2.cell 0
  have g1 : v4.cell? ⟨g, 1, none⟩ = _ := HD4.out.b2.cell 1
  have g2 : v4.cell? ⟨g, 2, none⟩ = _ := HD4.out.b2.cell 2
  have fz := HD4.out.b2.frozen
  have fz2 := HD4.out.b1.frozen
  have d3 : v4.cell? ⟨w.heap.size + 1, 3, none⟩ = _ := HD4.out.b1.cell 3
  go_wp2_with fail
  have HD4p := Lib.hid ((HD4.out.putR T4).putE 3 (.string S4))
  clear fz fz2 d3 HD4 g0 g1 g2
  generalize ((((v4.setCell ⟨g, 0, none⟩ (.string s)).setCell ⟨g, 1, none⟩ (.int .i64 (T4.1 : Int))).setCell ⟨g, 2, none⟩ (.int .i64 T4.2)).setCell ⟨w.heap.size + 1, 3, none⟩ (.string S4)) = v4p at *
  have g0 : v4p.cell? ⟨g, 0, none⟩ = some (.string s) := HD4p.out.b2.cell 0
  have g1 : v4p.cell? ⟨g, 1, none⟩ = _ := HD4p.out.b2.cell 1
  have g2 : v4p.cell? ⟨g, 2, none⟩ = _ := HD4p.out.b2.cell 2
  (with_reducible refine (HT5.out _).mono ?_)
  rintro r v5 ⟨vr, rfl, hrow, hb⟩
  have HD5 := Lib.hid (HD4p.out.below hb)
  have hg4 : g < v4p.heap.size := HD4p.out.b2.lt
  obtain ⟨A5, c5, hv5⟩ := row_form hrow
  subst hv5
  have HRW5 := Lib.hid hrow
  clear hrow hb g0 g1 g2
  have g0 : v5.cell? ⟨g, 0, none⟩ = some (.string s) := HD5.out.b2.cell 0
  have g1 : v5.cell? ⟨g, 1, none⟩ = _ := HD5.out.b2.cell 1
  have g2 : v5.cell? ⟨g, 2, none⟩ = _ := HD5.out.b2.cell 2
  have fz := HD5.out.b2.frozen
  have fz2 := HD5.out.b1.frozen
  have d4 : v5.cell? ⟨w.heap.size + 1, 4, none⟩ = _ := HD5.out.b1.cell 4
  go_wp2_with fail
  have HD5p := Lib.hid ((HD5.out.putR T5).putE 4 (.slice A5 N5.length c5))
  have HRW5p := Lib.hid (row_up (row_up HRW5.out (set3_gr v5 g (.string s) (.int .i64 (T5.1 : Int)) (.int .i64 T5.2)) hg4) (set_grown _ (w.heap.size + 1) 4 (.slice A5 N5.length c5)) (by omega))
  clear fz fz2 d4 HD5 HRW5 g0 g1 g2
  generalize ((((v5.setCell ⟨g, 0, none⟩ (.string s)).setCell ⟨g, 1, none⟩ (.int .i64 (T5.1 : Int))).setCell ⟨g, 2, none⟩ (.int .i64 T5.2)).setCell ⟨w.heap.size + 1, 4, none⟩ (.slice A5 N5.length c5)) = v5p at *
  have g0 : v5p.cell? ⟨g, 0, none⟩ = some (.string s) := HD5p.out.b2.cell 0
  have g1 : v5p.cell? ⟨g, 1, none⟩ = _ := HD5p.out.b2.cell 1
  have g2 : v5p.cell? ⟨g, 2, none⟩ = _ := HD5p.out.b2.cell 2
  (with_reducible refine (HT6.out _).mono ?_)
  rintro r v6 ⟨rfl, hb⟩
  have HD6 := Lib.hid (HD5p.out.below hb)
  have HRW6 : Hid (v6.ownsRow v4p.heap.size 3 1 (.slice A5 N5.length c5) N5.length (i64c N5)) := HRW5p.out.kept (below_grown hb none) (by cases Value.ownBlock (.slice A5 N5.length c5) <;> simp)
  clear hb g0 g1 g2
  have g0 : v6.cell? ⟨g, 0, none⟩ = some (.string s) := HD6.out.b2.cell 0
  have g1 : v6.cell? ⟨g, 1, none⟩ = _ := HD6.out.b2.cell 1
  have g2 : v6.cell? ⟨g, 2, none⟩ = _ := HD6.out.b2.cell 2
  have fz := HD6.out.b2.frozen
  have fz2 := HD6.out.b1.frozen
  have d5 : v6.cell? ⟨w.heap.size + 1, 5, none⟩ = _ := HD6.out.b1.cell 5
  go_wp2_with fail
  have HD6p := Lib.hid ((HD6.out.putR T6).putE 5 (.string S6))
  have HRW6p := Lib.hid (row_up (row_up HRW6.out (set3_gr v6 g (.string s) (.int .i64 (T6.1 : Int)) (.int .i64 T6.2)) hg4) (set_grown _ (w.heap.size + 1) 5 (.string S6)) (by omega))
  clear fz fz2 d5 HD6 HRW6 g0 g1 g2
  generalize ((((v6.setCell ⟨g, 0, none⟩ (.string s)).setCell ⟨g, 1, none⟩ (.int .i64 (T6.1 : Int))).setCell ⟨g, 2, none⟩ (.int .i64 T6.2)).setCell ⟨w.heap.size + 1, 5, none⟩ (.string S6)) = v6p at *
  (with_reducible refine (rend_any s T6 p6 hs x hx _).mono ?_)
  rintro r v7 ⟨rfl, hb⟩
  have HD7 := Lib.hid (HD6p.out.below hb)
  have HRW7 : Hid (v7.ownsRow v4p.heap.size 3 1 (.slice A5 N5.length c5) N5.length (i64c N5)) := HRW6p.out.kept (below_grown hb none) (by cases Value.ownBlock (.slice A5 N5.length c5) <;> simp)
  clear hb HD6p HRW6p HD0 HD1p HD2p HD3p HD4p HD5p HRW5p
  have b20 : v7.cell? ⟨w.heap.size + 1, 0, none⟩ = some (.int .i64 N1) := HD7.out.b1.cell 0
  have b21 : v7.cell? ⟨w.heap.size + 1, 1, none⟩ = some (.int .i64 N2) := HD7.out.b1.cell 1
  have b22 : v7.cell? ⟨w.heap.size + 1, 2, none⟩ = some (.string S3) := HD7.out.b1.cell 2
  have b23 : v7.cell? ⟨w.heap.size + 1, 3, none⟩ = some (.string S4) := HD7.out.b1.cell 3
  have b24 : v7.cell? ⟨w.heap.size + 1, 4, none⟩ = some (.slice A5 N5.length c5) := HD7.out.b1.cell 4
  have b25 : v7.cell? ⟨w.heap.size + 1, 5, none⟩ = some (.string S6) := HD7.out.b1.cell 5
  by_cases hx0 : x = 0
  · subst hx0
    have HSL : Hid (SlR v7 A5 (i64c N5)) := row_slr HRW7.out A5 c5 rfl
    go_wp2_with fail
    (with_reducible refine (rcheck_any ⟨N1, N2, S3, S4, N5, S6⟩ A5 c5 HEO y hy _ HSL).mono ?_)
    rintro r v8 ⟨rfl, hb⟩
    have HD8 := Lib.hid (HD7.out.below hb)
    have HRW8 : Hid (v8.ownsRow v4p.heap.size 3 1 (.slice A5 N5.length c5) N5.length (i64c N5)) := HRW7.out.kept (below_grown hb none) (by cases Value.ownBlock (.slice A5 N5.length c5) <;> simp)
    clear hb HD7 HRW7 b20 b21 b22 b23 b24 b25 HSL
    by_cases hy0 : y = 0
    · subst hy0
      have b20 : v8.cell? ⟨w.heap.size + 1, 0, none⟩ = some (.int .i64 N1) := HD8.out.b1.cell 0
      have b21 : v8.cell? ⟨w.heap.size + 1, 1, none⟩ = some (.int .i64 N2) := HD8.out.b1.cell 1
      have b22 : v8.cell? ⟨w.heap.size + 1, 2, none⟩ = some (.string S3) := HD8.out.b1.cell 2
      have b23 : v8.cell? ⟨w.heap.size + 1, 3, none⟩ = some (.string S4) := HD8.out.b1.cell 3
      have b24 : v8.cell? ⟨w.heap.size + 1, 4, none⟩ = some (.slice A5 N5.length c5) := HD8.out.b1.cell 4
      have b25 : v8.cell? ⟨w.heap.size + 1, 5, none⟩ = some (.string S6) := HD8.out.b1.cell 5
      have HSL : Hid (SlR v8 A5 (i64c N5)) := row_slr HRW8.out A5 c5 rfl
      go_wp2_with fail
      (with_reducible refine (rrecord_any ⟨N1, N2, S3, S4, N5, S6⟩ A5 c5 HEO _ HSL).mono ?_)
      rintro r v9 ⟨rfl, hb⟩
      have HD9 := Lib.hid (HD8.out.below hb)
      have HRW9 : Hid (v9.ownsRow v4p.heap.size 3 1 (.slice A5 N5.length c5) N5.length (i64c N5)) := HRW8.out.kept (below_grown hb none) (by cases Value.ownBlock (.slice A5 N5.length c5) <;> simp)
      clear hb HD8 HRW8 b20 b21 b22 b23 b24 b25 HSL
      obtain ⟨Q, hQ⟩ : ∃ Q, recS ⟨N1, N2, S3, S4, N5, S6⟩ = Q := ⟨_, rfl⟩
      rw [hQ] at hz ⊢
      have hz' := hz.out
      have r0 : v9.cell? ⟨w.heap.size, 0, none⟩ = some (.int .i64 0) := HD9.out.b0.cell 0
      have r1 : v9.cell? ⟨w.heap.size, 1, none⟩ = some (.int .i64 0) := HD9.out.b0.cell 1
      have r2 : v9.cell? ⟨w.heap.size, 2, none⟩ = some (.string ⟨#[]⟩) := HD9.out.b0.cell 2
      have r3 : v9.cell? ⟨w.heap.size, 3, none⟩ = some (.string ⟨#[]⟩) := HD9.out.b0.cell 3
      have r4 : v9.cell? ⟨w.heap.size, 4, none⟩ = some (.slice none 0 0) := HD9.out.b0.cell 4
      have r5 : v9.cell? ⟨w.heap.size, 5, none⟩ = some (.string ⟨#[]⟩) := HD9.out.b0.cell 5
      have fz := HD9.out.b0.frozen
      by_cases hqs : Q = s
      · have qs := seq_t hqs
        have ez : z = true := by rw [← hz']; exact decide_eq_true hqs
        subst ez
        have b20 : v9.cell? ⟨w.heap.size + 1, 0, none⟩ = some (.int .i64 N1) := HD9.out.b1.cell 0
        have b21 : v9.cell? ⟨w.heap.size + 1, 1, none⟩ = some (.int .i64 N2) := HD9.out.b1.cell 1
        have b22 : v9.cell? ⟨w.heap.size + 1, 2, none⟩ = some (.string S3) := HD9.out.b1.cell 2
        have b23 : v9.cell? ⟨w.heap.size + 1, 3, none⟩ = some (.string S4) := HD9.out.b1.cell 3
        have b24 : v9.cell? ⟨w.heap.size + 1, 4, none⟩ = some (.slice A5 N5.length c5) := HD9.out.b1.cell 4
        have b25 : v9.cell? ⟨w.heap.size + 1, 5, none⟩ = some (.string S6) := HD9.out.b1.cell 5
        clear hz' hz hqs hQ
        have eY : Y = 0 := by rw [← hY.out]; simp
        subst eY
        clear hY
        go_wp2_with fail
        (try simp only [Exit.inBlock, Exit.then])
        refine bodyPost_ret (v := .tuple #[agE ⟨N1, N2, S3, S4, N5, S6⟩ A5 c5, .int .i64 0]) ?_ rfl ⟨fun _ => ⟨⟨A5, c5, rfl, row_slr (row_up HRW9.out (set6_gr v9 w.heap.size (.int .i64 N1) (.int .i64 N2) (.string S3) (.string S4) (.slice A5 N5.length c5) (.string S6)) (by omega)) A5 c5 rfl⟩, set6_bel HD9.out.bel (Nat.le_refl _) _ _ _ _ _ _⟩, fun h => absurd ⟨rfl, rfl⟩ h⟩
        rw [results_cell_tmp rfl]
        go_simp
      · have qs := seq_f hqs
        have ez : z = false := by rw [← hz']; exact decide_eq_false hqs
        subst ez
        clear hz' hz hqs hQ
        have eY : Y = 5 := by rw [← hY.out]; simp
        subst eY
        clear hY
        go_wp2_with fail
        (try simp only [Exit.inBlock, Exit.then])
        refine bodyPost_ret (v := .tuple #[agE zE none 0, .int .i64 5]) ?_ rfl ⟨fun h => absurd h (fun g => absurd g.2 (by decide)), fun _ => ⟨⟨none, 0, rfl, fun g => by simp [zE, i64c] at g⟩, set6_bel HD9.out.bel (Nat.le_refl _) _ _ _ _ _ _⟩⟩
        rw [results_cell_tmp rfl]
        go_simp
        exact ⟨rfl, rfl, rfl, rfl, rfl, rfl⟩
    · have q : (y == 0) = false := by simpa using hy0
      have q2 : (y != 0) = true := by simpa using hy0
      have HY0 := Lib.hid hy0
      have r0 : v8.cell? ⟨w.heap.size, 0, none⟩ = some (.int .i64 0) := HD8.out.b0.cell 0
      have r1 : v8.cell? ⟨w.heap.size, 1, none⟩ = some (.int .i64 0) := HD8.out.b0.cell 1
      have r2 : v8.cell? ⟨w.heap.size, 2, none⟩ = some (.string ⟨#[]⟩) := HD8.out.b0.cell 2
      have r3 : v8.cell? ⟨w.heap.size, 3, none⟩ = some (.string ⟨#[]⟩) := HD8.out.b0.cell 3
      have r4 : v8.cell? ⟨w.heap.size, 4, none⟩ = some (.slice none 0 0) := HD8.out.b0.cell 4
      have r5 : v8.cell? ⟨w.heap.size, 5, none⟩ = some (.string ⟨#[]⟩) := HD8.out.b0.cell 5
      have fz := HD8.out.b0.frozen
      have eY : Y = y := by rw [← hY.out, if_neg hy0]
      subst eY
      clear hy0 hY
      go_wp2_with fail
      (try simp only [Exit.inBlock, Exit.then])
      refine bodyPost_ret (v := .tuple #[agE zE none 0, .int .i64 5]) ?_ rfl ⟨fun h => absurd h (fun g => HY0.out g.2), fun _ => ⟨⟨none, 0, rfl, fun g => by simp [zE, i64c] at g⟩, set6_bel HD8.out.bel (Nat.le_refl _) _ _ _ _ _ _⟩⟩
      rw [results_cell_tmp rfl]
      go_simp
      exact ⟨rfl, rfl, rfl, rfl, rfl, rfl⟩
  · have q : (x == 0) = false := by simpa using hx0
    have q2 : (x != 0) = true := by simpa using hx0
    have HX0 := Lib.hid hx0
    clear hx0
    have r0 : v7.cell? ⟨w.heap.size, 0, none⟩ = some (.int .i64 0) := HD7.out.b0.cell 0
    have r1 : v7.cell? ⟨w.heap.size, 1, none⟩ = some (.int .i64 0) := HD7.out.b0.cell 1
    have r2 : v7.cell? ⟨w.heap.size, 2, none⟩ = some (.string ⟨#[]⟩) := HD7.out.b0.cell 2
    have r3 : v7.cell? ⟨w.heap.size, 3, none⟩ = some (.string ⟨#[]⟩) := HD7.out.b0.cell 3
    have r4 : v7.cell? ⟨w.heap.size, 4, none⟩ = some (.slice none 0 0) := HD7.out.b0.cell 4
    have r5 : v7.cell? ⟨w.heap.size, 5, none⟩ = some (.string ⟨#[]⟩) := HD7.out.b0.cell 5
    have fz := HD7.out.b0.frozen
    clear hY
    go_wp2_with fail
    (try simp only [Exit.inBlock, Exit.then])
    refine bodyPost_ret (v := .tuple #[agE zE none 0, .int .i64 5]) ?_ rfl ⟨fun h => absurd h (fun g => HX0.out g.1), fun _ => ⟨⟨none, 0, rfl, fun g => by simp [zE, i64c] at g⟩, set6_bel HD7.out.bel (Nat.le_refl _) _ _ _ _ _ _⟩⟩
    rw [results_cell_tmp rfl]
    go_simp
    exact ⟨rfl, rfl, rfl, rfl, rfl, rfl⟩
end Go.Proofs.YtcefmnkfkpoccaaDoor
