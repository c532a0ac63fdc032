/- event: Decode, the walk. -/
import Derived.Test.YtcefmnkfkpoccaaDoorMD
namespace Go.Proofs.YtcefmnkfkpoccaaDoor
open Go.RowKit
set_option linter.unusedVariables false
open Wi Evn
/-- What Decode leaves. -/
structure DcR (w w' : World) (r : Ending) (e : Ev) (x : Int) : Prop where
  is : ∃ A c, r = .returned (.tuple #[agE e A c, .int .i64 x]) ∧ SlR w' A (i64c e.nn)
  bel : Below w.heap.size w w'
/-- The event that was read, or nothing. -/
def DcO (w w' : World) (r : Ending) (x y : Int) (e : Ev) : Prop := (x = 0 ∧ y = 0 → DcR w w' r e 0) ∧ (¬ (x = 0 ∧ y = 0) → DcR w w' r zE 5)
theorem set6_bel {w w' : World} {b : Nat} (h : Below w.heap.size w w') (hb : w.heap.size ≤ b) (x0 x1 x2 x3 x4 x5 : Value) : Below w.heap.size w ((((((w'.setCell ⟨b, 0, none⟩ x0).setCell ⟨b, 1, none⟩ x1).setCell ⟨b, 2, none⟩ x2).setCell ⟨b, 3, none⟩ x3).setCell ⟨b, 4, none⟩ x4).setCell ⟨b, 5, none⟩ x5) :=
  (((((h.setCell (p := ⟨b, 0, none⟩) hb x0).setCell (p := ⟨b, 1, none⟩) hb x1).setCell (p := ⟨b, 2, none⟩) hb x2).setCell (p := ⟨b, 3, none⟩) hb x3).setCell (p := ⟨b, 4, none⟩) hb x4).setCell (p := ⟨b, 5, none⟩) hb x5
theorem set6_gr (w' : World) (b : Nat) (x0 x1 x2 x3 x4 x5 : Value) : w'.grownBy ((((((w'.setCell ⟨b, 0, none⟩ x0).setCell ⟨b, 1, none⟩ x1).setCell ⟨b, 2, none⟩ x2).setCell ⟨b, 3, none⟩ x3).setCell ⟨b, 4, none⟩ x4).setCell ⟨b, 5, none⟩ x5) (some b) :=
  (((((set_grown _ _ _ _).trans (set_grown _ _ _ _)).trans (set_grown _ _ _ _)).trans (set_grown _ _ _ _)).trans (set_grown _ _ _ _)).trans (set_grown _ _ _ _)
set_option maxRecDepth 100000 in
set_option maxHeartbeats 8000000 in
theorem decode_w (s : ByteArray) (hs : (s.size : Int) ≤ 1000000) (T1 T2 T3 T4 T5 T6 : St) (N1 N2 : Int) (N3 N4 : List UInt8) (N5 : List Int) (N6 : List UInt8) (HX : Hid (Six s (-9223372036854775808) 9223372036854775807 (-9223372036854775808) 9223372036854775807 16 T1 T2 T3 T4 T5 T6 N1 N2 N3 N4 N5 N6))
    (x y : Int) (hx : Hid (enE s.size T6 = x)) (hy : Hid (chk ⟨N1, N2, lb N3, lb N4, N5, lb N6⟩ = y)) (w : World) :
    Calls Tryd.prog 17 #[.string s] w fun r w' => DcO w w' r x y ⟨N1, N2, lb N3, lb N4, N5, lb N6⟩ := by
  obtain ⟨p1, p2, p3, p4, p5, p6⟩ := HX.out.pos
  have HEO := Lib.hid (HX.out.ok (Nat.le_refl 16))
  have H1 := Lib.hid HX.out.r1; have H2 := Lib.hid HX.out.r2; have H3 := Lib.hid HX.out.r3; have H4 := Lib.hid HX.out.r4; have H5 := Lib.hid HX.out.r5; have H6 := Lib.hid HX.out.r6
  obtain ⟨S3, hS3⟩ : ∃ S, lb N3 = S := ⟨_, rfl⟩
  obtain ⟨S4, hS4⟩ : ∃ S, lb N4 = S := ⟨_, rfl⟩
  obtain ⟨S6, hS6⟩ : ∃ S, lb N6 = S := ⟨_, rfl⟩
  have HT3 : Hid (∀ b w, Hid (RdB w b s T2) → Calls Tryd.prog 36 #[.pointer (some ⟨b, 0, none⟩), .int .i64 16] w fun e w' => e = .returned (.string S3) ∧ RdB w' b s T3 ∧ w.grownBy w' (some b)) := fun b w hr => by rw [← hS3]; exact rdText_any b s T2 p2 hs 16 (by decide) T3 N3 H3 w hr
  have HT4 : Hid (∀ b w, Hid (RdB w b s T3) → Calls Tryd.prog 36 #[.pointer (some ⟨b, 0, none⟩), .int .i64 16] w fun e w' => e = .returned (.string S4) ∧ RdB w' b s T4 ∧ w.grownBy w' (some b)) := fun b w hr => by rw [← hS4]; exact rdText_any b s T3 p3 hs 16 (by decide) T4 N4 H4 w hr
  have HT6 : Hid (∀ b w, Hid (RdB w b s T5) → Calls Tryd.prog 36 #[.pointer (some ⟨b, 0, none⟩), .int .i64 16384] w fun e w' => e = .returned (.string S6) ∧ RdB w' b s T6 ∧ w.grownBy w' (some b)) := fun b w hr => by rw [← hS6]; exact rdText_any b s T5 p5 hs 16384 (by decide) T6 N6 H6 w hr
  have HT5 : Hid (∀ b w, Hid (RdB w b s T4) → Calls Tryd.prog 37 #[.pointer (some ⟨b, 0, none⟩), .int .i64 600, .int .i64 (-1099511627776), .int .i64 1099511627776] w fun e w' => ∃ v, e = .returned v ∧ InsR w w' b s T5 v N5) := fun b w hr => rdInts_any b s T4 p4 hs 600 (by decide) _ _ T5 N5 H5 w hr
  rw [hS3, hS4, hS6] at HEO hy ⊢
  clear hS3 hS4 hS6 HX
  go_enter Tryd.func17, Tryd.ntmps17
  go_wp2_with fail
  (with_reducible refine (newr_any s _).mono ?_)
  rintro r w1 ⟨rfl, hw⟩
  have hw1 : (w.alloc (.cells #[.int .i64 0, .int .i64 0, .string ⟨#[]⟩, .string ⟨#[]⟩, .slice none 0 0, .string ⟨#[]⟩] 24)).heap.size = w.heap.size + 1 := by simp
  have hw2 : w1.heap.size = w.heap.size + 2 := by rw [hw]; simp
  have HD0 : Hid (DcW w (w1.alloc (.cells #[.int .i64 0, .int .i64 0, .string ⟨#[]⟩, .string ⟨#[]⟩, .slice none 0 0, .string ⟨#[]⟩] 24)) s (0, 0) #[.int .i64 0, .int .i64 0, .string ⟨#[]⟩, .string ⟨#[]⟩, .slice none 0 0, .string ⟨#[]⟩]) := by
    have b1 := RdB.new (w.alloc (.cells #[.int .i64 0, .int .i64 0, .string ⟨#[]⟩, .string ⟨#[]⟩, .slice none 0 0, .string ⟨#[]⟩] 24)) s
    rw [hw1, ← hw] at b1
    have b0 : Blk w1 w.heap.size 24 #[.int .i64 0, .int .i64 0, .string ⟨#[]⟩, .string ⟨#[]⟩, .slice none 0 0, .string ⟨#[]⟩] := by
      rw [hw]; exact (Blk.new w _ _).below ((Below.refl _ _).alloc (Nat.le_refl _) _)
    have hb : Below w.heap.size w w1 := by rw [hw]; exact two_bel w _ _
    have hal := (Below.refl w1.heap.size w1).alloc (Nat.le_refl _) (.cells #[.int .i64 0, .int .i64 0, .string ⟨#[]⟩, .string ⟨#[]⟩, .slice none 0 0, .string ⟨#[]⟩] 24)
    have b2 := Blk.new w1 24 #[.int .i64 0, .int .i64 0, .string ⟨#[]⟩, .string ⟨#[]⟩, .slice none 0 0, .string ⟨#[]⟩]
    rw [hw2] at b2
    exact ⟨below_old hb hal, b0.below hal, Blk.below b1 hal, b2⟩
  clear hw
  go_wp2_with fail
  rw [hw2] at *
  generalize w1.alloc (.cells #[.int .i64 0, .int .i64 0, .string ⟨#[]⟩, .string ⟨#[]⟩, .slice none 0 0, .string ⟨#[]⟩] 24) = w2 at *
  clear hw1 hw2
  (with_reducible refine (rdInt_any _ s (0, 0) (Nat.zero_le _) hs _ _ T1 N1 H1 _ (Lib.hid HD0.out.b1)).mono ?_)
  rintro r v1 ⟨rfl, h1, h2⟩
  have HD1 := Lib.hid (HD0.out.read h1 h2)
  clear h1 h2
  have fz := HD1.out.b2.frozen
  have d0 : v1.cell? ⟨w.heap.size + 2, 0, none⟩ = _ := HD1.out.b2.cell 0
  go_wp2_with fail
  have HD1p := Lib.hid (HD1.out.put 0 (.int .i64 N1))
  clear fz d0 HD1
  generalize v1.setCell ⟨w.heap.size + 2, 0, none⟩ (.int .i64 N1) = v1p at *
  (with_reducible refine (rdInt_any _ s T1 p1 hs _ _ T2 N2 H2 _ (Lib.hid HD1p.out.b1)).mono ?_)
  rintro r v2 ⟨rfl, h1, h2⟩
  have HD2 := Lib.hid (HD1p.out.read h1 h2)
  clear h1 h2
  have fz := HD2.out.b2.frozen
  have d1 : v2.cell? ⟨w.heap.size + 2, 1, none⟩ = _ := HD2.out.b2.cell 1
  go_wp2_with fail
  have HD2p := Lib.hid (HD2.out.put 1 (.int .i64 N2))
  clear fz d1 HD2
  generalize v2.setCell ⟨w.heap.size + 2, 1, none⟩ (.int .i64 N2) = v2p at *
  (with_reducible refine (HT3.out _ _ (Lib.hid HD2p.out.b1)).mono ?_)
  rintro r v3 ⟨rfl, h1, h2⟩
  have HD3 := Lib.hid (HD2p.out.read h1 h2)
  clear h1 h2
  have fz := HD3.out.b2.frozen
  have d2 : v3.cell? ⟨w.heap.size + 2, 2, none⟩ = _ := HD3.out.b2.cell 2
  go_wp2_with fail
  have HD3p := Lib.hid (HD3.out.put 2 (.string S3))
  clear fz d2 HD3
  generalize v3.setCell ⟨w.heap.size + 2, 2, none⟩ (.string S3) = v3p at *
  (with_reducible refine (HT4.out _ _ (Lib.hid HD3p.out.b1)).mono ?_)
  rintro r v4 ⟨rfl, h1, h2⟩
  have HD4 := Lib.hid (HD3p.out.read h1 h2)
  clear h1 h2
  have fz := HD4.out.b2.frozen
  have d3 : v4.cell? ⟨w.heap.size + 2, 3, none⟩ = _ := HD4.out.b2.cell 3
  go_wp2_with fail
  have HD4p := Lib.hid (HD4.out.put 3 (.string S4))
  clear fz d3 HD4
  generalize v4.setCell ⟨w.heap.size + 2, 3, none⟩ (.string S4) = v4p at *
  (with_reducible refine (HT5.out _ _ (Lib.hid HD4p.out.b1)).mono ?_)
  rintro r v5 ⟨vr, rfl, hin⟩
  have HD5 := Lib.hid (HD4p.out.read hin.rd hin.gr)
  have hsz4 : w.heap.size + 3 ≤ v4p.heap.size := by have := HD4p.out.b2.lt; omega
  have HRW5 : Hid (RowU w v5 vr N5) := ownsRow_base hin.row hsz4
  obtain ⟨A5, c5, hv5⟩ := row_form hin.row
  subst hv5
  clear hin
  have fz := HD5.out.b2.frozen
  have d4 : v5.cell? ⟨w.heap.size + 2, 4, none⟩ = _ := HD5.out.b2.cell 4
  go_wp2_with fail
  have HD5p := Lib.hid (HD5.out.put 4 (.slice A5 N5.length c5))
  have HRW5p := Lib.hid (HRW5.out.grown (set_grown v5 (w.heap.size + 2) 4 (.slice A5 N5.length c5)) (by omega))
  clear fz d4 HD5 HRW5
  generalize v5.setCell ⟨w.heap.size + 2, 4, none⟩ (.slice A5 N5.length c5) = v5p at *
  (with_reducible refine (HT6.out _ _ (Lib.hid HD5p.out.b1)).mono ?_)
  rintro r v6 ⟨rfl, h1, h2⟩
  have HD6 := Lib.hid (HD5p.out.read h1 h2)
  have HRW6 := Lib.hid (HRW5p.out.grown h2 (by omega))
  clear h1 h2
  have fz := HD6.out.b2.frozen
  have d5 : v6.cell? ⟨w.heap.size + 2, 5, none⟩ = _ := HD6.out.b2.cell 5
  go_wp2_with fail
  have HD6p := Lib.hid (HD6.out.put 5 (.string S6))
  have HRW6p := Lib.hid (HRW6.out.grown (set_grown v6 (w.heap.size + 2) 5 (.string S6)) (by omega))
  clear fz d5 HD6 HRW6
  generalize v6.setCell ⟨w.heap.size + 2, 5, none⟩ (.string S6) = v6p at *
  (with_reducible refine (end_any _ s T6 p6 hs x hx _ (Lib.hid HD6p.out.b1)).mono ?_)
  rintro r v7 ⟨rfl, hb⟩
  have HD7 := Lib.hid (HD6p.out.below hb)
  have HRW7 := Lib.hid (HRW6p.out.below hb)
  clear hb HD6p HRW6p HD0 HD1p HD2p HD3p HD4p HD5p HRW5p
  have b20 : v7.cell? ⟨w.heap.size + 2, 0, none⟩ = some (.int .i64 N1) := HD7.out.b2.cell 0
  have b21 : v7.cell? ⟨w.heap.size + 2, 1, none⟩ = some (.int .i64 N2) := HD7.out.b2.cell 1
  have b22 : v7.cell? ⟨w.heap.size + 2, 2, none⟩ = some (.string S3) := HD7.out.b2.cell 2
  have b23 : v7.cell? ⟨w.heap.size + 2, 3, none⟩ = some (.string S4) := HD7.out.b2.cell 3
  have b24 : v7.cell? ⟨w.heap.size + 2, 4, none⟩ = some (.slice A5 N5.length c5) := HD7.out.b2.cell 4
  have b25 : v7.cell? ⟨w.heap.size + 2, 5, none⟩ = some (.string S6) := HD7.out.b2.cell 5
  by_cases hx0 : x = 0
  · subst hx0
    have HSL : Hid (SlR v7 A5 (i64c N5)) := row_slr HRW7.out A5 c5 rfl
    go_wp2_with fail
    (with_reducible refine (check_any ⟨N1, N2, S3, S4, N5, S6⟩ A5 c5 HEO y hy _ HSL).mono ?_)
    rintro r v8 ⟨rfl, hb⟩
    have HD8 := Lib.hid (HD7.out.below hb)
    have HRW8 := Lib.hid (HRW7.out.below hb)
    clear hb HD7 HRW7 b20 b21 b22 b23 b24 b25
    have r0 : v8.cell? ⟨w.heap.size, 0, none⟩ = some (.int .i64 0) := HD8.out.b0.cell 0
    have r1 : v8.cell? ⟨w.heap.size, 1, none⟩ = some (.int .i64 0) := HD8.out.b0.cell 1
    have r2 : v8.cell? ⟨w.heap.size, 2, none⟩ = some (.string ⟨#[]⟩) := HD8.out.b0.cell 2
    have r3 : v8.cell? ⟨w.heap.size, 3, none⟩ = some (.string ⟨#[]⟩) := HD8.out.b0.cell 3
    have r4 : v8.cell? ⟨w.heap.size, 4, none⟩ = some (.slice none 0 0) := HD8.out.b0.cell 4
    have r5 : v8.cell? ⟨w.heap.size, 5, none⟩ = some (.string ⟨#[]⟩) := HD8.out.b0.cell 5
    have fz := HD8.out.b0.frozen
    by_cases hy0 : y = 0
    · subst hy0
      have b20 : v8.cell? ⟨w.heap.size + 2, 0, none⟩ = some (.int .i64 N1) := HD8.out.b2.cell 0
      have b21 : v8.cell? ⟨w.heap.size + 2, 1, none⟩ = some (.int .i64 N2) := HD8.out.b2.cell 1
      have b22 : v8.cell? ⟨w.heap.size + 2, 2, none⟩ = some (.string S3) := HD8.out.b2.cell 2
      have b23 : v8.cell? ⟨w.heap.size + 2, 3, none⟩ = some (.string S4) := HD8.out.b2.cell 3
      have b24 : v8.cell? ⟨w.heap.size + 2, 4, none⟩ = some (.slice A5 N5.length c5) := HD8.out.b2.cell 4
      have b25 : v8.cell? ⟨w.heap.size + 2, 5, none⟩ = some (.string S6) := HD8.out.b2.cell 5
      go_wp2_with fail
      (try simp only [Exit.inBlock, Exit.then])
      refine bodyPost_ret (v := .tuple #[agE ⟨N1, N2, S3, S4, N5, S6⟩ A5 c5, .int .i64 0]) ?_ rfl ⟨fun _ => ⟨⟨A5, c5, rfl, row_slr (HRW8.out.grown (set6_gr v8 w.heap.size (.int .i64 N1) (.int .i64 N2) (.string S3) (.string S4) (.slice A5 N5.length c5) (.string S6)) (by omega)) A5 c5 rfl⟩, set6_bel HD8.out.bel (Nat.le_refl _) _ _ _ _ _ _⟩, fun h => absurd ⟨rfl, rfl⟩ h⟩
      rw [results_cell_tmp rfl]
      go_simp
    · have q : (y == 0) = false := by simpa using hy0
      have q2 : (y != 0) = true := by simpa using hy0
      have HY0 := Lib.hid hy0
      clear hy0
      go_wp2_with fail
      (try simp only [Exit.inBlock, Exit.then])
      refine bodyPost_ret (v := .tuple #[agE zE none 0, .int .i64 5]) ?_ rfl ⟨fun h => absurd h (fun g => HY0.out g.2), fun _ => ⟨⟨none, 0, rfl, fun g => by simp [zE, i64c] at g⟩, set6_bel HD8.out.bel (Nat.le_refl _) _ _ _ _ _ _⟩⟩
      rw [results_cell_tmp rfl]
      go_simp
      exact ⟨rfl, rfl, rfl, rfl, rfl, rfl⟩
  · have q : (x == 0) = false := by simpa using hx0
    have q2 : (x != 0) = true := by simpa using hx0
    have HX0 := Lib.hid hx0
    clear hx0
    have r0 : v7.cell? ⟨w.heap.size, 0, none⟩ = some (.int .i64 0) := HD7.out.b0.cell 0
    have r1 : v7.cell? ⟨w.heap.size, 1, none⟩ = some (.int .i64 0) := HD7.out.b0.cell 1
    have r2 : v7.cell? ⟨w.heap.size, 2, none⟩ = some (.string ⟨#[]⟩) := HD7.out.b0.cell 2
    have r3 : v7.cell? ⟨w.heap.size, 3, none⟩ = some (.string ⟨#[]⟩) := HD7.out.b0.cell 3
    have r4 : v7.cell? ⟨w.heap.size, 4, none⟩ = some (.slice none 0 0) := HD7.out.b0.cell 4
    have r5 : v7.cell? ⟨w.heap.size, 5, none⟩ = some (.string ⟨#[]⟩) := HD7.out.b0.cell 5
    have fz := HD7.out.b0.frozen
    go_wp2_with fail
    (try simp only [Exit.inBlock, Exit.then])
    refine bodyPost_ret (v := .tuple #[agE zE none 0, .int .i64 5]) ?_ rfl ⟨fun h => absurd h (fun g => HX0.out g.1), fun _ => ⟨⟨none, 0, rfl, fun g => by simp [zE, i64c] at g⟩, set6_bel HD7.out.bel (Nat.le_refl _) _ _ _ _ _ _⟩⟩
    rw [results_cell_tmp rfl]
    go_simp
    exact ⟨rfl, rfl, rfl, rfl, rfl, rfl⟩
end Go.Proofs.YtcefmnkfkpoccaaDoor
