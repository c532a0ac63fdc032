/- StackGrows: the walk. -/
import Derived.Test.YtgkkhbhobbhlpaaSA
namespace Go.Proofs.Ytgkkhbhobbhlpaa
open Go.RowKit
set_option linter.unusedVariables false

structure GG (w w1 : World) (g : Nat × Nat) (a b c x y : Int) : Prop where
  box : BoxG w w1 a b c x y
  l1 : g.1 < w1.heap.size
  r1 : RowV w1 g.1 (shpL a b c)
  l2 : g.2 < w1.heap.size
  r2 : RowV w1 g.2 (prdL x y)
theorem GG.next {w w1 w2 : World} {g : Nat × Nat} {a b c x y : Int} (h : GG w w1 g a b c x y) (hb : Below w1.heap.size w1 w2) : GG w w2 g a b c x y :=
  ⟨h.box.next hb, Nat.lt_of_lt_of_le h.l1 hb.size, h.r1.below hb h.l1, Nat.lt_of_lt_of_le h.l2 hb.size, h.r2.below hb h.l2⟩
/-- The cells that the walk reads. -/
theorem GG.cells {w w1 : World} {g1 g2 : Nat} {a b c x y : Int} (h : GG w w1 (g1, g2) a b c x y) :
    (w1.cell? ⟨w.heap.size, 0, none⟩ = some (.int .i64 a) ∧ w1.cell? ⟨w.heap.size, 1, none⟩ = some (.int .i64 b) ∧ w1.cell? ⟨w.heap.size, 2, none⟩ = some (.int .i64 c)) ∧
    (w1.cell? ⟨g1, 0, none⟩ = some (.int .i64 a) ∧ w1.cell? ⟨g1, 1, none⟩ = some (.int .i64 b) ∧ w1.cell? ⟨g1, 2, none⟩ = some (.int .i64 c)) ∧
    (w1.cell? ⟨g2, 0, none⟩ = some (.string ⟨#[]⟩) ∧ w1.cell? ⟨g2, 1, none⟩ = some (.int .i64 x) ∧ w1.cell? ⟨g2, 2, none⟩ = some (.int .i64 y) ∧ w1.cell? ⟨g2, 3, none⟩ = some (.int .i64 0) ∧ w1.cell? ⟨g2, 4, none⟩ = some (.int .i64 0) ∧ w1.cell? ⟨g2, 5, none⟩ = some (.slice none 0 0) ∧ w1.cell? ⟨g2, 6, none⟩ = some (.slice none 0 0)) :=
  ⟨h.box.1, ⟨(h.r1 0 (by simp)).1, (h.r1 1 (by simp)).1, (h.r1 2 (by simp)).1⟩, ⟨(h.r2 0 (by simp)).1, (h.r2 1 (by simp)).1, (h.r2 2 (by simp)).1, (h.r2 3 (by simp)).1, (h.r2 4 (by simp)).1, (h.r2 5 (by simp)).1, (h.r2 6 (by simp)).1⟩⟩


set_option maxRecDepth 100000 in
set_option maxHeartbeats 20000000 in
theorem stackGrows_walk (a b c x y n : Int) (w : World) :
    Calls Try.prog 13 #[.agg #[.int .i64 a, .int .i64 b, .int .i64 c], .agg #[.int .i64 x, .int .i64 y], .int .i64 n] w fun e w' => e = .returned (.bool true) ∧ Below w.heap.size w w' := by
  have hB0 : BoxG w ((w.alloc (.cells #[.int .i64 a, .int .i64 b, .int .i64 c] 54)).alloc (.cells #[.int .i64 x, .int .i64 y] 48)) a b c x y := by
    refine ⟨⟨?_, ?_, ?_⟩, ⟨?_, ?_⟩, by simp, ((Below.refl _ _).alloc (Nat.le_refl _) _).alloc (by simp) _⟩ <;> simp [go_sem]
  have HB0 := Lib.hid hB0
  clear hB0
  by_cases hn : 1 ≤ n ∧ n ≤ 100
  · go_enter Try.func13, Try.ntmps13
    go_wp2_with fail
    generalize ((w.alloc (.cells #[.int .i64 a, .int .i64 b, .int .i64 c] 54)).alloc (.cells #[.int .i64 x, .int .i64 y] 48)) = w0 at *
    refine wp_region_fr (G := Nat × Nat) (by kernel_rfl) (by kernel_rfl) stD (by kernel_rfl) (stV w a b c x y) (StW w a b c x y) (0, 0) ⟨HB0.out.next ((Below.refl _ _).drew), fun h => (by cases h), fun h => (by cases h), fun h => (by cases h), fun h => (by cases h), fun h => (by cases h)⟩ ?_ ?_
    · intro i o L a' w' g ho hLi hpre hF hW
      have put := fun (d i : Nat) (v : Value) (hd : stD.lookup d = some i) (hin : d < 136) (hv : stV w a b c x y g i = v) => hF.put (V' := stV w a b c x y g) hd (fun e he => lookup_inj (D := stD) (by decide) hd he) hin (fun _ _ _ => rfl) hv
      obtain ⟨⟨k0, k1, k2⟩, ⟨m0, m1⟩, _, _⟩ := hW.box
      match i, ho, hLi, hpre with
      | 0, ho, hLi, hpre =>
        obtain rfl := Option.some.inj ho; clear ho
        refine wpOp_want rfl rfl ?_
        simp [go_sem, tm (show a'.eval (.tmp 3) = .pointer (some ⟨w.heap.size, 0, none⟩) from hF.old rfl), k0, k1, k2]
        exact ⟨g.1, g.2, put 22 0 _ rfl (by decide) rfl, hW.next (by decide) (Below.refl _ _)⟩
      | 1, ho, hLi, hpre =>
        obtain rfl := Option.some.inj ho; clear ho
        refine wpOp_want rfl rfl ?_
        simp [go_sem, tm (show a'.eval (.tmp 22) = .agg #[.int .i64 a, .int .i64 b, .int .i64 c] from hF.get rfl (hpre ⟨0, .data⟩ (by simp) rfl))]
        (with_reducible refine (shape_any _ _ _ _).mono ?_)
        rintro e w'' ⟨rfl, hb⟩
        exact ⟨g.1, g.2, put 23 1 _ rfl (by decide) rfl, hW.next (by decide) hb⟩
      | 2, ho, hLi, hpre =>
        obtain rfl := Option.some.inj ho; clear ho
        refine wpOp_want rfl rfl ?_
        simp [go_sem, tm (show a'.eval (.tmp 4) = .pointer (some ⟨w.heap.size + 1, 0, none⟩) from hF.old rfl)]
        exact ⟨g.1, g.2, put 24 2 _ rfl (by decide) rfl, hW.next (by decide) (Below.refl _ _)⟩
      | 3, ho, hLi, hpre =>
        obtain rfl := Option.some.inj ho; clear ho
        refine wpOp_want rfl rfl ?_
        simp [go_sem, tm (show a'.eval (.tmp 24) = .pointer (some ⟨w.heap.size + 1, 0, none⟩) from hF.get rfl (hpre ⟨2, .data⟩ (by simp) rfl)), m0]
        exact ⟨g.1, g.2, put 25 3 _ rfl (by decide) rfl, hW.next (by decide) (Below.refl _ _)⟩
      | 4, ho, hLi, hpre =>
        obtain rfl := Option.some.inj ho; clear ho
        refine wpOp_want rfl rfl ?_
        simp [go_sem, tm (show a'.eval (.tmp 4) = .pointer (some ⟨w.heap.size + 1, 0, none⟩) from hF.old rfl)]
        exact ⟨g.1, g.2, put 26 4 _ rfl (by decide) rfl, hW.next (by decide) (Below.refl _ _)⟩
      | 5, ho, hLi, hpre =>
        obtain rfl := Option.some.inj ho; clear ho
        refine wpOp_want rfl rfl ?_
        simp [go_sem, tm (show a'.eval (.tmp 26) = .pointer (some ⟨w.heap.size + 1, 1, none⟩) from hF.get rfl (hpre ⟨4, .data⟩ (by simp) rfl)), m1]
        exact ⟨g.1, g.2, put 27 5 _ rfl (by decide) rfl, hW.next (by decide) (Below.refl _ _)⟩
      | 6, ho, hLi, hpre =>
        obtain rfl := Option.some.inj ho; clear ho
        refine wpOp_want rfl rfl ?_
        simp [go_sem, tm (show a'.eval (.tmp 25) = .int .i64 x from hF.get rfl (hpre ⟨3, .data⟩ (by simp) rfl)), tm (show a'.eval (.tmp 27) = .int .i64 y from hF.get rfl (hpre ⟨5, .data⟩ (by simp) rfl))]
        exact ⟨g.1, g.2, put 28 6 _ rfl (by decide) rfl, hW.next (by decide) (Below.refl _ _)⟩
      | 7, ho, hLi, hpre =>
        obtain rfl := Option.some.inj ho; clear ho
        refine wpOp_want rfl rfl ?_
        simp [go_sem]
        exact ⟨w'.heap.size, g.2, hF.put (V' := stV w a b c x y (w'.heap.size, g.2)) (d := 7) (i := 7) rfl (fun e he => lookup_inj (D := stD) (by decide) rfl he) (show 7 < 136 by decide) (fun j hj _ => stV_7 hj) rfl, hW.a7 hLi _⟩
      | 8, ho, hLi, hpre =>
        obtain rfl := Option.some.inj ho; clear ho
        refine wpOp_want rfl rfl ?_
        simp [go_sem]
        exact ⟨g.1, w'.heap.size, hF.put (V' := stV w a b c x y (g.1, w'.heap.size)) (d := 8) (i := 8) rfl (fun e he => lookup_inj (D := stD) (by decide) rfl he) (show 8 < 136 by decide) (fun j hj _ => stV_8 hj) rfl, hW.a8 hLi _⟩
      | 9, ho, hLi, hpre =>
        obtain rfl := Option.some.inj ho; clear ho
        have p7 := hpre ⟨7, .data⟩ (by simp) rfl
        obtain ⟨_, _, hr⟩ := hW.s7 p7
        simp only [hLi, Bool.false_eq_true, if_false] at hr
        have c0 := (hr 0 (by decide)).1; have f0 := (hr 0 (by decide)).2
        have c1 := (hr 1 (by decide)).1; have f1 := (hr 1 (by decide)).2
        have c2 := (hr 2 (by decide)).1; have f2 := (hr 2 (by decide)).2
        refine wpOp_want rfl rfl ?_
        simp [go_sem, tm (show a'.eval (.tmp 7) = .pointer (some ⟨g.1, 0, none⟩) from hF.get rfl p7), tm (show a'.eval (.tmp 23) = .agg #[.int .i64 a, .int .i64 b, .int .i64 c] from hF.get rfl (hpre ⟨1, .data⟩ (by simp) rfl)), c0, f0, c1, f1, c2, f2, World.cell?_setCell_other]
        exact ⟨g.1, g.2, hF.none_ (v := undef) (fun e h => by have := lookup_mem h; simp [stD] at this) (fun _ _ => rfl), hW.p9 p7 hLi⟩
      | 10, ho, hLi, hpre =>
        obtain rfl := Option.some.inj ho; clear ho
        have p8 := hpre ⟨8, .data⟩ (by simp) rfl
        obtain ⟨_, _, hr⟩ := hW.s8 p8
        simp only [hLi, Bool.false_eq_true, if_false] at hr
        have c0 := (hr 0 (by decide)).1; have f0 := (hr 0 (by decide)).2
        have c1 := (hr 1 (by decide)).1; have f1 := (hr 1 (by decide)).2
        have c2 := (hr 2 (by decide)).1; have f2 := (hr 2 (by decide)).2
        have c3 := (hr 3 (by decide)).1; have f3 := (hr 3 (by decide)).2
        have c4 := (hr 4 (by decide)).1; have f4 := (hr 4 (by decide)).2
        have c5 := (hr 5 (by decide)).1; have f5 := (hr 5 (by decide)).2
        have c6 := (hr 6 (by decide)).1; have f6 := (hr 6 (by decide)).2
        refine wpOp_want rfl rfl ?_
        simp [go_sem, tm (show a'.eval (.tmp 8) = .pointer (some ⟨g.2, 0, none⟩) from hF.get rfl p8), tm (show a'.eval (.tmp 28) = .agg #[.string ⟨#[]⟩, .int .i64 x, .int .i64 y, .int .i64 0, .int .i64 0, .slice none 0 0, .slice none 0 0] from hF.get rfl (hpre ⟨6, .data⟩ (by simp) rfl)), c0, f0, c1, f1, c2, f2, c3, f3, c4, f4, c5, f5, c6, f6, World.cell?_setCell_other]
        exact ⟨g.1, g.2, hF.none_ (v := undef) (fun e h => by have := lookup_mem h; simp [stD] at this) (fun _ _ => rfl), hW.p10 p8 hLi⟩
      | i + 11, ho, hLi, hpre => exact absurd ho (by simp)
    · intro L g w1 hall hW
      have hG : GG w w1 g a b c x y := by
        have h7 := hW.s7 (hall 7 (by decide))
        have h8 := hW.s8 (hall 8 (by decide))
        simp only [hall 9 (by decide), hall 10 (by decide), if_true] at h7 h8
        exact ⟨hW.box, h7.2.1, h7.2.2, h8.2.1, h8.2.2⟩
      have HG := Lib.hid hG
      clear hG hW hall
      simp only [stD, List.foldl, stV, Act.put]
      obtain ⟨g1, g2⟩ := g
      simp only at HG ⊢
      have hrg := siz_range a b c x y n
      have hrg' := siz_range a b c x y (n + 1)
      have hgr := grow_of a b c x y n hn.1
      have E1 := fun W => size_eq a b c x y n _ _ _ (Lib.hid ⟨rfl, rfl, rfl⟩) W
      have E2 := fun W => size_eq a b c x y (n + 1) _ _ _ (Lib.hid ⟨rfl, rfl, rfl⟩) W
      have E3 := fun W => rcheck_any a b c W
      have hrng : chkE a b c = 0 → (1 ≤ a ∧ a ≤ 8 ∧ 1 ≤ b ∧ b ≤ 8 ∧ 0 ≤ c ∧ c ≤ 50) := fun h0 => by
        by_cases hh : 1 ≤ a ∧ a ≤ 8 ∧ 1 ≤ b ∧ b ≤ 8 ∧ 0 ≤ c ∧ c ≤ 50
        · exact hh
        · rw [chk_no hh] at h0; cases h0
      cases hgr with
      | bad h e f =>
        rw [h] at E3
        rw [e] at E1
        rw [f] at E2
        have F1 := Lib.hid E1; have F2 := Lib.hid E2; have F3 := Lib.hid E3
        clear E1 E2 E3
        generalize sizW a b c x y n = vp at *
        generalize sizH a b c x y n = vq at *
        generalize sizE a b c x y n = vr at *
        generalize sizW a b c x y (n + 1) = vp' at *
        generalize sizH a b c x y (n + 1) = vq' at *
        generalize sizE a b c x y (n + 1) = vr' at *
        obtain ⟨⟨a0, a1, a2⟩, ⟨b0, b1, b2⟩, ⟨d0, d1, d2, d3, d4, d5, d6⟩⟩ := HG.out.cells
        go_wp2_with fail
        (with_reducible refine (F1.out _).mono ?_)
        rintro e w2 ⟨rfl, hb⟩
        have HG2 := Lib.hid (HG.out.next hb)
        clear hb a0 a1 a2 b0 b1 b2 d0 d1 d2 d3 d4 d5 d6
        obtain ⟨⟨a0, a1, a2⟩, ⟨b0, b1, b2⟩, ⟨d0, d1, d2, d3, d4, d5, d6⟩⟩ := HG2.out.cells
        go_wp2_with fail
        (with_reducible refine (F2.out _).mono ?_)
        rintro e w3 ⟨rfl, hb⟩
        have HG3 := Lib.hid (HG2.out.next hb)
        clear hb a0 a1 a2 b0 b1 b2 d0 d1 d2 d3 d4 d5 d6
        obtain ⟨⟨a0, a1, a2⟩, ⟨b0, b1, b2⟩, ⟨d0, d1, d2, d3, d4, d5, d6⟩⟩ := HG3.out.cells
        go_wp2_with fail
        (with_reducible refine (F3.out _).mono ?_)
        rintro e w4 ⟨rfl, hb⟩
        have HG4 := Lib.hid (HG3.out.next hb)
        clear hb a0 a1 a2 b0 b1 b2 d0 d1 d2 d3 d4 d5 d6
        obtain ⟨⟨a0, a1, a2⟩, ⟨b0, b1, b2⟩, ⟨d0, d1, d2, d3, d4, d5, d6⟩⟩ := HG4.out.cells
        go_wp2_with fail
        (with_reducible refine (awake_any _).mono ?_)
        rintro e w9 ⟨rfl, hb⟩
        go_wp2_with fail
        go_ret
        exact ⟨rfl, below_old HG4.out.box.2.2.2 hb⟩
      | none h e f =>
        rw [h] at E3
        rw [e.1, e.2.1, e.2.2] at E1
        rw [f] at E2
        have F1 := Lib.hid E1; have F2 := Lib.hid E2; have F3 := Lib.hid E3
        clear E1 E2 E3
        generalize sizW a b c x y n = vp at *
        generalize sizH a b c x y n = vq at *
        generalize sizE a b c x y n = vr at *
        generalize sizW a b c x y (n + 1) = vp' at *
        generalize sizH a b c x y (n + 1) = vq' at *
        generalize sizE a b c x y (n + 1) = vr' at *
        obtain ⟨⟨a0, a1, a2⟩, ⟨b0, b1, b2⟩, ⟨d0, d1, d2, d3, d4, d5, d6⟩⟩ := HG.out.cells
        go_wp2_with fail
        (with_reducible refine (F1.out _).mono ?_)
        rintro e w2 ⟨rfl, hb⟩
        have HG2 := Lib.hid (HG.out.next hb)
        clear hb a0 a1 a2 b0 b1 b2 d0 d1 d2 d3 d4 d5 d6
        obtain ⟨⟨a0, a1, a2⟩, ⟨b0, b1, b2⟩, ⟨d0, d1, d2, d3, d4, d5, d6⟩⟩ := HG2.out.cells
        go_wp2_with fail
        (with_reducible refine (F2.out _).mono ?_)
        rintro e w3 ⟨rfl, hb⟩
        have HG3 := Lib.hid (HG2.out.next hb)
        clear hb a0 a1 a2 b0 b1 b2 d0 d1 d2 d3 d4 d5 d6
        obtain ⟨⟨a0, a1, a2⟩, ⟨b0, b1, b2⟩, ⟨d0, d1, d2, d3, d4, d5, d6⟩⟩ := HG3.out.cells
        go_wp2_with fail
        (with_reducible refine (F3.out _).mono ?_)
        rintro e w4 ⟨rfl, hb⟩
        have HG4 := Lib.hid (HG3.out.next hb)
        clear hb a0 a1 a2 b0 b1 b2 d0 d1 d2 d3 d4 d5 d6
        obtain ⟨⟨a0, a1, a2⟩, ⟨b0, b1, b2⟩, ⟨d0, d1, d2, d3, d4, d5, d6⟩⟩ := HG4.out.cells
        go_wp2_with fail
        (with_reducible refine (awake_any _).mono ?_)
        rintro e w9 ⟨rfl, hb⟩
        go_wp2_with fail
        go_ret
        exact ⟨rfl, below_old HG4.out.box.2.2.2 hb⟩
      | full h e f m =>
        rw [h] at E3
        rw [e] at E1
        rw [f] at E2
        have hr0 := hrng h
        clear hrng
        have hpr : a * b = n := m.symm
        clear m
        have F1 := Lib.hid E1; have F2 := Lib.hid E2; have F3 := Lib.hid E3
        clear E1 E2 E3
        generalize sizW a b c x y n = vp at *
        generalize sizH a b c x y n = vq at *
        generalize sizE a b c x y n = vr at *
        generalize sizW a b c x y (n + 1) = vp' at *
        generalize sizH a b c x y (n + 1) = vq' at *
        generalize sizE a b c x y (n + 1) = vr' at *
        obtain ⟨⟨a0, a1, a2⟩, ⟨b0, b1, b2⟩, ⟨d0, d1, d2, d3, d4, d5, d6⟩⟩ := HG.out.cells
        go_wp2_with fail
        (with_reducible refine (F1.out _).mono ?_)
        rintro e w2 ⟨rfl, hb⟩
        have HG2 := Lib.hid (HG.out.next hb)
        clear hb a0 a1 a2 b0 b1 b2 d0 d1 d2 d3 d4 d5 d6
        obtain ⟨⟨a0, a1, a2⟩, ⟨b0, b1, b2⟩, ⟨d0, d1, d2, d3, d4, d5, d6⟩⟩ := HG2.out.cells
        go_wp2_with fail
        (with_reducible refine (F2.out _).mono ?_)
        rintro e w3 ⟨rfl, hb⟩
        have HG3 := Lib.hid (HG2.out.next hb)
        clear hb a0 a1 a2 b0 b1 b2 d0 d1 d2 d3 d4 d5 d6
        obtain ⟨⟨a0, a1, a2⟩, ⟨b0, b1, b2⟩, ⟨d0, d1, d2, d3, d4, d5, d6⟩⟩ := HG3.out.cells
        go_wp2_with fail
        (with_reducible refine (F3.out _).mono ?_)
        rintro e w4 ⟨rfl, hb⟩
        have HG4 := Lib.hid (HG3.out.next hb)
        clear hb a0 a1 a2 b0 b1 b2 d0 d1 d2 d3 d4 d5 d6
        obtain ⟨⟨a0, a1, a2⟩, ⟨b0, b1, b2⟩, ⟨d0, d1, d2, d3, d4, d5, d6⟩⟩ := HG4.out.cells
        go_wp2_with fail
        (with_reducible refine (awake_any _).mono ?_)
        rintro e w9 ⟨rfl, hb⟩
        go_wp2_with fail
        go_ret
        exact ⟨rfl, below_old HG4.out.box.2.2.2 hb⟩
      | wide h e f m p q =>
        rw [h] at E3
        rw [e] at E1
        rw [f, q] at E2
        have hr0 := hrng h
        clear hrng
        have hpp : sizW a b c x y n + y = sizW a b c x y (n + 1) := p.symm
        clear p q
        have F1 := Lib.hid E1; have F2 := Lib.hid E2; have F3 := Lib.hid E3
        clear E1 E2 E3
        generalize sizW a b c x y n = vp at *
        generalize sizH a b c x y n = vq at *
        generalize sizE a b c x y n = vr at *
        generalize sizW a b c x y (n + 1) = vp' at *
        generalize sizH a b c x y (n + 1) = vq' at *
        generalize sizE a b c x y (n + 1) = vr' at *
        obtain ⟨⟨a0, a1, a2⟩, ⟨b0, b1, b2⟩, ⟨d0, d1, d2, d3, d4, d5, d6⟩⟩ := HG.out.cells
        go_wp2_with fail
        (with_reducible refine (F1.out _).mono ?_)
        rintro e w2 ⟨rfl, hb⟩
        have HG2 := Lib.hid (HG.out.next hb)
        clear hb a0 a1 a2 b0 b1 b2 d0 d1 d2 d3 d4 d5 d6
        obtain ⟨⟨a0, a1, a2⟩, ⟨b0, b1, b2⟩, ⟨d0, d1, d2, d3, d4, d5, d6⟩⟩ := HG2.out.cells
        go_wp2_with fail
        (with_reducible refine (F2.out _).mono ?_)
        rintro e w3 ⟨rfl, hb⟩
        have HG3 := Lib.hid (HG2.out.next hb)
        clear hb a0 a1 a2 b0 b1 b2 d0 d1 d2 d3 d4 d5 d6
        obtain ⟨⟨a0, a1, a2⟩, ⟨b0, b1, b2⟩, ⟨d0, d1, d2, d3, d4, d5, d6⟩⟩ := HG3.out.cells
        go_wp2_with fail
        (with_reducible refine (F3.out _).mono ?_)
        rintro e w4 ⟨rfl, hb⟩
        have HG4 := Lib.hid (HG3.out.next hb)
        clear hb a0 a1 a2 b0 b1 b2 d0 d1 d2 d3 d4 d5 d6
        obtain ⟨⟨a0, a1, a2⟩, ⟨b0, b1, b2⟩, ⟨d0, d1, d2, d3, d4, d5, d6⟩⟩ := HG4.out.cells
        go_wp2_with fail
        (with_reducible refine (awake_any _).mono ?_)
        rintro e w9 ⟨rfl, hb⟩
        go_wp2_with fail
        go_ret
        exact ⟨rfl, below_old HG4.out.box.2.2.2 hb⟩
      | high h e f m m' p q =>
        rw [h] at E3
        rw [e] at E1
        rw [f, p] at E2
        have hr0 := hrng h
        clear hrng
        have hqq : sizH a b c x y n + x + c = sizH a b c x y (n + 1) := q.symm
        clear p q
        have hxx := hrg.2
        have ha0 : a ≠ 0 := by omega
        have F1 := Lib.hid E1; have F2 := Lib.hid E2; have F3 := Lib.hid E3
        clear E1 E2 E3
        generalize sizW a b c x y n = vp at *
        generalize sizH a b c x y n = vq at *
        generalize sizE a b c x y n = vr at *
        generalize sizW a b c x y (n + 1) = vp' at *
        generalize sizH a b c x y (n + 1) = vq' at *
        generalize sizE a b c x y (n + 1) = vr' at *
        obtain ⟨⟨a0, a1, a2⟩, ⟨b0, b1, b2⟩, ⟨d0, d1, d2, d3, d4, d5, d6⟩⟩ := HG.out.cells
        go_wp2_with fail
        (with_reducible refine (F1.out _).mono ?_)
        rintro e w2 ⟨rfl, hb⟩
        have HG2 := Lib.hid (HG.out.next hb)
        clear hb a0 a1 a2 b0 b1 b2 d0 d1 d2 d3 d4 d5 d6
        obtain ⟨⟨a0, a1, a2⟩, ⟨b0, b1, b2⟩, ⟨d0, d1, d2, d3, d4, d5, d6⟩⟩ := HG2.out.cells
        go_wp2_with fail
        (with_reducible refine (F2.out _).mono ?_)
        rintro e w3 ⟨rfl, hb⟩
        have HG3 := Lib.hid (HG2.out.next hb)
        clear hb a0 a1 a2 b0 b1 b2 d0 d1 d2 d3 d4 d5 d6
        obtain ⟨⟨a0, a1, a2⟩, ⟨b0, b1, b2⟩, ⟨d0, d1, d2, d3, d4, d5, d6⟩⟩ := HG3.out.cells
        go_wp2_with fail
        (with_reducible refine (F3.out _).mono ?_)
        rintro e w4 ⟨rfl, hb⟩
        have HG4 := Lib.hid (HG3.out.next hb)
        clear hb a0 a1 a2 b0 b1 b2 d0 d1 d2 d3 d4 d5 d6
        obtain ⟨⟨a0, a1, a2⟩, ⟨b0, b1, b2⟩, ⟨d0, d1, d2, d3, d4, d5, d6⟩⟩ := HG4.out.cells
        go_wp2_with fail
        (with_reducible refine (awake_any _).mono ?_)
        rintro e w9 ⟨rfl, hb⟩
        go_wp2_with fail
        go_ret
        exact ⟨rfl, below_old HG4.out.box.2.2.2 hb⟩
      | same h e f m m' p q =>
        rw [h] at E3
        rw [e] at E1
        rw [f, p, q] at E2
        have hr0 := hrng h
        clear hrng p q
        have ha0 : a ≠ 0 := by omega
        have hmm : (n % a == 0) = false := by simpa using m'
        have F1 := Lib.hid E1; have F2 := Lib.hid E2; have F3 := Lib.hid E3
        clear E1 E2 E3
        generalize sizW a b c x y n = vp at *
        generalize sizH a b c x y n = vq at *
        generalize sizE a b c x y n = vr at *
        generalize sizW a b c x y (n + 1) = vp' at *
        generalize sizH a b c x y (n + 1) = vq' at *
        generalize sizE a b c x y (n + 1) = vr' at *
        obtain ⟨⟨a0, a1, a2⟩, ⟨b0, b1, b2⟩, ⟨d0, d1, d2, d3, d4, d5, d6⟩⟩ := HG.out.cells
        go_wp2_with fail
        (with_reducible refine (F1.out _).mono ?_)
        rintro e w2 ⟨rfl, hb⟩
        have HG2 := Lib.hid (HG.out.next hb)
        clear hb a0 a1 a2 b0 b1 b2 d0 d1 d2 d3 d4 d5 d6
        obtain ⟨⟨a0, a1, a2⟩, ⟨b0, b1, b2⟩, ⟨d0, d1, d2, d3, d4, d5, d6⟩⟩ := HG2.out.cells
        go_wp2_with fail
        (with_reducible refine (F2.out _).mono ?_)
        rintro e w3 ⟨rfl, hb⟩
        have HG3 := Lib.hid (HG2.out.next hb)
        clear hb a0 a1 a2 b0 b1 b2 d0 d1 d2 d3 d4 d5 d6
        obtain ⟨⟨a0, a1, a2⟩, ⟨b0, b1, b2⟩, ⟨d0, d1, d2, d3, d4, d5, d6⟩⟩ := HG3.out.cells
        go_wp2_with fail
        (with_reducible refine (F3.out _).mono ?_)
        rintro e w4 ⟨rfl, hb⟩
        have HG4 := Lib.hid (HG3.out.next hb)
        clear hb a0 a1 a2 b0 b1 b2 d0 d1 d2 d3 d4 d5 d6
        obtain ⟨⟨a0, a1, a2⟩, ⟨b0, b1, b2⟩, ⟨d0, d1, d2, d3, d4, d5, d6⟩⟩ := HG4.out.cells
        go_wp2_with fail
        (with_reducible refine (awake_any _).mono ?_)
        rintro e w9 ⟨rfl, hb⟩
        go_wp2_with fail
        go_ret
        exact ⟨rfl, below_old HG4.out.box.2.2.2 hb⟩
  · have hn2 : n < 1 ∨ 100 < n := by omega
    rcases hn2 with hn2 | hn2
    all_goals
      clear hn
      go_enter Try.func13, Try.ntmps13
      go_wp2_with fail
      (with_reducible refine (awake_any _).mono ?_)
      rintro e w9 ⟨rfl, hb⟩
      go_wp2_with fail
      go_ret
      exact ⟨rfl, below_old HB0.out.2.2.2 hb⟩
end Go.Proofs.Ytgkkhbhobbhlpaa
