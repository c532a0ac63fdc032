/- The reference of wire: ReadText, End, Left. -/
import Derived.Test.YtcefmnkfkpoccaaDoorGC
import Derived.Test.YtcefmnkfkpoccaaDoorQ
namespace Go.Proofs.YtcefmnkfkpoccaaDoor
open Go.RowKit
set_option linter.unusedVariables false
open Wi Evn
theorem cntR_num {s : List UInt8} {p most u r : Nat} {y : Int} (h : numR s p = (u, r, y)) : cntR s p most = if y = 0 then (if u ≤ most then (u, r, 0) else (0, p, 4)) else (0, p, y) := by
  unfold cntR
  rw [h]
def rtV (w : World) (s : ByteArray) (r k : Nat) (N : List UInt8) (_ : Unit) : Nat → Value
  | 0 => .agg #[.string s, .int .i64 (k : Int), .int .i64 0]
  | 1 => .pointer (some ⟨w.heap.size, 0, none⟩)
  | 2 => .string s
  | 3 => .int .i64 (r : Int)
  | 4 => .pointer (some ⟨w.heap.size, 1, none⟩)
  | 5 => .int .i64 (k : Int)
  | _ => .string (lb N)
def rtD : List (Nat × Nat) := [(52, 0), (53, 1), (54, 2), (55, 3), (56, 4), (57, 5), (58, 6), (5, 8)]
theorem rtD_no : ∀ e, rtD.lookup e ≠ some 7 := fun e he => by
  have := lookup_mem he
  revert this
  simp [rtD]
def rtW (w : World) (s : ByteArray) (k : Nat) (L : Nat → Bool) (_ : Unit) (w' : World) : Prop :=
  Below w.heap.size w w' ∧ Blk w' w.heap.size 63 #[.string s, .int .i64 (k : Int), .int .i64 0] ∧ (L 7 = true → Blk w' (w.heap.size + 1) 63 #[.string s, .int .i64 (k : Int), .int .i64 0]) ∧ (L 7 = false → Blk w' (w.heap.size + 1) 63 #[.string ⟨#[]⟩, .int .i64 0, .int .i64 0])
theorem rtW.next {w w' : World} {s : ByteArray} {k : Nat} {L : Nat → Bool} {b : Unit} {i : Nat} (h : rtW w s k L b w') (hi : i ≠ 7) : rtW w s k (fun j => j == i || L j) b w' := by
  refine ⟨h.1, h.2.1, fun h1 => h.2.2.1 (by simpa [Ne.symm hi] using h1), fun h1 => h.2.2.2 (by simpa [Ne.symm hi] using h1)⟩
theorem rtW.stored {w w' : World} {s : ByteArray} {k : Nat} {L : Nat → Bool} {b : Unit} (h : rtW w s k L b w') (hL : L 7 = false := by assumption) : rtW w s k (fun j => j == 7 || L j) b (((w'.setCell ⟨w.heap.size + 1, 0, none⟩ (.string s)).setCell ⟨w.heap.size + 1, 1, none⟩ (.int .i64 (k : Int))).setCell ⟨w.heap.size + 1, 2, none⟩ (.int .i64 0)) := by
  have g : w'.grownBy (((w'.setCell ⟨w.heap.size + 1, 0, none⟩ (.string s)).setCell ⟨w.heap.size + 1, 1, none⟩ (.int .i64 (k : Int))).setCell ⟨w.heap.size + 1, 2, none⟩ (.int .i64 0)) (some (w.heap.size + 1)) := ((set_grown _ _ _ _).trans (set_grown _ _ _ _)).trans (set_grown _ _ _ _)
  refine ⟨set3_bel h.1 (Nat.le_succ _) _ _ _, h.2.1.grown g (by simp), fun _ => ?_, fun h1 => by simp at h1⟩
  have := (((h.2.2.2 hL).set_ 0 (.string s)).set_ 1 (.int .i64 (k : Int))).set_ 2 (.int .i64 0)
  simpa using this
set_option maxRecDepth 100000 in
set_option maxHeartbeats 4000000 in
theorem rreadText_any (s : ByteArray) (t : St) (hp : t.1 ≤ s.size) (hs : (s.size : Int) ≤ 1000000) (most : Nat) (hm : (most : Int) ≤ 1000000) (T : St) (N : List UInt8) (h : Hid (rdT (bl s) t most = (T, N))) (w : World) :
    Calls Tryd.prog 42 #[rg s t, .int .i64 most] w fun e w' => e = .returned (.tuple #[rg s T, .string (lb N)]) ∧ Below w.heap.size w w' := by
  by_cases h0 : t.2 = 0
  · obtain ⟨p, y0⟩ := t
    simp only at h0 hp
    subst h0
    obtain ⟨u, r, y, hN⟩ : ∃ u r y, numR (bl s) p = (u, r, y) := ⟨_, _, _, rfl⟩
    have HN := Lib.hid hN
    have hC := cntR_num (most := most) hN
    have h' := h.out
    by_cases hy : y = 0
    · subst hy
      rw [if_pos rfl] at hC
      have hu := (numR_is hN).2.1
      have hr : r ≤ s.size := (numR_is hN).2.2.2
      by_cases hmo : u ≤ most
      · rw [if_pos hmo] at hC
        have z1 : ¬ (most : Int) < (u : Int) := by omega
        by_cases hn : u ≤ s.size - r
        · rw [rdT_ok rfl hC hn] at h'
          simp only [Prod.mk.injEq] at h'
          obtain ⟨e1, e2⟩ := h'
          have HT := Lib.hid e1; have HE := Lib.hid e2
          have z2 : ¬ (s.size : Int) - (r : Int) < (u : Int) := by omega
          have HSL := Lib.hid (lb_sub s r u)
          obtain ⟨k, hk⟩ : ∃ k, r + u = k := ⟨_, rfl⟩
          have hr2 : (r : Int) + (u : Int) = (k : Int) := by omega
          have hr3 : (k : Int) ≤ (s.size : Int) := by omega
          have hr4 : (r : Int) ≤ (k : Int) := by omega
          have HRQ := Lib.hid hk
          clear hN h e1 e2 hk hC
          go_enter Tryd.func42, Tryd.ntmps42
          go_wp2_with fail
          (with_reducible refine (rnumber_any s p hp hs u r 0 HN _).mono ?_)
          rintro e w1 ⟨rfl, hw⟩
          subst hw
          go_wp2_with fail
          have hS : s.extract r k = lb N := by rw [← HE.out, ← HSL.out, HRQ.out]
          have H0 : Hid (rtW w s k (fun _ => false) () ((w.alloc (.cells #[.string s, .int .i64 (k : Int), .int .i64 0] 63)).alloc (.cells #[.string ⟨#[]⟩, .int .i64 0, .int .i64 0] 63)).drew) := by
            have hb := two_bel w (.cells #[.string s, .int .i64 (k : Int), .int .i64 0] 63) (.cells #[.string ⟨#[]⟩, .int .i64 0, .int .i64 0] 63)
            obtain ⟨B1, B2⟩ := two_cells (w := w) (x0 := .string s) (x1 := .int .i64 (k : Int)) (x2 := .int .i64 0) (y0 := .string ⟨#[]⟩) (y1 := .int .i64 0) (y2 := .int .i64 0) (t := 63) (Below.refl _ _).drew
            exact ⟨hb.drew, B1, (fun h => by cases h), fun _ => B2⟩
          refine wp_region_fr (G := Unit) (by kernel_rfl) (by kernel_rfl) rtD (by kernel_rfl) (rtV w s r k N) (rtW w s k) () H0.out ?_ ?_
          · intro i o L a' w' b ho hLi hpre hF hW
            have put := fun (d i : Nat) (v : Value) (hd : rtD.lookup d = some i) (hin : d < 59) (hv : rtV w s r k N b i = v) => hF.put (V' := rtV w s r k N b) hd (fun e he => lookup_inj (D := rtD) (by decide) hd he) hin (fun _ _ _ => rfl) hv
            have HWW := Lib.hid hW
            have stay := fun (i : Nat) (hi : i ≠ 7) => HWW.out.next hi
            have c0 : w'.cell? ⟨w.heap.size, 0, none⟩ = some (.string s) := hW.2.1.cell 0
            have c1 : w'.cell? ⟨w.heap.size, 1, none⟩ = some (.int .i64 (k : Int)) := hW.2.1.cell 1
            have c2 : w'.cell? ⟨w.heap.size, 2, none⟩ = some (.int .i64 0) := hW.2.1.cell 2
            match i, ho, hLi, hpre with
            | 0, ho, hLi, hpre =>
              obtain rfl := Option.some.inj ho; clear ho
              refine wpOp_want rfl rfl ?_
              simp [go_sem, tm (show a'.eval (.tmp 2) = .pointer (some ⟨w.heap.size, 0, none⟩) from hF.old rfl), c0, c1, c2]
              exact ⟨b, put 52 0 _ rfl (by decide) rfl, stay 0 (by decide)⟩
            | 1, ho, hLi, hpre =>
              obtain rfl := Option.some.inj ho; clear ho
              refine wpOp_want rfl rfl ?_
              simp [go_sem, tm (show a'.eval (.tmp 2) = .pointer (some ⟨w.heap.size, 0, none⟩) from hF.old rfl)]
              exact ⟨b, put 53 1 _ rfl (by decide) rfl, stay 1 (by decide)⟩
            | 2, ho, hLi, hpre =>
              obtain rfl := Option.some.inj ho; clear ho
              refine wpOp_want rfl rfl ?_
              simp [go_sem, tm (show a'.eval (.tmp 53) = .pointer (some ⟨w.heap.size, 0, none⟩) from hF.get rfl (hpre ⟨1, .data⟩ (by simp) rfl)), c0]
              exact ⟨b, put 54 2 _ rfl (by decide) rfl, stay 2 (by decide)⟩
            | 3, ho, hLi, hpre =>
              obtain rfl := Option.some.inj ho; clear ho
              refine wpOp_want rfl rfl ?_
              simp [go_sem, tm (show a'.eval (.tmp 7) = .int .i64 (r : Int) from hF.old rfl)]
              exact ⟨b, put 55 3 _ rfl (by decide) rfl, stay 3 (by decide)⟩
            | 4, ho, hLi, hpre =>
              obtain rfl := Option.some.inj ho; clear ho
              refine wpOp_want rfl rfl ?_
              simp [go_sem, tm (show a'.eval (.tmp 2) = .pointer (some ⟨w.heap.size, 0, none⟩) from hF.old rfl)]
              exact ⟨b, put 56 4 _ rfl (by decide) rfl, stay 4 (by decide)⟩
            | 5, ho, hLi, hpre =>
              obtain rfl := Option.some.inj ho; clear ho
              refine wpOp_want rfl rfl ?_
              simp [go_sem, tm (show a'.eval (.tmp 56) = .pointer (some ⟨w.heap.size, 1, none⟩) from hF.get rfl (hpre ⟨4, .data⟩ (by simp) rfl)), c1]
              exact ⟨b, put 57 5 _ rfl (by decide) rfl, stay 5 (by decide)⟩
            | 6, ho, hLi, hpre =>
              obtain rfl := Option.some.inj ho; clear ho
              refine wpOp_want rfl rfl ?_
              simp [go_sem, tm (show a'.eval (.tmp 54) = .string s from hF.get rfl (hpre ⟨2, .data⟩ (by simp) rfl)), tm (show a'.eval (.tmp 55) = .int .i64 (r : Int) from hF.get rfl (hpre ⟨3, .data⟩ (by simp) rfl)), tm (show a'.eval (.tmp 57) = .int .i64 (k : Int) from hF.get rfl (hpre ⟨5, .data⟩ (by simp) rfl)), hS, hr3, hr4]
              exact ⟨b, put 58 6 _ rfl (by decide) rfl, stay 6 (by decide)⟩
            | 7, ho, hLi, hpre =>
              obtain rfl := Option.some.inj ho; clear ho
              have e0 := tm <| show a'.eval (.tmp 4) = .pointer (some ⟨w.heap.size + 1, 0, none⟩) from hF.old rfl
              have e1 := tm <| show a'.eval (.tmp 52) = .agg #[.string s, .int .i64 (k : Int), .int .i64 0] from hF.get rfl (hpre ⟨0, .data⟩ (by simp) rfl)
              have B2 := hW.2.2.2 hLi
              have d0 : w'.cell? ⟨w.heap.size + 1, 0, none⟩ = some (.string ⟨#[]⟩) := B2.cell 0
              have d1 : w'.cell? ⟨w.heap.size + 1, 1, none⟩ = some (.int .i64 0) := B2.cell 1
              have d2 : w'.cell? ⟨w.heap.size + 1, 2, none⟩ = some (.int .i64 0) := B2.cell 2
              have fz := B2.frozen
              refine wpOp_want rfl rfl ?_
              simp [go_sem, e0, e1, d0, d1, d2, fz]
              exact ⟨b, hF.none_ (v := undef) rtD_no (fun _ _ => rfl), HWW.out.stored⟩
            | 8, ho, hLi, hpre =>
              obtain rfl := Option.some.inj ho; clear ho
              refine wpOp_want rfl rfl ?_
              simp [go_sem, tm (show a'.eval (.tmp 58) = .string (lb N) from hF.get rfl (hpre ⟨6, .data⟩ (by simp) rfl))]
              exact ⟨b, put 5 8 _ rfl (by decide) rfl, stay 8 (by decide)⟩
            | i + 9, ho, hLi, hpre => exact absurd ho (by simp)
          · intro L b w' hall hW
            have HBw := Lib.hid hW.1
            have B2 := hW.2.2.1 (hall 7 (by decide))
            have r0 : w'.cell? ⟨w.heap.size + 1, 0, none⟩ = some (.string s) := B2.cell 0
            have r1 : w'.cell? ⟨w.heap.size + 1, 1, none⟩ = some (.int .i64 (k : Int)) := B2.cell 1
            have r2 : w'.cell? ⟨w.heap.size + 1, 2, none⟩ = some (.int .i64 0) := B2.cell 2
            clear hW hall B2
            simp only [rtD, List.foldl, rtV, Act.put, List.setIfInBounds_toArray, List.set_cons_succ, List.set_cons_zero]
            go_wp2_with fail
            (try simp only [Exit.inBlock, Exit.then])
            refine bodyPost_ret (v := .tuple #[.agg #[.string s, .int .i64 (k : Int), .int .i64 0], .string (lb N)]) ?_ rfl ⟨?_, HBw.out⟩
            rotate_left
            · rw [← HT.out, HRQ.out]
            · rw [results_cell_tmp rfl]
              go_simp
        · rw [rdT_short rfl hC hn] at h'
          simp only [Prod.mk.injEq] at h'
          obtain ⟨e1, e2⟩ := h'
          have HT := Lib.hid e1
          subst e2
          have z2 : (s.size : Int) - (r : Int) < (u : Int) := by omega
          clear hN h e1 hC
          go_enter Tryd.func42, Tryd.ntmps42
          go_wp2_with fail
          (with_reducible refine (rnumber_any s p hp hs u r 0 HN _).mono ?_)
          rintro e w1 ⟨rfl, hw⟩
          subst hw
          go_wp2_with fail
          (with_reducible refine (rfail_any s (p : Int) 3 0 _).mono ?_)
          rintro e w1 ⟨rfl, hb⟩
          obtain ⟨B1, B2⟩ := two_cells hb
          have HW1 := Lib.hid (below_old (two_bel w _ _) hb)
          have r0 : w1.cell? ⟨w.heap.size + 1, 0, none⟩ = _ := B2.cell 0
          have r1 : w1.cell? ⟨w.heap.size + 1, 1, none⟩ = _ := B2.cell 1
          have r2 : w1.cell? ⟨w.heap.size + 1, 2, none⟩ = _ := B2.cell 2
          have fz := B2.frozen
          clear hb B1 B2
          go_wp2_with fail
          (try simp only [Exit.inBlock, Exit.then])
          refine bodyPost_ret (v := .tuple #[.agg #[.string s, .int .i64 (p : Int), .int .i64 3], .string ⟨#[]⟩]) ?_ rfl ⟨?_, set3_bel HW1.out (Nat.le_succ _) _ _ _⟩
          rotate_left
          · rw [← HT.out]
          · rw [results_cell_tmp rfl]
            go_simp
      · rw [if_neg hmo] at hC
        rw [rdT_err rfl hC (by decide)] at h'
        simp only [Prod.mk.injEq] at h'
        obtain ⟨e1, e2⟩ := h'
        have HT := Lib.hid e1
        subst e2
        have z1 : (most : Int) < (u : Int) := by omega
        clear hN h e1 hC
        go_enter Tryd.func42, Tryd.ntmps42
        go_wp2_with fail
        (with_reducible refine (rnumber_any s p hp hs u r 0 HN _).mono ?_)
        rintro e w1 ⟨rfl, hw⟩
        subst hw
        go_wp2_with fail
        (with_reducible refine (rfail_any s (p : Int) 4 0 _).mono ?_)
        rintro e w1 ⟨rfl, hb⟩
        obtain ⟨B1, B2⟩ := two_cells hb
        have HW1 := Lib.hid (below_old (two_bel w _ _) hb)
        have r0 : w1.cell? ⟨w.heap.size + 1, 0, none⟩ = _ := B2.cell 0
        have r1 : w1.cell? ⟨w.heap.size + 1, 1, none⟩ = _ := B2.cell 1
        have r2 : w1.cell? ⟨w.heap.size + 1, 2, none⟩ = _ := B2.cell 2
        have fz := B2.frozen
        clear hb B1 B2
        go_wp2_with fail
        (try simp only [Exit.inBlock, Exit.then])
        refine bodyPost_ret (v := .tuple #[.agg #[.string s, .int .i64 (p : Int), .int .i64 4], .string ⟨#[]⟩]) ?_ rfl ⟨?_, set3_bel HW1.out (Nat.le_succ _) _ _ _⟩
        rotate_left
        · rw [← HT.out]
        · rw [results_cell_tmp rfl]
          go_simp
    · rw [if_neg hy] at hC
      rw [rdT_err rfl hC hy] at h'
      simp only [Prod.mk.injEq] at h'
      obtain ⟨e1, e2⟩ := h'
      have HT := Lib.hid e1
      subst e2
      have qx : (y == 0) = false := by simpa using hy
      have qx2 : (y != 0) = true := by simpa using hy
      clear hN h e1 hC hy
      go_enter Tryd.func42, Tryd.ntmps42
      go_wp2_with fail
      (with_reducible refine (rnumber_any s p hp hs u r y HN _).mono ?_)
      rintro e w1 ⟨rfl, hw⟩
      subst hw
      go_wp2_with fail
      (with_reducible refine (rfail_any s (p : Int) y 0 _).mono ?_)
      rintro e w1 ⟨rfl, hb⟩
      obtain ⟨B1, B2⟩ := two_cells hb
      have HW1 := Lib.hid (below_old (two_bel w _ _) hb)
      have r0 : w1.cell? ⟨w.heap.size + 1, 0, none⟩ = _ := B2.cell 0
      have r1 : w1.cell? ⟨w.heap.size + 1, 1, none⟩ = _ := B2.cell 1
      have r2 : w1.cell? ⟨w.heap.size + 1, 2, none⟩ = _ := B2.cell 2
      have fz := B2.frozen
      clear hb B1 B2
      go_wp2_with fail
      (try simp only [Exit.inBlock, Exit.then])
      refine bodyPost_ret (v := .tuple #[.agg #[.string s, .int .i64 (p : Int), .int .i64 y], .string ⟨#[]⟩]) ?_ rfl ⟨?_, set3_bel HW1.out (Nat.le_succ _) _ _ _⟩
      rotate_left
      · rw [← HT.out]
      · rw [results_cell_tmp rfl]
        go_simp
  · have h' := h.out
    rw [rdT_bad h0] at h'
    simp only [Prod.mk.injEq] at h'
    obtain ⟨e1, e2⟩ := h'
    subst e1 e2
    have qx : (t.2 == 0) = false := by simpa using h0
    have qx2 : (t.2 != 0) = true := by simpa using h0
    clear h h0
    go_enter Tryd.func42, Tryd.ntmps42
    go_wp2_with fail
    (try simp only [Exit.inBlock, Exit.then])
    refine bodyPost_ret (v := .tuple #[.agg #[.string s, .int .i64 (t.1 : Int), .int .i64 t.2], .string ⟨#[]⟩]) ?_ rfl ⟨rfl, two_bel w _ _⟩
    rw [results_cell_tmp rfl]
    go_simp
end Go.Proofs.YtcefmnkfkpoccaaDoor
