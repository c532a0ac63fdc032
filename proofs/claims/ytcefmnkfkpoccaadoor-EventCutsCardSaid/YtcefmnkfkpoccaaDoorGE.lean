/- The reference of wire: ReadInts, End, Left, NewReader. -/
import Derived.Test.YtcefmnkfkpoccaaDoorGD
namespace Go.Proofs.YtcefmnkfkpoccaaDoor
open Go.RowKit
set_option linter.unusedVariables false
open Wi Evn
/-- The world of the loop: the reader's box, the result's box. -/
structure RiW (w w' : World) (s : ByteArray) (p : Nat) : Prop where
  bel : Below w.heap.size w w'
  b1 : Blk w' w.heap.size 63 #[.string s, .int .i64 (p : Int), .int .i64 0]
  b2 : Blk w' (w.heap.size + 1) 63 #[.string ⟨#[]⟩, .int .i64 0, .int .i64 0]
theorem RiW.below {w w' w'' : World} {s : ByteArray} {p : Nat} (h : RiW w w' s p) (hb : Below w'.heap.size w' w'') : RiW w w'' s p := ⟨below_old h.bel hb, h.b1.below hb, h.b2.below hb⟩
def slLen : Value → Nat
  | .slice _ n _ => n
  | _ => 0
theorem own_empty (w : World) (B g : Nat) (hB : B ≤ g) (hg : g = w.heap.size) (t : TypeId) : (w.alloc (.cells #[] t)).ownsRow B t 1 (.slice (some ⟨g, 0, none⟩) 0 0) 0 [] := by
  subst hg
  exact ⟨rfl, .inr ⟨w.heap.size, 0, #[], rfl, hB, heap_alloc_new w _, by omega, by unfold maxLen; omega, rfl, rfl⟩⟩
set_option maxRecDepth 100000 in
set_option maxHeartbeats 8000000 in
theorem rreadInts_any (s : ByteArray) (t : St) (hp : t.1 ≤ s.size) (hs : (s.size : Int) ≤ 1000000) (most : Nat) (hm : (most : Int) ≤ 1000000) (lo hi : Int) (T : St) (N : List Int) (h : Hid (rdS (bl s) t most lo hi = (T, N))) (w : World) :
    Calls Tryd.prog 43 #[rg s t, .int .i64 most, .int .i64 lo, .int .i64 hi] w fun e w' => ∃ v, e = .returned (.tuple #[rg s T, v]) ∧ w'.ownsRow w.heap.size 3 1 v N.length (i64c N) ∧ Below w.heap.size w w' := by
  by_cases h0 : t.2 = 0
  · obtain ⟨p, y0⟩ := t
    simp only at h0 hp
    subst h0
    obtain ⟨u, r, y, hN⟩ : ∃ u r y, numR (bl s) p = (u, r, y) := ⟨_, _, _, rfl⟩
    have HN := Lib.hid hN
    have hC := cntR_num (most := most) hN
    have h' := h.out
    by_cases hy : y = 0
    · subst hy
      rw [if_pos rfl] at hC
      have hu := (numR_is hN).2.1
      have hr : r ≤ s.size := (numR_is hN).2.2.2
      by_cases hmo : u ≤ most
      · rw [if_pos hmo] at hC
        have z1 : ¬ (most : Int) < (u : Int) := by omega
        obtain ⟨l, q, y, hA⟩ : ∃ l q y, rdA (bl s) lo hi u [] r = (l, q, y) := ⟨_, _, _, rfl⟩
        have HA := Lib.hid hA
        have HTN : Hid ((y = 0 → T = (q, 0) ∧ N = l) ∧ (y ≠ 0 → T = (p, y) ∧ N = [])) := by
          refine ⟨fun hy => ?_, fun hy => ?_⟩
          · subst hy
            rw [rdS_ok rfl hC hA] at h'
            simp only [Prod.mk.injEq] at h'
            exact ⟨h'.1.symm, h'.2.symm⟩
          · rw [rdS_bad2 rfl hC hA hy] at h'
            simp only [Prod.mk.injEq] at h'
            exact ⟨h'.1.symm, h'.2.symm⟩
        clear hN h hC hA h'
        go_enter Tryd.func43, Tryd.ntmps43
        go_wp2_with fail
        (with_reducible refine (rnumber_any s p hp hs u r 0 HN _).mono ?_)
        rintro e w1 ⟨rfl, hw⟩
        subst hw
        go_wp2_with fail
        have HW0 : Hid (RiW w ((w.alloc (.cells #[.string s, .int .i64 (p : Int), .int .i64 0] 63)).alloc (.cells #[.string ⟨#[]⟩, .int .i64 0, .int .i64 0] 63)) s p) := by
          obtain ⟨B1, B2⟩ := two_cells (w := w) (x0 := .string s) (x1 := .int .i64 (p : Int)) (x2 := .int .i64 0) (y0 := .string ⟨#[]⟩) (y1 := .int .i64 0) (y2 := .int .i64 0) (t := 63) (Below.refl _ _)
          exact ⟨two_bel w _ _, B1, B2⟩
        have HW1 := Lib.hid (HW0.out.below ((Below.refl _ _).alloc (Nat.le_refl _) (.cells #[] 3)))
        have HO1 := Lib.hid (own_empty ((w.alloc (.cells #[.string s, .int .i64 (p : Int), .int .i64 0] 63)).alloc (.cells #[.string ⟨#[]⟩, .int .i64 0, .int .i64 0] 63)) (w.heap.size + 2) (w.heap.size + 1 + 1) (by omega) (by simp) 3)
        have d1 : decide ((most : Int) < 0) = false := decide_eq_false (by omega)
        have d2 : decide (most < u) = false := decide_eq_false (by omega)
        simp only [d1, d2, Bool.or_false]
        clear d1 d2
        go_loopw [11, 13] (fun nx v wr => ∃ (a : List Int) (q' : Nat), nx = .int .i64 (q' : Int) ∧ q' ≤ s.size ∧ a.length ≤ u ∧ wr.ownsRow (w.heap.size + 2) 3 1 v a.length (i64c a) ∧ Hid (RiW w wr s p) ∧ Hid (rdA (bl s) lo hi (u - a.length) a q' = (l, q, y))) (fun _ v _ => u - slLen v)
        case atStart => exact ⟨[], r, rfl, hr, by simp, HO1.out, HW1, HA.out⟩
        case round =>
          clear HW0 HW1 HO1 HA
          obtain ⟨a, q', rfl, hq', hk, hown, HW, HE⟩ := hrel
          have hsz2 := HW.out.bel.size
          obtain ⟨A, cc, hv⟩ := row_form hown
          subst hv
          have c0 : wr.cell? ⟨w.heap.size, 0, none⟩ = some (.string s) := HW.out.b1.cell 0
          have c1 : wr.cell? ⟨w.heap.size, 1, none⟩ = some (.int .i64 (p : Int)) := HW.out.b1.cell 1
          have c2 : wr.cell? ⟨w.heap.size, 2, none⟩ = some (.int .i64 0) := HW.out.b1.cell 2
          by_cases hku : a.length < u
          · have z2 : (a.length : Int) < (u : Int) := by omega
            obtain ⟨m, q2, x2, hS⟩ : ∃ m q2 x2, sgnR (bl s) q' lo hi = (m, q2, x2) := ⟨_, _, _, rfl⟩
            have HSS := Lib.hid hS
            obtain ⟨f, hf⟩ : ∃ f, u - a.length = f + 1 := ⟨u - a.length - 1, by omega⟩
            have h1 := HE.out
            rw [hf, rdA, hS] at h1
            by_cases hx2 : x2 = 0
            · subst hx2
              rw [if_pos rfl] at h1
              have hq2 : q2 ≤ s.size := by
                have := (sgnR_lo (s := bl s) (p := q') (lo := lo) (hi := hi) (by rw [hS])).2.2.1
                rw [hS] at this
                exact this
              have HE2 : Hid (rdA (bl s) lo hi (u - (a ++ [m]).length) (a ++ [m]) q2 = (l, q, y)) := by
                show _ = _
                rw [List.length_append, show u - (a.length + [m].length) = f by simp; omega]
                exact h1
              have hrow := hown.alloc (.cells #[.int .i64 m] 3)
              have hb3 : w.heap.size + 2 ≤ wr.heap.size := by have := HW.out.b2.lt; have := (hown.2); omega
              clear hS h1 hf HE
              go_wp2_with fail
              (with_reducible refine (rsigned_any s q' hq' hs lo hi m q2 0 HSS _).mono ?_)
              rintro e w2 ⟨rfl, hw2⟩
              subst hw2
              go_wp2_with (at_builtin; refine wpList_append_c rfl _ _ 22 rfl (w.heap.size + 2) 3 (.int .i64 0) 1 8 Tryd.underlying22 infoI rfl (by decide) _ _ _ rfl hrow ⟨w2.heap.size, 0, none⟩ 1 1 [.int .i64 m] rfl rfl (cell_one_new _ _ _) (by intro u hu; simp at hu; subst hu; rfl) (by unfold maxLen; omega) (by omega) (by simp; omega) ?_)
              intro v' w3 hown' hgrow
              rw [← i64c_snoc] at hown'
              have HO : Hid (w3.ownsRow (w.heap.size + 2) 3 1 v' (a ++ [m]).length (i64c (a ++ [m]))) := by show World.ownsRow _ _ _ _ _ _ _; rw [List.length_append]; exact hown'
              have HW3 : Hid (RiW w w3 s p) := by
                have h1 := HW.out.below ((Below.refl _ _).alloc (Nat.le_refl _) (.cells #[.int .i64 m] 3))
                have hne : ∀ j, Value.ownBlock _ = some j → w.heap.size + 2 ≤ j := fun j hj => (hrow.lt j hj).1
                refine ⟨h1.bel.grown hgrow h1.bel.size (fun j hj => by have := hne j hj; omega), h1.b1.grown hgrow (fun e1 => ?_), h1.b2.grown hgrow (fun e1 => ?_)⟩
                · have := hne _ e1.symm; omega
                · have := hne _ e1.symm; omega
              obtain ⟨A3, c3, hv3⟩ := row_form HO.out
              have HV3 : Hid (slLen v' = (a ++ [m]).length) := by show _ = _; rw [hv3]; rfl
              clear hgrow hrow hown' hown c0 c1 c2 hv3
              go_wp2_with fail
              go_roundw
              case rel => exact ⟨a ++ [m], q2, rfl, hq2, by simp; omega, HO.out, HW3, HE2⟩
              case measure =>
                show u - slLen v' < u - slLen (.slice A a.length cc)
                rw [HV3.out]
                simp [slLen]
                omega
            · rw [if_neg hx2] at h1
              simp only [Prod.mk.injEq] at h1
              obtain ⟨-, -, f3⟩ := h1
              subst f3
              obtain ⟨g1, g2⟩ := HTN.out.2 hx2
              subst g1 g2
              have qx : (x2 == 0) = false := by simpa using hx2
              have qx2 : (x2 != 0) = true := by simpa using hx2
              clear hS hf HE hx2 hown HTN
              go_wp2_with fail
              (with_reducible refine (rsigned_any s q' hq' hs lo hi m q2 x2 HSS _).mono ?_)
              rintro e w2 ⟨rfl, hw2⟩
              subst hw2
              go_wp2_with fail
              (with_reducible refine (rfail_any s (p : Int) x2 0 _).mono ?_)
              rintro e w3 ⟨rfl, hb⟩
              have HW3 := Lib.hid (HW.out.below hb)
              have r0 : w3.cell? ⟨w.heap.size + 1, 0, none⟩ = some (.string ⟨#[]⟩) := HW3.out.b2.cell 0
              have r1 : w3.cell? ⟨w.heap.size + 1, 1, none⟩ = some (.int .i64 0) := HW3.out.b2.cell 1
              have r2 : w3.cell? ⟨w.heap.size + 1, 2, none⟩ = some (.int .i64 0) := HW3.out.b2.cell 2
              have fz := HW3.out.b2.frozen
              clear hb c0 c1 c2
              go_wp2_with fail
              (try simp only [Exit.inBlock, Exit.then])
              refine bodyPost_ret (v := .tuple #[.agg #[.string s, .int .i64 (p : Int), .int .i64 x2], .slice none 0 0]) ?_ rfl ⟨.slice none 0 0, rfl, World.ownsRow_nil _ _ _ _, set3_bel HW3.out.bel (Nat.le_succ _) _ _ _⟩
              rw [results_cell_tmp rfl]
              go_simp
          · have hkk : u - a.length = 0 := by omega
            have h1 := HE.out
            rw [hkk, rdA] at h1
            simp only [Prod.mk.injEq] at h1
            obtain ⟨f1, f2, f3⟩ := h1
            obtain rfl : l = a := f1.symm
            obtain rfl : q = q' := f2.symm
            obtain rfl : y = 0 := f3.symm
            obtain ⟨g1, g2⟩ := HTN.out.1 rfl
            subst g1 g2
            have z2 : ¬ (N.length : Int) < (u : Int) := by omega
            have fz1 := HW.out.b1.frozen
            have fz := HW.out.b2.frozen
            have r0 : wr.cell? ⟨w.heap.size + 1, 0, none⟩ = some (.string ⟨#[]⟩) := HW.out.b2.cell 0
            have r1 : wr.cell? ⟨w.heap.size + 1, 1, none⟩ = some (.int .i64 0) := HW.out.b2.cell 1
            have r2 : wr.cell? ⟨w.heap.size + 1, 2, none⟩ = some (.int .i64 0) := HW.out.b2.cell 2
            have HO := Lib.hid hown
            clear HE hown
            go_wp2_with fail
            (try simp only [Exit.inBlock, Exit.then])
            have g0 := set_grown wr w.heap.size 1 (.int .i64 (q : Int))
            have hb0 : Below w.heap.size w (wr.setCell ⟨w.heap.size, 1, none⟩ (.int .i64 (q : Int))) := HW.out.bel.setCell (p := ⟨w.heap.size, 1, none⟩) (Nat.le_refl _) _
            refine bodyPost_ret (v := .tuple #[.agg #[.string s, .int .i64 (q : Int), .int .i64 0], .slice A N.length cc]) ?_ rfl ⟨.slice A N.length cc, rfl, ?_, set3_bel hb0 (Nat.le_succ _) _ _ _⟩
            · rw [results_cell_tmp rfl]
              go_simp
            · have h3 := ((set_grown (wr.setCell ⟨w.heap.size, 1, none⟩ (.int .i64 (q : Int))) (w.heap.size + 1) 0 (.string s)).trans (set_grown _ _ 1 (.int .i64 (q : Int)))).trans (set_grown _ _ 2 (.int .i64 0))
              have hne : ∀ j, Value.ownBlock (.slice A N.length cc) = some j → w.heap.size + 2 ≤ j := fun j hj => (HO.out.lt j hj).1
              have k1 := HO.out.kept g0 (by
                cases hv : (Value.ownBlock (.slice A N.length cc)) with
                | none => exact .inl rfl
                | some j => exact .inr fun e1 => by have := hne j hv; cases e1; omega)
              have k2 := k1.kept h3 (by
                cases hv : (Value.ownBlock (.slice A N.length cc)) with
                | none => exact .inl rfl
                | some j => exact .inr fun e1 => by have := hne j hv; cases e1; omega)
              exact ownsRow_base k2 (by omega)
      · rw [if_neg hmo] at hC
        rw [rdS_err rfl hC (by decide)] at h'
        simp only [Prod.mk.injEq] at h'
        obtain ⟨e1, e2⟩ := h'
        have HT := Lib.hid e1
        subst e2
        have z1 : (most : Int) < (u : Int) := by omega
        clear hN h e1 hC
        go_enter Tryd.func43, Tryd.ntmps43
        go_wp2_with fail
        (with_reducible refine (rnumber_any s p hp hs u r 0 HN _).mono ?_)
        rintro e w1 ⟨rfl, hw⟩
        subst hw
        go_wp2_with fail
        (with_reducible refine (rfail_any s (p : Int) 4 0 _).mono ?_)
        rintro e w1 ⟨rfl, hb⟩
        obtain ⟨B1, B2⟩ := two_cells hb
        have HW1 := Lib.hid (below_old (two_bel w _ _) hb)
        have r0 : w1.cell? ⟨w.heap.size + 1, 0, none⟩ = _ := B2.cell 0
        have r1 : w1.cell? ⟨w.heap.size + 1, 1, none⟩ = _ := B2.cell 1
        have r2 : w1.cell? ⟨w.heap.size + 1, 2, none⟩ = _ := B2.cell 2
        have fz := B2.frozen
        clear hb B1 B2
        go_wp2_with fail
        (try simp only [Exit.inBlock, Exit.then])
        refine bodyPost_ret (v := .tuple #[.agg #[.string s, .int .i64 (p : Int), .int .i64 4], .slice none 0 0]) ?_ rfl ⟨.slice none 0 0, ?_, World.ownsRow_nil _ _ _ _, set3_bel HW1.out (Nat.le_succ _) _ _ _⟩
        rotate_left
        · rw [← HT.out]
        · rw [results_cell_tmp rfl]
          go_simp
    · rw [if_neg hy] at hC
      rw [rdS_err rfl hC hy] at h'
      simp only [Prod.mk.injEq] at h'
      obtain ⟨e1, e2⟩ := h'
      have HT := Lib.hid e1
      subst e2
      have qx : (y == 0) = false := by simpa using hy
      have qx2 : (y != 0) = true := by simpa using hy
      clear hN h e1 hC hy
      go_enter Tryd.func43, Tryd.ntmps43
      go_wp2_with fail
      (with_reducible refine (rnumber_any s p hp hs u r y HN _).mono ?_)
      rintro e w1 ⟨rfl, hw⟩
      subst hw
      go_wp2_with fail
      (with_reducible refine (rfail_any s (p : Int) y 0 _).mono ?_)
      rintro e w1 ⟨rfl, hb⟩
      obtain ⟨B1, B2⟩ := two_cells hb
      have HW1 := Lib.hid (below_old (two_bel w _ _) hb)
      have r0 : w1.cell? ⟨w.heap.size + 1, 0, none⟩ = _ := B2.cell 0
      have r1 : w1.cell? ⟨w.heap.size + 1, 1, none⟩ = _ := B2.cell 1
      have r2 : w1.cell? ⟨w.heap.size + 1, 2, none⟩ = _ := B2.cell 2
      have fz := B2.frozen
      clear hb B1 B2
      go_wp2_with fail
      (try simp only [Exit.inBlock, Exit.then])
      refine bodyPost_ret (v := .tuple #[.agg #[.string s, .int .i64 (p : Int), .int .i64 y], .slice none 0 0]) ?_ rfl ⟨.slice none 0 0, ?_, World.ownsRow_nil _ _ _ _, set3_bel HW1.out (Nat.le_succ _) _ _ _⟩
      rotate_left
      · rw [← HT.out]
      · rw [results_cell_tmp rfl]
        go_simp
  · have h' := h.out
    rw [rdS_bad h0] at h'
    simp only [Prod.mk.injEq] at h'
    obtain ⟨e1, e2⟩ := h'
    subst e1 e2
    have qx : (t.2 == 0) = false := by simpa using h0
    have qx2 : (t.2 != 0) = true := by simpa using h0
    clear h h0
    go_enter Tryd.func43, Tryd.ntmps43
    go_wp2_with fail
    (try simp only [Exit.inBlock, Exit.then])
    refine bodyPost_ret (v := .tuple #[.agg #[.string s, .int .i64 (t.1 : Int), .int .i64 t.2], .slice none 0 0]) ?_ rfl ⟨.slice none 0 0, rfl, World.ownsRow_nil _ _ _ _, two_bel w _ _⟩
    rw [results_cell_tmp rfl]
    go_simp
theorem rleft_any (s : ByteArray) (t : St) (hp : t.1 ≤ s.size) (hs : (s.size : Int) ≤ 1000000) (w : World) :
    Calls Tryd.prog 70 #[rg s t] w fun e w' => e = .returned (.int .i64 ((s.size : Int) - (t.1 : Int))) ∧ Below w.heap.size w w' := by
  have z : (t.1 : Int) ≤ (s.size : Int) := by omega
  go_enter Tryd.func70, Tryd.ntmps70
  go_wp2_with fail
  go_ret
  exact ⟨ret_i rfl, (Below.refl _ _).alloc (Nat.le_refl _) _⟩
theorem rend_any (s : ByteArray) (t : St) (hp : t.1 ≤ s.size) (hs : (s.size : Int) ≤ 1000000) (x : Int) (hx : Hid (enE s.size t = x)) (w : World) :
    Calls Tryd.prog 44 #[rg s t] w fun e w' => e = .returned (.int .i64 x) ∧ Below w.heap.size w w' := by
  have h' := hx.out
  have hal := (Below.refl w.heap.size w).alloc (Nat.le_refl _) (.cells #[.string s, .int .i64 (t.1 : Int), .int .i64 t.2] 63)
  have HAL := Lib.hid hal
  have HBX : Hid (Blk (w.alloc (.cells #[.string s, .int .i64 (t.1 : Int), .int .i64 t.2] 63)) w.heap.size 63 #[.string s, .int .i64 (t.1 : Int), .int .i64 t.2]) := Blk.new _ _ _
  clear hal
  by_cases h0 : t.2 = 0
  · by_cases h1 : t.1 < s.size
    · rw [enE, if_pos h0, if_pos h1] at h'
      subst h'
      have z : (t.1 : Int) < (s.size : Int) := by omega
      have q : (t.2 == 0) = true := by simpa using h0
      clear h0
      go_enter Tryd.func44, Tryd.ntmps44
      go_wp2_with fail
      (with_reducible refine (rleft_any s t hp hs _).mono ?_)
      rintro e w1 ⟨rfl, hb⟩
      have HB := Lib.hid (below_old HAL.out hb)
      clear hb
      go_wp2_with fail
      go_ret
      exact ⟨rfl, HB.out⟩
    · rw [enE, if_pos h0, if_neg h1] at h'
      subst h'
      have z : ¬ (t.1 : Int) < (s.size : Int) := by omega
      have q : (t.2 == 0) = true := by simpa using h0
      have HT0 := Lib.hid h0
      clear h0
      go_enter Tryd.func44, Tryd.ntmps44
      go_wp2_with fail
      (with_reducible refine (rleft_any s t hp hs _).mono ?_)
      rintro e w1 ⟨rfl, hb⟩
      have HB := Lib.hid (below_old HAL.out hb)
      have c2 : w1.cell? ⟨w.heap.size, 2, none⟩ = some (.int .i64 t.2) := (Blk.below HBX.out hb).cell 2
      clear hb
      go_wp2_with fail
      go_ret
      exact ⟨ret_i HT0.out, HB.out⟩
  · rw [enE, if_neg h0] at h'
    subst h'
    have q : (t.2 == 0) = false := by simpa using h0
    have q2 : (t.2 != 0) = true := by simpa using h0
    clear h0
    go_enter Tryd.func44, Tryd.ntmps44
    go_wp2_with fail
    go_ret
    exact ⟨rfl, HAL.out⟩
theorem rnewr_any (s : ByteArray) (w : World) : Calls Tryd.prog 40 #[.string s] w fun e w' => e = .returned (rg s (0, 0)) ∧ Below w.heap.size w w' := by
  go_enter Tryd.func40, Tryd.ntmps40
  go_wp2_with fail
  (try simp only [Exit.inBlock, Exit.then])
  exact bodyPost_ret (results_cell_row rfl _ _ w.heap.size 63 _ (0, 0) _ rfl (heap_alloc_new w _) Tryd.underlying63 rfl (by kernel_rfl)) rfl ⟨rfl, (Below.refl _ _).alloc (Nat.le_refl _) _⟩
end Go.Proofs.YtcefmnkfkpoccaaDoor
