/- custody: check of a link without a parent. -/
import Derived.Test.YtpimmdmcmccbpaaDoorE8
namespace Go.Proofs.YtpimmdmcmccbpaaDoor
open Go.RowKit
set_option linter.unusedVariables false
open Cu (Lk Ls)

set_option maxRecDepth 100000 in
set_option maxHeartbeats 32000000 in
theorem check_root {B r : Nat} {L : Ls} {v : Value} {b1 b2 : Nat} (it : ByteArray) (ti vo : Int) (sp : ByteArray) (ha : Int) (hf : Fit_ ⟨it, ByteArray.empty, ti, vo, sp, ha⟩) (w : World) (HC : Hid (CReg w B r L v b1 b2)) (h : Cu.itB ⟨it, ByteArray.empty, ti, vo, sp, ha⟩) (hl : (L.length : Int) ≤ 2000) (HNE : Hid (¬ Cu.ix ByteArray.empty L < L.length)) :
    Calls Tryd.prog 42 #[.pointer (some ⟨r, 0, none⟩), .agg #[.string it, .string ByteArray.empty, .int .i64 ti, .int .i64 vo, .string sp, .int .u64 ha]] w fun e w' => e = .returned (.int .i64 (Cu.chE L ⟨it, ByteArray.empty, ti, vo, sp, ha⟩)) ∧ Below w.heap.size w w' := by
  obtain ⟨i1, i2, i3, t0, t1, v0, v1⟩ := hf
  simp only at i1 i2 i3 t0 t1 v0 v1
  have hb : spE it = 0 ∧ ((spK it = 80) ↔ ByteArray.empty = ByteArray.empty) := h
  have HS1 : Hid (spK it = 80) := hb.2.2 rfl
  have HS3 : Hid (spE it = 0) := hb.1
  obtain ⟨nn, hnn⟩ : ∃ k, spN it = k := ⟨_, rfl⟩
  have HS2 := Lib.hid hnn
  have him : it.size ≤ maxLen := by unfold maxLen; omega
  have hpm : ByteArray.empty.size ≤ maxLen := by decide
  have HF2 : Hid (f1 L ByteArray.empty = none) := f1_no HNE.out
  have hpar : Cu.par L ⟨it, ByteArray.empty, ti, vo, sp, ha⟩ = none := Cu.par_none HNE.out
  have hnd : ¬ Cu.ndB L ⟨it, ByteArray.empty, ti, vo, sp, ha⟩ := fun g => g.1 rfl
  have hqu : Cu.quB L ⟨it, ByteArray.empty, ti, vo, sp, ha⟩ := fun p hp => by rw [hpar] at hp; cases hp
  clear hnn hb
  by_cases h1 : Cu.ix it L < L.length
  · have HE := Lib.hid (Cu.chE_old h h1)
    obtain ⟨k, hk⟩ : ∃ k, Cu.ix it L = k := ⟨_, rfl⟩
    have HF1 : Hid (f1 L it = some (k : Int)) := by show _ = _; rw [f1_yes h1, hk]
    clear h h1 hk hnd hqu hpar
    have HK0 := Lib.hid (CkW.new HC.out ⟨it, ByteArray.empty, ti, vo, sp, ha⟩)
    go_enter Tryd.func42, Tryd.ntmps42
    go_wp2_with fail
    (with_reducible refine (split_eq it _ _ _ HS1 HS2 HS3 (by omega) _).mono ?_)
    rintro e w1 ⟨rfl, hb⟩
    have HK1 := Lib.hid (HK0.out.below hb)
    clear hb HK0
    obtain ⟨z0, z1, z2, z3, z4, z5⟩ := HK1.out.b.cells
    simp only at z0 z1 z2 z3 z4 z5
    go_wp2_with fail
    -- look up the item
    have k1 := HK1.out.c.c1
    have hlk : ∀ n, (Instr.lookup 80 (.map (some b1)) (.string it) true).run Tryd.prog (w1.drewN n) = .ok (.tuple #[.int .i64 k, .bool true]) (w1.drewN n) := fun n => by
      have := (HK1.out.c.m1.below (below_drewN (Below.refl _ _) n)).look it him
      rw [HF1.out] at this
      exact this
    go_quiet (fail)
    have HK2 := Lib.hid (HK1.out.below (below_drewN (Below.refl _ _) nq))
    clear hlk k1 z0 z1 z2 z3 z4 z5 HK1
    generalize w1.drewN nq = w2 at *
    obtain ⟨z0, z1, z2, z3, z4, z5⟩ := HK2.out.b.cells
    simp only at z0 z1 z2 z3 z4 z5
    go_wp2_with fail
    go_ret
    exact ⟨ret_int' HE.out.symm, HK2.out.bel⟩
  have HF1 : Hid (f1 L it = none) := f1_no h1
  by_cases h3 : Cu.tiB L ⟨it, ByteArray.empty, ti, vo, sp, ha⟩
  rotate_left
  · have HE := Lib.hid (Cu.chE_time h h1 hnd h3)
    have h4 : ¬ (0 ≤ ti ∧ ti ≤ 10000000) := fun g => h3 ⟨g.1, g.2, fun p hp => by rw [hpar] at hp; cases hp⟩
    clear h h1 hnd hqu hpar h3
    by_cases g1 : ti < 0
    · clear h4
      have HK0 := Lib.hid (CkW.new HC.out ⟨it, ByteArray.empty, ti, vo, sp, ha⟩)
      go_enter Tryd.func42, Tryd.ntmps42
      go_wp2_with fail
      (with_reducible refine (split_eq it _ _ _ HS1 HS2 HS3 (by omega) _).mono ?_)
      rintro e w1 ⟨rfl, hb⟩
      have HK1 := Lib.hid (HK0.out.below hb)
      clear hb HK0
      obtain ⟨z0, z1, z2, z3, z4, z5⟩ := HK1.out.b.cells
      simp only at z0 z1 z2 z3 z4 z5
      go_wp2_with fail
      -- look up the item
      have k1 := HK1.out.c.c1
      have hlk : ∀ n, (Instr.lookup 80 (.map (some b1)) (.string it) true).run Tryd.prog (w1.drewN n) = .ok (.tuple #[.int .i64 0, .bool false]) (w1.drewN n) := fun n => by
        have := (HK1.out.c.m1.below (below_drewN (Below.refl _ _) n)).look it him
        rw [HF1.out] at this
        exact this
      go_quiet (fail)
      have HK2 := Lib.hid (HK1.out.below (below_drewN (Below.refl _ _) nq))
      clear hlk k1 z0 z1 z2 z3 z4 z5 HK1
      generalize w1.drewN nq = w2 at *
      obtain ⟨z0, z1, z2, z3, z4, z5⟩ := HK2.out.b.cells
      simp only at z0 z1 z2 z3 z4 z5
      go_wp2_with fail
      -- look up the parent
      have k1 := HK2.out.c.c1
      have hlk : ∀ n, (Instr.lookup 80 (.map (some b1)) (.string ByteArray.empty) true).run Tryd.prog (w2.drewN n) = .ok (.tuple #[.int .i64 0, .bool false]) (w2.drewN n) := fun n => by
        have := (HK2.out.c.m1.below (below_drewN (Below.refl _ _) n)).look ByteArray.empty hpm
        rw [HF2.out] at this
        exact this
      go_quiet (fail)
      have HK3 := Lib.hid (HK2.out.below (below_drewN (Below.refl _ _) nq))
      clear hlk k1 z0 z1 z2 z3 z4 z5 HK2
      generalize w2.drewN nq = w3 at *
      obtain ⟨z0, z1, z2, z3, z4, z5⟩ := HK3.out.b.cells
      simp only at z0 z1 z2 z3 z4 z5
      go_wp2_with fail
      skip
      skip
      go_quiet (fail)
      have HK4 := Lib.hid (HK3.out.below (below_drewN (Below.refl _ _) nq))
      clear z0 z1 z2 z3 z4 z5 HK3
      generalize w3.drewN nq = w4 at *
      obtain ⟨z0, z1, z2, z3, z4, z5⟩ := HK4.out.b.cells
      simp only at z0 z1 z2 z3 z4 z5
      go_wp2_with fail
      go_ret
      exact ⟨ret_int' HE.out.symm, HK4.out.bel⟩
    · have g2 : 10000000 < ti := by omega
      clear h4
      have HK0 := Lib.hid (CkW.new HC.out ⟨it, ByteArray.empty, ti, vo, sp, ha⟩)
      go_enter Tryd.func42, Tryd.ntmps42
      go_wp2_with fail
      (with_reducible refine (split_eq it _ _ _ HS1 HS2 HS3 (by omega) _).mono ?_)
      rintro e w1 ⟨rfl, hb⟩
      have HK1 := Lib.hid (HK0.out.below hb)
      clear hb HK0
      obtain ⟨z0, z1, z2, z3, z4, z5⟩ := HK1.out.b.cells
      simp only at z0 z1 z2 z3 z4 z5
      go_wp2_with fail
      -- look up the item
      have k1 := HK1.out.c.c1
      have hlk : ∀ n, (Instr.lookup 80 (.map (some b1)) (.string it) true).run Tryd.prog (w1.drewN n) = .ok (.tuple #[.int .i64 0, .bool false]) (w1.drewN n) := fun n => by
        have := (HK1.out.c.m1.below (below_drewN (Below.refl _ _) n)).look it him
        rw [HF1.out] at this
        exact this
      go_quiet (fail)
      have HK2 := Lib.hid (HK1.out.below (below_drewN (Below.refl _ _) nq))
      clear hlk k1 z0 z1 z2 z3 z4 z5 HK1
      generalize w1.drewN nq = w2 at *
      obtain ⟨z0, z1, z2, z3, z4, z5⟩ := HK2.out.b.cells
      simp only at z0 z1 z2 z3 z4 z5
      go_wp2_with fail
      -- look up the parent
      have k1 := HK2.out.c.c1
      have hlk : ∀ n, (Instr.lookup 80 (.map (some b1)) (.string ByteArray.empty) true).run Tryd.prog (w2.drewN n) = .ok (.tuple #[.int .i64 0, .bool false]) (w2.drewN n) := fun n => by
        have := (HK2.out.c.m1.below (below_drewN (Below.refl _ _) n)).look ByteArray.empty hpm
        rw [HF2.out] at this
        exact this
      go_quiet (fail)
      have HK3 := Lib.hid (HK2.out.below (below_drewN (Below.refl _ _) nq))
      clear hlk k1 z0 z1 z2 z3 z4 z5 HK2
      generalize w2.drewN nq = w3 at *
      obtain ⟨z0, z1, z2, z3, z4, z5⟩ := HK3.out.b.cells
      simp only at z0 z1 z2 z3 z4 z5
      go_wp2_with fail
      have e1 : decide (ti < 0) = false := by simpa using g1
      skip
      go_quiet (fail)
      have HK4 := Lib.hid (HK3.out.below (below_drewN (Below.refl _ _) nq))
      clear z0 z1 z2 z3 z4 z5 HK3
      generalize w3.drewN nq = w4 at *
      obtain ⟨z0, z1, z2, z3, z4, z5⟩ := HK4.out.b.cells
      simp only at z0 z1 z2 z3 z4 z5
      go_wp2_with fail
      go_ret
      exact ⟨ret_int' HE.out.symm, HK4.out.bel⟩
  have g1 : 0 ≤ ti := h3.1
  have g2 : ti ≤ 10000000 := h3.2.1
  by_cases h4 : Cu.spB L ⟨it, ByteArray.empty, ti, vo, sp, ha⟩
  rotate_left
  · have HE := Lib.hid (Cu.chE_species h h1 hnd h3 h4)
    have HNM : Hid (nameB sp = false) := by
      show _ = _
      cases hn : nameB sp with
      | false => rfl
      | true => exact absurd ⟨hn, fun p hp => by rw [hpar] at hp; cases hp⟩ h4
    clear h h1 hnd hqu hpar h3 h4
    have HK0 := Lib.hid (CkW.new HC.out ⟨it, ByteArray.empty, ti, vo, sp, ha⟩)
    go_enter Tryd.func42, Tryd.ntmps42
    go_wp2_with fail
    (with_reducible refine (split_eq it _ _ _ HS1 HS2 HS3 (by omega) _).mono ?_)
    rintro e w1 ⟨rfl, hb⟩
    have HK1 := Lib.hid (HK0.out.below hb)
    clear hb HK0
    obtain ⟨z0, z1, z2, z3, z4, z5⟩ := HK1.out.b.cells
    simp only at z0 z1 z2 z3 z4 z5
    go_wp2_with fail
    -- look up the item
    have k1 := HK1.out.c.c1
    have hlk : ∀ n, (Instr.lookup 80 (.map (some b1)) (.string it) true).run Tryd.prog (w1.drewN n) = .ok (.tuple #[.int .i64 0, .bool false]) (w1.drewN n) := fun n => by
      have := (HK1.out.c.m1.below (below_drewN (Below.refl _ _) n)).look it him
      rw [HF1.out] at this
      exact this
    go_quiet (fail)
    have HK2 := Lib.hid (HK1.out.below (below_drewN (Below.refl _ _) nq))
    clear hlk k1 z0 z1 z2 z3 z4 z5 HK1
    generalize w1.drewN nq = w2 at *
    obtain ⟨z0, z1, z2, z3, z4, z5⟩ := HK2.out.b.cells
    simp only at z0 z1 z2 z3 z4 z5
    go_wp2_with fail
    -- look up the parent
    have k1 := HK2.out.c.c1
    have hlk : ∀ n, (Instr.lookup 80 (.map (some b1)) (.string ByteArray.empty) true).run Tryd.prog (w2.drewN n) = .ok (.tuple #[.int .i64 0, .bool false]) (w2.drewN n) := fun n => by
      have := (HK2.out.c.m1.below (below_drewN (Below.refl _ _) n)).look ByteArray.empty hpm
      rw [HF2.out] at this
      exact this
    go_quiet (fail)
    have HK3 := Lib.hid (HK2.out.below (below_drewN (Below.refl _ _) nq))
    clear hlk k1 z0 z1 z2 z3 z4 z5 HK2
    generalize w2.drewN nq = w3 at *
    obtain ⟨z0, z1, z2, z3, z4, z5⟩ := HK3.out.b.cells
    simp only at z0 z1 z2 z3 z4 z5
    go_wp2_with fail
    have e12 : decide (ti < 0) = false ∧ decide (10000000 < ti) = false := ⟨decide_eq_false (by omega), decide_eq_false (by omega)⟩
    obtain ⟨e1, e2⟩ := e12
    go_quiet (fail)
    have HK4 := Lib.hid (HK3.out.below (below_drewN (Below.refl _ _) nq))
    clear z0 z1 z2 z3 z4 z5 HK3
    generalize w3.drewN nq = w4 at *
    obtain ⟨z0, z1, z2, z3, z4, z5⟩ := HK4.out.b.cells
    simp only at z0 z1 z2 z3 z4 z5
    go_wp2_with fail
    go_quiet ((go_at_call 48; (with_reducible exact Calls.quiet_of_same (iname_eq sp _ HNM (by omega) _))))
    have HK5 := Lib.hid (HK4.out.below (below_drewN (Below.refl _ _) nq))
    clear z0 z1 z2 z3 z4 z5 HK4
    generalize w4.drewN nq = w5 at *
    obtain ⟨z0, z1, z2, z3, z4, z5⟩ := HK5.out.b.cells
    simp only at z0 z1 z2 z3 z4 z5
    go_wp2_with fail
    go_ret
    exact ⟨ret_int' HE.out.symm, HK5.out.bel⟩
  have HNM : Hid (nameB sp = true) := h4.1
  by_cases h5 : Cu.voB ⟨it, ByteArray.empty, ti, vo, sp, ha⟩
  rotate_left
  · have HE := Lib.hid (Cu.chE_range h h1 hnd h3 h4 h5)
    have h6 : ¬ (0 ≤ vo ∧ vo ≤ 1125899906842624) := h5
    clear h h1 hnd hqu hpar h3 h4 h5
    by_cases g3 : vo < 0
    · clear h6
      have HK0 := Lib.hid (CkW.new HC.out ⟨it, ByteArray.empty, ti, vo, sp, ha⟩)
      go_enter Tryd.func42, Tryd.ntmps42
      go_wp2_with fail
      (with_reducible refine (split_eq it _ _ _ HS1 HS2 HS3 (by omega) _).mono ?_)
      rintro e w1 ⟨rfl, hb⟩
      have HK1 := Lib.hid (HK0.out.below hb)
      clear hb HK0
      obtain ⟨z0, z1, z2, z3, z4, z5⟩ := HK1.out.b.cells
      simp only at z0 z1 z2 z3 z4 z5
      go_wp2_with fail
      -- look up the item
      have k1 := HK1.out.c.c1
      have hlk : ∀ n, (Instr.lookup 80 (.map (some b1)) (.string it) true).run Tryd.prog (w1.drewN n) = .ok (.tuple #[.int .i64 0, .bool false]) (w1.drewN n) := fun n => by
        have := (HK1.out.c.m1.below (below_drewN (Below.refl _ _) n)).look it him
        rw [HF1.out] at this
        exact this
      go_quiet (fail)
      have HK2 := Lib.hid (HK1.out.below (below_drewN (Below.refl _ _) nq))
      clear hlk k1 z0 z1 z2 z3 z4 z5 HK1
      generalize w1.drewN nq = w2 at *
      obtain ⟨z0, z1, z2, z3, z4, z5⟩ := HK2.out.b.cells
      simp only at z0 z1 z2 z3 z4 z5
      go_wp2_with fail
      -- look up the parent
      have k1 := HK2.out.c.c1
      have hlk : ∀ n, (Instr.lookup 80 (.map (some b1)) (.string ByteArray.empty) true).run Tryd.prog (w2.drewN n) = .ok (.tuple #[.int .i64 0, .bool false]) (w2.drewN n) := fun n => by
        have := (HK2.out.c.m1.below (below_drewN (Below.refl _ _) n)).look ByteArray.empty hpm
        rw [HF2.out] at this
        exact this
      go_quiet (fail)
      have HK3 := Lib.hid (HK2.out.below (below_drewN (Below.refl _ _) nq))
      clear hlk k1 z0 z1 z2 z3 z4 z5 HK2
      generalize w2.drewN nq = w3 at *
      obtain ⟨z0, z1, z2, z3, z4, z5⟩ := HK3.out.b.cells
      simp only at z0 z1 z2 z3 z4 z5
      go_wp2_with fail
      have e12 : decide (ti < 0) = false ∧ decide (10000000 < ti) = false := ⟨decide_eq_false (by omega), decide_eq_false (by omega)⟩
      obtain ⟨e1, e2⟩ := e12
      go_quiet (fail)
      have HK4 := Lib.hid (HK3.out.below (below_drewN (Below.refl _ _) nq))
      clear z0 z1 z2 z3 z4 z5 HK3
      generalize w3.drewN nq = w4 at *
      obtain ⟨z0, z1, z2, z3, z4, z5⟩ := HK4.out.b.cells
      simp only at z0 z1 z2 z3 z4 z5
      go_wp2_with fail
      go_quiet ((go_at_call 48; (with_reducible exact Calls.quiet_of_same (iname_eq sp _ HNM (by omega) _))))
      have HK5 := Lib.hid (HK4.out.below (below_drewN (Below.refl _ _) nq))
      clear z0 z1 z2 z3 z4 z5 HK4
      generalize w4.drewN nq = w5 at *
      obtain ⟨z0, z1, z2, z3, z4, z5⟩ := HK5.out.b.cells
      simp only at z0 z1 z2 z3 z4 z5
      go_wp2_with fail
      go_ret
      exact ⟨ret_int' HE.out.symm, HK5.out.bel⟩
    · have g4 : 1125899906842624 < vo := by omega
      clear h6
      have HK0 := Lib.hid (CkW.new HC.out ⟨it, ByteArray.empty, ti, vo, sp, ha⟩)
      go_enter Tryd.func42, Tryd.ntmps42
      go_wp2_with fail
      (with_reducible refine (split_eq it _ _ _ HS1 HS2 HS3 (by omega) _).mono ?_)
      rintro e w1 ⟨rfl, hb⟩
      have HK1 := Lib.hid (HK0.out.below hb)
      clear hb HK0
      obtain ⟨z0, z1, z2, z3, z4, z5⟩ := HK1.out.b.cells
      simp only at z0 z1 z2 z3 z4 z5
      go_wp2_with fail
      -- look up the item
      have k1 := HK1.out.c.c1
      have hlk : ∀ n, (Instr.lookup 80 (.map (some b1)) (.string it) true).run Tryd.prog (w1.drewN n) = .ok (.tuple #[.int .i64 0, .bool false]) (w1.drewN n) := fun n => by
        have := (HK1.out.c.m1.below (below_drewN (Below.refl _ _) n)).look it him
        rw [HF1.out] at this
        exact this
      go_quiet (fail)
      have HK2 := Lib.hid (HK1.out.below (below_drewN (Below.refl _ _) nq))
      clear hlk k1 z0 z1 z2 z3 z4 z5 HK1
      generalize w1.drewN nq = w2 at *
      obtain ⟨z0, z1, z2, z3, z4, z5⟩ := HK2.out.b.cells
      simp only at z0 z1 z2 z3 z4 z5
      go_wp2_with fail
      -- look up the parent
      have k1 := HK2.out.c.c1
      have hlk : ∀ n, (Instr.lookup 80 (.map (some b1)) (.string ByteArray.empty) true).run Tryd.prog (w2.drewN n) = .ok (.tuple #[.int .i64 0, .bool false]) (w2.drewN n) := fun n => by
        have := (HK2.out.c.m1.below (below_drewN (Below.refl _ _) n)).look ByteArray.empty hpm
        rw [HF2.out] at this
        exact this
      go_quiet (fail)
      have HK3 := Lib.hid (HK2.out.below (below_drewN (Below.refl _ _) nq))
      clear hlk k1 z0 z1 z2 z3 z4 z5 HK2
      generalize w2.drewN nq = w3 at *
      obtain ⟨z0, z1, z2, z3, z4, z5⟩ := HK3.out.b.cells
      simp only at z0 z1 z2 z3 z4 z5
      go_wp2_with fail
      have e12 : decide (ti < 0) = false ∧ decide (10000000 < ti) = false := ⟨decide_eq_false (by omega), decide_eq_false (by omega)⟩
      obtain ⟨e1, e2⟩ := e12
      go_quiet (fail)
      have HK4 := Lib.hid (HK3.out.below (below_drewN (Below.refl _ _) nq))
      clear z0 z1 z2 z3 z4 z5 HK3
      generalize w3.drewN nq = w4 at *
      obtain ⟨z0, z1, z2, z3, z4, z5⟩ := HK4.out.b.cells
      simp only at z0 z1 z2 z3 z4 z5
      go_wp2_with fail
      go_quiet ((go_at_call 48; (with_reducible exact Calls.quiet_of_same (iname_eq sp _ HNM (by omega) _))))
      have HK5 := Lib.hid (HK4.out.below (below_drewN (Below.refl _ _) nq))
      clear z0 z1 z2 z3 z4 z5 HK4
      generalize w4.drewN nq = w5 at *
      obtain ⟨z0, z1, z2, z3, z4, z5⟩ := HK5.out.b.cells
      simp only at z0 z1 z2 z3 z4 z5
      go_wp2_with fail
      go_ret
      exact ⟨ret_int' HE.out.symm, HK5.out.bel⟩
  have g3 : 0 ≤ vo := h5.1
  have g4 : vo ≤ 1125899906842624 := h5.2
  by_cases h7 : L.length < 1024
  · have HE := Lib.hid (Cu.chE_ok h h1 hnd h3 h4 h5 hqu h7)
    have g5 : (L.length : Int) < 1024 := by omega
    clear h h1 hnd hqu hpar h3 h4 h5 h7
    have HK0 := Lib.hid (CkW.new HC.out ⟨it, ByteArray.empty, ti, vo, sp, ha⟩)
    go_enter Tryd.func42, Tryd.ntmps42
    go_wp2_with fail
    (with_reducible refine (split_eq it _ _ _ HS1 HS2 HS3 (by omega) _).mono ?_)
    rintro e w1 ⟨rfl, hb⟩
    have HK1 := Lib.hid (HK0.out.below hb)
    clear hb HK0
    obtain ⟨z0, z1, z2, z3, z4, z5⟩ := HK1.out.b.cells
    simp only at z0 z1 z2 z3 z4 z5
    go_wp2_with fail
    -- look up the item
    have k1 := HK1.out.c.c1
    have hlk : ∀ n, (Instr.lookup 80 (.map (some b1)) (.string it) true).run Tryd.prog (w1.drewN n) = .ok (.tuple #[.int .i64 0, .bool false]) (w1.drewN n) := fun n => by
      have := (HK1.out.c.m1.below (below_drewN (Below.refl _ _) n)).look it him
      rw [HF1.out] at this
      exact this
    go_quiet (fail)
    have HK2 := Lib.hid (HK1.out.below (below_drewN (Below.refl _ _) nq))
    clear hlk k1 z0 z1 z2 z3 z4 z5 HK1
    generalize w1.drewN nq = w2 at *
    obtain ⟨z0, z1, z2, z3, z4, z5⟩ := HK2.out.b.cells
    simp only at z0 z1 z2 z3 z4 z5
    go_wp2_with fail
    -- look up the parent
    have k1 := HK2.out.c.c1
    have hlk : ∀ n, (Instr.lookup 80 (.map (some b1)) (.string ByteArray.empty) true).run Tryd.prog (w2.drewN n) = .ok (.tuple #[.int .i64 0, .bool false]) (w2.drewN n) := fun n => by
      have := (HK2.out.c.m1.below (below_drewN (Below.refl _ _) n)).look ByteArray.empty hpm
      rw [HF2.out] at this
      exact this
    go_quiet (fail)
    have HK3 := Lib.hid (HK2.out.below (below_drewN (Below.refl _ _) nq))
    clear hlk k1 z0 z1 z2 z3 z4 z5 HK2
    generalize w2.drewN nq = w3 at *
    obtain ⟨z0, z1, z2, z3, z4, z5⟩ := HK3.out.b.cells
    simp only at z0 z1 z2 z3 z4 z5
    go_wp2_with fail
    have e12 : decide (ti < 0) = false ∧ decide (10000000 < ti) = false := ⟨decide_eq_false (by omega), decide_eq_false (by omega)⟩
    obtain ⟨e1, e2⟩ := e12
    go_quiet (fail)
    have HK4 := Lib.hid (HK3.out.below (below_drewN (Below.refl _ _) nq))
    clear z0 z1 z2 z3 z4 z5 HK3
    generalize w3.drewN nq = w4 at *
    obtain ⟨z0, z1, z2, z3, z4, z5⟩ := HK4.out.b.cells
    simp only at z0 z1 z2 z3 z4 z5
    go_wp2_with fail
    go_quiet ((go_at_call 48; (with_reducible exact Calls.quiet_of_same (iname_eq sp _ HNM (by omega) _))))
    have HK5 := Lib.hid (HK4.out.below (below_drewN (Below.refl _ _) nq))
    clear z0 z1 z2 z3 z4 z5 HK4
    generalize w4.drewN nq = w5 at *
    obtain ⟨z0, z1, z2, z3, z4, z5⟩ := HK5.out.b.cells
    simp only at z0 z1 z2 z3 z4 z5
    go_wp2_with fail
    go_quiet (fail)
    have HK6 := Lib.hid (HK5.out.below (below_drewN (Below.refl _ _) nq))
    clear z0 z1 z2 z3 z4 z5 HK5
    generalize w5.drewN nq = w6 at *
    obtain ⟨A, c, hv⟩ := row_form HK6.out.c.row
    subst hv
    have k0 := HK6.out.c.c0
    go_wp2_with fail
    go_ret
    exact ⟨ret_int' HE.out.symm, HK6.out.bel⟩
  · have HE := Lib.hid (Cu.chE_full h h1 hnd h3 h4 h5 hqu h7)
    have g5 : ¬ (L.length : Int) < 1024 := by omega
    clear h h1 hnd hqu hpar h3 h4 h5 h7
    have HK0 := Lib.hid (CkW.new HC.out ⟨it, ByteArray.empty, ti, vo, sp, ha⟩)
    go_enter Tryd.func42, Tryd.ntmps42
    go_wp2_with fail
    (with_reducible refine (split_eq it _ _ _ HS1 HS2 HS3 (by omega) _).mono ?_)
    rintro e w1 ⟨rfl, hb⟩
    have HK1 := Lib.hid (HK0.out.below hb)
    clear hb HK0
    obtain ⟨z0, z1, z2, z3, z4, z5⟩ := HK1.out.b.cells
    simp only at z0 z1 z2 z3 z4 z5
    go_wp2_with fail
    -- look up the item
    have k1 := HK1.out.c.c1
    have hlk : ∀ n, (Instr.lookup 80 (.map (some b1)) (.string it) true).run Tryd.prog (w1.drewN n) = .ok (.tuple #[.int .i64 0, .bool false]) (w1.drewN n) := fun n => by
      have := (HK1.out.c.m1.below (below_drewN (Below.refl _ _) n)).look it him
      rw [HF1.out] at this
      exact this
    go_quiet (fail)
    have HK2 := Lib.hid (HK1.out.below (below_drewN (Below.refl _ _) nq))
    clear hlk k1 z0 z1 z2 z3 z4 z5 HK1
    generalize w1.drewN nq = w2 at *
    obtain ⟨z0, z1, z2, z3, z4, z5⟩ := HK2.out.b.cells
    simp only at z0 z1 z2 z3 z4 z5
    go_wp2_with fail
    -- look up the parent
    have k1 := HK2.out.c.c1
    have hlk : ∀ n, (Instr.lookup 80 (.map (some b1)) (.string ByteArray.empty) true).run Tryd.prog (w2.drewN n) = .ok (.tuple #[.int .i64 0, .bool false]) (w2.drewN n) := fun n => by
      have := (HK2.out.c.m1.below (below_drewN (Below.refl _ _) n)).look ByteArray.empty hpm
      rw [HF2.out] at this
      exact this
    go_quiet (fail)
    have HK3 := Lib.hid (HK2.out.below (below_drewN (Below.refl _ _) nq))
    clear hlk k1 z0 z1 z2 z3 z4 z5 HK2
    generalize w2.drewN nq = w3 at *
    obtain ⟨z0, z1, z2, z3, z4, z5⟩ := HK3.out.b.cells
    simp only at z0 z1 z2 z3 z4 z5
    go_wp2_with fail
    have e12 : decide (ti < 0) = false ∧ decide (10000000 < ti) = false := ⟨decide_eq_false (by omega), decide_eq_false (by omega)⟩
    obtain ⟨e1, e2⟩ := e12
    go_quiet (fail)
    have HK4 := Lib.hid (HK3.out.below (below_drewN (Below.refl _ _) nq))
    clear z0 z1 z2 z3 z4 z5 HK3
    generalize w3.drewN nq = w4 at *
    obtain ⟨z0, z1, z2, z3, z4, z5⟩ := HK4.out.b.cells
    simp only at z0 z1 z2 z3 z4 z5
    go_wp2_with fail
    go_quiet ((go_at_call 48; (with_reducible exact Calls.quiet_of_same (iname_eq sp _ HNM (by omega) _))))
    have HK5 := Lib.hid (HK4.out.below (below_drewN (Below.refl _ _) nq))
    clear z0 z1 z2 z3 z4 z5 HK4
    generalize w4.drewN nq = w5 at *
    obtain ⟨z0, z1, z2, z3, z4, z5⟩ := HK5.out.b.cells
    simp only at z0 z1 z2 z3 z4 z5
    go_wp2_with fail
    go_quiet (fail)
    have HK6 := Lib.hid (HK5.out.below (below_drewN (Below.refl _ _) nq))
    clear z0 z1 z2 z3 z4 z5 HK5
    generalize w5.drewN nq = w6 at *
    obtain ⟨A, c, hv⟩ := row_form HK6.out.c.row
    subst hv
    have k0 := HK6.out.c.c0
    go_wp2_with fail
    go_ret
    exact ⟨ret_int' HE.out.symm, HK6.out.bel⟩
end Go.Proofs.YtpimmdmcmccbpaaDoor
