/- custody: check of a link with a parent. -/
import Derived.Test.YtpimmdmcmccbpaaDoorE9
namespace Go.Proofs.YtpimmdmcmccbpaaDoor
open Go.RowKit
set_option linter.unusedVariables false
open Cu (Lk Ls)
set_option maxRecDepth 100000 in
set_option maxHeartbeats 32000000 in
theorem check_none {B r : Nat} {L : Ls} {v : Value} {b1 b2 : Nat} (it pa : ByteArray) (ti vo : Int) (sp : ByteArray) (ha : Int) (hf : Fit_ ⟨it, pa, ti, vo, sp, ha⟩) (w : World) (HC : Hid (CReg w B r L v b1 b2)) (h : Cu.itB ⟨it, pa, ti, vo, sp, ha⟩) (hl : (L.length : Int) ≤ 2000) (hpa : pa ≠ ByteArray.empty) (hno : Cu.ix it L < L.length ∨ ¬ Cu.ix pa L < L.length) :
    Calls Tryd.prog 42 #[.pointer (some ⟨r, 0, none⟩), .agg #[.string it, .string pa, .int .i64 ti, .int .i64 vo, .string sp, .int .u64 ha]] w fun e w' => e = .returned (.int .i64 (Cu.chE L ⟨it, pa, ti, vo, sp, ha⟩)) ∧ Below w.heap.size w w' := by
  obtain ⟨i1, i2, i3, t0, t1, v0, v1⟩ := hf
  simp only at i1 i2 i3 t0 t1 v0 v1
  have hb : spE it = 0 ∧ ((spK it = 80) ↔ pa = ByteArray.empty) := h
  have HS3 : Hid (spE it = 0) := hb.1
  obtain ⟨kk, hkk⟩ : ∃ k, spK it = k := ⟨_, rfl⟩
  have hk8 : ¬ kk = 80 := fun e => hpa (hb.2.1 (hkk.trans e))
  have hk2 : (kk == 80) = false := by simpa using hk8
  obtain ⟨nn, hnn⟩ : ∃ k, spN it = k := ⟨_, rfl⟩
  have HS1 := Lib.hid hkk
  have HS2 := Lib.hid hnn
  have him : it.size ≤ maxLen := by unfold maxLen; omega
  have hpm : pa.size ≤ maxLen := by unfold maxLen; omega
  obtain ⟨q1, q2, q3⟩ := pa_some hpa
  clear hnn hb hkk
  by_cases h1 : Cu.ix it L < L.length
  · have HE := Lib.hid (Cu.chE_old h h1)
    obtain ⟨k, hk⟩ : ∃ k, Cu.ix it L = k := ⟨_, rfl⟩
    have HF1 : Hid (f1 L it = some (k : Int)) := by show _ = _; rw [f1_yes h1, hk]
    clear h h1 hk hno hpa
    have HK0 := Lib.hid (CkW.new HC.out ⟨it, pa, ti, vo, sp, ha⟩)
    go_enter Tryd.func42, Tryd.ntmps42
    go_wp2_with fail
    (with_reducible refine (split_eq it _ _ _ HS1 HS2 HS3 (by omega) _).mono ?_)
    rintro e w1 ⟨rfl, hb⟩
    have HK1 := Lib.hid (HK0.out.below hb)
    clear hb HK0
    obtain ⟨z0, z1, z2, z3, z4, z5⟩ := HK1.out.b.cells
    simp only at z0 z1 z2 z3 z4 z5
    go_wp2_with fail
    -- look up the item
    have k1 := HK1.out.c.c1
    have hlk : ∀ n, (Instr.lookup 80 (.map (some b1)) (.string it) true).run Tryd.prog (w1.drewN n) = .ok (.tuple #[.int .i64 k, .bool true]) (w1.drewN n) := fun n => by
      have := (HK1.out.c.m1.below (below_drewN (Below.refl _ _) n)).look it him
      rw [HF1.out] at this
      exact this
    go_quiet (fail)
    have HK2 := Lib.hid (HK1.out.below (below_drewN (Below.refl _ _) nq))
    clear hlk k1 z0 z1 z2 z3 z4 z5 HK1
    generalize w1.drewN nq = w2 at *
    obtain ⟨z0, z1, z2, z3, z4, z5⟩ := HK2.out.b.cells
    simp only at z0 z1 z2 z3 z4 z5
    go_wp2_with fail
    go_ret
    exact ⟨ret_int' HE.out.symm, HK2.out.bel⟩
  · have h2 : ¬ Cu.ix pa L < L.length := hno.resolve_left h1
    have HF1 : Hid (f1 L it = none) := f1_no h1
    have HF2 : Hid (f1 L pa = none) := f1_no h2
    have HE := Lib.hid (Cu.chE_none h h1 ⟨hpa, h2⟩)
    clear h h1 hno hpa h2
    have HK0 := Lib.hid (CkW.new HC.out ⟨it, pa, ti, vo, sp, ha⟩)
    go_enter Tryd.func42, Tryd.ntmps42
    go_wp2_with fail
    (with_reducible refine (split_eq it _ _ _ HS1 HS2 HS3 (by omega) _).mono ?_)
    rintro e w1 ⟨rfl, hb⟩
    have HK1 := Lib.hid (HK0.out.below hb)
    clear hb HK0
    obtain ⟨z0, z1, z2, z3, z4, z5⟩ := HK1.out.b.cells
    simp only at z0 z1 z2 z3 z4 z5
    go_wp2_with fail
    -- look up the item
    have k1 := HK1.out.c.c1
    have hlk : ∀ n, (Instr.lookup 80 (.map (some b1)) (.string it) true).run Tryd.prog (w1.drewN n) = .ok (.tuple #[.int .i64 0, .bool false]) (w1.drewN n) := fun n => by
      have := (HK1.out.c.m1.below (below_drewN (Below.refl _ _) n)).look it him
      rw [HF1.out] at this
      exact this
    go_quiet (fail)
    have HK2 := Lib.hid (HK1.out.below (below_drewN (Below.refl _ _) nq))
    clear hlk k1 z0 z1 z2 z3 z4 z5 HK1
    generalize w1.drewN nq = w2 at *
    obtain ⟨z0, z1, z2, z3, z4, z5⟩ := HK2.out.b.cells
    simp only at z0 z1 z2 z3 z4 z5
    go_wp2_with fail
    -- look up the parent
    have k1 := HK2.out.c.c1
    have hlk : ∀ n, (Instr.lookup 80 (.map (some b1)) (.string pa) true).run Tryd.prog (w2.drewN n) = .ok (.tuple #[.int .i64 0, .bool false]) (w2.drewN n) := fun n => by
      have := (HK2.out.c.m1.below (below_drewN (Below.refl _ _) n)).look pa hpm
      rw [HF2.out] at this
      exact this
    go_quiet (fail)
    have HK3 := Lib.hid (HK2.out.below (below_drewN (Below.refl _ _) nq))
    clear hlk k1 z0 z1 z2 z3 z4 z5 HK2
    generalize w2.drewN nq = w3 at *
    obtain ⟨z0, z1, z2, z3, z4, z5⟩ := HK3.out.b.cells
    simp only at z0 z1 z2 z3 z4 z5
    go_wp2_with fail
    go_ret
    exact ⟨ret_int' HE.out.symm, HK3.out.bel⟩
end Go.Proofs.YtpimmdmcmccbpaaDoor
