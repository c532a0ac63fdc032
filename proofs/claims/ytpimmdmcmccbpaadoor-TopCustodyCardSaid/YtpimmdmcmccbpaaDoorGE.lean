/- custody: check of a link whose parent is there. -/
import Derived.Test.YtpimmdmcmccbpaaDoorEA
namespace Go.Proofs.YtpimmdmcmccbpaaDoor
open Go.RowKit
set_option linter.unusedVariables false
open Cu (Lk Ls)
/-- A link with a parent: what the walks take. -/
structure Kid (L : Ls) (it pa : ByteArray) (ti vo : Int) (sp : ByteArray) (ha : Int) (k : Nat) (e : Lk) (kk nn gg : Int) : Prop where
  i1 : (it.size : Int) ≤ 1000
  i2 : (pa.size : Int) ≤ 1000
  i3 : (sp.size : Int) ≤ 1000
  hk : k < L.length
  he : L[k]? = some e
  s1 : spK it = kk
  s2 : spN it = nn
  s3 : spE it = 0
  k8 : ¬ kk = 80
  n1 : f1 L it = none
  n2 : f1 L pa = some (k : Int)
  np : pa ≠ ByteArray.empty
  g2 : (f2 L pa).getD 0 = gg
  g0 : 0 ≤ gg
  g1 : gg ≤ 1125899906842624
  pr : Cu.par L ⟨it, pa, ti, vo, sp, ha⟩ = some e
set_option maxRecDepth 100000 in
set_option maxHeartbeats 32000000 in
theorem kid_t1 {B r : Nat} {L : Ls} {v : Value} {b1 b2 : Nat} {it pa : ByteArray} {ti vo : Int} {sp : ByteArray} {ha : Int} {k : Nat} {e : Lk} {kk nn gg E : Int} (HKid : Hid (Kid L it pa ti vo sp ha k e kk nn gg)) (w : World) (HC : Hid (CReg w B r L v b1 b2)) (hl : (L.length : Int) ≤ 2000) (HE : Hid (Cu.chE L ⟨it, pa, ti, vo, sp, ha⟩ = E)) (hE : E = 15) (g1 : ti < 0) :
    Calls Tryd.prog 42 #[.pointer (some ⟨r, 0, none⟩), .agg #[.string it, .string pa, .int .i64 ti, .int .i64 vo, .string sp, .int .u64 ha]] w fun e w' => e = .returned (.int .i64 (Cu.chE L ⟨it, pa, ti, vo, sp, ha⟩)) ∧ Below w.heap.size w w' := by
  subst hE
  obtain ⟨i1, i2, i3, hk, hek, hs1, hs2, hs3, hk8, hf1, hf2, hpa, hg2, gg0, gg1, hpar⟩ := HKid.out
  have HS1 := Lib.hid hs1
  have HS2 := Lib.hid hs2
  have HS3 := Lib.hid hs3
  have HF1 := Lib.hid hf1
  have HF2 := Lib.hid hf2
  have HG2 := Lib.hid hg2
  have HEK : Hid (L[k] = e) := by show _ = _; rw [List.getElem?_eq_getElem hk] at hek; exact Option.some.inj hek
  have hk2 : (kk == 80) = false := by simpa using hk8
  have him : it.size ≤ maxLen := by unfold maxLen; omega
  have hpm : pa.size ≤ maxLen := by unfold maxLen; omega
  obtain ⟨q1, q2, q3⟩ := pa_some hpa
  have zk : (k : Int) < (L.length : Int) := by omega
  clear hek hs1 hs2 hs3 hk8 hf1 hf2 hpa hg2 hpar HKid
  obtain ⟨A, c, hv⟩ := row_form HC.out.row
  subst hv
  obtain ⟨bb, off, hA, hbl, _, _, _, _, _, _⟩ := (row_slr HC.out.row _ _ rfl).link hk
  subst hA
  have HK0 := Lib.hid (CkW.new HC.out ⟨it, pa, ti, vo, sp, ha⟩)
  go_enter Tryd.func42, Tryd.ntmps42
  go_wp2_with fail
  (with_reducible refine (split_eq it _ _ _ HS1 HS2 HS3 (by omega) _).mono ?_)
  rintro e w1 ⟨rfl, hb⟩
  have HK1 := Lib.hid (HK0.out.below hb)
  clear hb HK0
  obtain ⟨z0, z1, z2, z3, z4, z5⟩ := HK1.out.b.cells
  simp only at z0 z1 z2 z3 z4 z5
  go_wp2_with fail
  -- look up the item
  have k1 := HK1.out.c.c1
  have hlk : ∀ n, (Instr.lookup 80 (.map (some b1)) (.string it) true).run Tryd.prog (w1.drewN n) = .ok (.tuple #[.int .i64 0, .bool false]) (w1.drewN n) := fun n => by
    have := (HK1.out.c.m1.below (below_drewN (Below.refl _ _) n)).look it him
    rw [HF1.out] at this
    exact this
  go_quiet (fail)
  have HK2 := Lib.hid (HK1.out.below (below_drewN (Below.refl _ _) nq))
  clear hlk k1 z0 z1 z2 z3 z4 z5 HK1
  generalize w1.drewN nq = w2 at *
  obtain ⟨z0, z1, z2, z3, z4, z5⟩ := HK2.out.b.cells
  simp only at z0 z1 z2 z3 z4 z5
  go_wp2_with fail
  -- look up the parent
  have k1 := HK2.out.c.c1
  have hlk : ∀ n, (Instr.lookup 80 (.map (some b1)) (.string pa) true).run Tryd.prog (w2.drewN n) = .ok (.tuple #[.int .i64 k, .bool true]) (w2.drewN n) := fun n => by
    have := (HK2.out.c.m1.below (below_drewN (Below.refl _ _) n)).look pa hpm
    rw [HF2.out] at this
    exact this
  go_quiet (fail)
  have HK3 := Lib.hid (HK2.out.below (below_drewN (Below.refl _ _) nq))
  clear hlk k1 z0 z1 z2 z3 z4 z5 HK2
  generalize w2.drewN nq = w3 at *
  obtain ⟨z0, z1, z2, z3, z4, z5⟩ := HK3.out.b.cells
  simp only at z0 z1 z2 z3 z4 z5
  go_wp2_with fail
  obtain ⟨bb', off', hA', hbl', p0, p1, p2, p3, p4, p5⟩ := (row_slr HK3.out.c.row _ _ rfl).link hk
  simp only [Option.some.injEq, Addr.mk.injEq, and_true] at hA'
  obtain ⟨rfl, rfl⟩ := hA'
  rw [HEK.out] at p0 p1 p2 p3 p4 p5
  have k0 := HK3.out.c.c0
  skip
  skip
  go_quiet (fail)
  have HK4 := Lib.hid (HK3.out.below (below_drewN (Below.refl _ _) nq))
  clear z0 z1 z2 z3 z4 z5 HK3 p0 p1 p2 p3 p4 p5 k0
  generalize w3.drewN nq = w4 at *
  obtain ⟨z0, z1, z2, z3, z4, z5⟩ := HK4.out.b.cells
  simp only at z0 z1 z2 z3 z4 z5
  obtain ⟨bb', off', hA', hbl', p0, p1, p2, p3, p4, p5⟩ := (row_slr HK4.out.c.row _ _ rfl).link hk
  simp only [Option.some.injEq, Addr.mk.injEq, and_true] at hA'
  obtain ⟨rfl, rfl⟩ := hA'
  rw [HEK.out] at p0 p1 p2 p3 p4 p5
  have k0 := HK4.out.c.c0
  go_wp2_with fail
  go_ret
  exact ⟨ret_int' HE.out.symm, HK4.out.bel⟩
set_option maxRecDepth 100000 in
set_option maxHeartbeats 32000000 in
theorem kid_t2 {B r : Nat} {L : Ls} {v : Value} {b1 b2 : Nat} {it pa : ByteArray} {ti vo : Int} {sp : ByteArray} {ha : Int} {k : Nat} {e : Lk} {kk nn gg E : Int} (HKid : Hid (Kid L it pa ti vo sp ha k e kk nn gg)) (w : World) (HC : Hid (CReg w B r L v b1 b2)) (hl : (L.length : Int) ≤ 2000) (HE : Hid (Cu.chE L ⟨it, pa, ti, vo, sp, ha⟩ = E)) (hE : E = 15) (g1 : ¬ ti < 0) (g2 : 10000000 < ti) :
    Calls Tryd.prog 42 #[.pointer (some ⟨r, 0, none⟩), .agg #[.string it, .string pa, .int .i64 ti, .int .i64 vo, .string sp, .int .u64 ha]] w fun e w' => e = .returned (.int .i64 (Cu.chE L ⟨it, pa, ti, vo, sp, ha⟩)) ∧ Below w.heap.size w w' := by
  subst hE
  obtain ⟨i1, i2, i3, hk, hek, hs1, hs2, hs3, hk8, hf1, hf2, hpa, hg2, gg0, gg1, hpar⟩ := HKid.out
  have HS1 := Lib.hid hs1
  have HS2 := Lib.hid hs2
  have HS3 := Lib.hid hs3
  have HF1 := Lib.hid hf1
  have HF2 := Lib.hid hf2
  have HG2 := Lib.hid hg2
  have HEK : Hid (L[k] = e) := by show _ = _; rw [List.getElem?_eq_getElem hk] at hek; exact Option.some.inj hek
  have hk2 : (kk == 80) = false := by simpa using hk8
  have him : it.size ≤ maxLen := by unfold maxLen; omega
  have hpm : pa.size ≤ maxLen := by unfold maxLen; omega
  obtain ⟨q1, q2, q3⟩ := pa_some hpa
  have zk : (k : Int) < (L.length : Int) := by omega
  clear hek hs1 hs2 hs3 hk8 hf1 hf2 hpa hg2 hpar HKid
  obtain ⟨A, c, hv⟩ := row_form HC.out.row
  subst hv
  obtain ⟨bb, off, hA, hbl, _, _, _, _, _, _⟩ := (row_slr HC.out.row _ _ rfl).link hk
  subst hA
  have HK0 := Lib.hid (CkW.new HC.out ⟨it, pa, ti, vo, sp, ha⟩)
  go_enter Tryd.func42, Tryd.ntmps42
  go_wp2_with fail
  (with_reducible refine (split_eq it _ _ _ HS1 HS2 HS3 (by omega) _).mono ?_)
  rintro e w1 ⟨rfl, hb⟩
  have HK1 := Lib.hid (HK0.out.below hb)
  clear hb HK0
  obtain ⟨z0, z1, z2, z3, z4, z5⟩ := HK1.out.b.cells
  simp only at z0 z1 z2 z3 z4 z5
  go_wp2_with fail
  -- look up the item
  have k1 := HK1.out.c.c1
  have hlk : ∀ n, (Instr.lookup 80 (.map (some b1)) (.string it) true).run Tryd.prog (w1.drewN n) = .ok (.tuple #[.int .i64 0, .bool false]) (w1.drewN n) := fun n => by
    have := (HK1.out.c.m1.below (below_drewN (Below.refl _ _) n)).look it him
    rw [HF1.out] at this
    exact this
  go_quiet (fail)
  have HK2 := Lib.hid (HK1.out.below (below_drewN (Below.refl _ _) nq))
  clear hlk k1 z0 z1 z2 z3 z4 z5 HK1
  generalize w1.drewN nq = w2 at *
  obtain ⟨z0, z1, z2, z3, z4, z5⟩ := HK2.out.b.cells
  simp only at z0 z1 z2 z3 z4 z5
  go_wp2_with fail
  -- look up the parent
  have k1 := HK2.out.c.c1
  have hlk : ∀ n, (Instr.lookup 80 (.map (some b1)) (.string pa) true).run Tryd.prog (w2.drewN n) = .ok (.tuple #[.int .i64 k, .bool true]) (w2.drewN n) := fun n => by
    have := (HK2.out.c.m1.below (below_drewN (Below.refl _ _) n)).look pa hpm
    rw [HF2.out] at this
    exact this
  go_quiet (fail)
  have HK3 := Lib.hid (HK2.out.below (below_drewN (Below.refl _ _) nq))
  clear hlk k1 z0 z1 z2 z3 z4 z5 HK2
  generalize w2.drewN nq = w3 at *
  obtain ⟨z0, z1, z2, z3, z4, z5⟩ := HK3.out.b.cells
  simp only at z0 z1 z2 z3 z4 z5
  go_wp2_with fail
  obtain ⟨bb', off', hA', hbl', p0, p1, p2, p3, p4, p5⟩ := (row_slr HK3.out.c.row _ _ rfl).link hk
  simp only [Option.some.injEq, Addr.mk.injEq, and_true] at hA'
  obtain ⟨rfl, rfl⟩ := hA'
  rw [HEK.out] at p0 p1 p2 p3 p4 p5
  have k0 := HK3.out.c.c0
  have e1 : decide (ti < 0) = false := by simpa using g1
  skip
  go_quiet (fail)
  have HK4 := Lib.hid (HK3.out.below (below_drewN (Below.refl _ _) nq))
  clear z0 z1 z2 z3 z4 z5 HK3 p0 p1 p2 p3 p4 p5 k0
  generalize w3.drewN nq = w4 at *
  obtain ⟨z0, z1, z2, z3, z4, z5⟩ := HK4.out.b.cells
  simp only at z0 z1 z2 z3 z4 z5
  obtain ⟨bb', off', hA', hbl', p0, p1, p2, p3, p4, p5⟩ := (row_slr HK4.out.c.row _ _ rfl).link hk
  simp only [Option.some.injEq, Addr.mk.injEq, and_true] at hA'
  obtain ⟨rfl, rfl⟩ := hA'
  rw [HEK.out] at p0 p1 p2 p3 p4 p5
  have k0 := HK4.out.c.c0
  go_wp2_with fail
  go_ret
  exact ⟨ret_int' HE.out.symm, HK4.out.bel⟩
set_option maxRecDepth 100000 in
set_option maxHeartbeats 32000000 in
theorem kid_t3 {B r : Nat} {L : Ls} {v : Value} {b1 b2 : Nat} {it pa : ByteArray} {ti vo : Int} {sp : ByteArray} {ha : Int} {k : Nat} {e : Lk} {kk nn gg E : Int} (HKid : Hid (Kid L it pa ti vo sp ha k e kk nn gg)) (w : World) (HC : Hid (CReg w B r L v b1 b2)) (hl : (L.length : Int) ≤ 2000) (HE : Hid (Cu.chE L ⟨it, pa, ti, vo, sp, ha⟩ = E)) (hE : E = 15) (g1 : 0 ≤ ti) (g2 : ti ≤ 10000000) (g3 : ti < e.ti) :
    Calls Tryd.prog 42 #[.pointer (some ⟨r, 0, none⟩), .agg #[.string it, .string pa, .int .i64 ti, .int .i64 vo, .string sp, .int .u64 ha]] w fun e w' => e = .returned (.int .i64 (Cu.chE L ⟨it, pa, ti, vo, sp, ha⟩)) ∧ Below w.heap.size w w' := by
  subst hE
  obtain ⟨i1, i2, i3, hk, hek, hs1, hs2, hs3, hk8, hf1, hf2, hpa, hg2, gg0, gg1, hpar⟩ := HKid.out
  have HS1 := Lib.hid hs1
  have HS2 := Lib.hid hs2
  have HS3 := Lib.hid hs3
  have HF1 := Lib.hid hf1
  have HF2 := Lib.hid hf2
  have HG2 := Lib.hid hg2
  have HEK : Hid (L[k] = e) := by show _ = _; rw [List.getElem?_eq_getElem hk] at hek; exact Option.some.inj hek
  have hk2 : (kk == 80) = false := by simpa using hk8
  have him : it.size ≤ maxLen := by unfold maxLen; omega
  have hpm : pa.size ≤ maxLen := by unfold maxLen; omega
  obtain ⟨q1, q2, q3⟩ := pa_some hpa
  have zk : (k : Int) < (L.length : Int) := by omega
  clear hek hs1 hs2 hs3 hk8 hf1 hf2 hpa hg2 hpar HKid
  obtain ⟨A, c, hv⟩ := row_form HC.out.row
  subst hv
  obtain ⟨bb, off, hA, hbl, _, _, _, _, _, _⟩ := (row_slr HC.out.row _ _ rfl).link hk
  subst hA
  have HK0 := Lib.hid (CkW.new HC.out ⟨it, pa, ti, vo, sp, ha⟩)
  go_enter Tryd.func42, Tryd.ntmps42
  go_wp2_with fail
  (with_reducible refine (split_eq it _ _ _ HS1 HS2 HS3 (by omega) _).mono ?_)
  rintro e w1 ⟨rfl, hb⟩
  have HK1 := Lib.hid (HK0.out.below hb)
  clear hb HK0
  obtain ⟨z0, z1, z2, z3, z4, z5⟩ := HK1.out.b.cells
  simp only at z0 z1 z2 z3 z4 z5
  go_wp2_with fail
  -- look up the item
  have k1 := HK1.out.c.c1
  have hlk : ∀ n, (Instr.lookup 80 (.map (some b1)) (.string it) true).run Tryd.prog (w1.drewN n) = .ok (.tuple #[.int .i64 0, .bool false]) (w1.drewN n) := fun n => by
    have := (HK1.out.c.m1.below (below_drewN (Below.refl _ _) n)).look it him
    rw [HF1.out] at this
    exact this
  go_quiet (fail)
  have HK2 := Lib.hid (HK1.out.below (below_drewN (Below.refl _ _) nq))
  clear hlk k1 z0 z1 z2 z3 z4 z5 HK1
  generalize w1.drewN nq = w2 at *
  obtain ⟨z0, z1, z2, z3, z4, z5⟩ := HK2.out.b.cells
  simp only at z0 z1 z2 z3 z4 z5
  go_wp2_with fail
  -- look up the parent
  have k1 := HK2.out.c.c1
  have hlk : ∀ n, (Instr.lookup 80 (.map (some b1)) (.string pa) true).run Tryd.prog (w2.drewN n) = .ok (.tuple #[.int .i64 k, .bool true]) (w2.drewN n) := fun n => by
    have := (HK2.out.c.m1.below (below_drewN (Below.refl _ _) n)).look pa hpm
    rw [HF2.out] at this
    exact this
  go_quiet (fail)
  have HK3 := Lib.hid (HK2.out.below (below_drewN (Below.refl _ _) nq))
  clear hlk k1 z0 z1 z2 z3 z4 z5 HK2
  generalize w2.drewN nq = w3 at *
  obtain ⟨z0, z1, z2, z3, z4, z5⟩ := HK3.out.b.cells
  simp only at z0 z1 z2 z3 z4 z5
  go_wp2_with fail
  obtain ⟨bb', off', hA', hbl', p0, p1, p2, p3, p4, p5⟩ := (row_slr HK3.out.c.row _ _ rfl).link hk
  simp only [Option.some.injEq, Addr.mk.injEq, and_true] at hA'
  obtain ⟨rfl, rfl⟩ := hA'
  rw [HEK.out] at p0 p1 p2 p3 p4 p5
  have k0 := HK3.out.c.c0
  have e12 : decide (ti < 0) = false ∧ decide (10000000 < ti) = false := ⟨decide_eq_false (by omega), decide_eq_false (by omega)⟩
  obtain ⟨e1, e2⟩ := e12
  go_quiet (fail)
  have HK4 := Lib.hid (HK3.out.below (below_drewN (Below.refl _ _) nq))
  clear z0 z1 z2 z3 z4 z5 HK3 p0 p1 p2 p3 p4 p5 k0
  generalize w3.drewN nq = w4 at *
  obtain ⟨z0, z1, z2, z3, z4, z5⟩ := HK4.out.b.cells
  simp only at z0 z1 z2 z3 z4 z5
  obtain ⟨bb', off', hA', hbl', p0, p1, p2, p3, p4, p5⟩ := (row_slr HK4.out.c.row _ _ rfl).link hk
  simp only [Option.some.injEq, Addr.mk.injEq, and_true] at hA'
  obtain ⟨rfl, rfl⟩ := hA'
  rw [HEK.out] at p0 p1 p2 p3 p4 p5
  have k0 := HK4.out.c.c0
  go_wp2_with fail
  go_ret
  exact ⟨ret_int' HE.out.symm, HK4.out.bel⟩
set_option maxRecDepth 100000 in
set_option maxHeartbeats 32000000 in
theorem kid_s1 {B r : Nat} {L : Ls} {v : Value} {b1 b2 : Nat} {it pa : ByteArray} {ti vo : Int} {sp : ByteArray} {ha : Int} {k : Nat} {e : Lk} {kk nn gg E : Int} (HKid : Hid (Kid L it pa ti vo sp ha k e kk nn gg)) (w : World) (HC : Hid (CReg w B r L v b1 b2)) (hl : (L.length : Int) ≤ 2000) (HE : Hid (Cu.chE L ⟨it, pa, ti, vo, sp, ha⟩ = E)) (hE : E = 24) (g1 : 0 ≤ ti) (g2 : ti ≤ 10000000) (g3 : e.ti ≤ ti) (HNM : Hid (nameB sp = false)) :
    Calls Tryd.prog 42 #[.pointer (some ⟨r, 0, none⟩), .agg #[.string it, .string pa, .int .i64 ti, .int .i64 vo, .string sp, .int .u64 ha]] w fun e w' => e = .returned (.int .i64 (Cu.chE L ⟨it, pa, ti, vo, sp, ha⟩)) ∧ Below w.heap.size w w' := by
  subst hE
  obtain ⟨i1, i2, i3, hk, hek, hs1, hs2, hs3, hk8, hf1, hf2, hpa, hg2, gg0, gg1, hpar⟩ := HKid.out
  have HS1 := Lib.hid hs1
  have HS2 := Lib.hid hs2
  have HS3 := Lib.hid hs3
  have HF1 := Lib.hid hf1
  have HF2 := Lib.hid hf2
  have HG2 := Lib.hid hg2
  have HEK : Hid (L[k] = e) := by show _ = _; rw [List.getElem?_eq_getElem hk] at hek; exact Option.some.inj hek
  have hk2 : (kk == 80) = false := by simpa using hk8
  have him : it.size ≤ maxLen := by unfold maxLen; omega
  have hpm : pa.size ≤ maxLen := by unfold maxLen; omega
  obtain ⟨q1, q2, q3⟩ := pa_some hpa
  have zk : (k : Int) < (L.length : Int) := by omega
  clear hek hs1 hs2 hs3 hk8 hf1 hf2 hpa hg2 hpar HKid
  obtain ⟨A, c, hv⟩ := row_form HC.out.row
  subst hv
  obtain ⟨bb, off, hA, hbl, _, _, _, _, _, _⟩ := (row_slr HC.out.row _ _ rfl).link hk
  subst hA
  have HK0 := Lib.hid (CkW.new HC.out ⟨it, pa, ti, vo, sp, ha⟩)
  go_enter Tryd.func42, Tryd.ntmps42
  go_wp2_with fail
  (with_reducible refine (split_eq it _ _ _ HS1 HS2 HS3 (by omega) _).mono ?_)
  rintro e w1 ⟨rfl, hb⟩
  have HK1 := Lib.hid (HK0.out.below hb)
  clear hb HK0
  obtain ⟨z0, z1, z2, z3, z4, z5⟩ := HK1.out.b.cells
  simp only at z0 z1 z2 z3 z4 z5
  go_wp2_with fail
  -- look up the item
  have k1 := HK1.out.c.c1
  have hlk : ∀ n, (Instr.lookup 80 (.map (some b1)) (.string it) true).run Tryd.prog (w1.drewN n) = .ok (.tuple #[.int .i64 0, .bool false]) (w1.drewN n) := fun n => by
    have := (HK1.out.c.m1.below (below_drewN (Below.refl _ _) n)).look it him
    rw [HF1.out] at this
    exact this
  go_quiet (fail)
  have HK2 := Lib.hid (HK1.out.below (below_drewN (Below.refl _ _) nq))
  clear hlk k1 z0 z1 z2 z3 z4 z5 HK1
  generalize w1.drewN nq = w2 at *
  obtain ⟨z0, z1, z2, z3, z4, z5⟩ := HK2.out.b.cells
  simp only at z0 z1 z2 z3 z4 z5
  go_wp2_with fail
  -- look up the parent
  have k1 := HK2.out.c.c1
  have hlk : ∀ n, (Instr.lookup 80 (.map (some b1)) (.string pa) true).run Tryd.prog (w2.drewN n) = .ok (.tuple #[.int .i64 k, .bool true]) (w2.drewN n) := fun n => by
    have := (HK2.out.c.m1.below (below_drewN (Below.refl _ _) n)).look pa hpm
    rw [HF2.out] at this
    exact this
  go_quiet (fail)
  have HK3 := Lib.hid (HK2.out.below (below_drewN (Below.refl _ _) nq))
  clear hlk k1 z0 z1 z2 z3 z4 z5 HK2
  generalize w2.drewN nq = w3 at *
  obtain ⟨z0, z1, z2, z3, z4, z5⟩ := HK3.out.b.cells
  simp only at z0 z1 z2 z3 z4 z5
  go_wp2_with fail
  obtain ⟨bb', off', hA', hbl', p0, p1, p2, p3, p4, p5⟩ := (row_slr HK3.out.c.row _ _ rfl).link hk
  simp only [Option.some.injEq, Addr.mk.injEq, and_true] at hA'
  obtain ⟨rfl, rfl⟩ := hA'
  rw [HEK.out] at p0 p1 p2 p3 p4 p5
  have k0 := HK3.out.c.c0
  have e12 : decide (ti < 0) = false ∧ decide (10000000 < ti) = false := ⟨decide_eq_false (by omega), decide_eq_false (by omega)⟩
  obtain ⟨e1, e2⟩ := e12
  go_quiet (fail)
  have HK4 := Lib.hid (HK3.out.below (below_drewN (Below.refl _ _) nq))
  clear z0 z1 z2 z3 z4 z5 HK3 p0 p1 p2 p3 p4 p5 k0
  generalize w3.drewN nq = w4 at *
  obtain ⟨z0, z1, z2, z3, z4, z5⟩ := HK4.out.b.cells
  simp only at z0 z1 z2 z3 z4 z5
  obtain ⟨bb', off', hA', hbl', p0, p1, p2, p3, p4, p5⟩ := (row_slr HK4.out.c.row _ _ rfl).link hk
  simp only [Option.some.injEq, Addr.mk.injEq, and_true] at hA'
  obtain ⟨rfl, rfl⟩ := hA'
  rw [HEK.out] at p0 p1 p2 p3 p4 p5
  have k0 := HK4.out.c.c0
  go_wp2_with fail
  go_quiet ((go_at_call 48; (with_reducible exact Calls.quiet_of_same (iname_eq sp _ HNM (by omega) _))))
  have HK5 := Lib.hid (HK4.out.below (below_drewN (Below.refl _ _) nq))
  clear z0 z1 z2 z3 z4 z5 HK4 p0 p1 p2 p3 p4 p5 k0
  generalize w4.drewN nq = w5 at *
  obtain ⟨z0, z1, z2, z3, z4, z5⟩ := HK5.out.b.cells
  simp only at z0 z1 z2 z3 z4 z5
  obtain ⟨bb', off', hA', hbl', p0, p1, p2, p3, p4, p5⟩ := (row_slr HK5.out.c.row _ _ rfl).link hk
  simp only [Option.some.injEq, Addr.mk.injEq, and_true] at hA'
  obtain ⟨rfl, rfl⟩ := hA'
  rw [HEK.out] at p0 p1 p2 p3 p4 p5
  have k0 := HK5.out.c.c0
  go_wp2_with fail
  go_ret
  exact ⟨ret_int' HE.out.symm, HK5.out.bel⟩
set_option maxRecDepth 100000 in
set_option maxHeartbeats 32000000 in
theorem kid_s2 {B r : Nat} {L : Ls} {v : Value} {b1 b2 : Nat} {it pa : ByteArray} {ti vo : Int} {sp : ByteArray} {ha : Int} {k : Nat} {e : Lk} {kk nn gg E : Int} (HKid : Hid (Kid L it pa ti vo sp ha k e kk nn gg)) (w : World) (HC : Hid (CReg w B r L v b1 b2)) (hl : (L.length : Int) ≤ 2000) (HE : Hid (Cu.chE L ⟨it, pa, ti, vo, sp, ha⟩ = E)) (hE : E = 24) (g1 : 0 ≤ ti) (g2 : ti ≤ 10000000) (g3 : e.ti ≤ ti) (HNM : Hid (nameB sp = true)) (hs : ¬ sp = e.sp) :
    Calls Tryd.prog 42 #[.pointer (some ⟨r, 0, none⟩), .agg #[.string it, .string pa, .int .i64 ti, .int .i64 vo, .string sp, .int .u64 ha]] w fun e w' => e = .returned (.int .i64 (Cu.chE L ⟨it, pa, ti, vo, sp, ha⟩)) ∧ Below w.heap.size w w' := by
  subst hE
  have hq := seq_f hs
  clear hs
  obtain ⟨i1, i2, i3, hk, hek, hs1, hs2, hs3, hk8, hf1, hf2, hpa, hg2, gg0, gg1, hpar⟩ := HKid.out
  have HS1 := Lib.hid hs1
  have HS2 := Lib.hid hs2
  have HS3 := Lib.hid hs3
  have HF1 := Lib.hid hf1
  have HF2 := Lib.hid hf2
  have HG2 := Lib.hid hg2
  have HEK : Hid (L[k] = e) := by show _ = _; rw [List.getElem?_eq_getElem hk] at hek; exact Option.some.inj hek
  have hk2 : (kk == 80) = false := by simpa using hk8
  have him : it.size ≤ maxLen := by unfold maxLen; omega
  have hpm : pa.size ≤ maxLen := by unfold maxLen; omega
  obtain ⟨q1, q2, q3⟩ := pa_some hpa
  have zk : (k : Int) < (L.length : Int) := by omega
  clear hek hs1 hs2 hs3 hk8 hf1 hf2 hpa hg2 hpar HKid
  obtain ⟨A, c, hv⟩ := row_form HC.out.row
  subst hv
  obtain ⟨bb, off, hA, hbl, _, _, _, _, _, _⟩ := (row_slr HC.out.row _ _ rfl).link hk
  subst hA
  have HK0 := Lib.hid (CkW.new HC.out ⟨it, pa, ti, vo, sp, ha⟩)
  go_enter Tryd.func42, Tryd.ntmps42
  go_wp2_with fail
  (with_reducible refine (split_eq it _ _ _ HS1 HS2 HS3 (by omega) _).mono ?_)
  rintro e w1 ⟨rfl, hb⟩
  have HK1 := Lib.hid (HK0.out.below hb)
  clear hb HK0
  obtain ⟨z0, z1, z2, z3, z4, z5⟩ := HK1.out.b.cells
  simp only at z0 z1 z2 z3 z4 z5
  go_wp2_with fail
  -- look up the item
  have k1 := HK1.out.c.c1
  have hlk : ∀ n, (Instr.lookup 80 (.map (some b1)) (.string it) true).run Tryd.prog (w1.drewN n) = .ok (.tuple #[.int .i64 0, .bool false]) (w1.drewN n) := fun n => by
    have := (HK1.out.c.m1.below (below_drewN (Below.refl _ _) n)).look it him
    rw [HF1.out] at this
    exact this
  go_quiet (fail)
  have HK2 := Lib.hid (HK1.out.below (below_drewN (Below.refl _ _) nq))
  clear hlk k1 z0 z1 z2 z3 z4 z5 HK1
  generalize w1.drewN nq = w2 at *
  obtain ⟨z0, z1, z2, z3, z4, z5⟩ := HK2.out.b.cells
  simp only at z0 z1 z2 z3 z4 z5
  go_wp2_with fail
  -- look up the parent
  have k1 := HK2.out.c.c1
  have hlk : ∀ n, (Instr.lookup 80 (.map (some b1)) (.string pa) true).run Tryd.prog (w2.drewN n) = .ok (.tuple #[.int .i64 k, .bool true]) (w2.drewN n) := fun n => by
    have := (HK2.out.c.m1.below (below_drewN (Below.refl _ _) n)).look pa hpm
    rw [HF2.out] at this
    exact this
  go_quiet (fail)
  have HK3 := Lib.hid (HK2.out.below (below_drewN (Below.refl _ _) nq))
  clear hlk k1 z0 z1 z2 z3 z4 z5 HK2
  generalize w2.drewN nq = w3 at *
  obtain ⟨z0, z1, z2, z3, z4, z5⟩ := HK3.out.b.cells
  simp only at z0 z1 z2 z3 z4 z5
  go_wp2_with fail
  obtain ⟨bb', off', hA', hbl', p0, p1, p2, p3, p4, p5⟩ := (row_slr HK3.out.c.row _ _ rfl).link hk
  simp only [Option.some.injEq, Addr.mk.injEq, and_true] at hA'
  obtain ⟨rfl, rfl⟩ := hA'
  rw [HEK.out] at p0 p1 p2 p3 p4 p5
  have k0 := HK3.out.c.c0
  have e12 : decide (ti < 0) = false ∧ decide (10000000 < ti) = false := ⟨decide_eq_false (by omega), decide_eq_false (by omega)⟩
  obtain ⟨e1, e2⟩ := e12
  go_quiet (fail)
  have HK4 := Lib.hid (HK3.out.below (below_drewN (Below.refl _ _) nq))
  clear z0 z1 z2 z3 z4 z5 HK3 p0 p1 p2 p3 p4 p5 k0
  generalize w3.drewN nq = w4 at *
  obtain ⟨z0, z1, z2, z3, z4, z5⟩ := HK4.out.b.cells
  simp only at z0 z1 z2 z3 z4 z5
  obtain ⟨bb', off', hA', hbl', p0, p1, p2, p3, p4, p5⟩ := (row_slr HK4.out.c.row _ _ rfl).link hk
  simp only [Option.some.injEq, Addr.mk.injEq, and_true] at hA'
  obtain ⟨rfl, rfl⟩ := hA'
  rw [HEK.out] at p0 p1 p2 p3 p4 p5
  have k0 := HK4.out.c.c0
  go_wp2_with fail
  go_quiet ((go_at_call 48; (with_reducible exact Calls.quiet_of_same (iname_eq sp _ HNM (by omega) _))))
  have HK5 := Lib.hid (HK4.out.below (below_drewN (Below.refl _ _) nq))
  clear z0 z1 z2 z3 z4 z5 HK4 p0 p1 p2 p3 p4 p5 k0
  generalize w4.drewN nq = w5 at *
  obtain ⟨z0, z1, z2, z3, z4, z5⟩ := HK5.out.b.cells
  simp only at z0 z1 z2 z3 z4 z5
  obtain ⟨bb', off', hA', hbl', p0, p1, p2, p3, p4, p5⟩ := (row_slr HK5.out.c.row _ _ rfl).link hk
  simp only [Option.some.injEq, Addr.mk.injEq, and_true] at hA'
  obtain ⟨rfl, rfl⟩ := hA'
  rw [HEK.out] at p0 p1 p2 p3 p4 p5
  have k0 := HK5.out.c.c0
  go_wp2_with fail
  go_ret
  exact ⟨ret_int' HE.out.symm, HK5.out.bel⟩
set_option maxRecDepth 100000 in
set_option maxHeartbeats 32000000 in
theorem kid_r1 {B r : Nat} {L : Ls} {v : Value} {b1 b2 : Nat} {it pa : ByteArray} {ti vo : Int} {sp : ByteArray} {ha : Int} {k : Nat} {e : Lk} {kk nn gg E : Int} (HKid : Hid (Kid L it pa ti vo sp ha k e kk nn gg)) (w : World) (HC : Hid (CReg w B r L v b1 b2)) (hl : (L.length : Int) ≤ 2000) (HE : Hid (Cu.chE L ⟨it, pa, ti, vo, sp, ha⟩ = E)) (hE : E = 9) (g1 : 0 ≤ ti) (g2 : ti ≤ 10000000) (g3 : e.ti ≤ ti) (HNM : Hid (nameB sp = true)) (hs : sp = e.sp) (g4 : vo < 0) :
    Calls Tryd.prog 42 #[.pointer (some ⟨r, 0, none⟩), .agg #[.string it, .string pa, .int .i64 ti, .int .i64 vo, .string sp, .int .u64 ha]] w fun e w' => e = .returned (.int .i64 (Cu.chE L ⟨it, pa, ti, vo, sp, ha⟩)) ∧ Below w.heap.size w w' := by
  subst hE
  have hq := seq_t hs
  have HSP := Lib.hid hs
  clear hs
  obtain ⟨i1, i2, i3, hk, hek, hs1, hs2, hs3, hk8, hf1, hf2, hpa, hg2, gg0, gg1, hpar⟩ := HKid.out
  have HS1 := Lib.hid hs1
  have HS2 := Lib.hid hs2
  have HS3 := Lib.hid hs3
  have HF1 := Lib.hid hf1
  have HF2 := Lib.hid hf2
  have HG2 := Lib.hid hg2
  have HEK : Hid (L[k] = e) := by show _ = _; rw [List.getElem?_eq_getElem hk] at hek; exact Option.some.inj hek
  have hk2 : (kk == 80) = false := by simpa using hk8
  have him : it.size ≤ maxLen := by unfold maxLen; omega
  have hpm : pa.size ≤ maxLen := by unfold maxLen; omega
  obtain ⟨q1, q2, q3⟩ := pa_some hpa
  have zk : (k : Int) < (L.length : Int) := by omega
  clear hek hs1 hs2 hs3 hk8 hf1 hf2 hpa hg2 hpar HKid
  obtain ⟨A, c, hv⟩ := row_form HC.out.row
  subst hv
  obtain ⟨bb, off, hA, hbl, _, _, _, _, _, _⟩ := (row_slr HC.out.row _ _ rfl).link hk
  subst hA
  have HK0 := Lib.hid (CkW.new HC.out ⟨it, pa, ti, vo, sp, ha⟩)
  go_enter Tryd.func42, Tryd.ntmps42
  go_wp2_with fail
  (with_reducible refine (split_eq it _ _ _ HS1 HS2 HS3 (by omega) _).mono ?_)
  rintro e w1 ⟨rfl, hb⟩
  have HK1 := Lib.hid (HK0.out.below hb)
  clear hb HK0
  obtain ⟨z0, z1, z2, z3, z4, z5⟩ := HK1.out.b.cells
  simp only at z0 z1 z2 z3 z4 z5
  go_wp2_with fail
  -- look up the item
  have k1 := HK1.out.c.c1
  have hlk : ∀ n, (Instr.lookup 80 (.map (some b1)) (.string it) true).run Tryd.prog (w1.drewN n) = .ok (.tuple #[.int .i64 0, .bool false]) (w1.drewN n) := fun n => by
    have := (HK1.out.c.m1.below (below_drewN (Below.refl _ _) n)).look it him
    rw [HF1.out] at this
    exact this
  go_quiet (fail)
  have HK2 := Lib.hid (HK1.out.below (below_drewN (Below.refl _ _) nq))
  clear hlk k1 z0 z1 z2 z3 z4 z5 HK1
  generalize w1.drewN nq = w2 at *
  obtain ⟨z0, z1, z2, z3, z4, z5⟩ := HK2.out.b.cells
  simp only at z0 z1 z2 z3 z4 z5
  go_wp2_with fail
  -- look up the parent
  have k1 := HK2.out.c.c1
  have hlk : ∀ n, (Instr.lookup 80 (.map (some b1)) (.string pa) true).run Tryd.prog (w2.drewN n) = .ok (.tuple #[.int .i64 k, .bool true]) (w2.drewN n) := fun n => by
    have := (HK2.out.c.m1.below (below_drewN (Below.refl _ _) n)).look pa hpm
    rw [HF2.out] at this
    exact this
  go_quiet (fail)
  have HK3 := Lib.hid (HK2.out.below (below_drewN (Below.refl _ _) nq))
  clear hlk k1 z0 z1 z2 z3 z4 z5 HK2
  generalize w2.drewN nq = w3 at *
  obtain ⟨z0, z1, z2, z3, z4, z5⟩ := HK3.out.b.cells
  simp only at z0 z1 z2 z3 z4 z5
  go_wp2_with fail
  obtain ⟨bb', off', hA', hbl', p0, p1, p2, p3, p4, p5⟩ := (row_slr HK3.out.c.row _ _ rfl).link hk
  simp only [Option.some.injEq, Addr.mk.injEq, and_true] at hA'
  obtain ⟨rfl, rfl⟩ := hA'
  rw [HEK.out] at p0 p1 p2 p3 p4 p5
  have k0 := HK3.out.c.c0
  have e12 : decide (ti < 0) = false ∧ decide (10000000 < ti) = false := ⟨decide_eq_false (by omega), decide_eq_false (by omega)⟩
  obtain ⟨e1, e2⟩ := e12
  go_quiet (fail)
  have HK4 := Lib.hid (HK3.out.below (below_drewN (Below.refl _ _) nq))
  clear z0 z1 z2 z3 z4 z5 HK3 p0 p1 p2 p3 p4 p5 k0
  generalize w3.drewN nq = w4 at *
  obtain ⟨z0, z1, z2, z3, z4, z5⟩ := HK4.out.b.cells
  simp only at z0 z1 z2 z3 z4 z5
  obtain ⟨bb', off', hA', hbl', p0, p1, p2, p3, p4, p5⟩ := (row_slr HK4.out.c.row _ _ rfl).link hk
  simp only [Option.some.injEq, Addr.mk.injEq, and_true] at hA'
  obtain ⟨rfl, rfl⟩ := hA'
  rw [HEK.out] at p0 p1 p2 p3 p4 p5
  have k0 := HK4.out.c.c0
  go_wp2_with fail
  go_quiet ((go_at_call 48; (with_reducible exact Calls.quiet_of_same (iname_eq sp _ HNM (by omega) _))))
  have HK5 := Lib.hid (HK4.out.below (below_drewN (Below.refl _ _) nq))
  clear z0 z1 z2 z3 z4 z5 HK4 p0 p1 p2 p3 p4 p5 k0
  generalize w4.drewN nq = w5 at *
  obtain ⟨z0, z1, z2, z3, z4, z5⟩ := HK5.out.b.cells
  simp only at z0 z1 z2 z3 z4 z5
  obtain ⟨bb', off', hA', hbl', p0, p1, p2, p3, p4, p5⟩ := (row_slr HK5.out.c.row _ _ rfl).link hk
  simp only [Option.some.injEq, Addr.mk.injEq, and_true] at hA'
  obtain ⟨rfl, rfl⟩ := hA'
  rw [HEK.out] at p0 p1 p2 p3 p4 p5
  have k0 := HK5.out.c.c0
  go_wp2_with fail
  go_ret
  exact ⟨ret_int' HE.out.symm, HK5.out.bel⟩
set_option maxRecDepth 100000 in
set_option maxHeartbeats 32000000 in
theorem kid_r2 {B r : Nat} {L : Ls} {v : Value} {b1 b2 : Nat} {it pa : ByteArray} {ti vo : Int} {sp : ByteArray} {ha : Int} {k : Nat} {e : Lk} {kk nn gg E : Int} (HKid : Hid (Kid L it pa ti vo sp ha k e kk nn gg)) (w : World) (HC : Hid (CReg w B r L v b1 b2)) (hl : (L.length : Int) ≤ 2000) (HE : Hid (Cu.chE L ⟨it, pa, ti, vo, sp, ha⟩ = E)) (hE : E = 9) (g1 : 0 ≤ ti) (g2 : ti ≤ 10000000) (g3 : e.ti ≤ ti) (HNM : Hid (nameB sp = true)) (hs : sp = e.sp) (g4 : ¬ vo < 0) (g5 : 1125899906842624 < vo) :
    Calls Tryd.prog 42 #[.pointer (some ⟨r, 0, none⟩), .agg #[.string it, .string pa, .int .i64 ti, .int .i64 vo, .string sp, .int .u64 ha]] w fun e w' => e = .returned (.int .i64 (Cu.chE L ⟨it, pa, ti, vo, sp, ha⟩)) ∧ Below w.heap.size w w' := by
  subst hE
  have hq := seq_t hs
  have HSP := Lib.hid hs
  clear hs
  obtain ⟨i1, i2, i3, hk, hek, hs1, hs2, hs3, hk8, hf1, hf2, hpa, hg2, gg0, gg1, hpar⟩ := HKid.out
  have HS1 := Lib.hid hs1
  have HS2 := Lib.hid hs2
  have HS3 := Lib.hid hs3
  have HF1 := Lib.hid hf1
  have HF2 := Lib.hid hf2
  have HG2 := Lib.hid hg2
  have HEK : Hid (L[k] = e) := by show _ = _; rw [List.getElem?_eq_getElem hk] at hek; exact Option.some.inj hek
  have hk2 : (kk == 80) = false := by simpa using hk8
  have him : it.size ≤ maxLen := by unfold maxLen; omega
  have hpm : pa.size ≤ maxLen := by unfold maxLen; omega
  obtain ⟨q1, q2, q3⟩ := pa_some hpa
  have zk : (k : Int) < (L.length : Int) := by omega
  clear hek hs1 hs2 hs3 hk8 hf1 hf2 hpa hg2 hpar HKid
  obtain ⟨A, c, hv⟩ := row_form HC.out.row
  subst hv
  obtain ⟨bb, off, hA, hbl, _, _, _, _, _, _⟩ := (row_slr HC.out.row _ _ rfl).link hk
  subst hA
  have HK0 := Lib.hid (CkW.new HC.out ⟨it, pa, ti, vo, sp, ha⟩)
  go_enter Tryd.func42, Tryd.ntmps42
  go_wp2_with fail
  (with_reducible refine (split_eq it _ _ _ HS1 HS2 HS3 (by omega) _).mono ?_)
  rintro e w1 ⟨rfl, hb⟩
  have HK1 := Lib.hid (HK0.out.below hb)
  clear hb HK0
  obtain ⟨z0, z1, z2, z3, z4, z5⟩ := HK1.out.b.cells
  simp only at z0 z1 z2 z3 z4 z5
  go_wp2_with fail
  -- look up the item
  have k1 := HK1.out.c.c1
  have hlk : ∀ n, (Instr.lookup 80 (.map (some b1)) (.string it) true).run Tryd.prog (w1.drewN n) = .ok (.tuple #[.int .i64 0, .bool false]) (w1.drewN n) := fun n => by
    have := (HK1.out.c.m1.below (below_drewN (Below.refl _ _) n)).look it him
    rw [HF1.out] at this
    exact this
  go_quiet (fail)
  have HK2 := Lib.hid (HK1.out.below (below_drewN (Below.refl _ _) nq))
  clear hlk k1 z0 z1 z2 z3 z4 z5 HK1
  generalize w1.drewN nq = w2 at *
  obtain ⟨z0, z1, z2, z3, z4, z5⟩ := HK2.out.b.cells
  simp only at z0 z1 z2 z3 z4 z5
  go_wp2_with fail
  -- look up the parent
  have k1 := HK2.out.c.c1
  have hlk : ∀ n, (Instr.lookup 80 (.map (some b1)) (.string pa) true).run Tryd.prog (w2.drewN n) = .ok (.tuple #[.int .i64 k, .bool true]) (w2.drewN n) := fun n => by
    have := (HK2.out.c.m1.below (below_drewN (Below.refl _ _) n)).look pa hpm
    rw [HF2.out] at this
    exact this
  go_quiet (fail)
  have HK3 := Lib.hid (HK2.out.below (below_drewN (Below.refl _ _) nq))
  clear hlk k1 z0 z1 z2 z3 z4 z5 HK2
  generalize w2.drewN nq = w3 at *
  obtain ⟨z0, z1, z2, z3, z4, z5⟩ := HK3.out.b.cells
  simp only at z0 z1 z2 z3 z4 z5
  go_wp2_with fail
  obtain ⟨bb', off', hA', hbl', p0, p1, p2, p3, p4, p5⟩ := (row_slr HK3.out.c.row _ _ rfl).link hk
  simp only [Option.some.injEq, Addr.mk.injEq, and_true] at hA'
  obtain ⟨rfl, rfl⟩ := hA'
  rw [HEK.out] at p0 p1 p2 p3 p4 p5
  have k0 := HK3.out.c.c0
  have e12 : decide (ti < 0) = false ∧ decide (10000000 < ti) = false := ⟨decide_eq_false (by omega), decide_eq_false (by omega)⟩
  obtain ⟨e1, e2⟩ := e12
  go_quiet (fail)
  have HK4 := Lib.hid (HK3.out.below (below_drewN (Below.refl _ _) nq))
  clear z0 z1 z2 z3 z4 z5 HK3 p0 p1 p2 p3 p4 p5 k0
  generalize w3.drewN nq = w4 at *
  obtain ⟨z0, z1, z2, z3, z4, z5⟩ := HK4.out.b.cells
  simp only at z0 z1 z2 z3 z4 z5
  obtain ⟨bb', off', hA', hbl', p0, p1, p2, p3, p4, p5⟩ := (row_slr HK4.out.c.row _ _ rfl).link hk
  simp only [Option.some.injEq, Addr.mk.injEq, and_true] at hA'
  obtain ⟨rfl, rfl⟩ := hA'
  rw [HEK.out] at p0 p1 p2 p3 p4 p5
  have k0 := HK4.out.c.c0
  go_wp2_with fail
  go_quiet ((go_at_call 48; (with_reducible exact Calls.quiet_of_same (iname_eq sp _ HNM (by omega) _))))
  have HK5 := Lib.hid (HK4.out.below (below_drewN (Below.refl _ _) nq))
  clear z0 z1 z2 z3 z4 z5 HK4 p0 p1 p2 p3 p4 p5 k0
  generalize w4.drewN nq = w5 at *
  obtain ⟨z0, z1, z2, z3, z4, z5⟩ := HK5.out.b.cells
  simp only at z0 z1 z2 z3 z4 z5
  obtain ⟨bb', off', hA', hbl', p0, p1, p2, p3, p4, p5⟩ := (row_slr HK5.out.c.row _ _ rfl).link hk
  simp only [Option.some.injEq, Addr.mk.injEq, and_true] at hA'
  obtain ⟨rfl, rfl⟩ := hA'
  rw [HEK.out] at p0 p1 p2 p3 p4 p5
  have k0 := HK5.out.c.c0
  go_wp2_with fail
  go_ret
  exact ⟨ret_int' HE.out.symm, HK5.out.bel⟩
set_option maxRecDepth 100000 in
set_option maxHeartbeats 32000000 in
theorem kid_q {B r : Nat} {L : Ls} {v : Value} {b1 b2 : Nat} {it pa : ByteArray} {ti vo : Int} {sp : ByteArray} {ha : Int} {k : Nat} {e : Lk} {kk nn gg E : Int} (HKid : Hid (Kid L it pa ti vo sp ha k e kk nn gg)) (w : World) (HC : Hid (CReg w B r L v b1 b2)) (hl : (L.length : Int) ≤ 2000) (HE : Hid (Cu.chE L ⟨it, pa, ti, vo, sp, ha⟩ = E)) (hE : E = 23) (g1 : 0 ≤ ti) (g2 : ti ≤ 10000000) (g3 : e.ti ≤ ti) (HNM : Hid (nameB sp = true)) (hs : sp = e.sp) (g4 : 0 ≤ vo) (g5 : vo ≤ 1125899906842624) (g6 : e.vo < gg + vo) :
    Calls Tryd.prog 42 #[.pointer (some ⟨r, 0, none⟩), .agg #[.string it, .string pa, .int .i64 ti, .int .i64 vo, .string sp, .int .u64 ha]] w fun e w' => e = .returned (.int .i64 (Cu.chE L ⟨it, pa, ti, vo, sp, ha⟩)) ∧ Below w.heap.size w w' := by
  subst hE
  have hq := seq_t hs
  have HSP := Lib.hid hs
  clear hs
  obtain ⟨i1, i2, i3, hk, hek, hs1, hs2, hs3, hk8, hf1, hf2, hpa, hg2, gg0, gg1, hpar⟩ := HKid.out
  have HS1 := Lib.hid hs1
  have HS2 := Lib.hid hs2
  have HS3 := Lib.hid hs3
  have HF1 := Lib.hid hf1
  have HF2 := Lib.hid hf2
  have HG2 := Lib.hid hg2
  have HEK : Hid (L[k] = e) := by show _ = _; rw [List.getElem?_eq_getElem hk] at hek; exact Option.some.inj hek
  have hk2 : (kk == 80) = false := by simpa using hk8
  have him : it.size ≤ maxLen := by unfold maxLen; omega
  have hpm : pa.size ≤ maxLen := by unfold maxLen; omega
  obtain ⟨q1, q2, q3⟩ := pa_some hpa
  have zk : (k : Int) < (L.length : Int) := by omega
  clear hek hs1 hs2 hs3 hk8 hf1 hf2 hpa hg2 hpar HKid
  obtain ⟨A, c, hv⟩ := row_form HC.out.row
  subst hv
  obtain ⟨bb, off, hA, hbl, _, _, _, _, _, _⟩ := (row_slr HC.out.row _ _ rfl).link hk
  subst hA
  have HK0 := Lib.hid (CkW.new HC.out ⟨it, pa, ti, vo, sp, ha⟩)
  go_enter Tryd.func42, Tryd.ntmps42
  go_wp2_with fail
  (with_reducible refine (split_eq it _ _ _ HS1 HS2 HS3 (by omega) _).mono ?_)
  rintro e w1 ⟨rfl, hb⟩
  have HK1 := Lib.hid (HK0.out.below hb)
  clear hb HK0
  obtain ⟨z0, z1, z2, z3, z4, z5⟩ := HK1.out.b.cells
  simp only at z0 z1 z2 z3 z4 z5
  go_wp2_with fail
  -- look up the item
  have k1 := HK1.out.c.c1
  have hlk : ∀ n, (Instr.lookup 80 (.map (some b1)) (.string it) true).run Tryd.prog (w1.drewN n) = .ok (.tuple #[.int .i64 0, .bool false]) (w1.drewN n) := fun n => by
    have := (HK1.out.c.m1.below (below_drewN (Below.refl _ _) n)).look it him
    rw [HF1.out] at this
    exact this
  go_quiet (fail)
  have HK2 := Lib.hid (HK1.out.below (below_drewN (Below.refl _ _) nq))
  clear hlk k1 z0 z1 z2 z3 z4 z5 HK1
  generalize w1.drewN nq = w2 at *
  obtain ⟨z0, z1, z2, z3, z4, z5⟩ := HK2.out.b.cells
  simp only at z0 z1 z2 z3 z4 z5
  go_wp2_with fail
  -- look up the parent
  have k1 := HK2.out.c.c1
  have hlk : ∀ n, (Instr.lookup 80 (.map (some b1)) (.string pa) true).run Tryd.prog (w2.drewN n) = .ok (.tuple #[.int .i64 k, .bool true]) (w2.drewN n) := fun n => by
    have := (HK2.out.c.m1.below (below_drewN (Below.refl _ _) n)).look pa hpm
    rw [HF2.out] at this
    exact this
  go_quiet (fail)
  have HK3 := Lib.hid (HK2.out.below (below_drewN (Below.refl _ _) nq))
  clear hlk k1 z0 z1 z2 z3 z4 z5 HK2
  generalize w2.drewN nq = w3 at *
  obtain ⟨z0, z1, z2, z3, z4, z5⟩ := HK3.out.b.cells
  simp only at z0 z1 z2 z3 z4 z5
  go_wp2_with fail
  obtain ⟨bb', off', hA', hbl', p0, p1, p2, p3, p4, p5⟩ := (row_slr HK3.out.c.row _ _ rfl).link hk
  simp only [Option.some.injEq, Addr.mk.injEq, and_true] at hA'
  obtain ⟨rfl, rfl⟩ := hA'
  rw [HEK.out] at p0 p1 p2 p3 p4 p5
  have k0 := HK3.out.c.c0
  have e12 : decide (ti < 0) = false ∧ decide (10000000 < ti) = false := ⟨decide_eq_false (by omega), decide_eq_false (by omega)⟩
  obtain ⟨e1, e2⟩ := e12
  go_quiet (fail)
  have HK4 := Lib.hid (HK3.out.below (below_drewN (Below.refl _ _) nq))
  clear z0 z1 z2 z3 z4 z5 HK3 p0 p1 p2 p3 p4 p5 k0
  generalize w3.drewN nq = w4 at *
  obtain ⟨z0, z1, z2, z3, z4, z5⟩ := HK4.out.b.cells
  simp only at z0 z1 z2 z3 z4 z5
  obtain ⟨bb', off', hA', hbl', p0, p1, p2, p3, p4, p5⟩ := (row_slr HK4.out.c.row _ _ rfl).link hk
  simp only [Option.some.injEq, Addr.mk.injEq, and_true] at hA'
  obtain ⟨rfl, rfl⟩ := hA'
  rw [HEK.out] at p0 p1 p2 p3 p4 p5
  have k0 := HK4.out.c.c0
  go_wp2_with fail
  go_quiet ((go_at_call 48; (with_reducible exact Calls.quiet_of_same (iname_eq sp _ HNM (by omega) _))))
  have HK5 := Lib.hid (HK4.out.below (below_drewN (Below.refl _ _) nq))
  clear z0 z1 z2 z3 z4 z5 HK4 p0 p1 p2 p3 p4 p5 k0
  generalize w4.drewN nq = w5 at *
  obtain ⟨z0, z1, z2, z3, z4, z5⟩ := HK5.out.b.cells
  simp only at z0 z1 z2 z3 z4 z5
  obtain ⟨bb', off', hA', hbl', p0, p1, p2, p3, p4, p5⟩ := (row_slr HK5.out.c.row _ _ rfl).link hk
  simp only [Option.some.injEq, Addr.mk.injEq, and_true] at hA'
  obtain ⟨rfl, rfl⟩ := hA'
  rw [HEK.out] at p0 p1 p2 p3 p4 p5
  have k0 := HK5.out.c.c0
  go_wp2_with fail
  have k2 := HK5.out.c.c2
  have hlk : ∀ n, (Instr.lookup 80 (.map (some b2)) (.string pa) false).run Tryd.prog (w5.drewN n) = .ok (.int .i64 gg) (w5.drewN n) := fun n => by
    have := (HK5.out.c.m2.below (below_drewN (Below.refl _ _) n)).get pa hpm
    rw [HG2.out] at this
    exact this
  go_quiet (fail)
  have HK6 := Lib.hid (HK5.out.below (below_drewN (Below.refl _ _) nq))
  clear z0 z1 z2 z3 z4 z5 HK5 p0 p1 p2 p3 p4 p5 k0 k2 hlk
  generalize w5.drewN nq = w6 at *
  obtain ⟨z0, z1, z2, z3, z4, z5⟩ := HK6.out.b.cells
  simp only at z0 z1 z2 z3 z4 z5
  obtain ⟨bb', off', hA', hbl', p0, p1, p2, p3, p4, p5⟩ := (row_slr HK6.out.c.row _ _ rfl).link hk
  simp only [Option.some.injEq, Addr.mk.injEq, and_true] at hA'
  obtain ⟨rfl, rfl⟩ := hA'
  rw [HEK.out] at p0 p1 p2 p3 p4 p5
  have k0 := HK6.out.c.c0
  go_wp2_with fail
  go_ret
  exact ⟨ret_int' HE.out.symm, HK6.out.bel⟩
set_option maxRecDepth 100000 in
set_option maxHeartbeats 32000000 in
theorem kid_f {B r : Nat} {L : Ls} {v : Value} {b1 b2 : Nat} {it pa : ByteArray} {ti vo : Int} {sp : ByteArray} {ha : Int} {k : Nat} {e : Lk} {kk nn gg E : Int} (HKid : Hid (Kid L it pa ti vo sp ha k e kk nn gg)) (w : World) (HC : Hid (CReg w B r L v b1 b2)) (hl : (L.length : Int) ≤ 2000) (HE : Hid (Cu.chE L ⟨it, pa, ti, vo, sp, ha⟩ = E)) (hE : E = 12) (g1 : 0 ≤ ti) (g2 : ti ≤ 10000000) (g3 : e.ti ≤ ti) (HNM : Hid (nameB sp = true)) (hs : sp = e.sp) (g4 : 0 ≤ vo) (g5 : vo ≤ 1125899906842624) (g6 : gg + vo ≤ e.vo) (g7 : ¬ (L.length : Int) < 1024) :
    Calls Tryd.prog 42 #[.pointer (some ⟨r, 0, none⟩), .agg #[.string it, .string pa, .int .i64 ti, .int .i64 vo, .string sp, .int .u64 ha]] w fun e w' => e = .returned (.int .i64 (Cu.chE L ⟨it, pa, ti, vo, sp, ha⟩)) ∧ Below w.heap.size w w' := by
  subst hE
  have hq := seq_t hs
  have HSP := Lib.hid hs
  clear hs
  obtain ⟨i1, i2, i3, hk, hek, hs1, hs2, hs3, hk8, hf1, hf2, hpa, hg2, gg0, gg1, hpar⟩ := HKid.out
  have HS1 := Lib.hid hs1
  have HS2 := Lib.hid hs2
  have HS3 := Lib.hid hs3
  have HF1 := Lib.hid hf1
  have HF2 := Lib.hid hf2
  have HG2 := Lib.hid hg2
  have HEK : Hid (L[k] = e) := by show _ = _; rw [List.getElem?_eq_getElem hk] at hek; exact Option.some.inj hek
  have hk2 : (kk == 80) = false := by simpa using hk8
  have him : it.size ≤ maxLen := by unfold maxLen; omega
  have hpm : pa.size ≤ maxLen := by unfold maxLen; omega
  obtain ⟨q1, q2, q3⟩ := pa_some hpa
  have zk : (k : Int) < (L.length : Int) := by omega
  clear hek hs1 hs2 hs3 hk8 hf1 hf2 hpa hg2 hpar HKid
  obtain ⟨A, c, hv⟩ := row_form HC.out.row
  subst hv
  obtain ⟨bb, off, hA, hbl, _, _, _, _, _, _⟩ := (row_slr HC.out.row _ _ rfl).link hk
  subst hA
  have HK0 := Lib.hid (CkW.new HC.out ⟨it, pa, ti, vo, sp, ha⟩)
  go_enter Tryd.func42, Tryd.ntmps42
  go_wp2_with fail
  (with_reducible refine (split_eq it _ _ _ HS1 HS2 HS3 (by omega) _).mono ?_)
  rintro e w1 ⟨rfl, hb⟩
  have HK1 := Lib.hid (HK0.out.below hb)
  clear hb HK0
  obtain ⟨z0, z1, z2, z3, z4, z5⟩ := HK1.out.b.cells
  simp only at z0 z1 z2 z3 z4 z5
  go_wp2_with fail
  -- look up the item
  have k1 := HK1.out.c.c1
  have hlk : ∀ n, (Instr.lookup 80 (.map (some b1)) (.string it) true).run Tryd.prog (w1.drewN n) = .ok (.tuple #[.int .i64 0, .bool false]) (w1.drewN n) := fun n => by
    have := (HK1.out.c.m1.below (below_drewN (Below.refl _ _) n)).look it him
    rw [HF1.out] at this
    exact this
  go_quiet (fail)
  have HK2 := Lib.hid (HK1.out.below (below_drewN (Below.refl _ _) nq))
  clear hlk k1 z0 z1 z2 z3 z4 z5 HK1
  generalize w1.drewN nq = w2 at *
  obtain ⟨z0, z1, z2, z3, z4, z5⟩ := HK2.out.b.cells
  simp only at z0 z1 z2 z3 z4 z5
  go_wp2_with fail
  -- look up the parent
  have k1 := HK2.out.c.c1
  have hlk : ∀ n, (Instr.lookup 80 (.map (some b1)) (.string pa) true).run Tryd.prog (w2.drewN n) = .ok (.tuple #[.int .i64 k, .bool true]) (w2.drewN n) := fun n => by
    have := (HK2.out.c.m1.below (below_drewN (Below.refl _ _) n)).look pa hpm
    rw [HF2.out] at this
    exact this
  go_quiet (fail)
  have HK3 := Lib.hid (HK2.out.below (below_drewN (Below.refl _ _) nq))
  clear hlk k1 z0 z1 z2 z3 z4 z5 HK2
  generalize w2.drewN nq = w3 at *
  obtain ⟨z0, z1, z2, z3, z4, z5⟩ := HK3.out.b.cells
  simp only at z0 z1 z2 z3 z4 z5
  go_wp2_with fail
  obtain ⟨bb', off', hA', hbl', p0, p1, p2, p3, p4, p5⟩ := (row_slr HK3.out.c.row _ _ rfl).link hk
  simp only [Option.some.injEq, Addr.mk.injEq, and_true] at hA'
  obtain ⟨rfl, rfl⟩ := hA'
  rw [HEK.out] at p0 p1 p2 p3 p4 p5
  have k0 := HK3.out.c.c0
  have e12 : decide (ti < 0) = false ∧ decide (10000000 < ti) = false := ⟨decide_eq_false (by omega), decide_eq_false (by omega)⟩
  obtain ⟨e1, e2⟩ := e12
  go_quiet (fail)
  have HK4 := Lib.hid (HK3.out.below (below_drewN (Below.refl _ _) nq))
  clear z0 z1 z2 z3 z4 z5 HK3 p0 p1 p2 p3 p4 p5 k0
  generalize w3.drewN nq = w4 at *
  obtain ⟨z0, z1, z2, z3, z4, z5⟩ := HK4.out.b.cells
  simp only at z0 z1 z2 z3 z4 z5
  obtain ⟨bb', off', hA', hbl', p0, p1, p2, p3, p4, p5⟩ := (row_slr HK4.out.c.row _ _ rfl).link hk
  simp only [Option.some.injEq, Addr.mk.injEq, and_true] at hA'
  obtain ⟨rfl, rfl⟩ := hA'
  rw [HEK.out] at p0 p1 p2 p3 p4 p5
  have k0 := HK4.out.c.c0
  go_wp2_with fail
  go_quiet ((go_at_call 48; (with_reducible exact Calls.quiet_of_same (iname_eq sp _ HNM (by omega) _))))
  have HK5 := Lib.hid (HK4.out.below (below_drewN (Below.refl _ _) nq))
  clear z0 z1 z2 z3 z4 z5 HK4 p0 p1 p2 p3 p4 p5 k0
  generalize w4.drewN nq = w5 at *
  obtain ⟨z0, z1, z2, z3, z4, z5⟩ := HK5.out.b.cells
  simp only at z0 z1 z2 z3 z4 z5
  obtain ⟨bb', off', hA', hbl', p0, p1, p2, p3, p4, p5⟩ := (row_slr HK5.out.c.row _ _ rfl).link hk
  simp only [Option.some.injEq, Addr.mk.injEq, and_true] at hA'
  obtain ⟨rfl, rfl⟩ := hA'
  rw [HEK.out] at p0 p1 p2 p3 p4 p5
  have k0 := HK5.out.c.c0
  go_wp2_with fail
  have k2 := HK5.out.c.c2
  have hlk : ∀ n, (Instr.lookup 80 (.map (some b2)) (.string pa) false).run Tryd.prog (w5.drewN n) = .ok (.int .i64 gg) (w5.drewN n) := fun n => by
    have := (HK5.out.c.m2.below (below_drewN (Below.refl _ _) n)).get pa hpm
    rw [HG2.out] at this
    exact this
  go_quiet (fail)
  have HK6 := Lib.hid (HK5.out.below (below_drewN (Below.refl _ _) nq))
  clear z0 z1 z2 z3 z4 z5 HK5 p0 p1 p2 p3 p4 p5 k0 k2 hlk
  generalize w5.drewN nq = w6 at *
  obtain ⟨z0, z1, z2, z3, z4, z5⟩ := HK6.out.b.cells
  simp only at z0 z1 z2 z3 z4 z5
  obtain ⟨bb', off', hA', hbl', p0, p1, p2, p3, p4, p5⟩ := (row_slr HK6.out.c.row _ _ rfl).link hk
  simp only [Option.some.injEq, Addr.mk.injEq, and_true] at hA'
  obtain ⟨rfl, rfl⟩ := hA'
  rw [HEK.out] at p0 p1 p2 p3 p4 p5
  have k0 := HK6.out.c.c0
  go_wp2_with fail
  go_ret
  exact ⟨ret_int' HE.out.symm, HK6.out.bel⟩
set_option maxRecDepth 100000 in
set_option maxHeartbeats 32000000 in
theorem kid_ok {B r : Nat} {L : Ls} {v : Value} {b1 b2 : Nat} {it pa : ByteArray} {ti vo : Int} {sp : ByteArray} {ha : Int} {k : Nat} {e : Lk} {kk nn gg E : Int} (HKid : Hid (Kid L it pa ti vo sp ha k e kk nn gg)) (w : World) (HC : Hid (CReg w B r L v b1 b2)) (hl : (L.length : Int) ≤ 2000) (HE : Hid (Cu.chE L ⟨it, pa, ti, vo, sp, ha⟩ = E)) (hE : E = 0) (g1 : 0 ≤ ti) (g2 : ti ≤ 10000000) (g3 : e.ti ≤ ti) (HNM : Hid (nameB sp = true)) (hs : sp = e.sp) (g4 : 0 ≤ vo) (g5 : vo ≤ 1125899906842624) (g6 : gg + vo ≤ e.vo) (g7 : (L.length : Int) < 1024) :
    Calls Tryd.prog 42 #[.pointer (some ⟨r, 0, none⟩), .agg #[.string it, .string pa, .int .i64 ti, .int .i64 vo, .string sp, .int .u64 ha]] w fun e w' => e = .returned (.int .i64 (Cu.chE L ⟨it, pa, ti, vo, sp, ha⟩)) ∧ Below w.heap.size w w' := by
  subst hE
  have hq := seq_t hs
  have HSP := Lib.hid hs
  clear hs
  obtain ⟨i1, i2, i3, hk, hek, hs1, hs2, hs3, hk8, hf1, hf2, hpa, hg2, gg0, gg1, hpar⟩ := HKid.out
  have HS1 := Lib.hid hs1
  have HS2 := Lib.hid hs2
  have HS3 := Lib.hid hs3
  have HF1 := Lib.hid hf1
  have HF2 := Lib.hid hf2
  have HG2 := Lib.hid hg2
  have HEK : Hid (L[k] = e) := by show _ = _; rw [List.getElem?_eq_getElem hk] at hek; exact Option.some.inj hek
  have hk2 : (kk == 80) = false := by simpa using hk8
  have him : it.size ≤ maxLen := by unfold maxLen; omega
  have hpm : pa.size ≤ maxLen := by unfold maxLen; omega
  obtain ⟨q1, q2, q3⟩ := pa_some hpa
  have zk : (k : Int) < (L.length : Int) := by omega
  clear hek hs1 hs2 hs3 hk8 hf1 hf2 hpa hg2 hpar HKid
  obtain ⟨A, c, hv⟩ := row_form HC.out.row
  subst hv
  obtain ⟨bb, off, hA, hbl, _, _, _, _, _, _⟩ := (row_slr HC.out.row _ _ rfl).link hk
  subst hA
  have HK0 := Lib.hid (CkW.new HC.out ⟨it, pa, ti, vo, sp, ha⟩)
  go_enter Tryd.func42, Tryd.ntmps42
  go_wp2_with fail
  (with_reducible refine (split_eq it _ _ _ HS1 HS2 HS3 (by omega) _).mono ?_)
  rintro e w1 ⟨rfl, hb⟩
  have HK1 := Lib.hid (HK0.out.below hb)
  clear hb HK0
  obtain ⟨z0, z1, z2, z3, z4, z5⟩ := HK1.out.b.cells
  simp only at z0 z1 z2 z3 z4 z5
  go_wp2_with fail
  -- look up the item
  have k1 := HK1.out.c.c1
  have hlk : ∀ n, (Instr.lookup 80 (.map (some b1)) (.string it) true).run Tryd.prog (w1.drewN n) = .ok (.tuple #[.int .i64 0, .bool false]) (w1.drewN n) := fun n => by
    have := (HK1.out.c.m1.below (below_drewN (Below.refl _ _) n)).look it him
    rw [HF1.out] at this
    exact this
  go_quiet (fail)
  have HK2 := Lib.hid (HK1.out.below (below_drewN (Below.refl _ _) nq))
  clear hlk k1 z0 z1 z2 z3 z4 z5 HK1
  generalize w1.drewN nq = w2 at *
  obtain ⟨z0, z1, z2, z3, z4, z5⟩ := HK2.out.b.cells
  simp only at z0 z1 z2 z3 z4 z5
  go_wp2_with fail
  -- look up the parent
  have k1 := HK2.out.c.c1
  have hlk : ∀ n, (Instr.lookup 80 (.map (some b1)) (.string pa) true).run Tryd.prog (w2.drewN n) = .ok (.tuple #[.int .i64 k, .bool true]) (w2.drewN n) := fun n => by
    have := (HK2.out.c.m1.below (below_drewN (Below.refl _ _) n)).look pa hpm
    rw [HF2.out] at this
    exact this
  go_quiet (fail)
  have HK3 := Lib.hid (HK2.out.below (below_drewN (Below.refl _ _) nq))
  clear hlk k1 z0 z1 z2 z3 z4 z5 HK2
  generalize w2.drewN nq = w3 at *
  obtain ⟨z0, z1, z2, z3, z4, z5⟩ := HK3.out.b.cells
  simp only at z0 z1 z2 z3 z4 z5
  go_wp2_with fail
  obtain ⟨bb', off', hA', hbl', p0, p1, p2, p3, p4, p5⟩ := (row_slr HK3.out.c.row _ _ rfl).link hk
  simp only [Option.some.injEq, Addr.mk.injEq, and_true] at hA'
  obtain ⟨rfl, rfl⟩ := hA'
  rw [HEK.out] at p0 p1 p2 p3 p4 p5
  have k0 := HK3.out.c.c0
  have e12 : decide (ti < 0) = false ∧ decide (10000000 < ti) = false := ⟨decide_eq_false (by omega), decide_eq_false (by omega)⟩
  obtain ⟨e1, e2⟩ := e12
  go_quiet (fail)
  have HK4 := Lib.hid (HK3.out.below (below_drewN (Below.refl _ _) nq))
  clear z0 z1 z2 z3 z4 z5 HK3 p0 p1 p2 p3 p4 p5 k0
  generalize w3.drewN nq = w4 at *
  obtain ⟨z0, z1, z2, z3, z4, z5⟩ := HK4.out.b.cells
  simp only at z0 z1 z2 z3 z4 z5
  obtain ⟨bb', off', hA', hbl', p0, p1, p2, p3, p4, p5⟩ := (row_slr HK4.out.c.row _ _ rfl).link hk
  simp only [Option.some.injEq, Addr.mk.injEq, and_true] at hA'
  obtain ⟨rfl, rfl⟩ := hA'
  rw [HEK.out] at p0 p1 p2 p3 p4 p5
  have k0 := HK4.out.c.c0
  go_wp2_with fail
  go_quiet ((go_at_call 48; (with_reducible exact Calls.quiet_of_same (iname_eq sp _ HNM (by omega) _))))
  have HK5 := Lib.hid (HK4.out.below (below_drewN (Below.refl _ _) nq))
  clear z0 z1 z2 z3 z4 z5 HK4 p0 p1 p2 p3 p4 p5 k0
  generalize w4.drewN nq = w5 at *
  obtain ⟨z0, z1, z2, z3, z4, z5⟩ := HK5.out.b.cells
  simp only at z0 z1 z2 z3 z4 z5
  obtain ⟨bb', off', hA', hbl', p0, p1, p2, p3, p4, p5⟩ := (row_slr HK5.out.c.row _ _ rfl).link hk
  simp only [Option.some.injEq, Addr.mk.injEq, and_true] at hA'
  obtain ⟨rfl, rfl⟩ := hA'
  rw [HEK.out] at p0 p1 p2 p3 p4 p5
  have k0 := HK5.out.c.c0
  go_wp2_with fail
  have k2 := HK5.out.c.c2
  have hlk : ∀ n, (Instr.lookup 80 (.map (some b2)) (.string pa) false).run Tryd.prog (w5.drewN n) = .ok (.int .i64 gg) (w5.drewN n) := fun n => by
    have := (HK5.out.c.m2.below (below_drewN (Below.refl _ _) n)).get pa hpm
    rw [HG2.out] at this
    exact this
  go_quiet (fail)
  have HK6 := Lib.hid (HK5.out.below (below_drewN (Below.refl _ _) nq))
  clear z0 z1 z2 z3 z4 z5 HK5 p0 p1 p2 p3 p4 p5 k0 k2 hlk
  generalize w5.drewN nq = w6 at *
  obtain ⟨z0, z1, z2, z3, z4, z5⟩ := HK6.out.b.cells
  simp only at z0 z1 z2 z3 z4 z5
  obtain ⟨bb', off', hA', hbl', p0, p1, p2, p3, p4, p5⟩ := (row_slr HK6.out.c.row _ _ rfl).link hk
  simp only [Option.some.injEq, Addr.mk.injEq, and_true] at hA'
  obtain ⟨rfl, rfl⟩ := hA'
  rw [HEK.out] at p0 p1 p2 p3 p4 p5
  have k0 := HK6.out.c.c0
  go_wp2_with fail
  go_ret
  exact ⟨ret_int' HE.out.symm, HK6.out.bel⟩
end Go.Proofs.YtpimmdmcmccbpaaDoor

namespace Go.Proofs.YtpimmdmcmccbpaaDoor
open Go.RowKit
set_option linter.unusedVariables false
open Cu (Lk Ls)
/-- What check asks of the links that are there. -/
structure Cu.Mild (L : Ls) : Prop where
  len : (L.length : Int) ≤ 2000
  ne : ¬ Cu.ix ByteArray.empty L < L.length
  gv : ∀ s, s ≠ ByteArray.empty → 0 ≤ Cu.gv s L ∧ Cu.gv s L ≤ 1125899906842624
set_option maxRecDepth 100000 in
theorem check_any {B r : Nat} {L : Ls} {v : Value} {b1 b2 : Nat} (it pa : ByteArray) (ti vo : Int) (sp : ByteArray) (ha : Int) (hf : Fit_ ⟨it, pa, ti, vo, sp, ha⟩) (w : World) (HC : Hid (CReg w B r L v b1 b2)) (hm : Cu.Mild L) :
    Calls Tryd.prog 42 #[.pointer (some ⟨r, 0, none⟩), .agg #[.string it, .string pa, .int .i64 ti, .int .i64 vo, .string sp, .int .u64 ha]] w fun e w' => e = .returned (.int .i64 (Cu.chE L ⟨it, pa, ti, vo, sp, ha⟩)) ∧ Below w.heap.size w w' := by
  obtain ⟨hl, hne, hgv⟩ := hm
  by_cases h : Cu.itB ⟨it, pa, ti, vo, sp, ha⟩
  · by_cases hpa : pa = ByteArray.empty
    · subst hpa
      exact check_root it ti vo sp ha hf w HC h hl (Lib.hid hne)
    · by_cases hno : Cu.ix it L < L.length ∨ ¬ Cu.ix pa L < L.length
      · exact check_none it pa ti vo sp ha hf w HC h hl hpa hno
      · have h1 : ¬ Cu.ix it L < L.length := fun g => hno (.inl g)
        have h2 : Cu.ix pa L < L.length := Classical.byContradiction fun g => hno (.inr g)
        have hpar : Cu.par L ⟨it, pa, ti, vo, sp, ha⟩ = some (L[Cu.ix pa L]) := Cu.par_some h2
        obtain ⟨e, he⟩ : ∃ e, L[Cu.ix pa L] = e := ⟨_, rfl⟩
        rw [he] at hpar
        have hb : spE it = 0 ∧ ((spK it = 80) ↔ pa = ByteArray.empty) := h
        have HK := Lib.hid (Kid.mk (L := L) (it := it) (pa := pa) (ti := ti) (vo := vo) (sp := sp) (ha := ha) (k := Cu.ix pa L) (e := e) hf.1 hf.2 hf.3 h2 (by rw [List.getElem?_eq_getElem h2, he]) rfl rfl hb.1 (fun g => hpa (hb.2.1 g)) (f1_no h1) (f1_yes h2) hpa (f2_get hpa) (hgv pa hpa).1 (hgv pa hpa).2 hpar)
        have hnd : ¬ Cu.ndB L ⟨it, pa, ti, vo, sp, ha⟩ := fun g => g.2 h2
        have all : ∀ {Q : Lk → Prop}, (∀ p, Cu.par L ⟨it, pa, ti, vo, sp, ha⟩ = some p → Q p) ↔ Q e := fun {Q} => ⟨fun g => g e hpar, fun g p hp => by rw [hpar] at hp; cases hp; exact g⟩
        by_cases h3 : Cu.tiB L ⟨it, pa, ti, vo, sp, ha⟩
        · have t0 : 0 ≤ ti := h3.1
          have t1 : ti ≤ 10000000 := h3.2.1
          have t2 : e.ti ≤ ti := h3.2.2 e hpar
          by_cases h4 : Cu.spB L ⟨it, pa, ti, vo, sp, ha⟩
          · have u0 : nameB sp = true := h4.1
            have u1 : sp = e.sp := h4.2 e hpar
            by_cases h5 : Cu.voB ⟨it, pa, ti, vo, sp, ha⟩
            · have v0 : 0 ≤ vo := h5.1
              have v1 : vo ≤ 1125899906842624 := h5.2
              by_cases h6 : Cu.quB L ⟨it, pa, ti, vo, sp, ha⟩
              · have g6 : Cu.gv pa L + vo ≤ e.vo := h6 e hpar
                by_cases h7 : L.length < 1024
                · exact kid_ok HK w HC hl (Lib.hid (Cu.chE_ok h h1 hnd h3 h4 h5 h6 h7)) rfl t0 t1 t2 (Lib.hid u0) u1 v0 v1 g6 (by omega)
                · exact kid_f HK w HC hl (Lib.hid (Cu.chE_full h h1 hnd h3 h4 h5 h6 h7)) rfl t0 t1 t2 (Lib.hid u0) u1 v0 v1 g6 (by omega)
              · have g6 : ¬ Cu.gv pa L + vo ≤ e.vo := fun g => h6 (all.2 g)
                exact kid_q HK w HC hl (Lib.hid (Cu.chE_quota h h1 hnd h3 h4 h5 h6)) rfl t0 t1 t2 (Lib.hid u0) u1 v0 v1 (by omega)
            · have HE := Lib.hid (Cu.chE_range h h1 hnd h3 h4 h5)
              by_cases v0 : vo < 0
              · exact kid_r1 HK w HC hl HE rfl t0 t1 t2 (Lib.hid u0) u1 v0
              · exact kid_r2 HK w HC hl HE rfl t0 t1 t2 (Lib.hid u0) u1 v0 (by
                  refine Classical.byContradiction fun g => h5 ⟨?_, ?_⟩
                  · show 0 ≤ vo; omega
                  · show vo ≤ _; omega)
          · have HE := Lib.hid (Cu.chE_species h h1 hnd h3 h4)
            cases u0 : nameB sp with
            | false => exact kid_s1 HK w HC hl HE rfl t0 t1 t2 (Lib.hid u0)
            | true => exact kid_s2 HK w HC hl HE rfl t0 t1 t2 (Lib.hid u0) (fun g => h4 ⟨u0, all.2 g⟩)
        · have HE := Lib.hid (Cu.chE_time h h1 hnd h3)
          by_cases t0 : ti < 0
          · exact kid_t1 HK w HC hl HE rfl t0
          · by_cases t1 : 10000000 < ti
            · exact kid_t2 HK w HC hl HE rfl t0 t1
            · refine kid_t3 HK w HC hl HE rfl (by omega) (by omega) (Classical.byContradiction fun g => h3 ⟨?_, ?_, all.2 ?_⟩)
              · show 0 ≤ ti; omega
              · show ti ≤ _; omega
              · show e.ti ≤ ti; omega
  · exact check_name it pa ti vo sp ha hf w HC h
end Go.Proofs.YtpimmdmcmccbpaaDoor
