/- custody: check refuses names. -/
import Derived.Test.YtpimmdmcmccbpaaDoorE7
namespace Go.Proofs.YtpimmdmcmccbpaaDoor
open Go.RowKit
set_option linter.unusedVariables false
open Cu (Lk Ls)

theorem split_eq (s : ByteArray) (k n e : Int) (hk : Hid (spK s = k)) (hn : Hid (spN s = n)) (he : Hid (spE s = e)) (hsz : (s.size : Int) ≤ 9223372036854775807) (w : World) :
    Calls Tryd.prog 54 #[.string s] w fun r w' => r = .returned (.tuple #[.int .u8 k, .int .i64 n, .int .i64 e]) ∧ Below w.heap.size w w' := by
  have := split02 s hsz w
  rw [hk.out, hn.out, he.out] at this
  exact this
theorem iname_eq (s : ByteArray) (x : Bool) (hx : Hid (nameB s = x)) (hsz : (s.size : Int) ≤ 9223372036854775807) (w : World) :
    Calls Tryd.prog 48 #[.string s] w fun e w' => e = .returned (.bool x) ∧ w' = w := by
  have := isName_any s hsz w
  rw [hx.out] at this
  exact this.mono fun e w' ⟨h1, h2⟩ => ⟨h1, h2.symm⟩
theorem pa_some {s : ByteArray} (h : s ≠ ByteArray.empty) : (s.toList == []) = false ∧ ¬ s.toList = [] ∧ s.toList.isEmpty = false := by
  have h1 : ¬ s.toList = [] := fun e => h (by
    rw [ByteArray.toList_eq] at e
    exact ByteArray.ext (Array.toList_inj.1 e))
  exact ⟨by simpa using h1, h1, by simpa using h1⟩

/-- What the walks of check share. -/
structure CkW (w wi : World) (B r : Nat) (L : Ls) (v : Value) (b1 b2 : Nat) (x : Lk) : Prop where
  c : CReg wi B r L v b1 b2
  b : LBox wi w.heap.size x
  bel : Below w.heap.size w wi
theorem CkW.below {w wi wj : World} {B r : Nat} {L : Ls} {v : Value} {b1 b2 : Nat} {x : Lk} (h : CkW w wi B r L v b1 b2 x) (hb : Below wi.heap.size wi wj) : CkW w wj B r L v b1 b2 x := ⟨h.c.below hb, h.b.below hb, below_old h.bel hb⟩
theorem CkW.new {w : World} {B r : Nat} {L : Ls} {v : Value} {b1 b2 : Nat} (h : CReg w B r L v b1 b2) (x : Lk) : CkW w (w.alloc (.cells #[.string x.it, .string x.pa, .int .i64 x.ti, .int .i64 x.vo, .string x.sp, .int .u64 x.ha] 36)) B r L v b1 b2 x := by
  have hb := (Below.refl w.heap.size w).alloc (Nat.le_refl _) (.cells #[.string x.it, .string x.pa, .int .i64 x.ti, .int .i64 x.vo, .string x.sp, .int .u64 x.ha] 36)
  exact ⟨h.below hb, Blk.new _ _ _, hb⟩


set_option maxRecDepth 100000 in
set_option maxHeartbeats 16000000 in
theorem check_name {B r : Nat} {L : Ls} {v : Value} {b1 b2 : Nat} (it pa : ByteArray) (ti vo : Int) (sp : ByteArray) (ha : Int) (hf : Fit_ ⟨it, pa, ti, vo, sp, ha⟩) (w : World) (HC : Hid (CReg w B r L v b1 b2)) (h : ¬ Cu.itB ⟨it, pa, ti, vo, sp, ha⟩) :
    Calls Tryd.prog 42 #[.pointer (some ⟨r, 0, none⟩), .agg #[.string it, .string pa, .int .i64 ti, .int .i64 vo, .string sp, .int .u64 ha]] w fun e w' => e = .returned (.int .i64 (Cu.chE L ⟨it, pa, ti, vo, sp, ha⟩)) ∧ Below w.heap.size w w' := by
  have HE := Lib.hid (Cu.chE_name (L := L) h)
  obtain ⟨i1, i2, i3, t0, t1, v0, v1⟩ := hf
  simp only at i1 i2 i3 t0 t1 v0 v1
  have hb : ¬ (spE it = 0 ∧ ((spK it = 80) ↔ pa = ByteArray.empty)) := h
  obtain ⟨kk, hkk⟩ : ∃ k, spK it = k := ⟨_, rfl⟩
  obtain ⟨nn, hnn⟩ : ∃ k, spN it = k := ⟨_, rfl⟩
  obtain ⟨ee, hee⟩ : ∃ k, spE it = k := ⟨_, rfl⟩
  rw [hkk, hee] at hb
  have HS1 := Lib.hid hkk
  have HS2 := Lib.hid hnn
  have HS3 := Lib.hid hee
  clear hkk hnn hee h
  by_cases he : ee = 0
  · subst he
    by_cases hk : kk = 80
    · subst hk
      have hpa : pa ≠ ByteArray.empty := fun e => hb ⟨rfl, by simp [e]⟩
      obtain ⟨q1, q2, q3⟩ := pa_some hpa
      clear hb hpa
      have HK0 := Lib.hid (CkW.new HC.out ⟨it, pa, ti, vo, sp, ha⟩)
      go_enter Tryd.func42, Tryd.ntmps42
      go_wp2_with fail
      (with_reducible refine (split_eq it _ _ _ HS1 HS2 HS3 (by omega) _).mono ?_)
      rintro e w1 ⟨rfl, hb⟩
      have HK1 := Lib.hid (HK0.out.below hb)
      clear hb HK0
      obtain ⟨z0, z1, z2, z3, z4, z5⟩ := HK1.out.b.cells
      simp only at z0 z1 z2 z3 z4 z5
      go_wp2_with fail
      go_ret
      exact ⟨ret_int' HE.out.symm, HK1.out.bel⟩
    · have hpa : pa = ByteArray.empty := by
        by_cases g : pa = ByteArray.empty
        · exact g
        · exact absurd ⟨rfl, by simp [hk, g]⟩ hb
      subst hpa
      have hk2 : (kk == 80) = false := by simpa using hk
      clear hb
      have HK0 := Lib.hid (CkW.new HC.out ⟨it, ByteArray.empty, ti, vo, sp, ha⟩)
      go_enter Tryd.func42, Tryd.ntmps42
      go_wp2_with fail
      (with_reducible refine (split_eq it _ _ _ HS1 HS2 HS3 (by omega) _).mono ?_)
      rintro e w1 ⟨rfl, hb⟩
      have HK1 := Lib.hid (HK0.out.below hb)
      clear hb HK0
      obtain ⟨z0, z1, z2, z3, z4, z5⟩ := HK1.out.b.cells
      simp only at z0 z1 z2 z3 z4 z5
      go_wp2_with fail
      go_ret
      exact ⟨ret_int' HE.out.symm, HK1.out.bel⟩
  · have he2 : (ee == 0) = false := by simpa using he
    clear hb
    have HK0 := Lib.hid (CkW.new HC.out ⟨it, pa, ti, vo, sp, ha⟩)
    go_enter Tryd.func42, Tryd.ntmps42
    go_wp2_with fail
    (with_reducible refine (split_eq it _ _ _ HS1 HS2 HS3 (by omega) _).mono ?_)
    rintro e w1 ⟨rfl, hb⟩
    have HK1 := Lib.hid (HK0.out.below hb)
    clear hb HK0
    obtain ⟨z0, z1, z2, z3, z4, z5⟩ := HK1.out.b.cells
    simp only at z0 z1 z2 z3 z4 z5
    go_wp2_with fail
    go_ret
    exact ⟨ret_int' HE.out.symm, HK1.out.bel⟩
end Go.Proofs.YtpimmdmcmccbpaaDoor
