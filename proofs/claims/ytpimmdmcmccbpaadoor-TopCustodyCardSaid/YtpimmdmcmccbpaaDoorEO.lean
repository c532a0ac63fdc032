/- The reference of custody: Can. -/
import Derived.Test.YtpimmdmcmccbpaaDoorGH
namespace Go.Proofs.YtpimmdmcmccbpaaDoor
open Go.RowKit
set_option linter.unusedVariables false
open Cu (Lk Ls)
theorem rsplit_eq (s : ByteArray) (k n e : Int) (hk : Hid (spK s = k)) (hn : Hid (spN s = n)) (he : Hid (spE s = e)) (hsz : (s.size : Int) ≤ 9223372036854775807) (w : World) :
    Calls Tryd.prog 65 #[.string s] w fun r w' => r = .returned (.tuple #[.int .u8 k, .int .i64 n, .int .i64 e]) ∧ Below w.heap.size w w' := by
  have := rsplit02B s hsz w
  rw [hk.out, hn.out, he.out] at this
  exact this
theorem rname_eq (s : ByteArray) (x : Bool) (hx : Hid (nameB s = x)) (hsz : (s.size : Int) ≤ 9223372036854775807) (w : World) :
    Calls Tryd.prog 66 #[.string s] w fun e w' => e = .returned (.bool x) ∧ w' = w := by
  have := risName_any s hsz w
  rw [hx.out] at this
  exact this.mono fun e w' ⟨h1, h2⟩ => ⟨h1, h2.symm⟩
theorem rat_eq (L : Ls) (A : Option Addr) (c : Nat) (s : ByteArray) (x : Int) (hx : Hid (Cu.atI L s = x)) (w : World) (HS : Hid (SlR w A (lrowL L))) (hl : (L.length : Int) ≤ 2000) :
    Calls Tryd.prog 53 #[.slice A L.length c, .string s] w fun e w' => e = .returned (.int .i64 x) ∧ w' = w := by
  have := rat_any L A c s w HS hl
  rw [hx.out] at this
  exact this
theorem rvol_eq (L : Ls) (A : Option Addr) (c : Nat) (s : ByteArray) (x : Int) (hx : Hid (Cu.gv s L = x)) (hs : Hid (s ≠ ByteArray.empty)) (w : World) (HS : Hid (SlR w A (lrowL L))) (hl : (L.length : Int) ≤ 2000) (HG : Hid (Cu.Good L)) :
    Calls Tryd.prog 67 #[.slice A L.length c, .string s] w fun e w' => e = .returned (.int .i64 x) ∧ w' = w := by
  have := rvol_any L A c s hs.out w HS hl HG
  rw [hx.out] at this
  exact this
/-- What the walks of Can share. -/
structure RcW (w wi : World) (A : Option Addr) (L : Ls) (x : Lk) : Prop where
  s : SlR wi A (lrowL L)
  b : LBox wi w.heap.size x
  bel : Below w.heap.size w wi
theorem RcW.below {w wi wj : World} {A : Option Addr} {L : Ls} {x : Lk} (h : RcW w wi A L x) (hb : Below wi.heap.size wi wj) : RcW w wj A L x := ⟨h.s.below hb, h.b.below hb, below_old h.bel hb⟩
theorem RcW.new {w : World} {A : Option Addr} {L : Ls} (h : SlR w A (lrowL L)) (x : Lk) : RcW w (w.alloc (.cells #[.string x.it, .string x.pa, .int .i64 x.ti, .int .i64 x.vo, .string x.sp, .int .u64 x.ha] 36)) A L x := by
  have hb := (Below.refl w.heap.size w).alloc (Nat.le_refl _) (.cells #[.string x.it, .string x.pa, .int .i64 x.ti, .int .i64 x.vo, .string x.sp, .int .u64 x.ha] 36)
  exact ⟨h.below hb, Blk.new _ _ _, hb⟩
set_option maxRecDepth 100000 in
set_option maxHeartbeats 16000000 in
theorem rcan_name (L : Ls) (A : Option Addr) (c : Nat) (it pa : ByteArray) (ti vo : Int) (sp : ByteArray) (ha : Int) (hf : Fit_ ⟨it, pa, ti, vo, sp, ha⟩) (w : World) (HS : Hid (SlR w A (lrowL L))) (h : ¬ Cu.itB ⟨it, pa, ti, vo, sp, ha⟩) :
    Calls Tryd.prog 52 #[.slice A L.length c, .agg #[.string it, .string pa, .int .i64 ti, .int .i64 vo, .string sp, .int .u64 ha]] w fun e w' => e = .returned (.int .i64 (Cu.chE L ⟨it, pa, ti, vo, sp, ha⟩)) ∧ Below w.heap.size w w' := by
  have HE := Lib.hid (Cu.chE_name (L := L) h)
  obtain ⟨i1, i2, i3, t0, t1, v0, v1⟩ := hf
  simp only at i1 i2 i3 t0 t1 v0 v1
  have hb : ¬ (spE it = 0 ∧ ((spK it = 80) ↔ pa = ByteArray.empty)) := h
  obtain ⟨kk, hkk⟩ : ∃ k, spK it = k := ⟨_, rfl⟩
  obtain ⟨nn, hnn⟩ : ∃ k, spN it = k := ⟨_, rfl⟩
  obtain ⟨ee, hee⟩ : ∃ k, spE it = k := ⟨_, rfl⟩
  rw [hkk, hee] at hb
  have HS1 := Lib.hid hkk
  have HS2 := Lib.hid hnn
  have HS3 := Lib.hid hee
  clear hkk hnn hee h
  by_cases he : ee = 0
  · subst he
    by_cases hk : kk = 80
    · subst hk
      have hpa : pa ≠ ByteArray.empty := fun e => hb ⟨rfl, by simp [e]⟩
      obtain ⟨q1, q2, q3⟩ := pa_some hpa
      clear hb hpa
      have HK0 := Lib.hid (RcW.new HS.out ⟨it, pa, ti, vo, sp, ha⟩)
      go_enter Tryd.func52, Tryd.ntmps52
      go_wp2_with fail
      (with_reducible refine (rsplit_eq it _ _ _ HS1 HS2 HS3 (by omega) _).mono ?_)
      rintro e w1 ⟨rfl, hb⟩
      have HK1 := Lib.hid (HK0.out.below hb)
      clear hb HK0
      obtain ⟨z0, z1, z2, z3, z4, z5⟩ := HK1.out.b.cells
      simp only at z0 z1 z2 z3 z4 z5
      go_wp2_with fail
      go_ret
      exact ⟨ret_int' HE.out.symm, HK1.out.bel⟩
    · have hpa : pa = ByteArray.empty := by
        by_cases g : pa = ByteArray.empty
        · exact g
        · exact absurd ⟨rfl, by simp [hk, g]⟩ hb
      subst hpa
      have hk2 : (kk == 80) = false := by simpa using hk
      clear hb
      have HK0 := Lib.hid (RcW.new HS.out ⟨it, ByteArray.empty, ti, vo, sp, ha⟩)
      go_enter Tryd.func52, Tryd.ntmps52
      go_wp2_with fail
      (with_reducible refine (rsplit_eq it _ _ _ HS1 HS2 HS3 (by omega) _).mono ?_)
      rintro e w1 ⟨rfl, hb⟩
      have HK1 := Lib.hid (HK0.out.below hb)
      clear hb HK0
      obtain ⟨z0, z1, z2, z3, z4, z5⟩ := HK1.out.b.cells
      simp only at z0 z1 z2 z3 z4 z5
      go_wp2_with fail
      go_ret
      exact ⟨ret_int' HE.out.symm, HK1.out.bel⟩
  · have he2 : (ee == 0) = false := by simpa using he
    clear hb
    have HK0 := Lib.hid (RcW.new HS.out ⟨it, pa, ti, vo, sp, ha⟩)
    go_enter Tryd.func52, Tryd.ntmps52
    go_wp2_with fail
    (with_reducible refine (rsplit_eq it _ _ _ HS1 HS2 HS3 (by omega) _).mono ?_)
    rintro e w1 ⟨rfl, hb⟩
    have HK1 := Lib.hid (HK0.out.below hb)
    clear hb HK0
    obtain ⟨z0, z1, z2, z3, z4, z5⟩ := HK1.out.b.cells
    simp only at z0 z1 z2 z3 z4 z5
    go_wp2_with fail
    go_ret
    exact ⟨ret_int' HE.out.symm, HK1.out.bel⟩
set_option maxRecDepth 100000 in
set_option maxHeartbeats 32000000 in
theorem rcan_root (L : Ls) (A : Option Addr) (c : Nat) (it : ByteArray) (ti vo : Int) (sp : ByteArray) (ha : Int) (hf : Fit_ ⟨it, ByteArray.empty, ti, vo, sp, ha⟩) (w : World) (HS : Hid (SlR w A (lrowL L))) (h : Cu.itB ⟨it, ByteArray.empty, ti, vo, sp, ha⟩) (hl : (L.length : Int) ≤ 2000) (HNE : Hid (¬ Cu.ix ByteArray.empty L < L.length)) :
    Calls Tryd.prog 52 #[.slice A L.length c, .agg #[.string it, .string ByteArray.empty, .int .i64 ti, .int .i64 vo, .string sp, .int .u64 ha]] w fun e w' => e = .returned (.int .i64 (Cu.chE L ⟨it, ByteArray.empty, ti, vo, sp, ha⟩)) ∧ Below w.heap.size w w' := by
  obtain ⟨i1, i2, i3, t0, t1, v0, v1⟩ := hf
  simp only at i1 i2 i3 t0 t1 v0 v1
  have hb : spE it = 0 ∧ ((spK it = 80) ↔ ByteArray.empty = ByteArray.empty) := h
  have HS1 : Hid (spK it = 80) := hb.2.2 rfl
  have HS3 : Hid (spE it = 0) := hb.1
  obtain ⟨nn, hnn⟩ : ∃ k, spN it = k := ⟨_, rfl⟩
  have HS2 := Lib.hid hnn
  have hpar : Cu.par L ⟨it, ByteArray.empty, ti, vo, sp, ha⟩ = none := Cu.par_none HNE.out
  have hnd : ¬ Cu.ndB L ⟨it, ByteArray.empty, ti, vo, sp, ha⟩ := fun g => g.1 rfl
  have hqu : Cu.quB L ⟨it, ByteArray.empty, ti, vo, sp, ha⟩ := fun p hp => by rw [hpar] at hp; cases hp
  clear hnn hb
  by_cases h1 : Cu.ix it L < L.length
  · have HE := Lib.hid (Cu.chE_old h h1)
    obtain ⟨k, hk⟩ : ∃ k, Cu.ix it L = k := ⟨_, rfl⟩
    have HA1 : Hid (Cu.atI L it = (k : Int)) := by show _ = _; rw [Cu.atI_yes h1, hk]
    clear h h1 hk hnd hqu hpar
    have HK0 := Lib.hid (RcW.new HS.out ⟨it, ByteArray.empty, ti, vo, sp, ha⟩)
    go_enter Tryd.func52, Tryd.ntmps52
    go_wp2_with fail
    (with_reducible refine (rsplit_eq it _ _ _ HS1 HS2 HS3 (by omega) _).mono ?_)
    rintro e w1 ⟨rfl, hb⟩
    have HK1 := Lib.hid (HK0.out.below hb)
    clear hb HK0
    obtain ⟨z0, z1, z2, z3, z4, z5⟩ := HK1.out.b.cells
    simp only at z0 z1 z2 z3 z4 z5
    go_wp2_with fail
    (with_reducible refine (rat_eq L A c it k HA1 w1 (Lib.hid HK1.out.s) hl).mono ?_)
    rintro e w2 ⟨rfl, hw2⟩
    subst w2
    go_wp2_with fail
    go_ret
    exact ⟨ret_int' HE.out.symm, HK1.out.bel⟩
  have HA1 : Hid (Cu.atI L it = -1) := Cu.atI_no h1
  by_cases h3 : Cu.tiB L ⟨it, ByteArray.empty, ti, vo, sp, ha⟩
  rotate_left
  · have HE := Lib.hid (Cu.chE_time h h1 hnd h3)
    have h4 : ¬ (0 ≤ ti ∧ ti ≤ 10000000) := fun g => h3 ⟨g.1, g.2, fun p hp => by rw [hpar] at hp; cases hp⟩
    clear h h1 hnd hqu hpar h3
    by_cases g1 : ti < 0
    · clear h4
      have HK0 := Lib.hid (RcW.new HS.out ⟨it, ByteArray.empty, ti, vo, sp, ha⟩)
      go_enter Tryd.func52, Tryd.ntmps52
      go_wp2_with fail
      (with_reducible refine (rsplit_eq it _ _ _ HS1 HS2 HS3 (by omega) _).mono ?_)
      rintro e w1 ⟨rfl, hb⟩
      have HK1 := Lib.hid (HK0.out.below hb)
      clear hb HK0
      obtain ⟨z0, z1, z2, z3, z4, z5⟩ := HK1.out.b.cells
      simp only at z0 z1 z2 z3 z4 z5
      go_wp2_with fail
      (with_reducible refine (rat_eq L A c it (-1) HA1 w1 (Lib.hid HK1.out.s) hl).mono ?_)
      rintro e w2 ⟨rfl, hw2⟩
      subst w2
      have HB2 := Lib.hid (HK1.out.bel.alloc HK1.out.bel.size (.cells #[.string ⟨#[]⟩, .string ⟨#[]⟩, .int .i64 0, .int .i64 1125899906842624, .string sp, .int .u64 0] 36))
      have zs := HK1.out.b.lt
      go_wp2_with fail
      go_ret
      exact ⟨ret_int' HE.out.symm, HB2.out⟩
    · have g2 : 10000000 < ti := by omega
      clear h4
      have HK0 := Lib.hid (RcW.new HS.out ⟨it, ByteArray.empty, ti, vo, sp, ha⟩)
      go_enter Tryd.func52, Tryd.ntmps52
      go_wp2_with fail
      (with_reducible refine (rsplit_eq it _ _ _ HS1 HS2 HS3 (by omega) _).mono ?_)
      rintro e w1 ⟨rfl, hb⟩
      have HK1 := Lib.hid (HK0.out.below hb)
      clear hb HK0
      obtain ⟨z0, z1, z2, z3, z4, z5⟩ := HK1.out.b.cells
      simp only at z0 z1 z2 z3 z4 z5
      go_wp2_with fail
      (with_reducible refine (rat_eq L A c it (-1) HA1 w1 (Lib.hid HK1.out.s) hl).mono ?_)
      rintro e w2 ⟨rfl, hw2⟩
      subst w2
      have HB2 := Lib.hid (HK1.out.bel.alloc HK1.out.bel.size (.cells #[.string ⟨#[]⟩, .string ⟨#[]⟩, .int .i64 0, .int .i64 1125899906842624, .string sp, .int .u64 0] 36))
      have zs := HK1.out.b.lt
      go_wp2_with fail
      go_ret
      exact ⟨ret_int' HE.out.symm, HB2.out⟩
  have g1 : 0 ≤ ti := h3.1
  have g2 : ti ≤ 10000000 := h3.2.1
  have HI := Lib.hid h
  have HN := Lib.hid h1
  have HND := Lib.hid hnd
  have HTI := Lib.hid h3
  have HQU := Lib.hid hqu
  have HSP : Hid (nameB sp = true → Cu.spB L ⟨it, ByteArray.empty, ti, vo, sp, ha⟩) := fun g => ⟨g, fun p hp => by rw [hpar] at hp; cases hp⟩
  clear h h1 hnd h3 hqu hpar
  have HK0 := Lib.hid (RcW.new HS.out ⟨it, ByteArray.empty, ti, vo, sp, ha⟩)
  go_enter Tryd.func52, Tryd.ntmps52
  go_wp2_with fail
  (with_reducible refine (rsplit_eq it _ _ _ HS1 HS2 HS3 (by omega) _).mono ?_)
  rintro e w1 ⟨rfl, hb⟩
  have HK1 := Lib.hid (HK0.out.below hb)
  clear hb HK0
  obtain ⟨z0, z1, z2, z3, z4, z5⟩ := HK1.out.b.cells
  simp only at z0 z1 z2 z3 z4 z5
  go_wp2_with fail
  (with_reducible refine (rat_eq L A c it (-1) HA1 w1 (Lib.hid HK1.out.s) hl).mono ?_)
  rintro e w2 ⟨rfl, hw2⟩
  subst w2
  have zs := HK1.out.b.lt
  go_wp2_with fail
  have HK2 := Lib.hid (HK1.out.below ((Below.refl w1.heap.size w1).alloc (Nat.le_refl _) (.cells #[.string ⟨#[]⟩, .string ⟨#[]⟩, .int .i64 0, .int .i64 1125899906842624, .string sp, .int .u64 0] 36)))
  have HP2 : Hid (LBox (w1.alloc (.cells #[.string ⟨#[]⟩, .string ⟨#[]⟩, .int .i64 0, .int .i64 1125899906842624, .string sp, .int .u64 0] 36)) w1.heap.size ⟨⟨#[]⟩, ⟨#[]⟩, 0, 1125899906842624, sp, 0⟩) := Blk.new _ _ _
  clear z0 z1 z2 z3 z4 z5
  generalize w1.alloc (.cells #[.string ⟨#[]⟩, .string ⟨#[]⟩, .int .i64 0, .int .i64 1125899906842624, .string sp, .int .u64 0] 36) = w2 at *
  generalize w1.heap.size = g at *
  clear HK1 zs
  obtain ⟨z0, z1, z2, z3, z4, z5⟩ := HK2.out.b.cells
  obtain ⟨p0, p1, p2, p3, p4, p5⟩ := HP2.out.cells
  simp only at z0 z1 z2 z3 z4 z5 p0 p1 p2 p3 p4 p5
  obtain ⟨nm, hnm⟩ : ∃ b, nameB sp = b := ⟨_, rfl⟩
  have HNM := Lib.hid hnm
  clear hnm
  (with_reducible refine (rname_eq sp nm HNM (by omega) _).mono ?_)
  rintro e w3 ⟨rfl, hw3⟩
  subst w3
  cases nm with
  | false =>
    have HE := Lib.hid (Cu.chE_species HI.out HN.out HND.out HTI.out (fun g => by have := g.1; rw [HNM.out] at this; cases this))
    go_wp2_with fail
    go_ret
    exact ⟨ret_int' HE.out.symm, HK2.out.bel⟩
  | true =>
    have HSB := Lib.hid (HSP.out HNM.out)
    by_cases g3 : vo < 0
    · have HE := Lib.hid (Cu.chE_range HI.out HN.out HND.out HTI.out HSB.out (fun g => by have := g.1; simp only at this; omega))
      go_wp2_with fail
      go_ret
      exact ⟨ret_int' HE.out.symm, HK2.out.bel⟩
    by_cases g4 : 1125899906842624 < vo
    · have HE := Lib.hid (Cu.chE_range HI.out HN.out HND.out HTI.out HSB.out (fun g => by have := g.2; simp only at this; omega))
      go_wp2_with fail
      go_ret
      exact ⟨ret_int' HE.out.symm, HK2.out.bel⟩
    have HVO : Hid (Cu.voB ⟨it, ByteArray.empty, ti, vo, sp, ha⟩) := ⟨by show 0 ≤ vo; omega, by show vo ≤ _; omega⟩
    go_wp2_with fail
    go_quiet (fail)
    have HK3 := Lib.hid (HK2.out.below (below_drewN (Below.refl _ _) nq))
    clear z0 z1 z2 z3 z4 z5 p0 p1 p2 p3 p4 p5 HK2
    generalize w2.drewN nq = w3 at *
    by_cases g5 : (L.length : Int) < 1024
    · have HE := Lib.hid (Cu.chE_ok HI.out HN.out HND.out HTI.out HSB.out HVO.out HQU.out (by omega))
      go_wp2_with fail
      go_ret
      exact ⟨ret_int' HE.out.symm, HK3.out.bel⟩
    · have HE := Lib.hid (Cu.chE_full HI.out HN.out HND.out HTI.out HSB.out HVO.out HQU.out (by omega))
      go_wp2_with fail
      go_ret
      exact ⟨ret_int' HE.out.symm, HK3.out.bel⟩
end Go.Proofs.YtpimmdmcmccbpaaDoor
