/- The reference of custody: Can, a link with a parent. -/
import Derived.Test.YtpimmdmcmccbpaaDoorEO
namespace Go.Proofs.YtpimmdmcmccbpaaDoor
open Go.RowKit
set_option linter.unusedVariables false
open Cu (Lk Ls)
theorem all_par {L : Ls} {x e : Lk} {Q : Lk → Prop} (hp : Cu.par L x = some e) (h : Q e) : ∀ p, Cu.par L x = some p → Q p := fun p g => by rw [hp] at g; cases g; exact h
/-- A link stored over another one. -/
def set6 (w : World) (g : Nat) (e : Lk) : World := (((((w.setCell ⟨g, 0, none⟩ (.string e.it)).setCell ⟨g, 1, none⟩ (.string e.pa)).setCell ⟨g, 2, none⟩ (.int .i64 e.ti)).setCell ⟨g, 3, none⟩ (.int .i64 e.vo)).setCell ⟨g, 4, none⟩ (.string e.sp)).setCell ⟨g, 5, none⟩ (.int .u64 e.ha)
theorem set6_grown (w : World) (g : Nat) (e : Lk) : w.grownBy (set6 w g e) (some g) :=
  (((((set_grown _ _ _ _).trans (set_grown _ _ _ _)).trans (set_grown _ _ _ _)).trans (set_grown _ _ _ _)).trans (set_grown _ _ _ _)).trans (set_grown _ _ _ _)
theorem set6_box {w : World} {g : Nat} {p : Lk} (h : LBox w g p) (e : Lk) : LBox (set6 w g e) g e := by
  have := (((((Blk.set_ h 0 (.string e.it)).set_ 1 (.string e.pa)).set_ 2 (.int .i64 e.ti)).set_ 3 (.int .i64 e.vo)).set_ 4 (.string e.sp)).set_ 5 (.int .u64 e.ha)
  simpa [LBox, set6] using this
theorem RcW.set6 {w wi : World} {A : Option Addr} {L : Ls} {x : Lk} (h : RcW w wi A L x) {g : Nat} (hg : w.heap.size < g) (hA : ∀ a, A = some a → a.block < g) (e : Lk) : RcW w (set6 wi g e) A L x := by
  have k := set6_grown wi g e
  refine ⟨h.s.grown k (fun b hb a ha => ?_), Blk.grown h.b k (by simp; omega), h.bel.grown k h.bel.size (fun j hj => ?_)⟩
  · cases hb; have := hA a ha; omega
  · cases hj; omega
set_option maxRecDepth 100000 in
set_option maxHeartbeats 32000000 in
theorem rcan_kid (L : Ls) (A : Option Addr) (c : Nat) (it pa : ByteArray) (ti vo : Int) (sp : ByteArray) (ha : Int) (hf : Fit_ ⟨it, pa, ti, vo, sp, ha⟩) (w : World) (HS : Hid (SlR w A (lrowL L))) (h : Cu.itB ⟨it, pa, ti, vo, sp, ha⟩) (hl : (L.length : Int) ≤ 2000) (hpa : pa ≠ ByteArray.empty) (HG : Hid (Cu.Good L)) :
    Calls Tryd.prog 52 #[.slice A L.length c, .agg #[.string it, .string pa, .int .i64 ti, .int .i64 vo, .string sp, .int .u64 ha]] w fun e w' => e = .returned (.int .i64 (Cu.chE L ⟨it, pa, ti, vo, sp, ha⟩)) ∧ Below w.heap.size w w' := by
  obtain ⟨i1, i2, i3, t0, t1, v0, v1⟩ := hf
  simp only at i1 i2 i3 t0 t1 v0 v1
  have hb : spE it = 0 ∧ ((spK it = 80) ↔ pa = ByteArray.empty) := h
  have HS3 : Hid (spE it = 0) := hb.1
  obtain ⟨kk, hkk⟩ : ∃ k, spK it = k := ⟨_, rfl⟩
  have hk8 : ¬ kk = 80 := fun e => hpa (hb.2.1 (hkk.trans e))
  have hk2 : (kk == 80) = false := by simpa using hk8
  obtain ⟨nn, hnn⟩ : ∃ k, spN it = k := ⟨_, rfl⟩
  have HS1 := Lib.hid hkk
  have HS2 := Lib.hid hnn
  have HPN := Lib.hid hpa
  obtain ⟨q1, q2, q3⟩ := pa_some hpa
  clear hnn hb hkk hpa
  by_cases h1 : Cu.ix it L < L.length
  · have HE := Lib.hid (Cu.chE_old h h1)
    obtain ⟨k, hk⟩ : ∃ k, Cu.ix it L = k := ⟨_, rfl⟩
    have HA1 : Hid (Cu.atI L it = (k : Int)) := by show _ = _; rw [Cu.atI_yes h1, hk]
    clear h h1 hk
    have HK0 := Lib.hid (RcW.new HS.out ⟨it, pa, ti, vo, sp, ha⟩)
    go_enter Tryd.func52, Tryd.ntmps52
    go_wp2_with fail
    (with_reducible refine (rsplit_eq it _ _ _ HS1 HS2 HS3 (by omega) _).mono ?_)
    rintro e w1 ⟨rfl, hb⟩
    have HK1 := Lib.hid (HK0.out.below hb)
    clear hb HK0
    obtain ⟨z0, z1, z2, z3, z4, z5⟩ := HK1.out.b.cells
    simp only at z0 z1 z2 z3 z4 z5
    go_wp2_with fail
    (with_reducible refine (rat_eq L A c it k HA1 w1 (Lib.hid HK1.out.s) hl).mono ?_)
    rintro e w2 ⟨rfl, hw2⟩
    subst w2
    go_wp2_with fail
    go_ret
    exact ⟨ret_int' HE.out.symm, HK1.out.bel⟩
  have HA1 : Hid (Cu.atI L it = -1) := Cu.atI_no h1
  have HI := Lib.hid h
  have HN := Lib.hid h1
  clear h h1
  have HK0 := Lib.hid (RcW.new HS.out ⟨it, pa, ti, vo, sp, ha⟩)
  go_enter Tryd.func52, Tryd.ntmps52
  go_wp2_with fail
  (with_reducible refine (rsplit_eq it _ _ _ HS1 HS2 HS3 (by omega) _).mono ?_)
  rintro e w1 ⟨rfl, hb⟩
  have HK1 := Lib.hid (HK0.out.below hb)
  clear hb HK0
  obtain ⟨z0, z1, z2, z3, z4, z5⟩ := HK1.out.b.cells
  simp only at z0 z1 z2 z3 z4 z5
  go_wp2_with fail
  (with_reducible refine (rat_eq L A c it (-1) HA1 w1 (Lib.hid HK1.out.s) hl).mono ?_)
  rintro e w2 ⟨rfl, hw2⟩
  subst w2
  have zs := HK1.out.b.lt
  go_wp2_with fail
  have HK2 := Lib.hid (HK1.out.below ((Below.refl w1.heap.size w1).alloc (Nat.le_refl _) (.cells #[.string ⟨#[]⟩, .string ⟨#[]⟩, .int .i64 0, .int .i64 1125899906842624, .string sp, .int .u64 0] 36)))
  have HP2 : Hid (LBox (w1.alloc (.cells #[.string ⟨#[]⟩, .string ⟨#[]⟩, .int .i64 0, .int .i64 1125899906842624, .string sp, .int .u64 0] 36)) w1.heap.size ⟨⟨#[]⟩, ⟨#[]⟩, 0, 1125899906842624, sp, 0⟩) := Blk.new _ _ _
  have HSL := Lib.hid HK1.out.s
  have HBL := Lib.hid HK1.out.bel.size
  clear z0 z1 z2 z3 z4 z5
  generalize w1.alloc (.cells #[.string ⟨#[]⟩, .string ⟨#[]⟩, .int .i64 0, .int .i64 1125899906842624, .string sp, .int .u64 0] 36) = w2 at *
  by_cases h2 : Cu.ix pa L < L.length
  rotate_left
  · have HA2 : Hid (Cu.atI L pa = -1) := Cu.atI_no h2
    have HE := Lib.hid (Cu.chE_none HI.out HN.out ⟨HPN.out, h2⟩)
    (with_reducible refine (rat_eq L A c pa (-1) HA2 w2 (Lib.hid HK2.out.s) hl).mono ?_)
    rintro e w3 ⟨rfl, hw3⟩
    subst w3
    go_wp2_with fail
    go_ret
    exact ⟨ret_int' HE.out.symm, HK2.out.bel⟩
  have hpar := Cu.par_some (x := ⟨it, pa, ti, vo, sp, ha⟩) h2
  have hnd : ¬ Cu.ndB L ⟨it, pa, ti, vo, sp, ha⟩ := fun g => g.2 h2
  simp only at hpar
  obtain ⟨k, hk⟩ : ∃ k, Cu.ix pa L = k := ⟨_, rfl⟩
  have HA2 : Hid (Cu.atI L pa = (k : Int)) := by show _ = _; rw [Cu.atI_yes h2, hk]
  have hkl : k < L.length := by omega
  have zk : (k : Int) < (L.length : Int) := by omega
  obtain ⟨e, he⟩ : ∃ e, L[k] = e := ⟨_, rfl⟩
  have HEK := Lib.hid he
  have hpar2 : Cu.par L ⟨it, pa, ti, vo, sp, ha⟩ = some e := by rw [hpar, ← he]; congr 2
  have HPAR := Lib.hid hpar2
  have HND := Lib.hid hnd
  clear hpar hnd hk h2 hpar2 he
  (with_reducible refine (rat_eq L A c pa k HA2 w2 (Lib.hid HK2.out.s) hl).mono ?_)
  rintro e' w3 ⟨rfl, hw3⟩
  subst w3
  obtain ⟨bb, off, hA, hbl, p0, p1, p2, p3, p4, p5⟩ := HK2.out.s.link hkl
  subst hA
  rw [HEK.out] at p0 p1 p2 p3 p4 p5
  obtain ⟨r0, r1, r2, r3, r4, r5⟩ := HP2.out.cells
  have f0 := Blk.frozen HP2.out 0
  have f1 := Blk.frozen HP2.out 1
  have f2 := Blk.frozen HP2.out 2
  have f3 := Blk.frozen HP2.out 3
  have f4 := Blk.frozen HP2.out 4
  have f5 := Blk.frozen HP2.out 5
  simp only at r0 r1 r2 r3 r4 r5
  obtain ⟨z0, z1, z2, z3, z4, z5⟩ := HK2.out.b.cells
  simp only at z0 z1 z2 z3 z4 z5
  by_cases g1 : ti < e.ti
  · have HE := Lib.hid (Cu.chE_time HI.out HN.out HND.out (fun g => by have := g.2.2 e HPAR.out; simp only at this; omega))
    go_wp2_with fail
    have HK3 : Hid (RcW w (set6 w2 w1.heap.size e) (some ⟨bb, off, none⟩) L ⟨it, pa, ti, vo, sp, ha⟩) := HK2.out.set6 zs (fun a ha => by
      obtain ⟨b', o', e1, e2, _⟩ := HSL.out.link hkl
      rw [ha] at e1
      cases e1
      exact e2) e
    have HP3 := Lib.hid (set6_box HP2.out e)
    go_ret
    exact ⟨ret_int' HE.out.symm, HK3.out.bel⟩
  by_cases g2 : ti < 0
  · have HE := Lib.hid (Cu.chE_time HI.out HN.out HND.out (fun g => by have := g.1; simp only at this; omega))
    go_wp2_with fail
    have HK3 : Hid (RcW w (set6 w2 w1.heap.size e) (some ⟨bb, off, none⟩) L ⟨it, pa, ti, vo, sp, ha⟩) := HK2.out.set6 zs (fun a ha => by
      obtain ⟨b', o', e1, e2, _⟩ := HSL.out.link hkl
      rw [ha] at e1
      cases e1
      exact e2) e
    have HP3 := Lib.hid (set6_box HP2.out e)
    go_ret
    exact ⟨ret_int' HE.out.symm, HK3.out.bel⟩
  by_cases g3 : 10000000 < ti
  · have HE := Lib.hid (Cu.chE_time HI.out HN.out HND.out (fun g => by have := g.2.1; simp only at this; omega))
    go_wp2_with fail
    have HK3 : Hid (RcW w (set6 w2 w1.heap.size e) (some ⟨bb, off, none⟩) L ⟨it, pa, ti, vo, sp, ha⟩) := HK2.out.set6 zs (fun a ha => by
      obtain ⟨b', o', e1, e2, _⟩ := HSL.out.link hkl
      rw [ha] at e1
      cases e1
      exact e2) e
    have HP3 := Lib.hid (set6_box HP2.out e)
    go_ret
    exact ⟨ret_int' HE.out.symm, HK3.out.bel⟩
  have HTI : Hid (Cu.tiB L ⟨it, pa, ti, vo, sp, ha⟩) := ⟨by show 0 ≤ ti; omega, by show ti ≤ _; omega, all_par HPAR.out (by show e.ti ≤ ti; omega)⟩
  go_wp2_with fail
  have HK3 : Hid (RcW w (set6 w2 w1.heap.size e) (some ⟨bb, off, none⟩) L ⟨it, pa, ti, vo, sp, ha⟩) := HK2.out.set6 zs (fun a ha => by
    obtain ⟨b', o', e1, e2, _⟩ := HSL.out.link hkl
    rw [ha] at e1
    cases e1
    exact e2) e
  have HP3 := Lib.hid (set6_box HP2.out e)
  unfold set6 at HK3 HP3
  clear z0 z1 z2 z3 z4 z5 p0 p1 p2 p3 p4 p5 r0 r1 r2 r3 r4 r5 f0 f1 f2 f3 f4 f5
  generalize (((((w2.setCell ⟨w1.heap.size, 0, none⟩ (.string e.it)).setCell ⟨w1.heap.size, 1, none⟩ (.string e.pa)).setCell ⟨w1.heap.size, 2, none⟩ (.int .i64 e.ti)).setCell ⟨w1.heap.size, 3, none⟩ (.int .i64 e.vo)).setCell ⟨w1.heap.size, 4, none⟩ (.string e.sp)).setCell ⟨w1.heap.size, 5, none⟩ (.int .u64 e.ha) = w3 at HK3 HP3 ⊢
  clear HK2 HP2 HSL HBL HK1 zs
  generalize w1.heap.size = g at *
  obtain ⟨z0, z1, z2, z3, z4, z5⟩ := HK3.out.b.cells
  obtain ⟨p0, p1, p2, p3, p4, p5⟩ := HP3.out.cells
  simp only at z0 z1 z2 z3 z4 z5
  obtain ⟨nm, hnm⟩ : ∃ b, nameB sp = b := ⟨_, rfl⟩
  have HNM := Lib.hid hnm
  clear hnm
  (with_reducible refine (rname_eq sp nm HNM (by omega) _).mono ?_)
  rintro e'' w4 ⟨rfl, hw4⟩
  subst w4
  cases nm with
  | false =>
    have HE := Lib.hid (Cu.chE_species HI.out HN.out HND.out HTI.out (fun g => by have := g.1; rw [HNM.out] at this; cases this))
    go_wp2_with fail
    go_ret
    exact ⟨ret_int' HE.out.symm, HK3.out.bel⟩
  | true =>
    by_cases gs : sp = e.sp
    rotate_left
    · have HE := Lib.hid (Cu.chE_species HI.out HN.out HND.out HTI.out (fun g => gs (g.2 e HPAR.out)))
      have hq := seq_f gs
      clear gs
      go_wp2_with fail
      go_ret
      exact ⟨ret_int' HE.out.symm, HK3.out.bel⟩
    have hq := seq_t gs
    have HSB : Hid (Cu.spB L ⟨it, pa, ti, vo, sp, ha⟩) := ⟨HNM.out, all_par HPAR.out (by show sp = e.sp; exact gs)⟩
    have HGS := Lib.hid gs
    clear gs
    by_cases g4 : vo < 0
    · have HE := Lib.hid (Cu.chE_range HI.out HN.out HND.out HTI.out HSB.out (fun g => by have := g.1; simp only at this; omega))
      go_wp2_with fail
      go_ret
      exact ⟨ret_int' HE.out.symm, HK3.out.bel⟩
    by_cases g5 : 1125899906842624 < vo
    · have HE := Lib.hid (Cu.chE_range HI.out HN.out HND.out HTI.out HSB.out (fun g => by have := g.2; simp only at this; omega))
      go_wp2_with fail
      go_ret
      exact ⟨ret_int' HE.out.symm, HK3.out.bel⟩
    have HVO : Hid (Cu.voB ⟨it, pa, ti, vo, sp, ha⟩) := ⟨by show 0 ≤ vo; omega, by show vo ≤ _; omega⟩
    obtain ⟨gg, hgg⟩ : ∃ g, Cu.gv pa L = g := ⟨_, rfl⟩
    have HGG := Lib.hid hgg
    have gg0 : 0 ≤ gg := by rw [← hgg]; exact HG.out.al.g0 pa
    have gg1 : gg ≤ 1125899906842624 := by rw [← hgg]; exact HG.out.al.g1 pa HPN.out
    clear hgg
    go_wp2_with fail
    have HSD : Hid (∀ n, SlR (w3.drewN n) (some ⟨bb, off, none⟩) (lrowL L)) := fun n => HK3.out.s.below (below_drewN (Below.refl _ _) n)
    go_quiet ((go_at_call 67; (with_reducible exact Calls.quiet_of_same (rvol_eq L _ c pa gg HGG HPN _ (Lib.hid (HSD.out _)) hl HG))))
    have HK4 := Lib.hid (HK3.out.below (below_drewN (Below.refl _ _) nq))
    clear z0 z1 z2 z3 z4 z5 p0 p1 p2 p3 p4 p5 HK3 HP3 HSD
    generalize w3.drewN nq = w4 at *
    by_cases g6 : e.vo < gg + vo
    · have HE := Lib.hid (Cu.chE_quota HI.out HN.out HND.out HTI.out HSB.out HVO.out (fun g => by have := g e HPAR.out; simp only [HGG.out] at this; omega))
      go_wp2_with fail
      go_ret
      exact ⟨ret_int' HE.out.symm, HK4.out.bel⟩
    have HQU : Hid (Cu.quB L ⟨it, pa, ti, vo, sp, ha⟩) := all_par HPAR.out (by simp only [HGG.out]; omega)
    by_cases g7 : (L.length : Int) < 1024
    · have HE := Lib.hid (Cu.chE_ok HI.out HN.out HND.out HTI.out HSB.out HVO.out HQU.out (by omega))
      go_wp2_with fail
      go_ret
      exact ⟨ret_int' HE.out.symm, HK4.out.bel⟩
    · have HE := Lib.hid (Cu.chE_full HI.out HN.out HND.out HTI.out HSB.out HVO.out HQU.out (by omega))
      go_wp2_with fail
      go_ret
      exact ⟨ret_int' HE.out.symm, HK4.out.bel⟩
theorem rcan_any (L : Ls) (A : Option Addr) (c : Nat) (it pa : ByteArray) (ti vo : Int) (sp : ByteArray) (ha : Int) (hf : Fit_ ⟨it, pa, ti, vo, sp, ha⟩) (w : World) (HS : Hid (SlR w A (lrowL L))) (HG : Hid (Cu.Good L)) :
    Calls Tryd.prog 52 #[.slice A L.length c, .agg #[.string it, .string pa, .int .i64 ti, .int .i64 vo, .string sp, .int .u64 ha]] w fun e w' => e = .returned (.int .i64 (Cu.chE L ⟨it, pa, ti, vo, sp, ha⟩)) ∧ Below w.heap.size w w' := by
  have hm := HG.out.mild
  by_cases h : Cu.itB ⟨it, pa, ti, vo, sp, ha⟩
  · by_cases hpa : pa = ByteArray.empty
    · subst hpa
      exact rcan_root L A c it ti vo sp ha hf w HS h hm.len (Lib.hid hm.ne)
    · exact rcan_kid L A c it pa ti vo sp ha hf w HS h hm.len hpa HG
  · exact rcan_name L A c it pa ti vo sp ha hf w HS h
end Go.Proofs.YtpimmdmcmccbpaaDoor
