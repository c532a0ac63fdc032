/- Use of package permit. -/
import Derived.Test.YtpimmdmcmccbpaaDoorGI
import Derived.RegionTactic
import Derived.ChangeAlike
namespace Go.Proofs.YtpimmdmcmccbpaaDoor
open Go.RowKit
set_option linter.unusedVariables false

theorem Reg.used_ {w w1 : World} {B r k : Nat} {R : Pt.Rg} {vp : Value} {g c : Nat} {e : Pt.Pm × Int} {y : Int} (h : Reg w B r R vp (.slice (some ⟨g, 0, none⟩) R.length c)) (hk : k < R.length) (he : R[k] = e) (n : Nat) :
    Reg ((w.drewN n).setCell ⟨g, k, none⟩ (.int .i64 y)) B r (R.set k (e.1, y)) vp (.slice (some ⟨g, 0, none⟩) R.length c) ∧ w.grownBy ((w.drewN n).setCell ⟨g, k, none⟩ (.int .i64 y)) (some g) := by
  have hd : Below w.heap.size w (w.drewN n) := below_drewN (Below.refl _ _) n
  have h1 := h.below hd
  obtain ⟨o1, o2⟩ := h1.use.stored k (.int .i64 y)
  have hgr : some r ≠ some g := fun e => h.ur (by rw [e]; rfl)
  have hp : vp.ownBlock = none ∨ vp.ownBlock ≠ some g := h.pu
  have hlen : (R.set k (e.1, y)).length = R.length := by simp
  refine ⟨⟨h.low, h1.blk.grown o2 hgr, ?_, ?_, h.pr, h.ur, h.pu⟩, ?_⟩
  · have := h1.per.kept o2 hp
    rw [hlen]
    subst he
    rw [prow_set R k hk y]
    exact this
  · rw [hlen, urow_set]
    exact o1
  · exact ⟨o2.os, o2.tape, o2.output, o2.size, o2.block⟩

set_option maxHeartbeats 4000000 in
theorem use_any {B r : Nat} {R : Pt.Rg} {vp vu : Value} (id : ByteArray) (v : Int) (w : World) (HR : Hid (Reg w B r R vp vu)) (HO : Hid (Pt.Ok R)) :
    Calls Tryd.prog 23 #[.pointer (some ⟨r, 0, none⟩), .string id, .int .i64 v] w fun e w' => e = .returned (.int .i64 (Pt.usE R id v)) ∧ Reg w' B r (Pt.usR R id v) vp vu ∧ w.grownBy w' vu.ownBlock := by
  have hl := HO.out.len
  by_cases h : Pt.ix id R < R.length
  · have h' := h
    obtain ⟨k, e, hk, he, hix, hat, hfn, hid, q0, q1, q2, q3⟩ := Pt.found HO.out h
    have HX := Lib.hid hfn
    clear hfn h
    by_cases h1 : 1 ≤ v ∧ v ≤ 1125899906842624
    · by_cases h2 : v ≤ e.1.qu - e.2
      · have hE0 : Pt.usE R id v = 0 := by rw [Pt.usE, hat]; simp only [if_pos h1, if_pos h2]
        have hR0 : Pt.usR R id v = R.set k (e.1, e.2 + v) := by
          rw [Pt.usR, if_pos hE0, hat, hix]
        have HE := Lib.hid hE0
        have HRR := Lib.hid hR0
        clear hE0 hR0 hat hid hix h'
        obtain ⟨v0, v1⟩ := h1
        go_enter Tryd.func23, Tryd.ntmps23
        go_wp2_with fail
        (with_reducible refine (Reg.find HR HO _ _ HX).mono ?_)
        rintro e w1 ⟨rfl, hb⟩
        have HR1 := Lib.hid (HR.out.below hb)
        have HB := Lib.hid hb
        clear hb
        have he2 := he
        obtain ⟨Ap, cp, Au, cu, rfl, rfl, s1, s2⟩ := HR1.out.open_
        have k0 := HR1.out.c0
        have k1 := HR1.out.c1
        obtain ⟨g, rfl, hg, cu0, fu, gB, gr⟩ := HR1.out.used hk
        obtain ⟨b, off, rfl, hbl, p0, p1, p2, p3, p4⟩ := s1.permit hk
        have zk : (k : Int) < (R.length : Int) := by omega
        rw [he] at p0 p1 p2 p3 p4 cu0
        clear he s1 s2
        have HE2 := Lib.hid he2
        clear he2
        generalize hx : e.1.qu = x at *
        generalize hy : e.2 = y at *
        clear p0 p1 p2 p3
        go_wp2_with fail
        go_quiet (fail)
        have u0 := (below_drewN (Below.refl w1.heap.size w1) nq).cell (p := ⟨g, k, none⟩) hg
        go_wp2_with fail
        go_ret
        obtain ⟨a1, a2⟩ := Reg.used_ (w1 := w) (y := y + v) HR1.out hk HE2.out nq
        refine ⟨ret_int' HE.out.symm, ?_, ?_⟩
        · rw [HRR.out]; exact a1
        · exact (below_grown HB.out _).trans a2
      · have HE : Hid (Pt.usE R id v = 23) := by show _ = _; rw [Pt.usE, hat]; simp only [if_pos h1, if_neg h2]
        have HRR := Lib.hid (Pt.usR_no HE.out (by decide))
        clear hat hid hix h'
        obtain ⟨v0, v1⟩ := h1
        go_enter Tryd.func23, Tryd.ntmps23
        go_wp2_with fail
        (with_reducible refine (Reg.find HR HO _ _ HX).mono ?_)
        rintro e w1 ⟨rfl, hb⟩
        have HR1 := Lib.hid (HR.out.below hb)
        have HB := Lib.hid hb
        clear hb
        obtain ⟨Ap, cp, Au, cu, rfl, rfl, s1, s2⟩ := HR1.out.open_
        have k0 := HR1.out.c0
        have k1 := HR1.out.c1
        obtain ⟨g, rfl, hg, cu0, fu, gB, gr⟩ := HR1.out.used hk
        obtain ⟨b, off, rfl, hbl, p0, p1, p2, p3, p4⟩ := s1.permit hk
        have zk : (k : Int) < (R.length : Int) := by omega
        rw [he] at p0 p1 p2 p3 p4 cu0
        clear he s1 s2
        generalize hx : e.1.qu = x at *
        generalize hy : e.2 = y at *
        clear p0 p1 p2 p3
        go_wp2_with fail
        go_quiet (fail)
        go_wp2_with fail
        go_ret
        exact ⟨ret_int' HE.out.symm, by rw [HRR.out]; exact HR1.out.below (below_drewN (Below.refl _ _) _), below_grown (below_drewN HB.out _) _⟩
    · have HE : Hid (Pt.usE R id v = 9) := by show _ = _; rw [Pt.usE, hat]; simp only [if_neg h1]
      have HRR := Lib.hid (Pt.usR_no HE.out (by decide))
      clear hat hid hix h'
      by_cases h2 : v < 1
      · clear h1
        go_enter Tryd.func23, Tryd.ntmps23
        go_wp2_with fail
        (with_reducible refine (Reg.find HR HO _ _ HX).mono ?_)
        rintro e w1 ⟨rfl, hb⟩
        have HR1 := Lib.hid (HR.out.below hb)
        have HB := Lib.hid hb
        clear hb
        go_wp2_with fail
        go_ret
        exact ⟨ret_int' HE.out.symm, by rw [HRR.out]; exact HR1.out, below_grown HB.out _⟩
      · have h3 : 1125899906842624 < v := by omega
        clear h1
        go_enter Tryd.func23, Tryd.ntmps23
        go_wp2_with fail
        (with_reducible refine (Reg.find HR HO _ _ HX).mono ?_)
        rintro e w1 ⟨rfl, hb⟩
        have HR1 := Lib.hid (HR.out.below hb)
        have HB := Lib.hid hb
        clear hb
        go_wp2_with fail
        go_ret
        exact ⟨ret_int' HE.out.symm, by rw [HRR.out]; exact HR1.out, below_grown HB.out _⟩
  · have HX := Lib.hid (Pt.fnd_no h)
    have HE := Lib.hid (Pt.usE_none (v := v) h)
    have HRR := Lib.hid (Pt.usR_no HE.out (by decide))
    clear h
    go_enter Tryd.func23, Tryd.ntmps23
    go_wp2_with fail
    (with_reducible refine (Reg.find HR HO _ _ HX).mono ?_)
    rintro e w1 ⟨rfl, hb⟩
    have HR1 := Lib.hid (HR.out.below hb)
    have HB := Lib.hid hb
    clear hb
    go_wp2_with fail
    go_ret
    exact ⟨ret_int' HE.out.symm, by rw [HRR.out]; exact HR1.out, below_grown HB.out _⟩

end Go.Proofs.YtpimmdmcmccbpaaDoor

namespace Go.Proofs.YtpimmdmcmccbpaaDoor
open Go.RowKit
set_option linter.unusedVariables false

end Go.Proofs.YtpimmdmcmccbpaaDoor
