/- Use and List of package permit. -/
import Derived.Test.YtgkkhbhobbhlpaaA3
namespace Go.Proofs.Ytgkkhbhobbhlpaa
open Go.RowKit
set_option linter.unusedVariables false

theorem Reg.used_ {w w1 : World} {B r k : Nat} {R : Pt.Rg} {vp : Value} {g c : Nat} {e : Pt.Pm × Int} {y : Int} (h : Reg w B r R vp (.slice (some ⟨g, 0, none⟩) R.length c)) (hk : k < R.length) (he : R[k] = e) (n : Nat) :
    Reg ((w.drewN n).setCell ⟨g, k, none⟩ (.int .i64 y)) B r (R.set k (e.1, y)) vp (.slice (some ⟨g, 0, none⟩) R.length c) ∧ w.grownBy ((w.drewN n).setCell ⟨g, k, none⟩ (.int .i64 y)) (some g) := by
  have hd : Below w.heap.size w (w.drewN n) := below_drewN (Below.refl _ _) n
  have h1 := h.below hd
  obtain ⟨o1, o2⟩ := h1.use.stored k (.int .i64 y)
  have hgr : some r ≠ some g := fun e => h.ur (by rw [e]; rfl)
  have hp : vp.ownBlock = none ∨ vp.ownBlock ≠ some g := h.pu
  have hlen : (R.set k (e.1, y)).length = R.length := by simp
  refine ⟨⟨h.low, h1.blk.grown o2 hgr, ?_, ?_, h.pr, h.ur, h.pu⟩, ?_⟩
  · have := h1.per.kept o2 hp
    rw [hlen]
    subst he
    rw [prow_set R k hk y]
    exact this
  · rw [hlen, urow_set]
    exact o1
  · exact ⟨o2.os, o2.tape, o2.output, o2.size, o2.block⟩

set_option maxHeartbeats 4000000 in
theorem use_any {B r : Nat} {R : Pt.Rg} {vp vu : Value} (id : ByteArray) (v : Int) (w : World) (HR : Hid (Reg w B r R vp vu)) (HO : Hid (Pt.Ok R)) :
    Calls Try.prog 21 #[.pointer (some ⟨r, 0, none⟩), .string id, .int .i64 v] w fun e w' => e = .returned (.int .i64 (Pt.usE R id v)) ∧ Reg w' B r (Pt.usR R id v) vp vu ∧ w.grownBy w' vu.ownBlock := by
  have hl := HO.out.len
  by_cases h : Pt.ix id R < R.length
  · have h' := h
    obtain ⟨k, e, hk, he, hix, hat, hfn, hid, q0, q1, q2, q3⟩ := Pt.found HO.out h
    have HX := Lib.hid hfn
    clear hfn h
    by_cases h1 : 1 ≤ v ∧ v ≤ 1125899906842624
    · by_cases h2 : v ≤ e.1.qu - e.2
      · have hE0 : Pt.usE R id v = 0 := by rw [Pt.usE, hat]; simp only [if_pos h1, if_pos h2]
        have hR0 : Pt.usR R id v = R.set k (e.1, e.2 + v) := by
          rw [Pt.usR, if_pos hE0, hat, hix]
        have HE := Lib.hid hE0
        have HRR := Lib.hid hR0
        clear hE0 hR0 hat hid hix h'
        obtain ⟨v0, v1⟩ := h1
        go_enter Try.func21, Try.ntmps21
        go_wp2_with fail
        (with_reducible refine (Reg.find HR HO _ _ HX).mono ?_)
        rintro e w1 ⟨rfl, hb⟩
        have HR1 := Lib.hid (HR.out.below hb)
        have HB := Lib.hid hb
        clear hb
        have he2 := he
        obtain ⟨Ap, cp, Au, cu, rfl, rfl, s1, s2⟩ := HR1.out.open_
        have k0 := HR1.out.c0
        have k1 := HR1.out.c1
        obtain ⟨g, rfl, hg, cu0, fu, gB, gr⟩ := HR1.out.used hk
        obtain ⟨b, off, rfl, hbl, p0, p1, p2, p3, p4⟩ := s1.permit hk
        have zk : (k : Int) < (R.length : Int) := by omega
        rw [he] at p0 p1 p2 p3 p4 cu0
        clear he s1 s2
        have HE2 := Lib.hid he2
        clear he2
        generalize hx : e.1.qu = x at *
        generalize hy : e.2 = y at *
        clear p0 p1 p2 p3
        go_wp2_with fail
        go_quiet (fail)
        have u0 := (below_drewN (Below.refl w1.heap.size w1) nq).cell (p := ⟨g, k, none⟩) hg
        go_wp2_with fail
        go_ret
        obtain ⟨a1, a2⟩ := Reg.used_ (w1 := w) (y := y + v) HR1.out hk HE2.out nq
        refine ⟨ret_int' HE.out.symm, ?_, ?_⟩
        · rw [HRR.out]; exact a1
        · exact (below_grown HB.out _).trans a2
      · have HE : Hid (Pt.usE R id v = 23) := by show _ = _; rw [Pt.usE, hat]; simp only [if_pos h1, if_neg h2]
        have HRR := Lib.hid (Pt.usR_no HE.out (by decide))
        clear hat hid hix h'
        obtain ⟨v0, v1⟩ := h1
        go_enter Try.func21, Try.ntmps21
        go_wp2_with fail
        (with_reducible refine (Reg.find HR HO _ _ HX).mono ?_)
        rintro e w1 ⟨rfl, hb⟩
        have HR1 := Lib.hid (HR.out.below hb)
        have HB := Lib.hid hb
        clear hb
        obtain ⟨Ap, cp, Au, cu, rfl, rfl, s1, s2⟩ := HR1.out.open_
        have k0 := HR1.out.c0
        have k1 := HR1.out.c1
        obtain ⟨g, rfl, hg, cu0, fu, gB, gr⟩ := HR1.out.used hk
        obtain ⟨b, off, rfl, hbl, p0, p1, p2, p3, p4⟩ := s1.permit hk
        have zk : (k : Int) < (R.length : Int) := by omega
        rw [he] at p0 p1 p2 p3 p4 cu0
        clear he s1 s2
        generalize hx : e.1.qu = x at *
        generalize hy : e.2 = y at *
        clear p0 p1 p2 p3
        go_wp2_with fail
        go_quiet (fail)
        go_wp2_with fail
        go_ret
        exact ⟨ret_int' HE.out.symm, by rw [HRR.out]; exact HR1.out.below (below_drewN (Below.refl _ _) _), below_grown (below_drewN HB.out _) _⟩
    · have HE : Hid (Pt.usE R id v = 9) := by show _ = _; rw [Pt.usE, hat]; simp only [if_neg h1]
      have HRR := Lib.hid (Pt.usR_no HE.out (by decide))
      clear hat hid hix h'
      by_cases h2 : v < 1
      · clear h1
        go_enter Try.func21, Try.ntmps21
        go_wp2_with fail
        (with_reducible refine (Reg.find HR HO _ _ HX).mono ?_)
        rintro e w1 ⟨rfl, hb⟩
        have HR1 := Lib.hid (HR.out.below hb)
        have HB := Lib.hid hb
        clear hb
        go_wp2_with fail
        go_ret
        exact ⟨ret_int' HE.out.symm, by rw [HRR.out]; exact HR1.out, below_grown HB.out _⟩
      · have h3 : 1125899906842624 < v := by omega
        clear h1
        go_enter Try.func21, Try.ntmps21
        go_wp2_with fail
        (with_reducible refine (Reg.find HR HO _ _ HX).mono ?_)
        rintro e w1 ⟨rfl, hb⟩
        have HR1 := Lib.hid (HR.out.below hb)
        have HB := Lib.hid hb
        clear hb
        go_wp2_with fail
        go_ret
        exact ⟨ret_int' HE.out.symm, by rw [HRR.out]; exact HR1.out, below_grown HB.out _⟩
  · have HX := Lib.hid (Pt.fnd_no h)
    have HE := Lib.hid (Pt.usE_none (v := v) h)
    have HRR := Lib.hid (Pt.usR_no HE.out (by decide))
    clear h
    go_enter Try.func21, Try.ntmps21
    go_wp2_with fail
    (with_reducible refine (Reg.find HR HO _ _ HX).mono ?_)
    rintro e w1 ⟨rfl, hb⟩
    have HR1 := Lib.hid (HR.out.below hb)
    have HB := Lib.hid hb
    clear hb
    go_wp2_with fail
    go_ret
    exact ⟨ret_int' HE.out.symm, by rw [HRR.out]; exact HR1.out, below_grown HB.out _⟩

set_option maxHeartbeats 2000000 in
theorem clone_none (w : World) : Calls Try.prog 50 #[.slice none 0 0] w fun e w' => e = .returned (.slice none 0 0) ∧ w' = w := by
  have hnil := fun (w : World) (a : Option Addr) (n c : Nat) => Lib.run_eql_slice_nil (P := Try.prog) w 27 32 a n c 0 0 Try.underlying27
  go_enter Try.func50, Try.ntmps50
  go_wp2_with fail
  go_ret
  exact ⟨rfl, rfl⟩
set_option maxHeartbeats 2000000 in
theorem clone_some (g n c : Nat) (xs : List Value) (hn : n ≤ 1000) (w : World) (hl : Hid (xs.length = n * 5)) (hx : Hid (∀ j u, xs[j]? = some u → w.cell? ((⟨g, 0, none⟩ : Addr).add j) = some u)) (h1 : Hid (∀ u ∈ xs, u.oneCell' = true)) (hg : g < w.heap.size) :
    Calls Try.prog 50 #[.slice (some ⟨g, 0, none⟩) n c] w fun e w' => ∃ v, e = .returned v ∧ w'.ownsRow w.heap.size 32 5 v n xs ∧ Below w.heap.size w w' := by
  have hm0 : n ≤ maxLen := by unfold maxLen; omega
  have hb : Hid ((0 + n) * 56 ≤ 140737488355328) := by show _ ≤ _; omega
  have hm : Hid (0 + n ≤ maxLen) := by show _ ≤ _; omega
  clear hm0
  have hnil := fun (w : World) (a : Option Addr) (n c : Nat) => Lib.run_eql_slice_nil (P := Try.prog) w 27 32 a n c 0 0 Try.underlying27
  go_enter Try.func50, Try.ntmps50
  go_wp2_with (at_builtin; refine wpList_append_c rfl (.tmp 5) (.tmp 6) 27 rfl w.heap.size 32 _ 5 56 Try.underlying27 infoPm rfl (by decide) _ 0 [] rfl (World.ownsRow_lit w #[] 0 (Nat.le_refl _) (Nat.zero_le _) rfl) ⟨g, 0, none⟩ n c xs rfl hl.out ?c1 h1.out hm.out hb.out (by simp) ?_)
  case c1 =>
    intro j u hu
    have := hx.out j u hu
    rw [Below.cell ((Below.refl w.heap.size w).alloc (Nat.le_refl _) _) (by unfold Addr.add; split <;> exact hg)]
    exact this
  intro v' w' hown hgrow
  go_wp2_with fail
  go_ret
  refine ⟨v', rfl, hown, ?_⟩
  exact ((Below.refl w.heap.size w).alloc (Nat.le_refl _) _).grown hgrow (by simp) (fun k hk => by simp [Value.ownBlock] at hk; omega)

set_option maxHeartbeats 2000000 in
theorem list_any {B r : Nat} {R : Pt.Rg} {vp vu : Value} (w : World) (HR : Hid (Reg w B r R vp vu)) (HO : Hid (Pt.Ok R)) :
    Calls Try.prog 27 #[.pointer (some ⟨r, 0, none⟩)] w fun e w' => ∃ v, e = .returned v ∧ w'.ownsRow w.heap.size 32 5 v R.length (prow R) ∧ Below w.heap.size w w' := by
  have hl := HO.out.len
  have hlt := HR.out.blk.lt
  have k0 := HR.out.c0
  rcases HR.out.per.2 with ⟨rfl, h0⟩ | ⟨g, cap, cur, rfl, hb, hg, h2, h3, _⟩
  · have hnil : prow R = [] := List.eq_nil_of_length_eq_zero (by rw [prow_length, h0])
    rw [hnil, h0]
    go_enter Try.func27, Try.ntmps27
    go_wp2_with fail
    (with_reducible refine (clone_none _).mono ?_)
    rintro e w1 ⟨rfl, rfl⟩
    go_wp2_with fail
    go_ret
    exact ⟨_, rfl, World.ownsRow_nil _ _ _ _, Below.refl _ _⟩
  · have hgl : g < w.heap.size := (Array.getElem?_eq_some_iff.1 hg).1
    have HC := Lib.hid (clone_some g R.length R.length (prow R) (by omega) w (prow_length R) (HR.out.per.cells rfl) (prow_one R) hgl)
    have z1 : (R.length : Int) ≤ (cap : Int) := by omega
    clear hg
    go_enter Try.func27, Try.ntmps27
    go_wp2_with fail
    (with_reducible refine HC.out.mono ?_)
    rintro e w1 ⟨v, rfl, hown, hB⟩
    go_wp2_with fail
    go_ret
    exact ⟨v, rfl, hown, hB⟩
end Go.Proofs.Ytgkkhbhobbhlpaa
