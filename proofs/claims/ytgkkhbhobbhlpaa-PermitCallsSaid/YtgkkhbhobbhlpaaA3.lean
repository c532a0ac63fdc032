/- New, isTime, Left, Fell, Use, List of package permit. -/
import Derived.Test.YtgkkhbhobbhlpaaA2
import Derived.Deep.QuietTactic
import Derived.OwnWalk
import Derived.Laws.AppendOwnNone
namespace Go.Proofs.Ytgkkhbhobbhlpaa
open Go.RowKit
set_option linter.unusedVariables false

theorem infoPm : (Try.prog.info? 32).map (fun i => (i.zero, i.size, i.bytes)) = some (some (.agg #[.string ⟨#[]⟩, .string ⟨#[]⟩, .int .i64 0, .int .i64 0, .int .i64 0]), 5, 56) := by kernel_rfl
theorem infoI : (Try.prog.info? 3).map (fun i => (i.zero, i.size, i.bytes)) = some (some (.int .i64 0), 1, 8) := by kernel_rfl

theorem new_any (w : World) : Calls Try.prog 17 #[] w fun e w' => e = .returned (.pointer (some ⟨w.heap.size, 0, none⟩)) ∧ w' = w.alloc (.cells #[.slice none 0 0, .slice none 0 0] 77) := by
  go_enter Try.func17, Try.ntmps17
  go_wp2_with fail
  go_ret
  exact ⟨rfl, rfl⟩
theorem Reg.new (w : World) : Reg (w.alloc (.cells #[.slice none 0 0, .slice none 0 0] 77)) w.heap.size w.heap.size [] (.slice none 0 0) (.slice none 0 0) :=
  ⟨Nat.le_refl _, Blk.new _ _ _, World.ownsRow_nil _ _ _ _, World.ownsRow_nil _ _ _ _, by simp [Value.ownBlock], by simp [Value.ownBlock], .inl rfl⟩

theorem time_yes (t : Int) (h : 0 ≤ t ∧ t ≤ 10000000) (w : World) : Calls Try.prog 49 #[.int .i64 t] w fun e w' => e = .returned (.bool true) ∧ w' = w := by
  obtain ⟨h1, h2⟩ := h
  go_enter Try.func49, Try.ntmps49
  go_wp2_with fail
  go_ret
  exact ⟨ret_bool (by simp [*]), rfl⟩
theorem time_no (t : Int) (h : ¬ (0 ≤ t ∧ t ≤ 10000000)) (w : World) : Calls Try.prog 49 #[.int .i64 t] w fun e w' => e = .returned (.bool false) ∧ w' = w := by
  by_cases h1 : 0 ≤ t
  · have h2 : ¬ t ≤ 10000000 := fun g => h ⟨h1, g⟩
    clear h
    go_enter Try.func49, Try.ntmps49
    go_wp2_with fail
    go_ret
    exact ⟨ret_bool (by simp [*]), rfl⟩
  · clear h
    go_enter Try.func49, Try.ntmps49
    go_wp2_with fail
    go_ret
    exact ⟨ret_bool (by simp), rfl⟩

/-- The register's words for a walk. -/
theorem Reg.open_ {w : World} {B r : Nat} {R : Pt.Rg} {vp vu : Value} (h : Reg w B r R vp vu) : ∃ Ap cp Au cu, vp = .slice Ap R.length cp ∧ vu = .slice Au R.length cu ∧ SlR w Ap (prow R) ∧ SlR w Au (urow R) := by
  obtain ⟨Ap, cp, e1, s1, _⟩ := SlR.of_row h.per
  obtain ⟨Au, cu, e2, s2, _⟩ := SlR.of_row h.use
  exact ⟨Ap, cp, Au, cu, e1, e2, s1, s2⟩
theorem Reg.c0 {w : World} {B r : Nat} {R : Pt.Rg} {vp vu : Value} (h : Reg w B r R vp vu) : w.cell? ⟨r, 0, none⟩ = some vp := h.blk.cell 0
theorem Reg.c1 {w : World} {B r : Nat} {R : Pt.Rg} {vp vu : Value} (h : Reg w B r R vp vu) : w.cell? ⟨r, 1, none⟩ = some vu := h.blk.cell 1
theorem Reg.used {w : World} {B r : Nat} {R : Pt.Rg} {vp : Value} {A : Option Addr} {c : Nat} (h : Reg w B r R vp (.slice A R.length c)) {k : Nat} (hk : k < R.length) : ∃ g, A = some ⟨g, 0, none⟩ ∧ g < w.heap.size ∧ w.cell? ⟨g, k, none⟩ = some (.int .i64 (R[k]).2) ∧ w.frozen? ⟨g, k, none⟩ = false ∧ B ≤ g ∧ g ≠ r := by
  have h0 := h.use
  rcases h0.2 with ⟨e, _⟩ | ⟨g, cap, cur, e, hb, hg, _⟩
  · simp only [Value.slice.injEq] at e; omega
  · simp only [Value.slice.injEq, true_and] at e
    obtain ⟨rfl, rfl⟩ := e
    refine ⟨g, rfl, (Array.getElem?_eq_some_iff.1 hg).1, ?_, h0.frozenAt k, hb, fun e => h.ur (by rw [e]; rfl)⟩
    rw [h0.cellAt k (by omega)]
    exact urow_at R k hk
/-- find of a register. -/
theorem Reg.find {w : World} {B r : Nat} {R : Pt.Rg} {vp vu : Value} (h : Hid (Reg w B r R vp vu)) (hO : Hid (Pt.Ok R)) (id : ByteArray) (x : Int) (hx : Hid (Pt.fnd id R = x)) :
    Calls Try.prog 48 #[.pointer (some ⟨r, 0, none⟩), .string id] w fun e w' => e = .returned (.int .i64 x) ∧ Below w.heap.size w w' := by
  obtain ⟨Ap, cp, Au, cu, rfl, rfl, s1, _⟩ := h.out.open_
  have := find_any r Ap cp R id w s1 h.out.c0 h.out.blk.lt (by have := hO.out.len; omega)
  rw [hx.out] at this
  exact this

theorem Pt.found {R : Pt.Rg} {id : ByteArray} (hO : Pt.Ok R) (h : Pt.ix id R < R.length) : ∃ (k : Nat) (e : Pt.Pm × Int) (hk : k < R.length), R[k] = e ∧ Pt.ix id R = k ∧ R[Pt.ix id R]? = some e ∧ Pt.fnd id R = (k : Int) ∧ e.1.id = id ∧
    0 ≤ e.2 ∧ e.2 ≤ e.1.qu ∧ 1 ≤ e.1.qu ∧ e.1.qu ≤ 1125899906842624 := by
  obtain ⟨q0, q1, q2, q3⟩ := hO.quo _ h
  exact ⟨_, _, h, rfl, rfl, Pt.at_some h, Pt.fnd_yes h, Pt.ix_at id R h, q0, q1, q2, q3⟩

set_option maxHeartbeats 2000000 in
theorem left_any {B r : Nat} {R : Pt.Rg} {vp vu : Value} (id : ByteArray) (w : World) (HR : Hid (Reg w B r R vp vu)) (HO : Hid (Pt.Ok R)) :
    Calls Try.prog 24 #[.pointer (some ⟨r, 0, none⟩), .string id] w fun e w' => e = .returned (.tuple #[.int .i64 (Pt.lfN R id), .bool (Pt.lfB R id)]) ∧ Below w.heap.size w w' := by
  have hl := HO.out.len
  by_cases h : Pt.ix id R < R.length
  · have HB0 : Hid (Pt.lfB R id = true) := decide_eq_true h
    obtain ⟨k, e, hk, he, hix, hat, hfn, hid, q0, q1, q2, q3⟩ := Pt.found HO.out h
    have HX := Lib.hid hfn
    clear hfn h
    have hN : Hid (Pt.lfN R id = e.1.qu - e.2) := by show _ = _; rw [Pt.lfN, hat]
    clear hat hid hix
    go_enter Try.func24, Try.ntmps24
    go_wp2_with fail
    (with_reducible refine (Reg.find HR HO _ _ HX).mono ?_)
    rintro e w1 ⟨rfl, hb⟩
    have HR1 := Lib.hid (HR.out.below hb)
    have HB := Lib.hid hb
    clear hb
    obtain ⟨Ap, cp, Au, cu, rfl, rfl, s1, s2⟩ := HR1.out.open_
    have k0 := HR1.out.c0
    have k1 := HR1.out.c1
    obtain ⟨g, rfl, hg, cu0, fu, gB, gr⟩ := HR1.out.used hk
    obtain ⟨b, off, rfl, hbl, p0, p1, p2, p3, p4⟩ := s1.permit hk
    have zk : (k : Int) < (R.length : Int) := by omega
    rw [he] at p0 p1 p2 p3 p4 cu0
    clear he s1 s2
    generalize e.1.qu = x at *
    generalize e.2 = y at *
    clear p0 p1 p2 p3 fu
    go_wp2_with fail
    go_quiet (fail)
    go_wp2_with fail
    go_ret2
    exact ⟨by rw [hN.out, HB0.out]; rfl, below_drewN HB.out _⟩
  · have HX := Lib.hid (Pt.fnd_no h)
    have HN := Lib.hid (Pt.lfN_none h)
    have HB0 : Hid (Pt.lfB R id = false) := decide_eq_false h
    clear h
    go_enter Try.func24, Try.ntmps24
    go_wp2_with fail
    (with_reducible refine (Reg.find HR HO _ _ HX).mono ?_)
    rintro e w1 ⟨rfl, hb⟩
    have HR1 := Lib.hid (HR.out.below hb)
    have HB := Lib.hid hb
    clear hb
    go_wp2_with fail
    go_ret2
    exact ⟨by rw [HN.out, HB0.out]; rfl, HB.out⟩

set_option maxHeartbeats 4000000 in
theorem fell_any {B r : Nat} {R : Pt.Rg} {vp vu : Value} (id sp : ByteArray) (t : Int) (w : World) (HR : Hid (Reg w B r R vp vu)) (HO : Hid (Pt.Ok R)) :
    Calls Try.prog 22 #[.pointer (some ⟨r, 0, none⟩), .string id, .string sp, .int .i64 t] w fun e w' => e = .returned (.int .i64 (Pt.flE R id sp t)) ∧ Below w.heap.size w w' := by
  have hl := HO.out.len
  by_cases h : Pt.ix id R < R.length
  · obtain ⟨k, e, hk, he, hix, hat, hfn, hid, q0, q1, q2, q3⟩ := Pt.found HO.out h
    have HX := Lib.hid hfn
    clear hfn h
    have hN : Pt.flE R id sp t = if e.1.sp = sp then (if e.1.fr ≤ t ∧ t < e.1.un then 0 else 15) else 24 := by rw [Pt.flE, hat]
    clear hat hid hix
    by_cases hs : e.1.sp = sp
    · have hq := seq_t hs
      rw [if_pos hs] at hN
      by_cases h1 : e.1.fr ≤ t
      · by_cases h2 : t < e.1.un
        · have HN := Lib.hid (hN.trans (if_pos ⟨h1, h2⟩))
          clear hN
          go_enter Try.func22, Try.ntmps22
          go_wp2_with fail
          (with_reducible refine (Reg.find HR HO _ _ HX).mono ?_)
          rintro e w1 ⟨rfl, hb⟩
          have HR1 := Lib.hid (HR.out.below hb)
          have HB := Lib.hid hb
          clear hb
          obtain ⟨Ap, cp, Au, cu, rfl, rfl, s1, s2⟩ := HR1.out.open_
          have k0 := HR1.out.c0
          have k1 := HR1.out.c1
          obtain ⟨g, rfl, hg, cu0, fu, gB, gr⟩ := HR1.out.used hk
          obtain ⟨b, off, rfl, hbl, p0, p1, p2, p3, p4⟩ := s1.permit hk
          have zk : (k : Int) < (R.length : Int) := by omega
          rw [he] at p0 p1 p2 p3 p4 cu0
          clear he s1 s2
          clear hs
          go_wp2_with fail
          go_ret
          exact ⟨ret_int' HN.out.symm, (HB.out.alloc HB.out.size _)⟩
        · have HN := Lib.hid (hN.trans (if_neg (fun g => h2 g.2)))
          clear hN
          go_enter Try.func22, Try.ntmps22
          go_wp2_with fail
          (with_reducible refine (Reg.find HR HO _ _ HX).mono ?_)
          rintro e w1 ⟨rfl, hb⟩
          have HR1 := Lib.hid (HR.out.below hb)
          have HB := Lib.hid hb
          clear hb
          obtain ⟨Ap, cp, Au, cu, rfl, rfl, s1, s2⟩ := HR1.out.open_
          have k0 := HR1.out.c0
          have k1 := HR1.out.c1
          obtain ⟨g, rfl, hg, cu0, fu, gB, gr⟩ := HR1.out.used hk
          obtain ⟨b, off, rfl, hbl, p0, p1, p2, p3, p4⟩ := s1.permit hk
          have zk : (k : Int) < (R.length : Int) := by omega
          rw [he] at p0 p1 p2 p3 p4 cu0
          clear he s1 s2
          clear hs
          go_wp2_with fail
          go_ret
          exact ⟨ret_int' HN.out.symm, (HB.out.alloc HB.out.size _)⟩
      · have HN := Lib.hid (hN.trans (if_neg (fun g => h1 g.1)))
        clear hN
        go_enter Try.func22, Try.ntmps22
        go_wp2_with fail
        (with_reducible refine (Reg.find HR HO _ _ HX).mono ?_)
        rintro e w1 ⟨rfl, hb⟩
        have HR1 := Lib.hid (HR.out.below hb)
        have HB := Lib.hid hb
        clear hb
        obtain ⟨Ap, cp, Au, cu, rfl, rfl, s1, s2⟩ := HR1.out.open_
        have k0 := HR1.out.c0
        have k1 := HR1.out.c1
        obtain ⟨g, rfl, hg, cu0, fu, gB, gr⟩ := HR1.out.used hk
        obtain ⟨b, off, rfl, hbl, p0, p1, p2, p3, p4⟩ := s1.permit hk
        have zk : (k : Int) < (R.length : Int) := by omega
        rw [he] at p0 p1 p2 p3 p4 cu0
        clear he s1 s2
        clear hs
        go_wp2_with fail
        go_ret
        exact ⟨ret_int' HN.out.symm, (HB.out.alloc HB.out.size _)⟩
    · have hq := seq_f hs
      have HN := Lib.hid (hN.trans (if_neg hs))
      clear hN hs
      go_enter Try.func22, Try.ntmps22
      go_wp2_with fail
      (with_reducible refine (Reg.find HR HO _ _ HX).mono ?_)
      rintro e w1 ⟨rfl, hb⟩
      have HR1 := Lib.hid (HR.out.below hb)
      have HB := Lib.hid hb
      clear hb
      obtain ⟨Ap, cp, Au, cu, rfl, rfl, s1, s2⟩ := HR1.out.open_
      have k0 := HR1.out.c0
      have k1 := HR1.out.c1
      obtain ⟨g, rfl, hg, cu0, fu, gB, gr⟩ := HR1.out.used hk
      obtain ⟨b, off, rfl, hbl, p0, p1, p2, p3, p4⟩ := s1.permit hk
      have zk : (k : Int) < (R.length : Int) := by omega
      rw [he] at p0 p1 p2 p3 p4 cu0
      clear he s1 s2
      go_wp2_with fail
      go_ret
      exact ⟨ret_int' HN.out.symm, (HB.out.alloc HB.out.size _)⟩
  · have HX := Lib.hid (Pt.fnd_no h)
    have HN := Lib.hid (Pt.flE_none (sp := sp) (t := t) h)
    clear h
    go_enter Try.func22, Try.ntmps22
    go_wp2_with fail
    (with_reducible refine (Reg.find HR HO _ _ HX).mono ?_)
    rintro e w1 ⟨rfl, hb⟩
    have HR1 := Lib.hid (HR.out.below hb)
    have HB := Lib.hid hb
    clear hb
    go_wp2_with fail
    go_ret
    exact ⟨ret_int' HN.out.symm, HB.out⟩
end Go.Proofs.Ytgkkhbhobbhlpaa
