/- The reference's register: find, Left, Fell. -/
import Derived.Test.YtgkkhbhobbhlpaaAG
import Derived.Laws.ResultCell
namespace Go.Proofs.Ytgkkhbhobbhlpaa
open Go.RowKit
set_option linter.unusedVariables false

/-- The reference's lists. -/
structure RR (w : World) (B : Nat) (R : Pt.Rg) (vp vl : Value) : Prop where
  per : w.ownsRow B 32 5 vp R.length (prow R)
  lef : w.ownsRow B 3 1 vl R.length (lrow R)
theorem RR.below {w w' : World} {B : Nat} {R : Pt.Rg} {vp vl : Value} (h : RR w B R vp vl) (hb : Below w.heap.size w w') : RR w' B R vp vl :=
  ⟨h.per.kept (below_grown hb none) (by cases vp.ownBlock <;> simp), h.lef.kept (below_grown hb none) (by cases vl.ownBlock <;> simp)⟩

set_option maxHeartbeats 2000000 in
theorem rfind_any (B : Nat) (R : Pt.Rg) (vp vl : Value) (id : ByteArray) (w : World) (HR : Hid (RR w B R vp vl)) (hl : (R.length : Int) ≤ 100) :
    Calls Try.prog 45 #[.agg #[vp, vl], .string id] w fun e w' => e = .returned (.int .i64 (Pt.fnd id R)) ∧ Below w.heap.size w w' := by
  obtain ⟨A, c, hvp⟩ := row_form HR.out.per
  subst hvp
  have hbx := (Below.refl w.heap.size w).alloc (Nat.le_refl _) (.cells #[.slice A R.length c, vl] 30)
  have HR1 := Lib.hid (HR.out.below hbx)
  have HB := Lib.hid (Blk.new w 30 #[.slice A R.length c, vl])
  have b0 : (w.alloc (.cells #[.slice A R.length c, vl] 30)).cell? ⟨w.heap.size, 0, none⟩ = some (.slice A R.length c) := HB.out.cell 0
  go_enter Try.func45, Try.ntmps45
  go_wp2_with fail
  go_loopw [5] (fun i wr => ∃ k : Nat, i = .int .i64 k ∧ k ≤ R.length ∧ Hid (∀ j (hj : j < R.length), j < k → (R[j]).1.id ≠ id) ∧ wr = w.alloc (.cells #[.slice A R.length c, vl] 30)) (fun i _ => R.length - (intOf i).toNat)
  case atStart => exact ⟨0, rfl, by omega, fun j _ h => absurd h (Nat.not_lt_zero _), rfl⟩
  case round =>
    obtain ⟨k, rfl, hk, hF, rfl⟩ := hrel
    by_cases hlt2 : k < R.length
    · obtain ⟨g, rfl, hg, c0, c1, c2, c3, c4⟩ := row_permit HR1.out.per hlt2
      have zk : (k : Int) < (R.length : Int) := by omega
      obtain ⟨e, he⟩ : ∃ e, R[k] = e := ⟨_, rfl⟩
      rw [he] at c0 c1 c2 c3 c4
      by_cases hid : e.1.id = id
      · have hres : Hid (Pt.fnd id R = (k : Int)) := by
          have hx := Pt.ix_eq hlt2 (by rw [he]; exact hid) hF.out
          show _ = _
          rw [Pt.fnd_yes (by omega), hx]
        have hq := seq_t hid
        clear he hid
        go_wp2_with fail
        go_ret
        exact ⟨ret_int' hres.out.symm, hbx⟩
      · have hq := seq_f hid
        have hF2 : Hid (∀ j (hj : j < R.length), j < k + 1 → (R[j]).1.id ≠ id) := fun j hj hjk => by
          rcases Nat.lt_or_ge j k with q | q
          · exact hF.out j hj q
          · obtain rfl : j = k := by omega
            rw [he]; exact hid
        clear he hid
        go_wp2_with fail
        go_roundw
        case rel => exact ⟨k + 1, by go_num, by omega, hF2, trivial⟩
        case measure => simp [intOf]; omega
    · have hres : Hid (Pt.fnd id R = -1) := by
        show _ = _
        rw [Pt.fnd_no]
        rw [Pt.ix_none fun j hj => hF.out j hj (by omega)]; omega
      go_wp2_with fail
      go_ret
      exact ⟨ret_int' hres.out.symm, hbx⟩
theorem rfind_eq (B : Nat) (R : Pt.Rg) (vp vl : Value) (id : ByteArray) (x : Int) (hx : Hid (Pt.fnd id R = x)) (w : World) (HR : Hid (RR w B R vp vl)) (HO : Hid (Pt.Ok R)) :
    Calls Try.prog 45 #[.agg #[vp, vl], .string id] w fun e w' => e = .returned (.int .i64 x) ∧ Below w.heap.size w w' := by
  have := rfind_any B R vp vl id w HR (by have := HO.out.len; omega)
  rw [hx.out] at this
  exact this

set_option maxHeartbeats 2000000 in
theorem rleft_any (B : Nat) (R : Pt.Rg) (vp vl : Value) (id : ByteArray) (w : World) (HR : Hid (RR w B R vp vl)) (HO : Hid (Pt.Ok R)) :
    Calls Try.prog 25 #[.agg #[vp, vl], .string id] w fun e w' => e = .returned (.tuple #[.int .i64 (Pt.lfN R id), .bool (Pt.lfB R id)]) ∧ Below w.heap.size w w' := by
  have hl := HO.out.len
  by_cases h : Pt.ix id R < R.length
  · have HB0 : Hid (Pt.lfB R id = true) := decide_eq_true h
    obtain ⟨k, e, hk, he, hix, hat, hfn, hid, q0, q1, q2, q3⟩ := Pt.found HO.out h
    have HX := Lib.hid hfn
    clear hfn h
    have hN : Hid (Pt.lfN R id = e.1.qu - e.2) := by show _ = _; rw [Pt.lfN, hat]
    clear hat hid hix
    have hbx := (Below.refl w.heap.size w).alloc (Nat.le_refl _) (.cells #[vp, vl] 30)
    have HR1 := Lib.hid (HR.out.below hbx)
    have HB := Lib.hid (Blk.new w 30 #[vp, vl])
    have HBX := Lib.hid hbx
    obtain ⟨Ap, cp, hvp⟩ := row_form HR.out.per
    obtain ⟨Al, cl, hvl⟩ := row_form HR.out.lef
    subst hvp hvl
    clear hbx
    go_enter Try.func25, Try.ntmps25
    go_wp2_with fail
    (with_reducible refine (rfind_eq _ R _ _ _ _ HX _ HR1 HO).mono ?_)
    rintro e' w1 ⟨rfl, hb⟩
    have HR2 := Lib.hid (HR1.out.below hb)
    have HB2 := Lib.hid (HB.out.below hb)
    have HBY := Lib.hid (below_old HBX.out hb)
    have b0 : w1.cell? ⟨w.heap.size, 0, none⟩ = some (.slice Ap R.length cp) := HB2.out.cell 0
    have b1 : w1.cell? ⟨w.heap.size, 1, none⟩ = some (.slice Al R.length cl) := HB2.out.cell 1
    clear hb HR1 HB HBX
    obtain ⟨g, rfl, hg, p0, p1, p2, p3, p4⟩ := row_permit HR2.out.per hk
    obtain ⟨gl, rfl, hgl, x0, fx⟩ := row_int HR2.out.lef hk
    have zk : (k : Int) < (R.length : Int) := by omega
    rw [he] at p0 p1 p2 p3 p4 x0
    clear he
    go_wp2_with fail
    go_ret2
    exact ⟨by rw [hN.out, HB0.out]; rfl, HBY.out⟩
  · have HX := Lib.hid (Pt.fnd_no h)
    have HN := Lib.hid (Pt.lfN_none h)
    have HB0 : Hid (Pt.lfB R id = false) := decide_eq_false h
    clear h
    have hbx := (Below.refl w.heap.size w).alloc (Nat.le_refl _) (.cells #[vp, vl] 30)
    have HR1 := Lib.hid (HR.out.below hbx)
    have HB := Lib.hid (Blk.new w 30 #[vp, vl])
    have HBX := Lib.hid hbx
    obtain ⟨Ap, cp, hvp⟩ := row_form HR.out.per
    obtain ⟨Al, cl, hvl⟩ := row_form HR.out.lef
    subst hvp hvl
    clear hbx
    go_enter Try.func25, Try.ntmps25
    go_wp2_with fail
    (with_reducible refine (rfind_eq _ R _ _ _ _ HX _ HR1 HO).mono ?_)
    rintro e' w1 ⟨rfl, hb⟩
    have HR2 := Lib.hid (HR1.out.below hb)
    have HB2 := Lib.hid (HB.out.below hb)
    have HBY := Lib.hid (below_old HBX.out hb)
    have b0 : w1.cell? ⟨w.heap.size, 0, none⟩ = some (.slice Ap R.length cp) := HB2.out.cell 0
    have b1 : w1.cell? ⟨w.heap.size, 1, none⟩ = some (.slice Al R.length cl) := HB2.out.cell 1
    clear hb HR1 HB HBX
    go_wp2_with fail
    go_ret2
    exact ⟨by rw [HN.out, HB0.out]; rfl, HBY.out⟩

set_option maxHeartbeats 4000000 in
theorem rfell_any (B : Nat) (R : Pt.Rg) (vp vl : Value) (id sp : ByteArray) (t : Int) (w : World) (HR : Hid (RR w B R vp vl)) (HO : Hid (Pt.Ok R)) :
    Calls Try.prog 23 #[.agg #[vp, vl], .string id, .string sp, .int .i64 t] w fun e w' => e = .returned (.int .i64 (Pt.flE R id sp t)) ∧ Below w.heap.size w w' := by
  have hl := HO.out.len
  by_cases h : Pt.ix id R < R.length
  · obtain ⟨k, e, hk, he, hix, hat, hfn, hid, q0, q1, q2, q3⟩ := Pt.found HO.out h
    have HX := Lib.hid hfn
    clear hfn h
    have hN : Pt.flE R id sp t = if e.1.sp = sp then (if e.1.fr ≤ t ∧ t < e.1.un then 0 else 15) else 24 := by rw [Pt.flE, hat]
    clear hat hid hix
    by_cases hs : e.1.sp = sp
    · have hq := seq_t hs
      rw [if_pos hs] at hN
      by_cases h1 : e.1.fr ≤ t
      · by_cases h2 : t < e.1.un
        · have HN := Lib.hid (hN.trans (if_pos ⟨h1, h2⟩))
          clear hN
          have hbx := (Below.refl w.heap.size w).alloc (Nat.le_refl _) (.cells #[vp, vl] 30)
          have HR1 := Lib.hid (HR.out.below hbx)
          have HB := Lib.hid (Blk.new w 30 #[vp, vl])
          have HBX := Lib.hid hbx
          obtain ⟨Ap, cp, hvp⟩ := row_form HR.out.per
          obtain ⟨Al, cl, hvl⟩ := row_form HR.out.lef
          subst hvp hvl
          clear hbx
          go_enter Try.func23, Try.ntmps23
          go_wp2_with fail
          (with_reducible refine (rfind_eq _ R _ _ _ _ HX _ HR1 HO).mono ?_)
          rintro e' w1 ⟨rfl, hb⟩
          have HR2 := Lib.hid (HR1.out.below hb)
          have HB2 := Lib.hid (HB.out.below hb)
          have HBY := Lib.hid (below_old HBX.out hb)
          have b0 : w1.cell? ⟨w.heap.size, 0, none⟩ = some (.slice Ap R.length cp) := HB2.out.cell 0
          have b1 : w1.cell? ⟨w.heap.size, 1, none⟩ = some (.slice Al R.length cl) := HB2.out.cell 1
          clear hb HR1 HB HBX
          obtain ⟨g, rfl, hg, p0, p1, p2, p3, p4⟩ := row_permit HR2.out.per hk
          obtain ⟨gl, rfl, hgl, x0, fx⟩ := row_int HR2.out.lef hk
          have zk : (k : Int) < (R.length : Int) := by omega
          rw [he] at p0 p1 p2 p3 p4 x0
          clear he
          clear hs
          go_wp2_with fail
          go_ret
          exact ⟨ret_int' HN.out.symm, HBY.out⟩
        · have HN := Lib.hid (hN.trans (if_neg (fun g => h2 g.2)))
          clear hN
          have hbx := (Below.refl w.heap.size w).alloc (Nat.le_refl _) (.cells #[vp, vl] 30)
          have HR1 := Lib.hid (HR.out.below hbx)
          have HB := Lib.hid (Blk.new w 30 #[vp, vl])
          have HBX := Lib.hid hbx
          obtain ⟨Ap, cp, hvp⟩ := row_form HR.out.per
          obtain ⟨Al, cl, hvl⟩ := row_form HR.out.lef
          subst hvp hvl
          clear hbx
          go_enter Try.func23, Try.ntmps23
          go_wp2_with fail
          (with_reducible refine (rfind_eq _ R _ _ _ _ HX _ HR1 HO).mono ?_)
          rintro e' w1 ⟨rfl, hb⟩
          have HR2 := Lib.hid (HR1.out.below hb)
          have HB2 := Lib.hid (HB.out.below hb)
          have HBY := Lib.hid (below_old HBX.out hb)
          have b0 : w1.cell? ⟨w.heap.size, 0, none⟩ = some (.slice Ap R.length cp) := HB2.out.cell 0
          have b1 : w1.cell? ⟨w.heap.size, 1, none⟩ = some (.slice Al R.length cl) := HB2.out.cell 1
          clear hb HR1 HB HBX
          obtain ⟨g, rfl, hg, p0, p1, p2, p3, p4⟩ := row_permit HR2.out.per hk
          obtain ⟨gl, rfl, hgl, x0, fx⟩ := row_int HR2.out.lef hk
          have zk : (k : Int) < (R.length : Int) := by omega
          rw [he] at p0 p1 p2 p3 p4 x0
          clear he
          clear hs
          go_wp2_with fail
          go_ret
          exact ⟨ret_int' HN.out.symm, HBY.out⟩
      · have HN := Lib.hid (hN.trans (if_neg (fun g => h1 g.1)))
        clear hN
        have hbx := (Below.refl w.heap.size w).alloc (Nat.le_refl _) (.cells #[vp, vl] 30)
        have HR1 := Lib.hid (HR.out.below hbx)
        have HB := Lib.hid (Blk.new w 30 #[vp, vl])
        have HBX := Lib.hid hbx
        obtain ⟨Ap, cp, hvp⟩ := row_form HR.out.per
        obtain ⟨Al, cl, hvl⟩ := row_form HR.out.lef
        subst hvp hvl
        clear hbx
        go_enter Try.func23, Try.ntmps23
        go_wp2_with fail
        (with_reducible refine (rfind_eq _ R _ _ _ _ HX _ HR1 HO).mono ?_)
        rintro e' w1 ⟨rfl, hb⟩
        have HR2 := Lib.hid (HR1.out.below hb)
        have HB2 := Lib.hid (HB.out.below hb)
        have HBY := Lib.hid (below_old HBX.out hb)
        have b0 : w1.cell? ⟨w.heap.size, 0, none⟩ = some (.slice Ap R.length cp) := HB2.out.cell 0
        have b1 : w1.cell? ⟨w.heap.size, 1, none⟩ = some (.slice Al R.length cl) := HB2.out.cell 1
        clear hb HR1 HB HBX
        obtain ⟨g, rfl, hg, p0, p1, p2, p3, p4⟩ := row_permit HR2.out.per hk
        obtain ⟨gl, rfl, hgl, x0, fx⟩ := row_int HR2.out.lef hk
        have zk : (k : Int) < (R.length : Int) := by omega
        rw [he] at p0 p1 p2 p3 p4 x0
        clear he
        clear hs
        go_wp2_with fail
        go_ret
        exact ⟨ret_int' HN.out.symm, HBY.out⟩
    · have hq := seq_f hs
      have HN := Lib.hid (hN.trans (if_neg hs))
      clear hN hs
      have hbx := (Below.refl w.heap.size w).alloc (Nat.le_refl _) (.cells #[vp, vl] 30)
      have HR1 := Lib.hid (HR.out.below hbx)
      have HB := Lib.hid (Blk.new w 30 #[vp, vl])
      have HBX := Lib.hid hbx
      obtain ⟨Ap, cp, hvp⟩ := row_form HR.out.per
      obtain ⟨Al, cl, hvl⟩ := row_form HR.out.lef
      subst hvp hvl
      clear hbx
      go_enter Try.func23, Try.ntmps23
      go_wp2_with fail
      (with_reducible refine (rfind_eq _ R _ _ _ _ HX _ HR1 HO).mono ?_)
      rintro e' w1 ⟨rfl, hb⟩
      have HR2 := Lib.hid (HR1.out.below hb)
      have HB2 := Lib.hid (HB.out.below hb)
      have HBY := Lib.hid (below_old HBX.out hb)
      have b0 : w1.cell? ⟨w.heap.size, 0, none⟩ = some (.slice Ap R.length cp) := HB2.out.cell 0
      have b1 : w1.cell? ⟨w.heap.size, 1, none⟩ = some (.slice Al R.length cl) := HB2.out.cell 1
      clear hb HR1 HB HBX
      obtain ⟨g, rfl, hg, p0, p1, p2, p3, p4⟩ := row_permit HR2.out.per hk
      obtain ⟨gl, rfl, hgl, x0, fx⟩ := row_int HR2.out.lef hk
      have zk : (k : Int) < (R.length : Int) := by omega
      rw [he] at p0 p1 p2 p3 p4 x0
      clear he
      go_wp2_with fail
      go_ret
      exact ⟨ret_int' HN.out.symm, HBY.out⟩
  · have HX := Lib.hid (Pt.fnd_no h)
    have HN := Lib.hid (Pt.flE_none (sp := sp) (t := t) h)
    clear h
    have hbx := (Below.refl w.heap.size w).alloc (Nat.le_refl _) (.cells #[vp, vl] 30)
    have HR1 := Lib.hid (HR.out.below hbx)
    have HB := Lib.hid (Blk.new w 30 #[vp, vl])
    have HBX := Lib.hid hbx
    obtain ⟨Ap, cp, hvp⟩ := row_form HR.out.per
    obtain ⟨Al, cl, hvl⟩ := row_form HR.out.lef
    subst hvp hvl
    clear hbx
    go_enter Try.func23, Try.ntmps23
    go_wp2_with fail
    (with_reducible refine (rfind_eq _ R _ _ _ _ HX _ HR1 HO).mono ?_)
    rintro e' w1 ⟨rfl, hb⟩
    have HR2 := Lib.hid (HR1.out.below hb)
    have HB2 := Lib.hid (HB.out.below hb)
    have HBY := Lib.hid (below_old HBX.out hb)
    have b0 : w1.cell? ⟨w.heap.size, 0, none⟩ = some (.slice Ap R.length cp) := HB2.out.cell 0
    have b1 : w1.cell? ⟨w.heap.size, 1, none⟩ = some (.slice Al R.length cl) := HB2.out.cell 1
    clear hb HR1 HB HBX
    go_wp2_with fail
    go_ret
    exact ⟨ret_int' HN.out.symm, HBY.out⟩
end Go.Proofs.Ytgkkhbhobbhlpaa
