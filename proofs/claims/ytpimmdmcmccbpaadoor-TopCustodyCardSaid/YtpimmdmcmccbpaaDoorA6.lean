/- Add of package permit: the walk. -/
import Derived.Test.YtpimmdmcmccbpaaDoorGJ
namespace Go.Proofs.YtpimmdmcmccbpaaDoor
open Go.RowKit
set_option linter.unusedVariables false

def pobj (p : Pt.Pm) : Obj := .cells #[.string p.id, .string p.sp, .int .i64 p.fr, .int .i64 p.un, .int .i64 p.qu] 44
/-- The box of Add's argument. -/
def PBox (w : World) (g : Nat) (p : Pt.Pm) : Prop := Blk w g 44 #[.string p.id, .string p.sp, .int .i64 p.fr, .int .i64 p.un, .int .i64 p.qu]
theorem PBox.cells {w : World} {g : Nat} {p : Pt.Pm} (h : PBox w g p) : w.cell? ⟨g, 0, none⟩ = some (.string p.id) ∧ w.cell? ⟨g, 1, none⟩ = some (.string p.sp) ∧ w.cell? ⟨g, 2, none⟩ = some (.int .i64 p.fr) ∧ w.cell? ⟨g, 3, none⟩ = some (.int .i64 p.un) ∧ w.cell? ⟨g, 4, none⟩ = some (.int .i64 p.qu) :=
  ⟨Blk.cell h 0, Blk.cell h 1, Blk.cell h 2, Blk.cell h 3, Blk.cell h 4⟩

theorem PBox.below {w w' : World} {g : Nat} {p : Pt.Pm} (h : PBox w g p) (hb : Below w.heap.size w w') : PBox w' g p := Blk.below h hb

theorem is_eq (s : ByteArray) (x : Bool) (hx : Hid (isB s 80 = x)) (hsz : (s.size : Int) ≤ 9223372036854775807) (w : World) :
    Calls Tryd.prog 41 #[.string s, .int .u8 80] w fun e w' => e = .returned (.bool x) ∧ Below w.heap.size w w' := by
  have := is_any s hsz 80 w
  rw [hx.out] at this
  exact this
theorem name_eq (s : ByteArray) (x : Bool) (hx : Hid (nameB s = x)) (hsz : (s.size : Int) ≤ 9223372036854775807) (w : World) :
    Calls Tryd.prog 48 #[.string s] w fun e w' => e = .returned (.bool x) ∧ Below w.heap.size w w' := by
  have := isName_any s hsz w
  rw [hx.out] at this
  exact this.mono fun e w' ⟨h1, h2⟩ => ⟨h1, by subst h2; exact Below.refl _ _⟩

/-- What Add leaves: the old register and a world with nothing else changed. -/
structure Added (w w' : World) (B r : Nat) (R : Pt.Rg) (vp vu : Value) : Prop where
  reg : ∃ vp' vu', Reg w' B r R vp' vu' ∧ (vu' = vu ∨ ∀ k, vu'.ownBlock = some k → w.heap.size ≤ k) ∧ (vp' = vp ∨ ∀ k, vp'.ownBlock = some k → w.heap.size ≤ k)
  grown : w.grownBy w' (some r)


set_option maxHeartbeats 4000000 in
theorem add_name {B r : Nat} {R : Pt.Rg} {vp vu : Value} (p : Pt.Pm) (s1 : (p.id.size : Int) ≤ 9223372036854775807) (s2 : (p.sp.size : Int) ≤ 9223372036854775807) (w : World) (HR : Hid (Reg w B r R vp vu)) (HO : Hid (Pt.Ok R))
    (h : ¬ (isB p.id 80 && nameB p.sp) = true) :
    Calls Tryd.prog 21 #[.pointer (some ⟨r, 0, none⟩), .agg #[.string p.id, .string p.sp, .int .i64 p.fr, .int .i64 p.un, .int .i64 p.qu]] w fun e w' => e = .returned (.int .i64 (Pt.adE R p)) ∧ Added w w' B r (Pt.adR R p) vp vu := by
  have HE := Lib.hid (Pt.adE_name (R := R) h)
  have HRR := Lib.hid (Pt.adR_no HE.out (by decide))
  cases h1 : isB p.id 80 with
  | false =>
    have H1 := Lib.hid h1
    clear h1 h
    have HB : Hid (Below w.heap.size w (w.alloc (.cells #[.string p.id, .string p.sp, .int .i64 p.fr, .int .i64 p.un, .int .i64 p.qu] 44))) := (Below.refl _ _).alloc (Nat.le_refl _) _
    have HP : Hid (PBox (w.alloc (.cells #[.string p.id, .string p.sp, .int .i64 p.fr, .int .i64 p.un, .int .i64 p.qu] 44)) w.heap.size p) := Blk.new _ _ _
    go_enter Tryd.func21, Tryd.ntmps21
    go_wp2_with fail
    (with_reducible refine (is_eq _ _ H1 s1 _).mono ?_)
    rintro e w1 ⟨rfl, hb⟩
    have HB := Lib.hid (HB.out.trans (hb.mono HB.out.size))
    have HP := Lib.hid (PBox.below HP.out hb)
    clear hb
    obtain ⟨c0, c1, c2, c3, c4⟩ := HP.out.cells
    go_wp2_with fail
    go_ret
    exact ⟨ret_int' HE.out.symm, by rw [HRR.out]; exact ⟨⟨_, _, HR.out.below HB.out, .inl rfl, .inl rfl⟩, below_grown HB.out _⟩⟩
  | true =>
    have H1 := Lib.hid h1
    have H2 : Hid (nameB p.sp = false) := by rw [h1] at h; show _ = _; simpa using h
    clear h1 h
    have HB : Hid (Below w.heap.size w (w.alloc (.cells #[.string p.id, .string p.sp, .int .i64 p.fr, .int .i64 p.un, .int .i64 p.qu] 44))) := (Below.refl _ _).alloc (Nat.le_refl _) _
    have HP : Hid (PBox (w.alloc (.cells #[.string p.id, .string p.sp, .int .i64 p.fr, .int .i64 p.un, .int .i64 p.qu] 44)) w.heap.size p) := Blk.new _ _ _
    go_enter Tryd.func21, Tryd.ntmps21
    go_wp2_with fail
    (with_reducible refine (is_eq _ _ H1 s1 _).mono ?_)
    rintro e w1 ⟨rfl, hb⟩
    have HB := Lib.hid (HB.out.trans (hb.mono HB.out.size))
    have HP := Lib.hid (PBox.below HP.out hb)
    clear hb
    obtain ⟨c0, c1, c2, c3, c4⟩ := HP.out.cells
    go_wp2_with fail
    (with_reducible refine (name_eq _ _ H2 s2 _).mono ?_)
    rintro e w2 ⟨rfl, hb⟩
    have HB := Lib.hid (HB.out.trans (hb.mono HB.out.size))
    have HP := Lib.hid (PBox.below HP.out hb)
    clear hb
    clear c0 c1 c2 c3 c4
    obtain ⟨c0, c1, c2, c3, c4⟩ := HP.out.cells
    go_wp2_with fail
    go_ret
    exact ⟨ret_int' HE.out.symm, by rw [HRR.out]; exact ⟨⟨_, _, HR.out.below HB.out, .inl rfl, .inl rfl⟩, below_grown HB.out _⟩⟩

set_option maxHeartbeats 8000000 in
theorem add_not {B r : Nat} {R : Pt.Rg} {vp vu : Value} (p : Pt.Pm) (s1 : (p.id.size : Int) ≤ 9223372036854775807) (s2 : (p.sp.size : Int) ≤ 9223372036854775807) (w : World) (HR : Hid (Reg w B r R vp vu)) (HO : Hid (Pt.Ok R))
    (h : (isB p.id 80 && nameB p.sp) = true) (hn : ¬ (¬ Pt.ix p.id R < R.length ∧ (0 ≤ p.fr ∧ p.un ≤ 10000000 ∧ p.fr < p.un) ∧ (1 ≤ p.qu ∧ p.qu ≤ 1125899906842624) ∧ R.length < 16)) :
    Calls Tryd.prog 21 #[.pointer (some ⟨r, 0, none⟩), .agg #[.string p.id, .string p.sp, .int .i64 p.fr, .int .i64 p.un, .int .i64 p.qu]] w fun e w' => e = .returned (.int .i64 (Pt.adE R p)) ∧ Added w w' B r (Pt.adR R p) vp vu := by
  have H1 : Hid (isB p.id 80 = true) := by simp at h; show _ = _; exact h.1
  have H2 : Hid (nameB p.sp = true) := by simp at h; show _ = _; exact h.2
  have hl := HO.out.len
  by_cases h3 : Pt.ix p.id R < R.length
  · have HE := Lib.hid (Pt.adE_old h h3)
    have HRR := Lib.hid (Pt.adR_no HE.out (by decide))
    have HX := Lib.hid (Pt.fnd_yes h3)
    clear h hn
    have HB : Hid (Below w.heap.size w (w.alloc (.cells #[.string p.id, .string p.sp, .int .i64 p.fr, .int .i64 p.un, .int .i64 p.qu] 44))) := (Below.refl _ _).alloc (Nat.le_refl _) _
    have HP : Hid (PBox (w.alloc (.cells #[.string p.id, .string p.sp, .int .i64 p.fr, .int .i64 p.un, .int .i64 p.qu] 44)) w.heap.size p) := Blk.new _ _ _
    go_enter Tryd.func21, Tryd.ntmps21
    go_wp2_with fail
    (with_reducible refine (is_eq _ _ H1 s1 _).mono ?_)
    rintro e w1 ⟨rfl, hb⟩
    have HB := Lib.hid (HB.out.trans (hb.mono HB.out.size))
    have HP := Lib.hid (PBox.below HP.out hb)
    clear hb
    obtain ⟨c0, c1, c2, c3, c4⟩ := HP.out.cells
    go_wp2_with fail
    (with_reducible refine (name_eq _ _ H2 s2 _).mono ?_)
    rintro e w2 ⟨rfl, hb⟩
    have HB := Lib.hid (HB.out.trans (hb.mono HB.out.size))
    have HP := Lib.hid (PBox.below HP.out hb)
    clear hb
    clear c0 c1 c2 c3 c4
    obtain ⟨c0, c1, c2, c3, c4⟩ := HP.out.cells
    have HR2 := Lib.hid (HR.out.below HB.out)
    go_wp2_with fail
    (with_reducible refine (Reg.find HR2 HO _ _ HX).mono ?_)
    rintro e w3 ⟨rfl, hb⟩
    have HB := Lib.hid (HB.out.trans (hb.mono HB.out.size))
    have HP := Lib.hid (PBox.below HP.out hb)
    clear hb
    clear c0 c1 c2 c3 c4 HR2
    obtain ⟨c0, c1, c2, c3, c4⟩ := HP.out.cells
    have HR3 := Lib.hid (HR.out.below HB.out)
    go_wp2_with fail
    go_ret
    exact ⟨ret_int' HE.out.symm, by rw [HRR.out]; exact ⟨⟨_, _, HR.out.below HB.out, .inl rfl, .inl rfl⟩, below_grown HB.out _⟩⟩
  · have HX := Lib.hid (Pt.fnd_no h3)
    by_cases h4 : 0 ≤ p.fr ∧ p.un ≤ 10000000 ∧ p.fr < p.un
    · obtain ⟨t0, t1, t2⟩ := h4
      by_cases h5 : 1 ≤ p.qu ∧ p.qu ≤ 1125899906842624
      · have h6 : ¬ R.length < 16 := fun g => hn ⟨h3, ⟨t0, t1, t2⟩, h5, g⟩
        have HE := Lib.hid (Pt.adE_full h h3 ⟨t0, t1, t2⟩ h5 h6)
        have HRR := Lib.hid (Pt.adR_no HE.out (by decide))
        obtain ⟨u0, u1⟩ := h5
        clear h hn h3
        have HB : Hid (Below w.heap.size w (w.alloc (.cells #[.string p.id, .string p.sp, .int .i64 p.fr, .int .i64 p.un, .int .i64 p.qu] 44))) := (Below.refl _ _).alloc (Nat.le_refl _) _
        have HP : Hid (PBox (w.alloc (.cells #[.string p.id, .string p.sp, .int .i64 p.fr, .int .i64 p.un, .int .i64 p.qu] 44)) w.heap.size p) := Blk.new _ _ _
        go_enter Tryd.func21, Tryd.ntmps21
        go_wp2_with fail
        (with_reducible refine (is_eq _ _ H1 s1 _).mono ?_)
        rintro e w1 ⟨rfl, hb⟩
        have HB := Lib.hid (HB.out.trans (hb.mono HB.out.size))
        have HP := Lib.hid (PBox.below HP.out hb)
        clear hb
        obtain ⟨c0, c1, c2, c3, c4⟩ := HP.out.cells
        go_wp2_with fail
        (with_reducible refine (name_eq _ _ H2 s2 _).mono ?_)
        rintro e w2 ⟨rfl, hb⟩
        have HB := Lib.hid (HB.out.trans (hb.mono HB.out.size))
        have HP := Lib.hid (PBox.below HP.out hb)
        clear hb
        clear c0 c1 c2 c3 c4
        obtain ⟨c0, c1, c2, c3, c4⟩ := HP.out.cells
        have HR2 := Lib.hid (HR.out.below HB.out)
        go_wp2_with fail
        (with_reducible refine (Reg.find HR2 HO _ _ HX).mono ?_)
        rintro e w3 ⟨rfl, hb⟩
        have HB := Lib.hid (HB.out.trans (hb.mono HB.out.size))
        have HP := Lib.hid (PBox.below HP.out hb)
        clear hb
        clear c0 c1 c2 c3 c4 HR2
        obtain ⟨c0, c1, c2, c3, c4⟩ := HP.out.cells
        have HR3 := Lib.hid (HR.out.below HB.out)
        obtain ⟨Ap, cp, Au, cu, e1, e2, _, _⟩ := HR3.out.open_
        have k0 := HR3.out.c0
        rw [e1] at k0
        clear e1 e2
        go_wp2_with fail
        (with_reducible refine (time_yes _ ⟨t0, by omega⟩ _).mono ?_)
        rintro e w4 ⟨rfl, rfl⟩
        go_wp2_with fail
        (with_reducible refine (time_yes _ ⟨by omega, t1⟩ _).mono ?_)
        rintro e w4 ⟨rfl, rfl⟩
        go_wp2_with fail
        go_ret
        exact ⟨ret_int' HE.out.symm, by rw [HRR.out]; exact ⟨⟨_, _, HR.out.below HB.out, .inl rfl, .inl rfl⟩, below_grown HB.out _⟩⟩
      · have HE := Lib.hid (Pt.adE_range h h3 ⟨t0, t1, t2⟩ h5)
        have HRR := Lib.hid (Pt.adR_no HE.out (by decide))
        by_cases h6 : p.qu < 1
        · clear h hn h3 h5
          have HB : Hid (Below w.heap.size w (w.alloc (.cells #[.string p.id, .string p.sp, .int .i64 p.fr, .int .i64 p.un, .int .i64 p.qu] 44))) := (Below.refl _ _).alloc (Nat.le_refl _) _
          have HP : Hid (PBox (w.alloc (.cells #[.string p.id, .string p.sp, .int .i64 p.fr, .int .i64 p.un, .int .i64 p.qu] 44)) w.heap.size p) := Blk.new _ _ _
          go_enter Tryd.func21, Tryd.ntmps21
          go_wp2_with fail
          (with_reducible refine (is_eq _ _ H1 s1 _).mono ?_)
          rintro e w1 ⟨rfl, hb⟩
          have HB := Lib.hid (HB.out.trans (hb.mono HB.out.size))
          have HP := Lib.hid (PBox.below HP.out hb)
          clear hb
          obtain ⟨c0, c1, c2, c3, c4⟩ := HP.out.cells
          go_wp2_with fail
          (with_reducible refine (name_eq _ _ H2 s2 _).mono ?_)
          rintro e w2 ⟨rfl, hb⟩
          have HB := Lib.hid (HB.out.trans (hb.mono HB.out.size))
          have HP := Lib.hid (PBox.below HP.out hb)
          clear hb
          clear c0 c1 c2 c3 c4
          obtain ⟨c0, c1, c2, c3, c4⟩ := HP.out.cells
          have HR2 := Lib.hid (HR.out.below HB.out)
          go_wp2_with fail
          (with_reducible refine (Reg.find HR2 HO _ _ HX).mono ?_)
          rintro e w3 ⟨rfl, hb⟩
          have HB := Lib.hid (HB.out.trans (hb.mono HB.out.size))
          have HP := Lib.hid (PBox.below HP.out hb)
          clear hb
          clear c0 c1 c2 c3 c4 HR2
          obtain ⟨c0, c1, c2, c3, c4⟩ := HP.out.cells
          have HR3 := Lib.hid (HR.out.below HB.out)
          go_wp2_with fail
          (with_reducible refine (time_yes _ ⟨t0, by omega⟩ _).mono ?_)
          rintro e w4 ⟨rfl, rfl⟩
          go_wp2_with fail
          (with_reducible refine (time_yes _ ⟨by omega, t1⟩ _).mono ?_)
          rintro e w4 ⟨rfl, rfl⟩
          go_wp2_with fail
          go_ret
          exact ⟨ret_int' HE.out.symm, by rw [HRR.out]; exact ⟨⟨_, _, HR.out.below HB.out, .inl rfl, .inl rfl⟩, below_grown HB.out _⟩⟩
        · have h7 : 1125899906842624 < p.qu := by omega
          clear h hn h3 h5
          have HB : Hid (Below w.heap.size w (w.alloc (.cells #[.string p.id, .string p.sp, .int .i64 p.fr, .int .i64 p.un, .int .i64 p.qu] 44))) := (Below.refl _ _).alloc (Nat.le_refl _) _
          have HP : Hid (PBox (w.alloc (.cells #[.string p.id, .string p.sp, .int .i64 p.fr, .int .i64 p.un, .int .i64 p.qu] 44)) w.heap.size p) := Blk.new _ _ _
          go_enter Tryd.func21, Tryd.ntmps21
          go_wp2_with fail
          (with_reducible refine (is_eq _ _ H1 s1 _).mono ?_)
          rintro e w1 ⟨rfl, hb⟩
          have HB := Lib.hid (HB.out.trans (hb.mono HB.out.size))
          have HP := Lib.hid (PBox.below HP.out hb)
          clear hb
          obtain ⟨c0, c1, c2, c3, c4⟩ := HP.out.cells
          go_wp2_with fail
          (with_reducible refine (name_eq _ _ H2 s2 _).mono ?_)
          rintro e w2 ⟨rfl, hb⟩
          have HB := Lib.hid (HB.out.trans (hb.mono HB.out.size))
          have HP := Lib.hid (PBox.below HP.out hb)
          clear hb
          clear c0 c1 c2 c3 c4
          obtain ⟨c0, c1, c2, c3, c4⟩ := HP.out.cells
          have HR2 := Lib.hid (HR.out.below HB.out)
          go_wp2_with fail
          (with_reducible refine (Reg.find HR2 HO _ _ HX).mono ?_)
          rintro e w3 ⟨rfl, hb⟩
          have HB := Lib.hid (HB.out.trans (hb.mono HB.out.size))
          have HP := Lib.hid (PBox.below HP.out hb)
          clear hb
          clear c0 c1 c2 c3 c4 HR2
          obtain ⟨c0, c1, c2, c3, c4⟩ := HP.out.cells
          have HR3 := Lib.hid (HR.out.below HB.out)
          go_wp2_with fail
          (with_reducible refine (time_yes _ ⟨t0, by omega⟩ _).mono ?_)
          rintro e w4 ⟨rfl, rfl⟩
          go_wp2_with fail
          (with_reducible refine (time_yes _ ⟨by omega, t1⟩ _).mono ?_)
          rintro e w4 ⟨rfl, rfl⟩
          go_wp2_with fail
          go_ret
          exact ⟨ret_int' HE.out.symm, by rw [HRR.out]; exact ⟨⟨_, _, HR.out.below HB.out, .inl rfl, .inl rfl⟩, below_grown HB.out _⟩⟩
    · have HE := Lib.hid (Pt.adE_time h h3 h4)
      have HRR := Lib.hid (Pt.adR_no HE.out (by decide))
      by_cases t0 : 0 ≤ p.fr ∧ p.fr ≤ 10000000
      · by_cases t1 : 0 ≤ p.un ∧ p.un ≤ 10000000
        · have t2 : ¬ p.fr < p.un := by omega
          clear h hn h3 h4
          have HB : Hid (Below w.heap.size w (w.alloc (.cells #[.string p.id, .string p.sp, .int .i64 p.fr, .int .i64 p.un, .int .i64 p.qu] 44))) := (Below.refl _ _).alloc (Nat.le_refl _) _
          have HP : Hid (PBox (w.alloc (.cells #[.string p.id, .string p.sp, .int .i64 p.fr, .int .i64 p.un, .int .i64 p.qu] 44)) w.heap.size p) := Blk.new _ _ _
          go_enter Tryd.func21, Tryd.ntmps21
          go_wp2_with fail
          (with_reducible refine (is_eq _ _ H1 s1 _).mono ?_)
          rintro e w1 ⟨rfl, hb⟩
          have HB := Lib.hid (HB.out.trans (hb.mono HB.out.size))
          have HP := Lib.hid (PBox.below HP.out hb)
          clear hb
          obtain ⟨c0, c1, c2, c3, c4⟩ := HP.out.cells
          go_wp2_with fail
          (with_reducible refine (name_eq _ _ H2 s2 _).mono ?_)
          rintro e w2 ⟨rfl, hb⟩
          have HB := Lib.hid (HB.out.trans (hb.mono HB.out.size))
          have HP := Lib.hid (PBox.below HP.out hb)
          clear hb
          clear c0 c1 c2 c3 c4
          obtain ⟨c0, c1, c2, c3, c4⟩ := HP.out.cells
          have HR2 := Lib.hid (HR.out.below HB.out)
          go_wp2_with fail
          (with_reducible refine (Reg.find HR2 HO _ _ HX).mono ?_)
          rintro e w3 ⟨rfl, hb⟩
          have HB := Lib.hid (HB.out.trans (hb.mono HB.out.size))
          have HP := Lib.hid (PBox.below HP.out hb)
          clear hb
          clear c0 c1 c2 c3 c4 HR2
          obtain ⟨c0, c1, c2, c3, c4⟩ := HP.out.cells
          have HR3 := Lib.hid (HR.out.below HB.out)
          go_wp2_with fail
          (with_reducible refine (time_yes _ t0 _).mono ?_)
          rintro e w4 ⟨rfl, rfl⟩
          go_wp2_with fail
          (with_reducible refine (time_yes _ t1 _).mono ?_)
          rintro e w4 ⟨rfl, rfl⟩
          go_wp2_with fail
          go_ret
          exact ⟨ret_int' HE.out.symm, by rw [HRR.out]; exact ⟨⟨_, _, HR.out.below HB.out, .inl rfl, .inl rfl⟩, below_grown HB.out _⟩⟩
        · clear h hn h3 h4
          have HB : Hid (Below w.heap.size w (w.alloc (.cells #[.string p.id, .string p.sp, .int .i64 p.fr, .int .i64 p.un, .int .i64 p.qu] 44))) := (Below.refl _ _).alloc (Nat.le_refl _) _
          have HP : Hid (PBox (w.alloc (.cells #[.string p.id, .string p.sp, .int .i64 p.fr, .int .i64 p.un, .int .i64 p.qu] 44)) w.heap.size p) := Blk.new _ _ _
          go_enter Tryd.func21, Tryd.ntmps21
          go_wp2_with fail
          (with_reducible refine (is_eq _ _ H1 s1 _).mono ?_)
          rintro e w1 ⟨rfl, hb⟩
          have HB := Lib.hid (HB.out.trans (hb.mono HB.out.size))
          have HP := Lib.hid (PBox.below HP.out hb)
          clear hb
          obtain ⟨c0, c1, c2, c3, c4⟩ := HP.out.cells
          go_wp2_with fail
          (with_reducible refine (name_eq _ _ H2 s2 _).mono ?_)
          rintro e w2 ⟨rfl, hb⟩
          have HB := Lib.hid (HB.out.trans (hb.mono HB.out.size))
          have HP := Lib.hid (PBox.below HP.out hb)
          clear hb
          clear c0 c1 c2 c3 c4
          obtain ⟨c0, c1, c2, c3, c4⟩ := HP.out.cells
          have HR2 := Lib.hid (HR.out.below HB.out)
          go_wp2_with fail
          (with_reducible refine (Reg.find HR2 HO _ _ HX).mono ?_)
          rintro e w3 ⟨rfl, hb⟩
          have HB := Lib.hid (HB.out.trans (hb.mono HB.out.size))
          have HP := Lib.hid (PBox.below HP.out hb)
          clear hb
          clear c0 c1 c2 c3 c4 HR2
          obtain ⟨c0, c1, c2, c3, c4⟩ := HP.out.cells
          have HR3 := Lib.hid (HR.out.below HB.out)
          go_wp2_with fail
          (with_reducible refine (time_yes _ t0 _).mono ?_)
          rintro e w4 ⟨rfl, rfl⟩
          go_wp2_with fail
          (with_reducible refine (time_no _ t1 _).mono ?_)
          rintro e w4 ⟨rfl, rfl⟩
          go_wp2_with fail
          go_ret
          exact ⟨ret_int' HE.out.symm, by rw [HRR.out]; exact ⟨⟨_, _, HR.out.below HB.out, .inl rfl, .inl rfl⟩, below_grown HB.out _⟩⟩
      · clear h hn h3 h4
        have HB : Hid (Below w.heap.size w (w.alloc (.cells #[.string p.id, .string p.sp, .int .i64 p.fr, .int .i64 p.un, .int .i64 p.qu] 44))) := (Below.refl _ _).alloc (Nat.le_refl _) _
        have HP : Hid (PBox (w.alloc (.cells #[.string p.id, .string p.sp, .int .i64 p.fr, .int .i64 p.un, .int .i64 p.qu] 44)) w.heap.size p) := Blk.new _ _ _
        go_enter Tryd.func21, Tryd.ntmps21
        go_wp2_with fail
        (with_reducible refine (is_eq _ _ H1 s1 _).mono ?_)
        rintro e w1 ⟨rfl, hb⟩
        have HB := Lib.hid (HB.out.trans (hb.mono HB.out.size))
        have HP := Lib.hid (PBox.below HP.out hb)
        clear hb
        obtain ⟨c0, c1, c2, c3, c4⟩ := HP.out.cells
        go_wp2_with fail
        (with_reducible refine (name_eq _ _ H2 s2 _).mono ?_)
        rintro e w2 ⟨rfl, hb⟩
        have HB := Lib.hid (HB.out.trans (hb.mono HB.out.size))
        have HP := Lib.hid (PBox.below HP.out hb)
        clear hb
        clear c0 c1 c2 c3 c4
        obtain ⟨c0, c1, c2, c3, c4⟩ := HP.out.cells
        have HR2 := Lib.hid (HR.out.below HB.out)
        go_wp2_with fail
        (with_reducible refine (Reg.find HR2 HO _ _ HX).mono ?_)
        rintro e w3 ⟨rfl, hb⟩
        have HB := Lib.hid (HB.out.trans (hb.mono HB.out.size))
        have HP := Lib.hid (PBox.below HP.out hb)
        clear hb
        clear c0 c1 c2 c3 c4 HR2
        obtain ⟨c0, c1, c2, c3, c4⟩ := HP.out.cells
        have HR3 := Lib.hid (HR.out.below HB.out)
        go_wp2_with fail
        (with_reducible refine (time_no _ t0 _).mono ?_)
        rintro e w4 ⟨rfl, rfl⟩
        go_wp2_with fail
        go_ret
        exact ⟨ret_int' HE.out.symm, by rw [HRR.out]; exact ⟨⟨_, _, HR.out.below HB.out, .inl rfl, .inl rfl⟩, below_grown HB.out _⟩⟩
end Go.Proofs.YtpimmdmcmccbpaaDoor
