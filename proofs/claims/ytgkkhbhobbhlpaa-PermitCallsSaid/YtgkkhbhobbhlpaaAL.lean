/- The reference's Add: the walk. -/
import Derived.Test.YtgkkhbhobbhlpaaAK
namespace Go.Proofs.Ytgkkhbhobbhlpaa
open Go.RowKit
set_option linter.unusedVariables false

set_option maxHeartbeats 8000000 in
theorem radd_no (B : Nat) (R : Pt.Rg) (vp vl : Value) (p : Pt.Pm) (s1 : (p.id.size : Int) ≤ 9223372036854775807) (s2 : (p.sp.size : Int) ≤ 9223372036854775807) (w : World) (HR : Hid (RR w B R vp vl)) (HO : Hid (Pt.Ok R)) (hB : B ≤ w.heap.size)
    (hn : ¬ ((isB p.id 80 && nameB p.sp) = true ∧ ¬ Pt.ix p.id R < R.length ∧ (0 ≤ p.fr ∧ p.un ≤ 10000000 ∧ p.fr < p.un) ∧ (1 ≤ p.qu ∧ p.qu ≤ 1125899906842624) ∧ R.length < 16)) :
    Calls Try.prog 18 #[.agg #[vp, vl], .agg #[.string p.id, .string p.sp, .int .i64 p.fr, .int .i64 p.un, .int .i64 p.qu]] w fun e w' => ∃ vp' vl', e = .returned (.tuple #[.agg #[vp', vl'], .int .i64 (Pt.adE R p)]) ∧ RDone w w' B (Pt.adR R p) vl vp' vl' := by
  by_cases h : (isB p.id 80 && nameB p.sp) = true
  rotate_left
  · have HE := Lib.hid (Pt.adE_name (R := R) h)
    have HRR := Lib.hid (Pt.adR_no HE.out (by decide))
    clear hn
    cases h1 : isB p.id 80 with
    | false =>
      have H1 := Lib.hid h1
      clear h1 h
      obtain ⟨Ap, cp, hvp⟩ := row_form HR.out.per
      obtain ⟨Al, cl, hvl⟩ := row_form HR.out.lef
      subst hvp hvl
      have HB := Lib.hid (AddB.new w (.slice Ap R.length cp) (.slice Al R.length cl) p)
      go_enter Try.func18, Try.ntmps18
      go_wp2_with fail
      (with_reducible refine (ris_eq _ _ H1 s1 _).mono ?_)
      rintro e w1 ⟨rfl, hb⟩
      have HB := Lib.hid (HB.out.below hb)
      clear hb
      have b0 : w1.cell? ⟨w.heap.size, 0, none⟩ = some (.slice Ap R.length cp) := HB.out.g.cell 0
      have b1 : w1.cell? ⟨w.heap.size, 1, none⟩ = some (.slice Al R.length cl) := HB.out.g.cell 1
      have r0 : w1.cell? ⟨w.heap.size + 2, 0, none⟩ = some (.slice none 0 0) := HB.out.r.cell 0
      have r1 : w1.cell? ⟨w.heap.size + 2, 1, none⟩ = some (.slice none 0 0) := HB.out.r.cell 1
      have s0' := HB.out.r.frozen 0
      have s1' := HB.out.r.frozen 1
      have c0 : w1.cell? ⟨w.heap.size + 1, 0, none⟩ = some (.string p.id) := HB.out.p.cells.1
      have c1 : w1.cell? ⟨w.heap.size + 1, 1, none⟩ = some (.string p.sp) := HB.out.p.cells.2.1
      have c2 : w1.cell? ⟨w.heap.size + 1, 2, none⟩ = some (.int .i64 p.fr) := HB.out.p.cells.2.2.1
      have c3 : w1.cell? ⟨w.heap.size + 1, 3, none⟩ = some (.int .i64 p.un) := HB.out.p.cells.2.2.2.1
      have c4 : w1.cell? ⟨w.heap.size + 1, 4, none⟩ = some (.int .i64 p.qu) := HB.out.p.cells.2.2.2.2
      go_wp2_with fail
      (try simp only [Exit.inBlock, Exit.then])
      refine bodyPost_ret (v := .tuple #[.agg #[.slice Ap R.length cp, .slice Al R.length cl], .int .i64 6]) ?_ rfl ⟨.slice Ap R.length cp, .slice Al R.length cl, ?_, ?_⟩
      rotate_left
      · rw [HE.out]
      · have hbf := (HB.out.bel.setCell (p := ⟨w.heap.size + 2, 0, none⟩) (by show _ ≤ w.heap.size + 2; omega) (.slice Ap R.length cp)).setCell (p := ⟨w.heap.size + 2, 1, none⟩) (by show _ ≤ w.heap.size + 2; omega) (.slice Al R.length cl)
        rw [HRR.out]
        exact ⟨HR.out.below hbf, hbf, .inl rfl⟩
      · rw [results_cell_tmp rfl]
        go_simp
    | true =>
      have H1 := Lib.hid h1
      have H2 : Hid (nameB p.sp = false) := by rw [h1] at h; show _ = _; simpa using h
      clear h1 h
      obtain ⟨Ap, cp, hvp⟩ := row_form HR.out.per
      obtain ⟨Al, cl, hvl⟩ := row_form HR.out.lef
      subst hvp hvl
      have HB := Lib.hid (AddB.new w (.slice Ap R.length cp) (.slice Al R.length cl) p)
      go_enter Try.func18, Try.ntmps18
      go_wp2_with fail
      (with_reducible refine (ris_eq _ _ H1 s1 _).mono ?_)
      rintro e w1 ⟨rfl, hb⟩
      have HB := Lib.hid (HB.out.below hb)
      clear hb
      have b0 : w1.cell? ⟨w.heap.size, 0, none⟩ = some (.slice Ap R.length cp) := HB.out.g.cell 0
      have b1 : w1.cell? ⟨w.heap.size, 1, none⟩ = some (.slice Al R.length cl) := HB.out.g.cell 1
      have r0 : w1.cell? ⟨w.heap.size + 2, 0, none⟩ = some (.slice none 0 0) := HB.out.r.cell 0
      have r1 : w1.cell? ⟨w.heap.size + 2, 1, none⟩ = some (.slice none 0 0) := HB.out.r.cell 1
      have s0' := HB.out.r.frozen 0
      have s1' := HB.out.r.frozen 1
      have c0 : w1.cell? ⟨w.heap.size + 1, 0, none⟩ = some (.string p.id) := HB.out.p.cells.1
      have c1 : w1.cell? ⟨w.heap.size + 1, 1, none⟩ = some (.string p.sp) := HB.out.p.cells.2.1
      have c2 : w1.cell? ⟨w.heap.size + 1, 2, none⟩ = some (.int .i64 p.fr) := HB.out.p.cells.2.2.1
      have c3 : w1.cell? ⟨w.heap.size + 1, 3, none⟩ = some (.int .i64 p.un) := HB.out.p.cells.2.2.2.1
      have c4 : w1.cell? ⟨w.heap.size + 1, 4, none⟩ = some (.int .i64 p.qu) := HB.out.p.cells.2.2.2.2
      go_wp2_with fail
      clear b0 b1 r0 r1 s0' s1' c0 c1 c2 c3 c4
      (with_reducible refine (rname_eq _ _ H2 s2 _).mono ?_)
      rintro e w2 ⟨rfl, hb⟩
      have HB := Lib.hid (HB.out.below hb)
      clear hb
      have b0 : w2.cell? ⟨w.heap.size, 0, none⟩ = some (.slice Ap R.length cp) := HB.out.g.cell 0
      have b1 : w2.cell? ⟨w.heap.size, 1, none⟩ = some (.slice Al R.length cl) := HB.out.g.cell 1
      have r0 : w2.cell? ⟨w.heap.size + 2, 0, none⟩ = some (.slice none 0 0) := HB.out.r.cell 0
      have r1 : w2.cell? ⟨w.heap.size + 2, 1, none⟩ = some (.slice none 0 0) := HB.out.r.cell 1
      have s0' := HB.out.r.frozen 0
      have s1' := HB.out.r.frozen 1
      have c0 : w2.cell? ⟨w.heap.size + 1, 0, none⟩ = some (.string p.id) := HB.out.p.cells.1
      have c1 : w2.cell? ⟨w.heap.size + 1, 1, none⟩ = some (.string p.sp) := HB.out.p.cells.2.1
      have c2 : w2.cell? ⟨w.heap.size + 1, 2, none⟩ = some (.int .i64 p.fr) := HB.out.p.cells.2.2.1
      have c3 : w2.cell? ⟨w.heap.size + 1, 3, none⟩ = some (.int .i64 p.un) := HB.out.p.cells.2.2.2.1
      have c4 : w2.cell? ⟨w.heap.size + 1, 4, none⟩ = some (.int .i64 p.qu) := HB.out.p.cells.2.2.2.2
      go_wp2_with fail
      (try simp only [Exit.inBlock, Exit.then])
      refine bodyPost_ret (v := .tuple #[.agg #[.slice Ap R.length cp, .slice Al R.length cl], .int .i64 6]) ?_ rfl ⟨.slice Ap R.length cp, .slice Al R.length cl, ?_, ?_⟩
      rotate_left
      · rw [HE.out]
      · have hbf := (HB.out.bel.setCell (p := ⟨w.heap.size + 2, 0, none⟩) (by show _ ≤ w.heap.size + 2; omega) (.slice Ap R.length cp)).setCell (p := ⟨w.heap.size + 2, 1, none⟩) (by show _ ≤ w.heap.size + 2; omega) (.slice Al R.length cl)
        rw [HRR.out]
        exact ⟨HR.out.below hbf, hbf, .inl rfl⟩
      · rw [results_cell_tmp rfl]
        go_simp
  have H1 : Hid (isB p.id 80 = true) := by simp at h; show _ = _; exact h.1
  have H2 : Hid (nameB p.sp = true) := by simp at h; show _ = _; exact h.2
  have hl := HO.out.len
  by_cases h3 : Pt.ix p.id R < R.length
  · have HE := Lib.hid (Pt.adE_old h h3)
    have HRR := Lib.hid (Pt.adR_no HE.out (by decide))
    have HX := Lib.hid (Pt.fnd_yes h3)
    clear h hn
    obtain ⟨Ap, cp, hvp⟩ := row_form HR.out.per
    obtain ⟨Al, cl, hvl⟩ := row_form HR.out.lef
    subst hvp hvl
    have HB := Lib.hid (AddB.new w (.slice Ap R.length cp) (.slice Al R.length cl) p)
    go_enter Try.func18, Try.ntmps18
    go_wp2_with fail
    (with_reducible refine (ris_eq _ _ H1 s1 _).mono ?_)
    rintro e w1 ⟨rfl, hb⟩
    have HB := Lib.hid (HB.out.below hb)
    clear hb
    have b0 : w1.cell? ⟨w.heap.size, 0, none⟩ = some (.slice Ap R.length cp) := HB.out.g.cell 0
    have b1 : w1.cell? ⟨w.heap.size, 1, none⟩ = some (.slice Al R.length cl) := HB.out.g.cell 1
    have r0 : w1.cell? ⟨w.heap.size + 2, 0, none⟩ = some (.slice none 0 0) := HB.out.r.cell 0
    have r1 : w1.cell? ⟨w.heap.size + 2, 1, none⟩ = some (.slice none 0 0) := HB.out.r.cell 1
    have s0' := HB.out.r.frozen 0
    have s1' := HB.out.r.frozen 1
    have c0 : w1.cell? ⟨w.heap.size + 1, 0, none⟩ = some (.string p.id) := HB.out.p.cells.1
    have c1 : w1.cell? ⟨w.heap.size + 1, 1, none⟩ = some (.string p.sp) := HB.out.p.cells.2.1
    have c2 : w1.cell? ⟨w.heap.size + 1, 2, none⟩ = some (.int .i64 p.fr) := HB.out.p.cells.2.2.1
    have c3 : w1.cell? ⟨w.heap.size + 1, 3, none⟩ = some (.int .i64 p.un) := HB.out.p.cells.2.2.2.1
    have c4 : w1.cell? ⟨w.heap.size + 1, 4, none⟩ = some (.int .i64 p.qu) := HB.out.p.cells.2.2.2.2
    go_wp2_with fail
    clear b0 b1 r0 r1 s0' s1' c0 c1 c2 c3 c4
    (with_reducible refine (rname_eq _ _ H2 s2 _).mono ?_)
    rintro e w2 ⟨rfl, hb⟩
    have HB := Lib.hid (HB.out.below hb)
    clear hb
    have b0 : w2.cell? ⟨w.heap.size, 0, none⟩ = some (.slice Ap R.length cp) := HB.out.g.cell 0
    have b1 : w2.cell? ⟨w.heap.size, 1, none⟩ = some (.slice Al R.length cl) := HB.out.g.cell 1
    have r0 : w2.cell? ⟨w.heap.size + 2, 0, none⟩ = some (.slice none 0 0) := HB.out.r.cell 0
    have r1 : w2.cell? ⟨w.heap.size + 2, 1, none⟩ = some (.slice none 0 0) := HB.out.r.cell 1
    have s0' := HB.out.r.frozen 0
    have s1' := HB.out.r.frozen 1
    have c0 : w2.cell? ⟨w.heap.size + 1, 0, none⟩ = some (.string p.id) := HB.out.p.cells.1
    have c1 : w2.cell? ⟨w.heap.size + 1, 1, none⟩ = some (.string p.sp) := HB.out.p.cells.2.1
    have c2 : w2.cell? ⟨w.heap.size + 1, 2, none⟩ = some (.int .i64 p.fr) := HB.out.p.cells.2.2.1
    have c3 : w2.cell? ⟨w.heap.size + 1, 3, none⟩ = some (.int .i64 p.un) := HB.out.p.cells.2.2.2.1
    have c4 : w2.cell? ⟨w.heap.size + 1, 4, none⟩ = some (.int .i64 p.qu) := HB.out.p.cells.2.2.2.2
    go_wp2_with fail
    clear b0 b1 r0 r1 s0' s1' c0 c1 c2 c3 c4
    have HR2 := Lib.hid (HR.out.below HB.out.bel)
    (with_reducible refine (rfind_eq _ R _ _ _ _ HX _ HR2 HO).mono ?_)
    rintro e w3 ⟨rfl, hb⟩
    have HB := Lib.hid (HB.out.below hb)
    clear hb HR2
    have b0 : w3.cell? ⟨w.heap.size, 0, none⟩ = some (.slice Ap R.length cp) := HB.out.g.cell 0
    have b1 : w3.cell? ⟨w.heap.size, 1, none⟩ = some (.slice Al R.length cl) := HB.out.g.cell 1
    have r0 : w3.cell? ⟨w.heap.size + 2, 0, none⟩ = some (.slice none 0 0) := HB.out.r.cell 0
    have r1 : w3.cell? ⟨w.heap.size + 2, 1, none⟩ = some (.slice none 0 0) := HB.out.r.cell 1
    have s0' := HB.out.r.frozen 0
    have s1' := HB.out.r.frozen 1
    have c0 : w3.cell? ⟨w.heap.size + 1, 0, none⟩ = some (.string p.id) := HB.out.p.cells.1
    have c1 : w3.cell? ⟨w.heap.size + 1, 1, none⟩ = some (.string p.sp) := HB.out.p.cells.2.1
    have c2 : w3.cell? ⟨w.heap.size + 1, 2, none⟩ = some (.int .i64 p.fr) := HB.out.p.cells.2.2.1
    have c3 : w3.cell? ⟨w.heap.size + 1, 3, none⟩ = some (.int .i64 p.un) := HB.out.p.cells.2.2.2.1
    have c4 : w3.cell? ⟨w.heap.size + 1, 4, none⟩ = some (.int .i64 p.qu) := HB.out.p.cells.2.2.2.2
    go_wp2_with fail
    (try simp only [Exit.inBlock, Exit.then])
    refine bodyPost_ret (v := .tuple #[.agg #[.slice Ap R.length cp, .slice Al R.length cl], .int .i64 7]) ?_ rfl ⟨.slice Ap R.length cp, .slice Al R.length cl, ?_, ?_⟩
    rotate_left
    · rw [HE.out]
    · have hbf := (HB.out.bel.setCell (p := ⟨w.heap.size + 2, 0, none⟩) (by show _ ≤ w.heap.size + 2; omega) (.slice Ap R.length cp)).setCell (p := ⟨w.heap.size + 2, 1, none⟩) (by show _ ≤ w.heap.size + 2; omega) (.slice Al R.length cl)
      rw [HRR.out]
      exact ⟨HR.out.below hbf, hbf, .inl rfl⟩
    · rw [results_cell_tmp rfl]
      go_simp
  · have HX := Lib.hid (Pt.fnd_no h3)
    by_cases h4 : 0 ≤ p.fr ∧ p.un ≤ 10000000 ∧ p.fr < p.un
    · obtain ⟨t0, t1, t2⟩ := h4
      by_cases h5 : 1 ≤ p.qu ∧ p.qu ≤ 1125899906842624
      · have h6 : ¬ R.length < 16 := fun g => hn ⟨h, h3, ⟨t0, t1, t2⟩, h5, g⟩
        have HE := Lib.hid (Pt.adE_full h h3 ⟨t0, t1, t2⟩ h5 h6)
        have HRR := Lib.hid (Pt.adR_no HE.out (by decide))
        obtain ⟨u0, u1⟩ := h5
        clear h hn h3
        obtain ⟨Ap, cp, hvp⟩ := row_form HR.out.per
        obtain ⟨Al, cl, hvl⟩ := row_form HR.out.lef
        subst hvp hvl
        have HB := Lib.hid (AddB.new w (.slice Ap R.length cp) (.slice Al R.length cl) p)
        go_enter Try.func18, Try.ntmps18
        go_wp2_with fail
        (with_reducible refine (ris_eq _ _ H1 s1 _).mono ?_)
        rintro e w1 ⟨rfl, hb⟩
        have HB := Lib.hid (HB.out.below hb)
        clear hb
        have b0 : w1.cell? ⟨w.heap.size, 0, none⟩ = some (.slice Ap R.length cp) := HB.out.g.cell 0
        have b1 : w1.cell? ⟨w.heap.size, 1, none⟩ = some (.slice Al R.length cl) := HB.out.g.cell 1
        have r0 : w1.cell? ⟨w.heap.size + 2, 0, none⟩ = some (.slice none 0 0) := HB.out.r.cell 0
        have r1 : w1.cell? ⟨w.heap.size + 2, 1, none⟩ = some (.slice none 0 0) := HB.out.r.cell 1
        have s0' := HB.out.r.frozen 0
        have s1' := HB.out.r.frozen 1
        have c0 : w1.cell? ⟨w.heap.size + 1, 0, none⟩ = some (.string p.id) := HB.out.p.cells.1
        have c1 : w1.cell? ⟨w.heap.size + 1, 1, none⟩ = some (.string p.sp) := HB.out.p.cells.2.1
        have c2 : w1.cell? ⟨w.heap.size + 1, 2, none⟩ = some (.int .i64 p.fr) := HB.out.p.cells.2.2.1
        have c3 : w1.cell? ⟨w.heap.size + 1, 3, none⟩ = some (.int .i64 p.un) := HB.out.p.cells.2.2.2.1
        have c4 : w1.cell? ⟨w.heap.size + 1, 4, none⟩ = some (.int .i64 p.qu) := HB.out.p.cells.2.2.2.2
        go_wp2_with fail
        clear b0 b1 r0 r1 s0' s1' c0 c1 c2 c3 c4
        (with_reducible refine (rname_eq _ _ H2 s2 _).mono ?_)
        rintro e w2 ⟨rfl, hb⟩
        have HB := Lib.hid (HB.out.below hb)
        clear hb
        have b0 : w2.cell? ⟨w.heap.size, 0, none⟩ = some (.slice Ap R.length cp) := HB.out.g.cell 0
        have b1 : w2.cell? ⟨w.heap.size, 1, none⟩ = some (.slice Al R.length cl) := HB.out.g.cell 1
        have r0 : w2.cell? ⟨w.heap.size + 2, 0, none⟩ = some (.slice none 0 0) := HB.out.r.cell 0
        have r1 : w2.cell? ⟨w.heap.size + 2, 1, none⟩ = some (.slice none 0 0) := HB.out.r.cell 1
        have s0' := HB.out.r.frozen 0
        have s1' := HB.out.r.frozen 1
        have c0 : w2.cell? ⟨w.heap.size + 1, 0, none⟩ = some (.string p.id) := HB.out.p.cells.1
        have c1 : w2.cell? ⟨w.heap.size + 1, 1, none⟩ = some (.string p.sp) := HB.out.p.cells.2.1
        have c2 : w2.cell? ⟨w.heap.size + 1, 2, none⟩ = some (.int .i64 p.fr) := HB.out.p.cells.2.2.1
        have c3 : w2.cell? ⟨w.heap.size + 1, 3, none⟩ = some (.int .i64 p.un) := HB.out.p.cells.2.2.2.1
        have c4 : w2.cell? ⟨w.heap.size + 1, 4, none⟩ = some (.int .i64 p.qu) := HB.out.p.cells.2.2.2.2
        go_wp2_with fail
        clear b0 b1 r0 r1 s0' s1' c0 c1 c2 c3 c4
        have HR2 := Lib.hid (HR.out.below HB.out.bel)
        (with_reducible refine (rfind_eq _ R _ _ _ _ HX _ HR2 HO).mono ?_)
        rintro e w3 ⟨rfl, hb⟩
        have HB := Lib.hid (HB.out.below hb)
        clear hb HR2
        have b0 : w3.cell? ⟨w.heap.size, 0, none⟩ = some (.slice Ap R.length cp) := HB.out.g.cell 0
        have b1 : w3.cell? ⟨w.heap.size, 1, none⟩ = some (.slice Al R.length cl) := HB.out.g.cell 1
        have r0 : w3.cell? ⟨w.heap.size + 2, 0, none⟩ = some (.slice none 0 0) := HB.out.r.cell 0
        have r1 : w3.cell? ⟨w.heap.size + 2, 1, none⟩ = some (.slice none 0 0) := HB.out.r.cell 1
        have s0' := HB.out.r.frozen 0
        have s1' := HB.out.r.frozen 1
        have c0 : w3.cell? ⟨w.heap.size + 1, 0, none⟩ = some (.string p.id) := HB.out.p.cells.1
        have c1 : w3.cell? ⟨w.heap.size + 1, 1, none⟩ = some (.string p.sp) := HB.out.p.cells.2.1
        have c2 : w3.cell? ⟨w.heap.size + 1, 2, none⟩ = some (.int .i64 p.fr) := HB.out.p.cells.2.2.1
        have c3 : w3.cell? ⟨w.heap.size + 1, 3, none⟩ = some (.int .i64 p.un) := HB.out.p.cells.2.2.2.1
        have c4 : w3.cell? ⟨w.heap.size + 1, 4, none⟩ = some (.int .i64 p.qu) := HB.out.p.cells.2.2.2.2
        go_wp2_with fail
        (try simp only [Exit.inBlock, Exit.then])
        refine bodyPost_ret (v := .tuple #[.agg #[.slice Ap R.length cp, .slice Al R.length cl], .int .i64 12]) ?_ rfl ⟨.slice Ap R.length cp, .slice Al R.length cl, ?_, ?_⟩
        rotate_left
        · rw [HE.out]
        · have hbf := (HB.out.bel.setCell (p := ⟨w.heap.size + 2, 0, none⟩) (by show _ ≤ w.heap.size + 2; omega) (.slice Ap R.length cp)).setCell (p := ⟨w.heap.size + 2, 1, none⟩) (by show _ ≤ w.heap.size + 2; omega) (.slice Al R.length cl)
          rw [HRR.out]
          exact ⟨HR.out.below hbf, hbf, .inl rfl⟩
        · rw [results_cell_tmp rfl]
          go_simp
      · have HE := Lib.hid (Pt.adE_range h h3 ⟨t0, t1, t2⟩ h5)
        have HRR := Lib.hid (Pt.adR_no HE.out (by decide))
        by_cases h6 : p.qu < 1
        · clear h hn h3 h5
          obtain ⟨Ap, cp, hvp⟩ := row_form HR.out.per
          obtain ⟨Al, cl, hvl⟩ := row_form HR.out.lef
          subst hvp hvl
          have HB := Lib.hid (AddB.new w (.slice Ap R.length cp) (.slice Al R.length cl) p)
          go_enter Try.func18, Try.ntmps18
          go_wp2_with fail
          (with_reducible refine (ris_eq _ _ H1 s1 _).mono ?_)
          rintro e w1 ⟨rfl, hb⟩
          have HB := Lib.hid (HB.out.below hb)
          clear hb
          have b0 : w1.cell? ⟨w.heap.size, 0, none⟩ = some (.slice Ap R.length cp) := HB.out.g.cell 0
          have b1 : w1.cell? ⟨w.heap.size, 1, none⟩ = some (.slice Al R.length cl) := HB.out.g.cell 1
          have r0 : w1.cell? ⟨w.heap.size + 2, 0, none⟩ = some (.slice none 0 0) := HB.out.r.cell 0
          have r1 : w1.cell? ⟨w.heap.size + 2, 1, none⟩ = some (.slice none 0 0) := HB.out.r.cell 1
          have s0' := HB.out.r.frozen 0
          have s1' := HB.out.r.frozen 1
          have c0 : w1.cell? ⟨w.heap.size + 1, 0, none⟩ = some (.string p.id) := HB.out.p.cells.1
          have c1 : w1.cell? ⟨w.heap.size + 1, 1, none⟩ = some (.string p.sp) := HB.out.p.cells.2.1
          have c2 : w1.cell? ⟨w.heap.size + 1, 2, none⟩ = some (.int .i64 p.fr) := HB.out.p.cells.2.2.1
          have c3 : w1.cell? ⟨w.heap.size + 1, 3, none⟩ = some (.int .i64 p.un) := HB.out.p.cells.2.2.2.1
          have c4 : w1.cell? ⟨w.heap.size + 1, 4, none⟩ = some (.int .i64 p.qu) := HB.out.p.cells.2.2.2.2
          go_wp2_with fail
          clear b0 b1 r0 r1 s0' s1' c0 c1 c2 c3 c4
          (with_reducible refine (rname_eq _ _ H2 s2 _).mono ?_)
          rintro e w2 ⟨rfl, hb⟩
          have HB := Lib.hid (HB.out.below hb)
          clear hb
          have b0 : w2.cell? ⟨w.heap.size, 0, none⟩ = some (.slice Ap R.length cp) := HB.out.g.cell 0
          have b1 : w2.cell? ⟨w.heap.size, 1, none⟩ = some (.slice Al R.length cl) := HB.out.g.cell 1
          have r0 : w2.cell? ⟨w.heap.size + 2, 0, none⟩ = some (.slice none 0 0) := HB.out.r.cell 0
          have r1 : w2.cell? ⟨w.heap.size + 2, 1, none⟩ = some (.slice none 0 0) := HB.out.r.cell 1
          have s0' := HB.out.r.frozen 0
          have s1' := HB.out.r.frozen 1
          have c0 : w2.cell? ⟨w.heap.size + 1, 0, none⟩ = some (.string p.id) := HB.out.p.cells.1
          have c1 : w2.cell? ⟨w.heap.size + 1, 1, none⟩ = some (.string p.sp) := HB.out.p.cells.2.1
          have c2 : w2.cell? ⟨w.heap.size + 1, 2, none⟩ = some (.int .i64 p.fr) := HB.out.p.cells.2.2.1
          have c3 : w2.cell? ⟨w.heap.size + 1, 3, none⟩ = some (.int .i64 p.un) := HB.out.p.cells.2.2.2.1
          have c4 : w2.cell? ⟨w.heap.size + 1, 4, none⟩ = some (.int .i64 p.qu) := HB.out.p.cells.2.2.2.2
          go_wp2_with fail
          clear b0 b1 r0 r1 s0' s1' c0 c1 c2 c3 c4
          have HR2 := Lib.hid (HR.out.below HB.out.bel)
          (with_reducible refine (rfind_eq _ R _ _ _ _ HX _ HR2 HO).mono ?_)
          rintro e w3 ⟨rfl, hb⟩
          have HB := Lib.hid (HB.out.below hb)
          clear hb HR2
          have b0 : w3.cell? ⟨w.heap.size, 0, none⟩ = some (.slice Ap R.length cp) := HB.out.g.cell 0
          have b1 : w3.cell? ⟨w.heap.size, 1, none⟩ = some (.slice Al R.length cl) := HB.out.g.cell 1
          have r0 : w3.cell? ⟨w.heap.size + 2, 0, none⟩ = some (.slice none 0 0) := HB.out.r.cell 0
          have r1 : w3.cell? ⟨w.heap.size + 2, 1, none⟩ = some (.slice none 0 0) := HB.out.r.cell 1
          have s0' := HB.out.r.frozen 0
          have s1' := HB.out.r.frozen 1
          have c0 : w3.cell? ⟨w.heap.size + 1, 0, none⟩ = some (.string p.id) := HB.out.p.cells.1
          have c1 : w3.cell? ⟨w.heap.size + 1, 1, none⟩ = some (.string p.sp) := HB.out.p.cells.2.1
          have c2 : w3.cell? ⟨w.heap.size + 1, 2, none⟩ = some (.int .i64 p.fr) := HB.out.p.cells.2.2.1
          have c3 : w3.cell? ⟨w.heap.size + 1, 3, none⟩ = some (.int .i64 p.un) := HB.out.p.cells.2.2.2.1
          have c4 : w3.cell? ⟨w.heap.size + 1, 4, none⟩ = some (.int .i64 p.qu) := HB.out.p.cells.2.2.2.2
          go_wp2_with fail
          (try simp only [Exit.inBlock, Exit.then])
          refine bodyPost_ret (v := .tuple #[.agg #[.slice Ap R.length cp, .slice Al R.length cl], .int .i64 9]) ?_ rfl ⟨.slice Ap R.length cp, .slice Al R.length cl, ?_, ?_⟩
          rotate_left
          · rw [HE.out]
          · have hbf := (HB.out.bel.setCell (p := ⟨w.heap.size + 2, 0, none⟩) (by show _ ≤ w.heap.size + 2; omega) (.slice Ap R.length cp)).setCell (p := ⟨w.heap.size + 2, 1, none⟩) (by show _ ≤ w.heap.size + 2; omega) (.slice Al R.length cl)
            rw [HRR.out]
            exact ⟨HR.out.below hbf, hbf, .inl rfl⟩
          · rw [results_cell_tmp rfl]
            go_simp
        · have h7 : 1125899906842624 < p.qu := by omega
          clear h hn h3 h5
          obtain ⟨Ap, cp, hvp⟩ := row_form HR.out.per
          obtain ⟨Al, cl, hvl⟩ := row_form HR.out.lef
          subst hvp hvl
          have HB := Lib.hid (AddB.new w (.slice Ap R.length cp) (.slice Al R.length cl) p)
          go_enter Try.func18, Try.ntmps18
          go_wp2_with fail
          (with_reducible refine (ris_eq _ _ H1 s1 _).mono ?_)
          rintro e w1 ⟨rfl, hb⟩
          have HB := Lib.hid (HB.out.below hb)
          clear hb
          have b0 : w1.cell? ⟨w.heap.size, 0, none⟩ = some (.slice Ap R.length cp) := HB.out.g.cell 0
          have b1 : w1.cell? ⟨w.heap.size, 1, none⟩ = some (.slice Al R.length cl) := HB.out.g.cell 1
          have r0 : w1.cell? ⟨w.heap.size + 2, 0, none⟩ = some (.slice none 0 0) := HB.out.r.cell 0
          have r1 : w1.cell? ⟨w.heap.size + 2, 1, none⟩ = some (.slice none 0 0) := HB.out.r.cell 1
          have s0' := HB.out.r.frozen 0
          have s1' := HB.out.r.frozen 1
          have c0 : w1.cell? ⟨w.heap.size + 1, 0, none⟩ = some (.string p.id) := HB.out.p.cells.1
          have c1 : w1.cell? ⟨w.heap.size + 1, 1, none⟩ = some (.string p.sp) := HB.out.p.cells.2.1
          have c2 : w1.cell? ⟨w.heap.size + 1, 2, none⟩ = some (.int .i64 p.fr) := HB.out.p.cells.2.2.1
          have c3 : w1.cell? ⟨w.heap.size + 1, 3, none⟩ = some (.int .i64 p.un) := HB.out.p.cells.2.2.2.1
          have c4 : w1.cell? ⟨w.heap.size + 1, 4, none⟩ = some (.int .i64 p.qu) := HB.out.p.cells.2.2.2.2
          go_wp2_with fail
          clear b0 b1 r0 r1 s0' s1' c0 c1 c2 c3 c4
          (with_reducible refine (rname_eq _ _ H2 s2 _).mono ?_)
          rintro e w2 ⟨rfl, hb⟩
          have HB := Lib.hid (HB.out.below hb)
          clear hb
          have b0 : w2.cell? ⟨w.heap.size, 0, none⟩ = some (.slice Ap R.length cp) := HB.out.g.cell 0
          have b1 : w2.cell? ⟨w.heap.size, 1, none⟩ = some (.slice Al R.length cl) := HB.out.g.cell 1
          have r0 : w2.cell? ⟨w.heap.size + 2, 0, none⟩ = some (.slice none 0 0) := HB.out.r.cell 0
          have r1 : w2.cell? ⟨w.heap.size + 2, 1, none⟩ = some (.slice none 0 0) := HB.out.r.cell 1
          have s0' := HB.out.r.frozen 0
          have s1' := HB.out.r.frozen 1
          have c0 : w2.cell? ⟨w.heap.size + 1, 0, none⟩ = some (.string p.id) := HB.out.p.cells.1
          have c1 : w2.cell? ⟨w.heap.size + 1, 1, none⟩ = some (.string p.sp) := HB.out.p.cells.2.1
          have c2 : w2.cell? ⟨w.heap.size + 1, 2, none⟩ = some (.int .i64 p.fr) := HB.out.p.cells.2.2.1
          have c3 : w2.cell? ⟨w.heap.size + 1, 3, none⟩ = some (.int .i64 p.un) := HB.out.p.cells.2.2.2.1
          have c4 : w2.cell? ⟨w.heap.size + 1, 4, none⟩ = some (.int .i64 p.qu) := HB.out.p.cells.2.2.2.2
          go_wp2_with fail
          clear b0 b1 r0 r1 s0' s1' c0 c1 c2 c3 c4
          have HR2 := Lib.hid (HR.out.below HB.out.bel)
          (with_reducible refine (rfind_eq _ R _ _ _ _ HX _ HR2 HO).mono ?_)
          rintro e w3 ⟨rfl, hb⟩
          have HB := Lib.hid (HB.out.below hb)
          clear hb HR2
          have b0 : w3.cell? ⟨w.heap.size, 0, none⟩ = some (.slice Ap R.length cp) := HB.out.g.cell 0
          have b1 : w3.cell? ⟨w.heap.size, 1, none⟩ = some (.slice Al R.length cl) := HB.out.g.cell 1
          have r0 : w3.cell? ⟨w.heap.size + 2, 0, none⟩ = some (.slice none 0 0) := HB.out.r.cell 0
          have r1 : w3.cell? ⟨w.heap.size + 2, 1, none⟩ = some (.slice none 0 0) := HB.out.r.cell 1
          have s0' := HB.out.r.frozen 0
          have s1' := HB.out.r.frozen 1
          have c0 : w3.cell? ⟨w.heap.size + 1, 0, none⟩ = some (.string p.id) := HB.out.p.cells.1
          have c1 : w3.cell? ⟨w.heap.size + 1, 1, none⟩ = some (.string p.sp) := HB.out.p.cells.2.1
          have c2 : w3.cell? ⟨w.heap.size + 1, 2, none⟩ = some (.int .i64 p.fr) := HB.out.p.cells.2.2.1
          have c3 : w3.cell? ⟨w.heap.size + 1, 3, none⟩ = some (.int .i64 p.un) := HB.out.p.cells.2.2.2.1
          have c4 : w3.cell? ⟨w.heap.size + 1, 4, none⟩ = some (.int .i64 p.qu) := HB.out.p.cells.2.2.2.2
          go_wp2_with fail
          (try simp only [Exit.inBlock, Exit.then])
          refine bodyPost_ret (v := .tuple #[.agg #[.slice Ap R.length cp, .slice Al R.length cl], .int .i64 9]) ?_ rfl ⟨.slice Ap R.length cp, .slice Al R.length cl, ?_, ?_⟩
          rotate_left
          · rw [HE.out]
          · have hbf := (HB.out.bel.setCell (p := ⟨w.heap.size + 2, 0, none⟩) (by show _ ≤ w.heap.size + 2; omega) (.slice Ap R.length cp)).setCell (p := ⟨w.heap.size + 2, 1, none⟩) (by show _ ≤ w.heap.size + 2; omega) (.slice Al R.length cl)
            rw [HRR.out]
            exact ⟨HR.out.below hbf, hbf, .inl rfl⟩
          · rw [results_cell_tmp rfl]
            go_simp
    · have HE := Lib.hid (Pt.adE_time h h3 h4)
      have HRR := Lib.hid (Pt.adR_no HE.out (by decide))
      by_cases t0 : 0 ≤ p.fr
      · by_cases t1 : p.un ≤ 10000000
        · have t2 : ¬ p.fr < p.un := by omega
          clear h hn h3 h4
          obtain ⟨Ap, cp, hvp⟩ := row_form HR.out.per
          obtain ⟨Al, cl, hvl⟩ := row_form HR.out.lef
          subst hvp hvl
          have HB := Lib.hid (AddB.new w (.slice Ap R.length cp) (.slice Al R.length cl) p)
          go_enter Try.func18, Try.ntmps18
          go_wp2_with fail
          (with_reducible refine (ris_eq _ _ H1 s1 _).mono ?_)
          rintro e w1 ⟨rfl, hb⟩
          have HB := Lib.hid (HB.out.below hb)
          clear hb
          have b0 : w1.cell? ⟨w.heap.size, 0, none⟩ = some (.slice Ap R.length cp) := HB.out.g.cell 0
          have b1 : w1.cell? ⟨w.heap.size, 1, none⟩ = some (.slice Al R.length cl) := HB.out.g.cell 1
          have r0 : w1.cell? ⟨w.heap.size + 2, 0, none⟩ = some (.slice none 0 0) := HB.out.r.cell 0
          have r1 : w1.cell? ⟨w.heap.size + 2, 1, none⟩ = some (.slice none 0 0) := HB.out.r.cell 1
          have s0' := HB.out.r.frozen 0
          have s1' := HB.out.r.frozen 1
          have c0 : w1.cell? ⟨w.heap.size + 1, 0, none⟩ = some (.string p.id) := HB.out.p.cells.1
          have c1 : w1.cell? ⟨w.heap.size + 1, 1, none⟩ = some (.string p.sp) := HB.out.p.cells.2.1
          have c2 : w1.cell? ⟨w.heap.size + 1, 2, none⟩ = some (.int .i64 p.fr) := HB.out.p.cells.2.2.1
          have c3 : w1.cell? ⟨w.heap.size + 1, 3, none⟩ = some (.int .i64 p.un) := HB.out.p.cells.2.2.2.1
          have c4 : w1.cell? ⟨w.heap.size + 1, 4, none⟩ = some (.int .i64 p.qu) := HB.out.p.cells.2.2.2.2
          go_wp2_with fail
          clear b0 b1 r0 r1 s0' s1' c0 c1 c2 c3 c4
          (with_reducible refine (rname_eq _ _ H2 s2 _).mono ?_)
          rintro e w2 ⟨rfl, hb⟩
          have HB := Lib.hid (HB.out.below hb)
          clear hb
          have b0 : w2.cell? ⟨w.heap.size, 0, none⟩ = some (.slice Ap R.length cp) := HB.out.g.cell 0
          have b1 : w2.cell? ⟨w.heap.size, 1, none⟩ = some (.slice Al R.length cl) := HB.out.g.cell 1
          have r0 : w2.cell? ⟨w.heap.size + 2, 0, none⟩ = some (.slice none 0 0) := HB.out.r.cell 0
          have r1 : w2.cell? ⟨w.heap.size + 2, 1, none⟩ = some (.slice none 0 0) := HB.out.r.cell 1
          have s0' := HB.out.r.frozen 0
          have s1' := HB.out.r.frozen 1
          have c0 : w2.cell? ⟨w.heap.size + 1, 0, none⟩ = some (.string p.id) := HB.out.p.cells.1
          have c1 : w2.cell? ⟨w.heap.size + 1, 1, none⟩ = some (.string p.sp) := HB.out.p.cells.2.1
          have c2 : w2.cell? ⟨w.heap.size + 1, 2, none⟩ = some (.int .i64 p.fr) := HB.out.p.cells.2.2.1
          have c3 : w2.cell? ⟨w.heap.size + 1, 3, none⟩ = some (.int .i64 p.un) := HB.out.p.cells.2.2.2.1
          have c4 : w2.cell? ⟨w.heap.size + 1, 4, none⟩ = some (.int .i64 p.qu) := HB.out.p.cells.2.2.2.2
          go_wp2_with fail
          clear b0 b1 r0 r1 s0' s1' c0 c1 c2 c3 c4
          have HR2 := Lib.hid (HR.out.below HB.out.bel)
          (with_reducible refine (rfind_eq _ R _ _ _ _ HX _ HR2 HO).mono ?_)
          rintro e w3 ⟨rfl, hb⟩
          have HB := Lib.hid (HB.out.below hb)
          clear hb HR2
          have b0 : w3.cell? ⟨w.heap.size, 0, none⟩ = some (.slice Ap R.length cp) := HB.out.g.cell 0
          have b1 : w3.cell? ⟨w.heap.size, 1, none⟩ = some (.slice Al R.length cl) := HB.out.g.cell 1
          have r0 : w3.cell? ⟨w.heap.size + 2, 0, none⟩ = some (.slice none 0 0) := HB.out.r.cell 0
          have r1 : w3.cell? ⟨w.heap.size + 2, 1, none⟩ = some (.slice none 0 0) := HB.out.r.cell 1
          have s0' := HB.out.r.frozen 0
          have s1' := HB.out.r.frozen 1
          have c0 : w3.cell? ⟨w.heap.size + 1, 0, none⟩ = some (.string p.id) := HB.out.p.cells.1
          have c1 : w3.cell? ⟨w.heap.size + 1, 1, none⟩ = some (.string p.sp) := HB.out.p.cells.2.1
          have c2 : w3.cell? ⟨w.heap.size + 1, 2, none⟩ = some (.int .i64 p.fr) := HB.out.p.cells.2.2.1
          have c3 : w3.cell? ⟨w.heap.size + 1, 3, none⟩ = some (.int .i64 p.un) := HB.out.p.cells.2.2.2.1
          have c4 : w3.cell? ⟨w.heap.size + 1, 4, none⟩ = some (.int .i64 p.qu) := HB.out.p.cells.2.2.2.2
          go_wp2_with fail
          (try simp only [Exit.inBlock, Exit.then])
          refine bodyPost_ret (v := .tuple #[.agg #[.slice Ap R.length cp, .slice Al R.length cl], .int .i64 15]) ?_ rfl ⟨.slice Ap R.length cp, .slice Al R.length cl, ?_, ?_⟩
          rotate_left
          · rw [HE.out]
          · have hbf := (HB.out.bel.setCell (p := ⟨w.heap.size + 2, 0, none⟩) (by show _ ≤ w.heap.size + 2; omega) (.slice Ap R.length cp)).setCell (p := ⟨w.heap.size + 2, 1, none⟩) (by show _ ≤ w.heap.size + 2; omega) (.slice Al R.length cl)
            rw [HRR.out]
            exact ⟨HR.out.below hbf, hbf, .inl rfl⟩
          · rw [results_cell_tmp rfl]
            go_simp
        · clear h hn h3 h4
          obtain ⟨Ap, cp, hvp⟩ := row_form HR.out.per
          obtain ⟨Al, cl, hvl⟩ := row_form HR.out.lef
          subst hvp hvl
          have HB := Lib.hid (AddB.new w (.slice Ap R.length cp) (.slice Al R.length cl) p)
          go_enter Try.func18, Try.ntmps18
          go_wp2_with fail
          (with_reducible refine (ris_eq _ _ H1 s1 _).mono ?_)
          rintro e w1 ⟨rfl, hb⟩
          have HB := Lib.hid (HB.out.below hb)
          clear hb
          have b0 : w1.cell? ⟨w.heap.size, 0, none⟩ = some (.slice Ap R.length cp) := HB.out.g.cell 0
          have b1 : w1.cell? ⟨w.heap.size, 1, none⟩ = some (.slice Al R.length cl) := HB.out.g.cell 1
          have r0 : w1.cell? ⟨w.heap.size + 2, 0, none⟩ = some (.slice none 0 0) := HB.out.r.cell 0
          have r1 : w1.cell? ⟨w.heap.size + 2, 1, none⟩ = some (.slice none 0 0) := HB.out.r.cell 1
          have s0' := HB.out.r.frozen 0
          have s1' := HB.out.r.frozen 1
          have c0 : w1.cell? ⟨w.heap.size + 1, 0, none⟩ = some (.string p.id) := HB.out.p.cells.1
          have c1 : w1.cell? ⟨w.heap.size + 1, 1, none⟩ = some (.string p.sp) := HB.out.p.cells.2.1
          have c2 : w1.cell? ⟨w.heap.size + 1, 2, none⟩ = some (.int .i64 p.fr) := HB.out.p.cells.2.2.1
          have c3 : w1.cell? ⟨w.heap.size + 1, 3, none⟩ = some (.int .i64 p.un) := HB.out.p.cells.2.2.2.1
          have c4 : w1.cell? ⟨w.heap.size + 1, 4, none⟩ = some (.int .i64 p.qu) := HB.out.p.cells.2.2.2.2
          go_wp2_with fail
          clear b0 b1 r0 r1 s0' s1' c0 c1 c2 c3 c4
          (with_reducible refine (rname_eq _ _ H2 s2 _).mono ?_)
          rintro e w2 ⟨rfl, hb⟩
          have HB := Lib.hid (HB.out.below hb)
          clear hb
          have b0 : w2.cell? ⟨w.heap.size, 0, none⟩ = some (.slice Ap R.length cp) := HB.out.g.cell 0
          have b1 : w2.cell? ⟨w.heap.size, 1, none⟩ = some (.slice Al R.length cl) := HB.out.g.cell 1
          have r0 : w2.cell? ⟨w.heap.size + 2, 0, none⟩ = some (.slice none 0 0) := HB.out.r.cell 0
          have r1 : w2.cell? ⟨w.heap.size + 2, 1, none⟩ = some (.slice none 0 0) := HB.out.r.cell 1
          have s0' := HB.out.r.frozen 0
          have s1' := HB.out.r.frozen 1
          have c0 : w2.cell? ⟨w.heap.size + 1, 0, none⟩ = some (.string p.id) := HB.out.p.cells.1
          have c1 : w2.cell? ⟨w.heap.size + 1, 1, none⟩ = some (.string p.sp) := HB.out.p.cells.2.1
          have c2 : w2.cell? ⟨w.heap.size + 1, 2, none⟩ = some (.int .i64 p.fr) := HB.out.p.cells.2.2.1
          have c3 : w2.cell? ⟨w.heap.size + 1, 3, none⟩ = some (.int .i64 p.un) := HB.out.p.cells.2.2.2.1
          have c4 : w2.cell? ⟨w.heap.size + 1, 4, none⟩ = some (.int .i64 p.qu) := HB.out.p.cells.2.2.2.2
          go_wp2_with fail
          clear b0 b1 r0 r1 s0' s1' c0 c1 c2 c3 c4
          have HR2 := Lib.hid (HR.out.below HB.out.bel)
          (with_reducible refine (rfind_eq _ R _ _ _ _ HX _ HR2 HO).mono ?_)
          rintro e w3 ⟨rfl, hb⟩
          have HB := Lib.hid (HB.out.below hb)
          clear hb HR2
          have b0 : w3.cell? ⟨w.heap.size, 0, none⟩ = some (.slice Ap R.length cp) := HB.out.g.cell 0
          have b1 : w3.cell? ⟨w.heap.size, 1, none⟩ = some (.slice Al R.length cl) := HB.out.g.cell 1
          have r0 : w3.cell? ⟨w.heap.size + 2, 0, none⟩ = some (.slice none 0 0) := HB.out.r.cell 0
          have r1 : w3.cell? ⟨w.heap.size + 2, 1, none⟩ = some (.slice none 0 0) := HB.out.r.cell 1
          have s0' := HB.out.r.frozen 0
          have s1' := HB.out.r.frozen 1
          have c0 : w3.cell? ⟨w.heap.size + 1, 0, none⟩ = some (.string p.id) := HB.out.p.cells.1
          have c1 : w3.cell? ⟨w.heap.size + 1, 1, none⟩ = some (.string p.sp) := HB.out.p.cells.2.1
          have c2 : w3.cell? ⟨w.heap.size + 1, 2, none⟩ = some (.int .i64 p.fr) := HB.out.p.cells.2.2.1
          have c3 : w3.cell? ⟨w.heap.size + 1, 3, none⟩ = some (.int .i64 p.un) := HB.out.p.cells.2.2.2.1
          have c4 : w3.cell? ⟨w.heap.size + 1, 4, none⟩ = some (.int .i64 p.qu) := HB.out.p.cells.2.2.2.2
          go_wp2_with fail
          (try simp only [Exit.inBlock, Exit.then])
          refine bodyPost_ret (v := .tuple #[.agg #[.slice Ap R.length cp, .slice Al R.length cl], .int .i64 15]) ?_ rfl ⟨.slice Ap R.length cp, .slice Al R.length cl, ?_, ?_⟩
          rotate_left
          · rw [HE.out]
          · have hbf := (HB.out.bel.setCell (p := ⟨w.heap.size + 2, 0, none⟩) (by show _ ≤ w.heap.size + 2; omega) (.slice Ap R.length cp)).setCell (p := ⟨w.heap.size + 2, 1, none⟩) (by show _ ≤ w.heap.size + 2; omega) (.slice Al R.length cl)
            rw [HRR.out]
            exact ⟨HR.out.below hbf, hbf, .inl rfl⟩
          · rw [results_cell_tmp rfl]
            go_simp
      · clear h hn h3 h4
        obtain ⟨Ap, cp, hvp⟩ := row_form HR.out.per
        obtain ⟨Al, cl, hvl⟩ := row_form HR.out.lef
        subst hvp hvl
        have HB := Lib.hid (AddB.new w (.slice Ap R.length cp) (.slice Al R.length cl) p)
        go_enter Try.func18, Try.ntmps18
        go_wp2_with fail
        (with_reducible refine (ris_eq _ _ H1 s1 _).mono ?_)
        rintro e w1 ⟨rfl, hb⟩
        have HB := Lib.hid (HB.out.below hb)
        clear hb
        have b0 : w1.cell? ⟨w.heap.size, 0, none⟩ = some (.slice Ap R.length cp) := HB.out.g.cell 0
        have b1 : w1.cell? ⟨w.heap.size, 1, none⟩ = some (.slice Al R.length cl) := HB.out.g.cell 1
        have r0 : w1.cell? ⟨w.heap.size + 2, 0, none⟩ = some (.slice none 0 0) := HB.out.r.cell 0
        have r1 : w1.cell? ⟨w.heap.size + 2, 1, none⟩ = some (.slice none 0 0) := HB.out.r.cell 1
        have s0' := HB.out.r.frozen 0
        have s1' := HB.out.r.frozen 1
        have c0 : w1.cell? ⟨w.heap.size + 1, 0, none⟩ = some (.string p.id) := HB.out.p.cells.1
        have c1 : w1.cell? ⟨w.heap.size + 1, 1, none⟩ = some (.string p.sp) := HB.out.p.cells.2.1
        have c2 : w1.cell? ⟨w.heap.size + 1, 2, none⟩ = some (.int .i64 p.fr) := HB.out.p.cells.2.2.1
        have c3 : w1.cell? ⟨w.heap.size + 1, 3, none⟩ = some (.int .i64 p.un) := HB.out.p.cells.2.2.2.1
        have c4 : w1.cell? ⟨w.heap.size + 1, 4, none⟩ = some (.int .i64 p.qu) := HB.out.p.cells.2.2.2.2
        go_wp2_with fail
        clear b0 b1 r0 r1 s0' s1' c0 c1 c2 c3 c4
        (with_reducible refine (rname_eq _ _ H2 s2 _).mono ?_)
        rintro e w2 ⟨rfl, hb⟩
        have HB := Lib.hid (HB.out.below hb)
        clear hb
        have b0 : w2.cell? ⟨w.heap.size, 0, none⟩ = some (.slice Ap R.length cp) := HB.out.g.cell 0
        have b1 : w2.cell? ⟨w.heap.size, 1, none⟩ = some (.slice Al R.length cl) := HB.out.g.cell 1
        have r0 : w2.cell? ⟨w.heap.size + 2, 0, none⟩ = some (.slice none 0 0) := HB.out.r.cell 0
        have r1 : w2.cell? ⟨w.heap.size + 2, 1, none⟩ = some (.slice none 0 0) := HB.out.r.cell 1
        have s0' := HB.out.r.frozen 0
        have s1' := HB.out.r.frozen 1
        have c0 : w2.cell? ⟨w.heap.size + 1, 0, none⟩ = some (.string p.id) := HB.out.p.cells.1
        have c1 : w2.cell? ⟨w.heap.size + 1, 1, none⟩ = some (.string p.sp) := HB.out.p.cells.2.1
        have c2 : w2.cell? ⟨w.heap.size + 1, 2, none⟩ = some (.int .i64 p.fr) := HB.out.p.cells.2.2.1
        have c3 : w2.cell? ⟨w.heap.size + 1, 3, none⟩ = some (.int .i64 p.un) := HB.out.p.cells.2.2.2.1
        have c4 : w2.cell? ⟨w.heap.size + 1, 4, none⟩ = some (.int .i64 p.qu) := HB.out.p.cells.2.2.2.2
        go_wp2_with fail
        clear b0 b1 r0 r1 s0' s1' c0 c1 c2 c3 c4
        have HR2 := Lib.hid (HR.out.below HB.out.bel)
        (with_reducible refine (rfind_eq _ R _ _ _ _ HX _ HR2 HO).mono ?_)
        rintro e w3 ⟨rfl, hb⟩
        have HB := Lib.hid (HB.out.below hb)
        clear hb HR2
        have b0 : w3.cell? ⟨w.heap.size, 0, none⟩ = some (.slice Ap R.length cp) := HB.out.g.cell 0
        have b1 : w3.cell? ⟨w.heap.size, 1, none⟩ = some (.slice Al R.length cl) := HB.out.g.cell 1
        have r0 : w3.cell? ⟨w.heap.size + 2, 0, none⟩ = some (.slice none 0 0) := HB.out.r.cell 0
        have r1 : w3.cell? ⟨w.heap.size + 2, 1, none⟩ = some (.slice none 0 0) := HB.out.r.cell 1
        have s0' := HB.out.r.frozen 0
        have s1' := HB.out.r.frozen 1
        have c0 : w3.cell? ⟨w.heap.size + 1, 0, none⟩ = some (.string p.id) := HB.out.p.cells.1
        have c1 : w3.cell? ⟨w.heap.size + 1, 1, none⟩ = some (.string p.sp) := HB.out.p.cells.2.1
        have c2 : w3.cell? ⟨w.heap.size + 1, 2, none⟩ = some (.int .i64 p.fr) := HB.out.p.cells.2.2.1
        have c3 : w3.cell? ⟨w.heap.size + 1, 3, none⟩ = some (.int .i64 p.un) := HB.out.p.cells.2.2.2.1
        have c4 : w3.cell? ⟨w.heap.size + 1, 4, none⟩ = some (.int .i64 p.qu) := HB.out.p.cells.2.2.2.2
        go_wp2_with fail
        (try simp only [Exit.inBlock, Exit.then])
        refine bodyPost_ret (v := .tuple #[.agg #[.slice Ap R.length cp, .slice Al R.length cl], .int .i64 15]) ?_ rfl ⟨.slice Ap R.length cp, .slice Al R.length cl, ?_, ?_⟩
        rotate_left
        · rw [HE.out]
        · have hbf := (HB.out.bel.setCell (p := ⟨w.heap.size + 2, 0, none⟩) (by show _ ≤ w.heap.size + 2; omega) (.slice Ap R.length cp)).setCell (p := ⟨w.heap.size + 2, 1, none⟩) (by show _ ≤ w.heap.size + 2; omega) (.slice Al R.length cl)
          rw [HRR.out]
          exact ⟨HR.out.below hbf, hbf, .inl rfl⟩
        · rw [results_cell_tmp rfl]
          go_simp
end Go.Proofs.Ytgkkhbhobbhlpaa
