/- The reference's Add: a permit is added. -/
import Derived.Test.YtgkkhbhobbhlpaaAL
namespace Go.Proofs.Ytgkkhbhobbhlpaa
open Go.RowKit
set_option linter.unusedVariables false
set_option maxHeartbeats 8000000 in
theorem radd_ok (B : Nat) (R : Pt.Rg) (vp vl : Value) (p : Pt.Pm) (s1 : (p.id.size : Int) ≤ 9223372036854775807) (s2 : (p.sp.size : Int) ≤ 9223372036854775807) (w : World) (HR : Hid (RR w B R vp vl)) (HO : Hid (Pt.Ok R)) (hB : B ≤ w.heap.size)
    (h : (isB p.id 80 && nameB p.sp) = true) (h3 : ¬ Pt.ix p.id R < R.length) (t0 : 0 ≤ p.fr) (t1 : p.un ≤ 10000000) (t2 : p.fr < p.un) (u0 : 1 ≤ p.qu) (u1 : p.qu ≤ 1125899906842624) (h6 : R.length < 16) :
    Calls Try.prog 18 #[.agg #[vp, vl], .agg #[.string p.id, .string p.sp, .int .i64 p.fr, .int .i64 p.un, .int .i64 p.qu]] w fun e w' => ∃ vp' vl', e = .returned (.tuple #[.agg #[vp', vl'], .int .i64 (Pt.adE R p)]) ∧ RDone w w' B (Pt.adR R p) vl vp' vl' := by
  have H1 : Hid (isB p.id 80 = true) := by simp at h; show _ = _; exact h.1
  have H2 : Hid (nameB p.sp = true) := by simp at h; show _ = _; exact h.2
  have HE := Lib.hid (Pt.adE_ok h h3 ⟨t0, t1, t2⟩ ⟨u0, u1⟩ h6)
  have HRR := Lib.hid (Pt.adR_ok HE.out)
  have HX := Lib.hid (Pt.fnd_no h3)
  have z16 : (R.length : Int) < 16 := by omega
  have hm0 : Hid (R.length ≤ maxLen) := by show _ ≤ _; unfold maxLen; omega
  have hm1 : Hid (R.length + 1 ≤ maxLen) := by show _ ≤ _; unfold maxLen; omega
  have hm2 : Hid (R.length * 56 ≤ 140737488355328) := by show _ ≤ _; omega
  have hm3 : Hid (R.length * 8 ≤ 140737488355328) := by show _ ≤ _; omega
  have hm4 : Hid ((R.length + 1) * 56 ≤ 140737488355328) := by show _ ≤ _; omega
  have hm5 : Hid ((R.length + 1) * 8 ≤ 140737488355328) := by show _ ≤ _; omega
  clear h h3
  obtain ⟨Ap, cp, hvp⟩ := row_form HR.out.per
  obtain ⟨Al, cl, hvl⟩ := row_form HR.out.lef
  subst hvp hvl
  have HB := Lib.hid (AddB.new w (.slice Ap R.length cp) (.slice Al R.length cl) p)
  go_enter Try.func18, Try.ntmps18
  go_wp2_with fail
  (with_reducible refine (ris_eq _ _ H1 s1 _).mono ?_)
  rintro e w1 ⟨rfl, hb⟩
  have HB := Lib.hid (HB.out.below hb)
  clear hb
  have b0 : w1.cell? ⟨w.heap.size, 0, none⟩ = some (.slice Ap R.length cp) := HB.out.g.cell 0
  have b1 : w1.cell? ⟨w.heap.size, 1, none⟩ = some (.slice Al R.length cl) := HB.out.g.cell 1
  have r0 : w1.cell? ⟨w.heap.size + 2, 0, none⟩ = some (.slice none 0 0) := HB.out.r.cell 0
  have r1 : w1.cell? ⟨w.heap.size + 2, 1, none⟩ = some (.slice none 0 0) := HB.out.r.cell 1
  have s0' := HB.out.r.frozen 0
  have s1' := HB.out.r.frozen 1
  have c0 : w1.cell? ⟨w.heap.size + 1, 0, none⟩ = some (.string p.id) := HB.out.p.cells.1
  have c1 : w1.cell? ⟨w.heap.size + 1, 1, none⟩ = some (.string p.sp) := HB.out.p.cells.2.1
  have c2 : w1.cell? ⟨w.heap.size + 1, 2, none⟩ = some (.int .i64 p.fr) := HB.out.p.cells.2.2.1
  have c3 : w1.cell? ⟨w.heap.size + 1, 3, none⟩ = some (.int .i64 p.un) := HB.out.p.cells.2.2.2.1
  have c4 : w1.cell? ⟨w.heap.size + 1, 4, none⟩ = some (.int .i64 p.qu) := HB.out.p.cells.2.2.2.2
  go_wp2_with fail
  clear b0 b1 r0 r1 s0' s1' c0 c1 c2 c3 c4
  (with_reducible refine (rname_eq _ _ H2 s2 _).mono ?_)
  rintro e w2 ⟨rfl, hb⟩
  have HB := Lib.hid (HB.out.below hb)
  clear hb
  have b0 : w2.cell? ⟨w.heap.size, 0, none⟩ = some (.slice Ap R.length cp) := HB.out.g.cell 0
  have b1 : w2.cell? ⟨w.heap.size, 1, none⟩ = some (.slice Al R.length cl) := HB.out.g.cell 1
  have r0 : w2.cell? ⟨w.heap.size + 2, 0, none⟩ = some (.slice none 0 0) := HB.out.r.cell 0
  have r1 : w2.cell? ⟨w.heap.size + 2, 1, none⟩ = some (.slice none 0 0) := HB.out.r.cell 1
  have s0' := HB.out.r.frozen 0
  have s1' := HB.out.r.frozen 1
  have c0 : w2.cell? ⟨w.heap.size + 1, 0, none⟩ = some (.string p.id) := HB.out.p.cells.1
  have c1 : w2.cell? ⟨w.heap.size + 1, 1, none⟩ = some (.string p.sp) := HB.out.p.cells.2.1
  have c2 : w2.cell? ⟨w.heap.size + 1, 2, none⟩ = some (.int .i64 p.fr) := HB.out.p.cells.2.2.1
  have c3 : w2.cell? ⟨w.heap.size + 1, 3, none⟩ = some (.int .i64 p.un) := HB.out.p.cells.2.2.2.1
  have c4 : w2.cell? ⟨w.heap.size + 1, 4, none⟩ = some (.int .i64 p.qu) := HB.out.p.cells.2.2.2.2
  go_wp2_with fail
  clear b0 b1 r0 r1 s0' s1' c0 c1 c2 c3 c4
  have HR2 := Lib.hid (HR.out.below HB.out.bel)
  (with_reducible refine (rfind_eq _ R _ _ _ _ HX _ HR2 HO).mono ?_)
  rintro e w3 ⟨rfl, hb⟩
  have HB := Lib.hid (HB.out.below hb)
  clear hb HR2
  have b0 : w3.cell? ⟨w.heap.size, 0, none⟩ = some (.slice Ap R.length cp) := HB.out.g.cell 0
  have b1 : w3.cell? ⟨w.heap.size, 1, none⟩ = some (.slice Al R.length cl) := HB.out.g.cell 1
  have r0 : w3.cell? ⟨w.heap.size + 2, 0, none⟩ = some (.slice none 0 0) := HB.out.r.cell 0
  have r1 : w3.cell? ⟨w.heap.size + 2, 1, none⟩ = some (.slice none 0 0) := HB.out.r.cell 1
  have s0' := HB.out.r.frozen 0
  have s1' := HB.out.r.frozen 1
  have c0 : w3.cell? ⟨w.heap.size + 1, 0, none⟩ = some (.string p.id) := HB.out.p.cells.1
  have c1 : w3.cell? ⟨w.heap.size + 1, 1, none⟩ = some (.string p.sp) := HB.out.p.cells.2.1
  have c2 : w3.cell? ⟨w.heap.size + 1, 2, none⟩ = some (.int .i64 p.fr) := HB.out.p.cells.2.2.1
  have c3 : w3.cell? ⟨w.heap.size + 1, 3, none⟩ = some (.int .i64 p.un) := HB.out.p.cells.2.2.2.1
  have c4 : w3.cell? ⟨w.heap.size + 1, 4, none⟩ = some (.int .i64 p.qu) := HB.out.p.cells.2.2.2.2
  -- the new register's box
  have hbx := (Below.refl w3.heap.size w3).alloc (Nat.le_refl _) (.cells #[.slice none 0 0, .slice none 0 0] 30)
  have hX : AddX w (w3.alloc (.cells #[.slice none 0 0, .slice none 0 0] 30)) w3.heap.size (.slice Ap R.length cp) (.slice Al R.length cl) (.slice none 0 0) (.slice none 0 0) p 0 0 [] [] :=
    ⟨Blk.new _ _ _, HB.out.r.below hbx, HB.out.g.below hbx, HB.out.p.below hbx, World.ownsRow_nil _ _ _ _, World.ownsRow_nil _ _ _ _, below_old HB.out.bel hbx, HB.out.r.lt⟩
  have HXX := Lib.hid hX
  have b0' : (w3.alloc (.cells #[.slice none 0 0, .slice none 0 0] 30)).cell? ⟨w.heap.size, 0, none⟩ = some (.slice Ap R.length cp) := hX.g.cell 0
  have HRX := Lib.hid (HR.out.below hX.bel)
  have hsz0 := hX.lx
  clear hX hbx
  go_wp2_with (at_builtin; refine wpList_copy_c rfl (.tmp 55) (.tmp 57) 27 rfl 32 _ 5 56 Try.underlying27 infoPm rfl (by decide) rfl _ R.length B (prow R) rfl HRX.out.per (prow_one R) hm0.out hm2.out w3.heap.size (by simp) ?_)
  intro v1 w4 hown hgrow
  obtain ⟨A1, k1, hv1⟩ := row_form hown
  subst hv1
  have hxx := HXX.out.x.grown hgrow (by simp)
  have yx : w4.cell? ⟨w3.heap.size, 0, none⟩ = some (.slice none 0 0) := hxx.cell 0
  have zx := hxx.frozen 0
  have HX := Lib.hid (HXX.out.put1 hgrow (.inl rfl) hown)
  clear hown hgrow hxx b0' HXX HRX
  clear b0 b1 r0 r1 s0' s1' c0 c1 c2 c3 c4
  generalize w3.heap.size = xb at HX yx zx hsz0 ⊢
  -- the permit
  have hs5 : (w4.setCell ⟨xb, 0, none⟩ (.slice A1 R.length k1)).heap.size = w4.heap.size := by simp
  have HN5 : Hid (Blk ((w4.setCell ⟨xb, 0, none⟩ (.slice A1 R.length k1)).alloc (.cells #[.string p.id, .string p.sp, .int .i64 p.fr, .int .i64 p.un, .int .i64 p.qu] 32)) w4.heap.size 32 #[.string p.id, .string p.sp, .int .i64 p.fr, .int .i64 p.un, .int .i64 p.qu]) := by
    have := Blk.new (w4.setCell ⟨xb, 0, none⟩ (.slice A1 R.length k1)) 32 #[.string p.id, .string p.sp, .int .i64 p.fr, .int .i64 p.un, .int .i64 p.qu]
    rw [hs5] at this
    exact this
  have hb5 := (Below.refl _ (w4.setCell ⟨xb, 0, none⟩ (.slice A1 R.length k1))).alloc (Nat.le_refl _) (.cells #[.string p.id, .string p.sp, .int .i64 p.fr, .int .i64 p.un, .int .i64 p.qu] 32)
  have HX5 := Lib.hid (HX.out.below hb5)
  clear hb5
  have y0 : (w4.setCell ⟨xb, 0, none⟩ (.slice A1 R.length k1)).cell? ⟨xb, 0, none⟩ = some (.slice A1 R.length k1) := HX.out.x.cell 0
  have y1 : (w4.setCell ⟨xb, 0, none⟩ (.slice A1 R.length k1)).cell? ⟨xb, 1, none⟩ = some (.slice none 0 0) := HX.out.x.cell 1
  have z0 := HX.out.x.frozen 0
  have z1 := HX.out.x.frozen 1
  have b0 : (w4.setCell ⟨xb, 0, none⟩ (.slice A1 R.length k1)).cell? ⟨w.heap.size, 0, none⟩ = some (.slice Ap R.length cp) := HX.out.g.cell 0
  have b1 : (w4.setCell ⟨xb, 0, none⟩ (.slice A1 R.length k1)).cell? ⟨w.heap.size, 1, none⟩ = some (.slice Al R.length cl) := HX.out.g.cell 1
  have r0 : (w4.setCell ⟨xb, 0, none⟩ (.slice A1 R.length k1)).cell? ⟨w.heap.size + 2, 0, none⟩ = some (.slice none 0 0) := HX.out.r.cell 0
  have r1 : (w4.setCell ⟨xb, 0, none⟩ (.slice A1 R.length k1)).cell? ⟨w.heap.size + 2, 1, none⟩ = some (.slice none 0 0) := HX.out.r.cell 1
  have s0' := HX.out.r.frozen 0
  have s1' := HX.out.r.frozen 1
  have c0 : (w4.setCell ⟨xb, 0, none⟩ (.slice A1 R.length k1)).cell? ⟨w.heap.size + 1, 0, none⟩ = some (.string p.id) := HX.out.p.cells.1
  have c1 : (w4.setCell ⟨xb, 0, none⟩ (.slice A1 R.length k1)).cell? ⟨w.heap.size + 1, 1, none⟩ = some (.string p.sp) := HX.out.p.cells.2.1
  have c2 : (w4.setCell ⟨xb, 0, none⟩ (.slice A1 R.length k1)).cell? ⟨w.heap.size + 1, 2, none⟩ = some (.int .i64 p.fr) := HX.out.p.cells.2.2.1
  have c3 : (w4.setCell ⟨xb, 0, none⟩ (.slice A1 R.length k1)).cell? ⟨w.heap.size + 1, 3, none⟩ = some (.int .i64 p.un) := HX.out.p.cells.2.2.2.1
  have c4 : (w4.setCell ⟨xb, 0, none⟩ (.slice A1 R.length k1)).cell? ⟨w.heap.size + 1, 4, none⟩ = some (.int .i64 p.qu) := HX.out.p.cells.2.2.2.2
  have hsz : xb < (w4.setCell ⟨xb, 0, none⟩ (.slice A1 R.length k1)).heap.size := HX.out.x.lt
  rw [hs5] at hsz
  go_wp2_with (at_builtin; refine wpList_lies_c rfl (.tmp 61) (.tmp 63) 27 rfl xb 32 _ 5 56 Try.underlying27 infoPm rfl (by decide) _ _ _ rfl HX5.out.r1 ⟨w4.heap.size, 0, none⟩ 1 1 (pcells p) rfl rfl (World.news_of_block HN5.out) (pcells_one p) (by decide) hm1.out hm4.out (by simp; omega) ?_)
  intro g6 k6 w6 hown hgrow hat
  have hxx := HX5.out.x.grown hgrow (row_blk HX5.out.r1 HX5.out.x (by decide))
  have HX := Lib.hid (HX5.out.put1 hgrow (.inr rfl) hown)
  have yx6 : w6.cell? ⟨xb, 0, none⟩ = some (.slice A1 R.length k1) := hxx.cell 0
  have zx6 := hxx.frozen 0
  clear hown hgrow hat hxx HX5 HN5 yx zx
  clear y0 y1 z0 z1 b0 b1 r0 r1 s0' s1' c0 c1 c2 c3 c4 hsz
  -- what was left
  have HRX := Lib.hid (HR.out.below HX.out.bel)
  have hs7 : (w6.setCell ⟨xb, 0, none⟩ (.slice (some ⟨g6, 0, none⟩) (R.length + 1) k6)).heap.size = w6.heap.size := by simp
  have y0 : (w6.setCell ⟨xb, 0, none⟩ (.slice (some ⟨g6, 0, none⟩) (R.length + 1) k6)).cell? ⟨xb, 0, none⟩ = some (.slice (some ⟨g6, 0, none⟩) (R.length + 1) k6) := HX.out.x.cell 0
  have y1 : (w6.setCell ⟨xb, 0, none⟩ (.slice (some ⟨g6, 0, none⟩) (R.length + 1) k6)).cell? ⟨xb, 1, none⟩ = some (.slice none 0 0) := HX.out.x.cell 1
  have z0 := HX.out.x.frozen 0
  have z1 := HX.out.x.frozen 1
  have b0 : (w6.setCell ⟨xb, 0, none⟩ (.slice (some ⟨g6, 0, none⟩) (R.length + 1) k6)).cell? ⟨w.heap.size, 0, none⟩ = some (.slice Ap R.length cp) := HX.out.g.cell 0
  have b1 : (w6.setCell ⟨xb, 0, none⟩ (.slice (some ⟨g6, 0, none⟩) (R.length + 1) k6)).cell? ⟨w.heap.size, 1, none⟩ = some (.slice Al R.length cl) := HX.out.g.cell 1
  have r0 : (w6.setCell ⟨xb, 0, none⟩ (.slice (some ⟨g6, 0, none⟩) (R.length + 1) k6)).cell? ⟨w.heap.size + 2, 0, none⟩ = some (.slice none 0 0) := HX.out.r.cell 0
  have r1 : (w6.setCell ⟨xb, 0, none⟩ (.slice (some ⟨g6, 0, none⟩) (R.length + 1) k6)).cell? ⟨w.heap.size + 2, 1, none⟩ = some (.slice none 0 0) := HX.out.r.cell 1
  have s0' := HX.out.r.frozen 0
  have s1' := HX.out.r.frozen 1
  have c0 : (w6.setCell ⟨xb, 0, none⟩ (.slice (some ⟨g6, 0, none⟩) (R.length + 1) k6)).cell? ⟨w.heap.size + 1, 0, none⟩ = some (.string p.id) := HX.out.p.cells.1
  have c1 : (w6.setCell ⟨xb, 0, none⟩ (.slice (some ⟨g6, 0, none⟩) (R.length + 1) k6)).cell? ⟨w.heap.size + 1, 1, none⟩ = some (.string p.sp) := HX.out.p.cells.2.1
  have c2 : (w6.setCell ⟨xb, 0, none⟩ (.slice (some ⟨g6, 0, none⟩) (R.length + 1) k6)).cell? ⟨w.heap.size + 1, 2, none⟩ = some (.int .i64 p.fr) := HX.out.p.cells.2.2.1
  have c3 : (w6.setCell ⟨xb, 0, none⟩ (.slice (some ⟨g6, 0, none⟩) (R.length + 1) k6)).cell? ⟨w.heap.size + 1, 3, none⟩ = some (.int .i64 p.un) := HX.out.p.cells.2.2.2.1
  have c4 : (w6.setCell ⟨xb, 0, none⟩ (.slice (some ⟨g6, 0, none⟩) (R.length + 1) k6)).cell? ⟨w.heap.size + 1, 4, none⟩ = some (.int .i64 p.qu) := HX.out.p.cells.2.2.2.2
  have hsz : xb < (w6.setCell ⟨xb, 0, none⟩ (.slice (some ⟨g6, 0, none⟩) (R.length + 1) k6)).heap.size := HX.out.x.lt
  rw [hs7] at hsz
  go_wp2_with (at_builtin; refine wpList_copy_c rfl (.tmp 67) (.tmp 69) 28 rfl 3 _ 1 8 Try.underlying28 infoI rfl (by decide) rfl _ R.length B (lrow R) rfl HRX.out.lef (lrow_one R) hm0.out hm3.out xb (by simp; omega) ?_)
  intro v8 w8 hown hgrow
  obtain ⟨A8, k8, hv8⟩ := row_form hown
  subst hv8
  have hxx := HX.out.x.grown hgrow (by simp)
  have yx8 : w8.cell? ⟨xb, 1, none⟩ = some (.slice none 0 0) := hxx.cell 1
  have zx8 := hxx.frozen 1
  have HX8 := Lib.hid (HX.out.put2 hgrow (.inl rfl) hown)
  clear hown hgrow hxx HX HRX yx6 zx6 hs7
  clear y0 y1 z0 z1 b0 b1 r0 r1 s0' s1' c0 c1 c2 c3 c4 hsz
  have HX := HX8
  clear HX8
  -- the quota
  have hs9 : (w8.setCell ⟨xb, 1, none⟩ (.slice A8 R.length k8)).heap.size = w8.heap.size := by simp
  have HN9 : Hid (Blk ((w8.setCell ⟨xb, 1, none⟩ (.slice A8 R.length k8)).alloc (.cells #[.int .i64 p.qu] 3)) w8.heap.size 3 #[.int .i64 p.qu]) := by
    have := Blk.new (w8.setCell ⟨xb, 1, none⟩ (.slice A8 R.length k8)) 3 #[.int .i64 p.qu]
    rw [hs9] at this
    exact this
  have hb9 := (Below.refl _ (w8.setCell ⟨xb, 1, none⟩ (.slice A8 R.length k8))).alloc (Nat.le_refl _) (.cells #[.int .i64 p.qu] 3)
  have HX9 := Lib.hid (HX.out.below hb9)
  clear hb9
  have y0 : (w8.setCell ⟨xb, 1, none⟩ (.slice A8 R.length k8)).cell? ⟨xb, 0, none⟩ = some (.slice (some ⟨g6, 0, none⟩) (R.length + 1) k6) := HX.out.x.cell 0
  have y1 : (w8.setCell ⟨xb, 1, none⟩ (.slice A8 R.length k8)).cell? ⟨xb, 1, none⟩ = some (.slice A8 R.length k8) := HX.out.x.cell 1
  have z0 := HX.out.x.frozen 0
  have z1 := HX.out.x.frozen 1
  have b0 : (w8.setCell ⟨xb, 1, none⟩ (.slice A8 R.length k8)).cell? ⟨w.heap.size, 0, none⟩ = some (.slice Ap R.length cp) := HX.out.g.cell 0
  have b1 : (w8.setCell ⟨xb, 1, none⟩ (.slice A8 R.length k8)).cell? ⟨w.heap.size, 1, none⟩ = some (.slice Al R.length cl) := HX.out.g.cell 1
  have r0 : (w8.setCell ⟨xb, 1, none⟩ (.slice A8 R.length k8)).cell? ⟨w.heap.size + 2, 0, none⟩ = some (.slice none 0 0) := HX.out.r.cell 0
  have r1 : (w8.setCell ⟨xb, 1, none⟩ (.slice A8 R.length k8)).cell? ⟨w.heap.size + 2, 1, none⟩ = some (.slice none 0 0) := HX.out.r.cell 1
  have s0' := HX.out.r.frozen 0
  have s1' := HX.out.r.frozen 1
  have c0 : (w8.setCell ⟨xb, 1, none⟩ (.slice A8 R.length k8)).cell? ⟨w.heap.size + 1, 0, none⟩ = some (.string p.id) := HX.out.p.cells.1
  have c1 : (w8.setCell ⟨xb, 1, none⟩ (.slice A8 R.length k8)).cell? ⟨w.heap.size + 1, 1, none⟩ = some (.string p.sp) := HX.out.p.cells.2.1
  have c2 : (w8.setCell ⟨xb, 1, none⟩ (.slice A8 R.length k8)).cell? ⟨w.heap.size + 1, 2, none⟩ = some (.int .i64 p.fr) := HX.out.p.cells.2.2.1
  have c3 : (w8.setCell ⟨xb, 1, none⟩ (.slice A8 R.length k8)).cell? ⟨w.heap.size + 1, 3, none⟩ = some (.int .i64 p.un) := HX.out.p.cells.2.2.2.1
  have c4 : (w8.setCell ⟨xb, 1, none⟩ (.slice A8 R.length k8)).cell? ⟨w.heap.size + 1, 4, none⟩ = some (.int .i64 p.qu) := HX.out.p.cells.2.2.2.2
  have hsz : xb < (w8.setCell ⟨xb, 1, none⟩ (.slice A8 R.length k8)).heap.size := HX.out.x.lt
  rw [hs9] at hsz
  go_wp2_with (at_builtin; refine wpList_lies_c rfl (.tmp 73) (.tmp 76) 28 rfl xb 3 _ 1 8 Try.underlying28 infoI rfl (by decide) _ _ _ rfl HX9.out.r2 ⟨w8.heap.size, 0, none⟩ 1 1 [.int .i64 p.qu] rfl rfl (World.news_of_block HN9.out) (by intro u hu; simp at hu; subst hu; rfl) (by decide) hm1.out hm5.out (by simp; omega) ?_)
  intro gA kA wA hown hgrow hat
  have hxx := HX9.out.x.grown hgrow (row_blk HX9.out.r2 HX9.out.x (by decide))
  have HXA := Lib.hid (HX9.out.put2 hgrow (.inr rfl) hown)
  have yxA : wA.cell? ⟨xb, 1, none⟩ = some (.slice A8 R.length k8) := hxx.cell 1
  have zxA := hxx.frozen 1
  clear hown hgrow hat hxx HX9 HN9 yx8 zx8 HX hs9
  clear y0 y1 z0 z1 b0 b1 r0 r1 s0' s1' c0 c1 c2 c3 c4 hsz
  have HX := HXA
  clear HXA
  have hsA : (wA.setCell ⟨xb, 1, none⟩ (.slice (some ⟨gA, 0, none⟩) (R.length + 1) kA)).heap.size = wA.heap.size := by simp
  have y0 : (wA.setCell ⟨xb, 1, none⟩ (.slice (some ⟨gA, 0, none⟩) (R.length + 1) kA)).cell? ⟨xb, 0, none⟩ = some (.slice (some ⟨g6, 0, none⟩) (R.length + 1) k6) := HX.out.x.cell 0
  have y1 : (wA.setCell ⟨xb, 1, none⟩ (.slice (some ⟨gA, 0, none⟩) (R.length + 1) kA)).cell? ⟨xb, 1, none⟩ = some (.slice (some ⟨gA, 0, none⟩) (R.length + 1) kA) := HX.out.x.cell 1
  have z0 := HX.out.x.frozen 0
  have z1 := HX.out.x.frozen 1
  have b0 : (wA.setCell ⟨xb, 1, none⟩ (.slice (some ⟨gA, 0, none⟩) (R.length + 1) kA)).cell? ⟨w.heap.size, 0, none⟩ = some (.slice Ap R.length cp) := HX.out.g.cell 0
  have b1 : (wA.setCell ⟨xb, 1, none⟩ (.slice (some ⟨gA, 0, none⟩) (R.length + 1) kA)).cell? ⟨w.heap.size, 1, none⟩ = some (.slice Al R.length cl) := HX.out.g.cell 1
  have r0 : (wA.setCell ⟨xb, 1, none⟩ (.slice (some ⟨gA, 0, none⟩) (R.length + 1) kA)).cell? ⟨w.heap.size + 2, 0, none⟩ = some (.slice none 0 0) := HX.out.r.cell 0
  have r1 : (wA.setCell ⟨xb, 1, none⟩ (.slice (some ⟨gA, 0, none⟩) (R.length + 1) kA)).cell? ⟨w.heap.size + 2, 1, none⟩ = some (.slice none 0 0) := HX.out.r.cell 1
  have s0' := HX.out.r.frozen 0
  have s1' := HX.out.r.frozen 1
  have c0 : (wA.setCell ⟨xb, 1, none⟩ (.slice (some ⟨gA, 0, none⟩) (R.length + 1) kA)).cell? ⟨w.heap.size + 1, 0, none⟩ = some (.string p.id) := HX.out.p.cells.1
  have c1 : (wA.setCell ⟨xb, 1, none⟩ (.slice (some ⟨gA, 0, none⟩) (R.length + 1) kA)).cell? ⟨w.heap.size + 1, 1, none⟩ = some (.string p.sp) := HX.out.p.cells.2.1
  have c2 : (wA.setCell ⟨xb, 1, none⟩ (.slice (some ⟨gA, 0, none⟩) (R.length + 1) kA)).cell? ⟨w.heap.size + 1, 2, none⟩ = some (.int .i64 p.fr) := HX.out.p.cells.2.2.1
  have c3 : (wA.setCell ⟨xb, 1, none⟩ (.slice (some ⟨gA, 0, none⟩) (R.length + 1) kA)).cell? ⟨w.heap.size + 1, 3, none⟩ = some (.int .i64 p.un) := HX.out.p.cells.2.2.2.1
  have c4 : (wA.setCell ⟨xb, 1, none⟩ (.slice (some ⟨gA, 0, none⟩) (R.length + 1) kA)).cell? ⟨w.heap.size + 1, 4, none⟩ = some (.int .i64 p.qu) := HX.out.p.cells.2.2.2.2
  have hsz : xb < (wA.setCell ⟨xb, 1, none⟩ (.slice (some ⟨gA, 0, none⟩) (R.length + 1) kA)).heap.size := HX.out.x.lt
  go_wp2_with fail
  (try simp only [Exit.inBlock, Exit.then])
  refine bodyPost_ret (v := .tuple #[.agg #[.slice (some ⟨g6, 0, none⟩) (R.length + 1) k6, .slice (some ⟨gA, 0, none⟩) (R.length + 1) kA], .int .i64 0]) ?_ rfl ⟨.slice (some ⟨g6, 0, none⟩) (R.length + 1) k6, .slice (some ⟨gA, 0, none⟩) (R.length + 1) kA, ?_, ?_⟩
  rotate_left
  · rw [HE.out]
  · have k1 := set_grown (wA.setCell ⟨xb, 1, none⟩ (.slice (some ⟨gA, 0, none⟩) (R.length + 1) kA)) (w.heap.size + 2) 0 (.slice (some ⟨g6, 0, none⟩) (R.length + 1) k6)
    have k2 := set_grown ((wA.setCell ⟨xb, 1, none⟩ (.slice (some ⟨gA, 0, none⟩) (R.length + 1) kA)).setCell ⟨w.heap.size + 2, 0, none⟩ (.slice (some ⟨g6, 0, none⟩) (R.length + 1) k6)) (w.heap.size + 2) 1 (.slice (some ⟨gA, 0, none⟩) (R.length + 1) kA)
    have k3 := k1.trans k2
    have hbf := HX.out.bel.grown k3 HX.out.bel.size (fun j hj => by cases hj; omega)
    have hpf := HX.out.r1.kept k3 (.inr fun e => row_blk HX.out.r1 HX.out.r (by decide) e.symm)
    have hlf := HX.out.r2.kept k3 (.inr fun e => row_blk HX.out.r2 HX.out.r (by decide) e.symm)
    rw [HRR.out]
    refine ⟨⟨?_, ?_⟩, hbf, .inr fun j hj => ?_⟩
    · rw [prow_snoc, List.length_append]; exact ownsRow_base hpf (by omega)
    · rw [lrow_snoc, List.length_append]; exact ownsRow_base hlf (by omega)
    · have := (HX.out.r2.lt j hj).1; omega
  · rw [results_cell_tmp rfl]
    go_simp
theorem radd_any (B : Nat) (R : Pt.Rg) (vp vl : Value) (p : Pt.Pm) (s1 : (p.id.size : Int) ≤ 9223372036854775807) (s2 : (p.sp.size : Int) ≤ 9223372036854775807) (w : World) (HR : Hid (RR w B R vp vl)) (HO : Hid (Pt.Ok R)) (hB : B ≤ w.heap.size) :
    Calls Try.prog 18 #[.agg #[vp, vl], .agg #[.string p.id, .string p.sp, .int .i64 p.fr, .int .i64 p.un, .int .i64 p.qu]] w fun e w' => ∃ vp' vl', e = .returned (.tuple #[.agg #[vp', vl'], .int .i64 (Pt.adE R p)]) ∧ RDone w w' B (Pt.adR R p) vl vp' vl' := by
  by_cases hn : (isB p.id 80 && nameB p.sp) = true ∧ ¬ Pt.ix p.id R < R.length ∧ (0 ≤ p.fr ∧ p.un ≤ 10000000 ∧ p.fr < p.un) ∧ (1 ≤ p.qu ∧ p.qu ≤ 1125899906842624) ∧ R.length < 16
  · obtain ⟨h, h3, ⟨t0, t1, t2⟩, ⟨u0, u1⟩, h6⟩ := hn
    exact radd_ok B R vp vl p s1 s2 w HR HO hB h h3 t0 t1 t2 u0 u1 h6
  · exact radd_no B R vp vl p s1 s2 w HR HO hB hn
end Go.Proofs.Ytgkkhbhobbhlpaa
