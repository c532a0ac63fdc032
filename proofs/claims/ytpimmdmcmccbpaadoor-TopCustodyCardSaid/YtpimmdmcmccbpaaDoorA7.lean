/- Add of package permit: a permit is added. -/
import Derived.Test.YtpimmdmcmccbpaaDoorA6
namespace Go.Proofs.YtpimmdmcmccbpaaDoor
open Go.RowKit
set_option linter.unusedVariables false

/-- Between the two appends. -/
structure MidR (w : World) (B r : Nat) (R : Pt.Rg) (p : Pt.Pm) (vp vu : Value) : Prop where
  low : B ≤ r
  blk : Blk w r 93 #[vp, vu]
  per : w.ownsRow B 44 5 vp (R.length + 1) (prow R ++ pcells p)
  use : w.ownsRow B 3 1 vu R.length (urow R)
  pr : vp.ownBlock ≠ some r
  ur : vu.ownBlock ≠ some r
theorem Reg.mid {w w1 w2 : World} {B r : Nat} {R : Pt.Rg} {p : Pt.Pm} {vp vu vp' : Value} (h : Reg w B r R vp vu) (hb : Below w.heap.size w w1) (hg : w1.grownBy w2 none) (ho : w2.ownsRow w1.heap.size 44 5 vp' (R.length + 1) (prow R ++ pcells p)) :
    MidR (w2.setCell ⟨r, 0, none⟩ vp') B r R p vp' vu ∧ w.grownBy (w2.setCell ⟨r, 0, none⟩ vp') (some r) ∧ ∀ k, vp'.ownBlock = some k → w.heap.size ≤ k := by
  have hb2 : Below w.heap.size w w2 := hb.trans ((grown_below hg).mono hb.size)
  have h2 := h.below hb2
  have hs : w2.grownBy (w2.setCell ⟨r, 0, none⟩ vp') (some r) := ⟨rfl, rfl, rfl, by simp, fun k _ hk => heap_setCell_other w2 ⟨r, 0, none⟩ k vp' (fun e => hk (by simp [e]))⟩
  have hrl : r < w1.heap.size := Nat.lt_of_lt_of_le h.blk.lt hb.size
  have hpr : vp'.ownBlock ≠ some r := fun e => by have := (ho.lt r e).1; omega
  refine ⟨⟨h.low, ?_, ?_, ?_, hpr, h.ur⟩, (below_grown hb2 _).trans hs, fun k hk => Nat.le_trans hb.size (ho.lt k hk).1⟩
  · have := h2.blk.set_ 0 vp'
    simpa using this
  · exact ownsRow_base (ho.kept hs (.inr hpr)) (Nat.le_trans h.low (Nat.le_of_lt hrl))
  · exact h2.use.kept hs (.inr h.ur)
theorem MidR.done {w w1 w2 : World} {B r : Nat} {R : Pt.Rg} {p : Pt.Pm} {vp vu vu' : Value} (h : MidR w B r R p vp vu) (hb : Below w.heap.size w w1) (hg : w1.grownBy w2 none) (ho : w2.ownsRow w1.heap.size 3 1 vu' (R.length + 1) (urow R ++ [.int .i64 0])) :
    Reg (w2.setCell ⟨r, 1, none⟩ vu') B r (R ++ [(p, 0)]) vp vu' ∧ w.grownBy (w2.setCell ⟨r, 1, none⟩ vu') (some r) := by
  have hb2 : Below w.heap.size w w2 := hb.trans ((grown_below hg).mono hb.size)
  have hs : w2.grownBy (w2.setCell ⟨r, 1, none⟩ vu') (some r) := ⟨rfl, rfl, rfl, by simp, fun k _ hk => heap_setCell_other w2 ⟨r, 1, none⟩ k vu' (fun e => hk (by simp [e]))⟩
  have hrl : r < w1.heap.size := Nat.lt_of_lt_of_le h.blk.lt hb.size
  have hur : vu'.ownBlock ≠ some r := fun e => by have := (ho.lt r e).1; omega
  refine ⟨⟨h.low, ?_, ?_, ?_, h.pr, hur, ?_⟩, (below_grown hb2 _).trans hs⟩
  · have := (h.blk.below hb2).set_ 1 vu'
    simpa using this
  · rw [prow_snoc, List.length_append]
    exact (h.per.kept (below_grown hb2 none) (by cases vp.ownBlock <;> simp)).kept hs (.inr h.pr)
  · rw [urow_snoc, List.length_append]
    exact ownsRow_base (ho.kept hs (.inr hur)) (Nat.le_trans h.low (Nat.le_of_lt hrl))
  · refine .inr fun e => ?_
    obtain ⟨g, cap, rfl, hge, _⟩ := ho.form (by omega)
    have h1 := h.per.lt g e
    have := hb.size
    omega

set_option maxHeartbeats 8000000 in
theorem add_ok0 {B r : Nat} {R : Pt.Rg} {vu : Value}  (hn : R.length = 0) (p : Pt.Pm) (s1 : (p.id.size : Int) ≤ 9223372036854775807) (s2 : (p.sp.size : Int) ≤ 9223372036854775807) (w : World) (HR : Hid (Reg w B r R (.slice none 0 0) vu)) (HO : Hid (Pt.Ok R))
    (h : (isB p.id 80 && nameB p.sp) = true) (h3 : ¬ Pt.ix p.id R < R.length) (t0 : 0 ≤ p.fr) (t1 : p.un ≤ 10000000) (t2 : p.fr < p.un) (u0 : 1 ≤ p.qu) (u1 : p.qu ≤ 1125899906842624) (h6 : 0 < 16) :
    Calls Tryd.prog 21 #[.pointer (some ⟨r, 0, none⟩), .agg #[.string p.id, .string p.sp, .int .i64 p.fr, .int .i64 p.un, .int .i64 p.qu]] w fun e w' => e = .returned (.int .i64 (Pt.adE R p)) ∧ Added w w' B r (Pt.adR R p) (.slice none 0 0) vu := by
  have H1 : Hid (isB p.id 80 = true) := by simp at h; show _ = _; exact h.1
  have H2 : Hid (nameB p.sp = true) := by simp at h; show _ = _; exact h.2
  have HE := Lib.hid (Pt.adE_ok h h3 ⟨t0, t1, t2⟩ ⟨u0, u1⟩ (by omega))
  have HRR := Lib.hid (Pt.adR_ok HE.out)
  have HX := Lib.hid (Pt.fnd_no h3)
  obtain ⟨ao0, c0', ev, hcap, hrow⟩ := RowIs.of HR.out.per
  rw [hn] at hrow hcap ev
  simp only [Value.slice.injEq, true_and] at ev
  obtain ⟨hao, hco⟩ := ev
  rw [← hao] at hrow
  rw [← hco] at hcap
  have zc : (0 : Int) ≤ (0 : Int) := by omega
  have HROW := Lib.hid hrow
  have HL : Hid ((prow R).length = 0 * 5) := by show _ = _; rw [prow_length, hn]
  have HN := Lib.hid hn
  have hm1 : Hid (0 + 1 ≤ maxLen) := by show _ ≤ _; unfold maxLen; omega
  have hm2 : Hid ((0 + 1) * 56 ≤ 140737488355328) := by show _ ≤ _; omega
  have hm3 : Hid ((0 + 1) * 8 ≤ 140737488355328) := by show _ ≤ _; omega
  clear h h3 hrow hcap hao hco hn
  have HB : Hid (Below w.heap.size w (w.alloc (.cells #[.string p.id, .string p.sp, .int .i64 p.fr, .int .i64 p.un, .int .i64 p.qu] 44))) := (Below.refl _ _).alloc (Nat.le_refl _) _
  have HP : Hid (PBox (w.alloc (.cells #[.string p.id, .string p.sp, .int .i64 p.fr, .int .i64 p.un, .int .i64 p.qu] 44)) w.heap.size p) := Blk.new _ _ _
  go_enter Tryd.func21, Tryd.ntmps21
  go_wp2_with fail
  (with_reducible refine (is_eq _ _ H1 s1 _).mono ?_)
  rintro e w1 ⟨rfl, hb⟩
  have HB := Lib.hid (HB.out.trans (hb.mono HB.out.size))
  have HP := Lib.hid (PBox.below HP.out hb)
  clear hb
  obtain ⟨c0, c1, c2, c3, c4⟩ := HP.out.cells
  go_wp2_with fail
  (with_reducible refine (name_eq _ _ H2 s2 _).mono ?_)
  rintro e w2 ⟨rfl, hb⟩
  have HB := Lib.hid (HB.out.trans (hb.mono HB.out.size))
  have HP := Lib.hid (PBox.below HP.out hb)
  clear hb
  clear c0 c1 c2 c3 c4
  obtain ⟨c0, c1, c2, c3, c4⟩ := HP.out.cells
  have HR2 := Lib.hid (HR.out.below HB.out)
  go_wp2_with fail
  (with_reducible refine (Reg.find HR2 HO _ _ HX).mono ?_)
  rintro e w3 ⟨rfl, hb⟩
  have HB := Lib.hid (HB.out.trans (hb.mono HB.out.size))
  have HP := Lib.hid (PBox.below HP.out hb)
  clear hb
  clear c0 c1 c2 c3 c4 HR2
  obtain ⟨c0, c1, c2, c3, c4⟩ := HP.out.cells
  have HR3 := Lib.hid (HR.out.below HB.out)
  have k0 := HR3.out.c0
  have f0 := HR3.out.blk.frozen 0
  have hrlt := HR3.out.blk.lt
  go_wp2_with fail
  (with_reducible refine (time_yes _ ⟨t0, by omega⟩ _).mono ?_)
  rintro e w4 ⟨rfl, rfl⟩
  go_wp2_with fail
  (with_reducible refine (time_yes _ ⟨by omega, t1⟩ _).mono ?_)
  rintro e w4 ⟨rfl, rfl⟩
  go_wp2_with fail
  have HBx := Lib.hid (HB.out)
  have hw4 : w.heap.size < w4.heap.size := Blk.lt HP.out
  go_region_law ((refine step_grows_c rfl (.tmp 62) (.tmp 64) 90 rfl 44 _ 5 56 Tryd.underlying90 infoPm rfl (by decide) none 0 0 (prow R) (by rfl) HROW.out.caps HL.out (HROW.out.in_ (HBx.out.trans (((Below.refl _ _).alloc (Nat.le_refl _) _).drew.mono HBx.out.size))) ⟨w4.heap.size, 0, none⟩ 1 1 (pcells p) (by rfl) rfl (World.news_of_block (Blk.new _ _ _)) (pcells_one p) (by omega) hm1.out hm2.out ?_); intro v' w5 hown hgrow; obtain ⟨g', cap', rfl, hge, hlt'⟩ := hown.form (by omega); (have k5 := (below_grown (grown_below hgrow) none).cell (a := ⟨r, 0, none⟩) (World.cell?_of_block (a := ⟨r, 0, none⟩) (Below.heap_alloc w4 _ r hrlt) |>.trans k0) (by simp)); (have f5 := ((grown_below hgrow).frozen (p := ⟨r, 0, none⟩) (by simp; omega)).trans ((World.frozen?_of_block (a := ⟨r, 0, none⟩) (Below.heap_alloc w4 _ r hrlt)).trans f0)))
  all_goals obtain ⟨hM, hG, hFP⟩ := Reg.mid (p := p) HR3.out ((((Below.refl w4.heap.size w4).alloc (Nat.le_refl _) _).drew)) hgrow (by rw [HN.out]; exact hown)
  all_goals (clear hown hgrow hge hlt' k5 f5 k0 f0 c0 c1 c2 c3 c4)
  all_goals (try rw [Nat.zero_add] at hM hG hFP)
  all_goals (generalize w5.setCell ⟨r, 0, none⟩ (Value.slice (some ⟨g', 0, none⟩) (0 + 1) cap') = w6 at hM hG ⊢)
  all_goals (generalize (Value.slice (some ⟨g', 0, none⟩) (0 + 1) cap') = vp6 at hM hFP ⊢)
  all_goals (have HFP := Lib.hid hFP)
  all_goals (clear hFP)
  all_goals
    obtain ⟨ao6, c6, rfl, hcap6, hrow6⟩ := RowIs.of hM.use
    rw [HN.out] at hrow6 hcap6 hM
    have HROW6 := Lib.hid hrow6
    have HL6 : Hid ((urow R).length = 0 * 1) := by show _ = _; rw [urow_length, HN.out, Nat.mul_one]
    clear hrow6
    have zc6 : (0 : Int) ≤ (c6 : Int) := by omega
    rcases hM.use.2 with ⟨e6, z6⟩ | ⟨g6, cap6, cur6, e6, _⟩
    · simp only [Value.slice.injEq] at e6
      obtain ⟨rfl, e6a, rfl⟩ := e6
      skip
      have r0 : w6.cell? ⟨r, 1, none⟩ = some (.slice none 0 0) := hM.blk.cell 1
      have r1 := hM.blk.frozen 1
      have rl := hM.blk.lt
      have HM := Lib.hid hM
      have HG := Lib.hid hG
      clear hM hG
      have hcellr : ∀ (o : Obj) (w7 : World), (w6.alloc o).grownBy w7 none → w7.cell? ⟨r, 1, none⟩ = some (.slice none 0 0) ∧ w7.frozen? ⟨r, 1, none⟩ = false := fun o w7 hg =>
        ⟨((grown_below hg).cell (p := ⟨r, 1, none⟩) (by simp; omega)).trans ((World.cell?_of_block (a := ⟨r, 1, none⟩) (Below.heap_alloc w6 o r rl)).trans r0), ((grown_below hg).frozen (p := ⟨r, 1, none⟩) (by simp; omega)).trans ((World.frozen?_of_block (a := ⟨r, 1, none⟩) (Below.heap_alloc w6 o r rl)).trans r1)⟩
      have HCR := Lib.hid hcellr
      clear hcellr
      go_wp2_with (at_builtin; refine wpList_grows_c rfl (.tmp 75) (.tmp 76) 91 rfl 3 (.int .i64 0) 1 8 Tryd.underlying91 infoI rfl (by decide) none 0 0 (urow R) (by rfl) HROW6.out.caps HL6.out (HROW6.out.in_ ((Below.refl _ _).alloc (Nat.le_refl _) _)) ⟨w6.heap.size, 0, none⟩ 1 1 [.int .i64 0] (by rfl) rfl (World.news_of_block (Blk.new _ _ _)) (by intro u hu; simp at hu; subst hu; rfl) (by omega) hm1.out hm3.out ?_)
      intro v' w7 hown hgrow
      obtain ⟨g7, cap7, rfl, hge, hlt'⟩ := hown.form (by omega)
      obtain ⟨k7, f7⟩ := HCR.out _ _ hgrow
      have HOWN := Lib.hid hown
      have HGROW := Lib.hid hgrow
      clear hown hgrow
      go_wp2_with fail
      go_ret
      obtain ⟨hR7, hG7⟩ := MidR.done (vu' := .slice (some ⟨g7, 0, none⟩) (0 + 1) cap7) HM.out ((Below.refl w6.heap.size w6).alloc (Nat.le_refl _) _) HGROW.out (by rw [HN.out]; simpa using HOWN.out)
      exact ⟨ret_int' HE.out.symm, by rw [HRR.out]; exact ⟨⟨_, _, hR7, .inr fun k hk => by simp [Value.ownBlock] at hk hge; have := HG.out.size; have := HB.out.size; omega, .inr fun k hk => Nat.le_trans HB.out.size (HFP.out k hk)⟩, ((below_grown HB.out _).trans HG.out).trans hG7⟩⟩
    · simp only [Value.slice.injEq] at e6
      obtain ⟨rfl, -, -⟩ := e6
      have r0 : w6.cell? ⟨r, 1, none⟩ = some (.slice (some ⟨g6, 0, none⟩) 0 c6) := hM.blk.cell 1
      have r1 := hM.blk.frozen 1
      have rl := hM.blk.lt
      have HM := Lib.hid hM
      have HG := Lib.hid hG
      clear hM hG
      have hcellr : ∀ (o : Obj) (w7 : World), (w6.alloc o).grownBy w7 none → w7.cell? ⟨r, 1, none⟩ = some (.slice (some ⟨g6, 0, none⟩) 0 c6) ∧ w7.frozen? ⟨r, 1, none⟩ = false := fun o w7 hg =>
        ⟨((grown_below hg).cell (p := ⟨r, 1, none⟩) (by simp; omega)).trans ((World.cell?_of_block (a := ⟨r, 1, none⟩) (Below.heap_alloc w6 o r rl)).trans r0), ((grown_below hg).frozen (p := ⟨r, 1, none⟩) (by simp; omega)).trans ((World.frozen?_of_block (a := ⟨r, 1, none⟩) (Below.heap_alloc w6 o r rl)).trans r1)⟩
      have HCR := Lib.hid hcellr
      clear hcellr
      go_wp2_with (at_builtin; refine wpList_grows_c rfl (.tmp 75) (.tmp 76) 91 rfl 3 (.int .i64 0) 1 8 Tryd.underlying91 infoI rfl (by decide) (some ⟨g6, 0, none⟩) 0 0 (urow R) (by rfl) HROW6.out.caps HL6.out (HROW6.out.in_ ((Below.refl _ _).alloc (Nat.le_refl _) _)) ⟨w6.heap.size, 0, none⟩ 1 1 [.int .i64 0] (by rfl) rfl (World.news_of_block (Blk.new _ _ _)) (by intro u hu; simp at hu; subst hu; rfl) (by omega) hm1.out hm3.out ?_)
      intro v' w7 hown hgrow
      obtain ⟨g7, cap7, rfl, hge, hlt'⟩ := hown.form (by omega)
      obtain ⟨k7, f7⟩ := HCR.out _ _ hgrow
      have HOWN := Lib.hid hown
      have HGROW := Lib.hid hgrow
      clear hown hgrow
      go_wp2_with fail
      go_ret
      obtain ⟨hR7, hG7⟩ := MidR.done (vu' := .slice (some ⟨g7, 0, none⟩) (0 + 1) cap7) HM.out ((Below.refl w6.heap.size w6).alloc (Nat.le_refl _) _) HGROW.out (by rw [HN.out]; simpa using HOWN.out)
      exact ⟨ret_int' HE.out.symm, by rw [HRR.out]; exact ⟨⟨_, _, hR7, .inr fun k hk => by simp [Value.ownBlock] at hk hge; have := HG.out.size; have := HB.out.size; omega, .inr fun k hk => Nat.le_trans HB.out.size (HFP.out k hk)⟩, ((below_grown HB.out _).trans HG.out).trans hG7⟩⟩

set_option maxHeartbeats 8000000 in
theorem add_ok1 {B r : Nat} {R : Pt.Rg} {vu : Value} {g n cp : Nat} (hn : R.length = n) (p : Pt.Pm) (s1 : (p.id.size : Int) ≤ 9223372036854775807) (s2 : (p.sp.size : Int) ≤ 9223372036854775807) (w : World) (HR : Hid (Reg w B r R (.slice (some ⟨g, 0, none⟩) n cp) vu)) (HO : Hid (Pt.Ok R))
    (h : (isB p.id 80 && nameB p.sp) = true) (h3 : ¬ Pt.ix p.id R < R.length) (t0 : 0 ≤ p.fr) (t1 : p.un ≤ 10000000) (t2 : p.fr < p.un) (u0 : 1 ≤ p.qu) (u1 : p.qu ≤ 1125899906842624) (h6 : n < 16) :
    Calls Tryd.prog 21 #[.pointer (some ⟨r, 0, none⟩), .agg #[.string p.id, .string p.sp, .int .i64 p.fr, .int .i64 p.un, .int .i64 p.qu]] w fun e w' => e = .returned (.int .i64 (Pt.adE R p)) ∧ Added w w' B r (Pt.adR R p) (.slice (some ⟨g, 0, none⟩) n cp) vu := by
  have H1 : Hid (isB p.id 80 = true) := by simp at h; show _ = _; exact h.1
  have H2 : Hid (nameB p.sp = true) := by simp at h; show _ = _; exact h.2
  have HE := Lib.hid (Pt.adE_ok h h3 ⟨t0, t1, t2⟩ ⟨u0, u1⟩ (by omega))
  have HRR := Lib.hid (Pt.adR_ok HE.out)
  have HX := Lib.hid (Pt.fnd_no h3)
  obtain ⟨ao0, c0', ev, hcap, hrow⟩ := RowIs.of HR.out.per
  rw [hn] at hrow hcap ev
  simp only [Value.slice.injEq, true_and] at ev
  obtain ⟨hao, hco⟩ := ev
  rw [← hao] at hrow
  rw [← hco] at hcap
  have zc : (n : Int) ≤ (cp : Int) := by omega
  have HROW := Lib.hid hrow
  have HL : Hid ((prow R).length = n * 5) := by show _ = _; rw [prow_length, hn]
  have HN := Lib.hid hn
  have hm1 : Hid (n + 1 ≤ maxLen) := by show _ ≤ _; unfold maxLen; omega
  have hm2 : Hid ((n + 1) * 56 ≤ 140737488355328) := by show _ ≤ _; omega
  have hm3 : Hid ((n + 1) * 8 ≤ 140737488355328) := by show _ ≤ _; omega
  clear h h3 hrow hcap hao hco hn
  have HB : Hid (Below w.heap.size w (w.alloc (.cells #[.string p.id, .string p.sp, .int .i64 p.fr, .int .i64 p.un, .int .i64 p.qu] 44))) := (Below.refl _ _).alloc (Nat.le_refl _) _
  have HP : Hid (PBox (w.alloc (.cells #[.string p.id, .string p.sp, .int .i64 p.fr, .int .i64 p.un, .int .i64 p.qu] 44)) w.heap.size p) := Blk.new _ _ _
  go_enter Tryd.func21, Tryd.ntmps21
  go_wp2_with fail
  (with_reducible refine (is_eq _ _ H1 s1 _).mono ?_)
  rintro e w1 ⟨rfl, hb⟩
  have HB := Lib.hid (HB.out.trans (hb.mono HB.out.size))
  have HP := Lib.hid (PBox.below HP.out hb)
  clear hb
  obtain ⟨c0, c1, c2, c3, c4⟩ := HP.out.cells
  go_wp2_with fail
  (with_reducible refine (name_eq _ _ H2 s2 _).mono ?_)
  rintro e w2 ⟨rfl, hb⟩
  have HB := Lib.hid (HB.out.trans (hb.mono HB.out.size))
  have HP := Lib.hid (PBox.below HP.out hb)
  clear hb
  clear c0 c1 c2 c3 c4
  obtain ⟨c0, c1, c2, c3, c4⟩ := HP.out.cells
  have HR2 := Lib.hid (HR.out.below HB.out)
  go_wp2_with fail
  (with_reducible refine (Reg.find HR2 HO _ _ HX).mono ?_)
  rintro e w3 ⟨rfl, hb⟩
  have HB := Lib.hid (HB.out.trans (hb.mono HB.out.size))
  have HP := Lib.hid (PBox.below HP.out hb)
  clear hb
  clear c0 c1 c2 c3 c4 HR2
  obtain ⟨c0, c1, c2, c3, c4⟩ := HP.out.cells
  have HR3 := Lib.hid (HR.out.below HB.out)
  have k0 := HR3.out.c0
  have f0 := HR3.out.blk.frozen 0
  have hrlt := HR3.out.blk.lt
  go_wp2_with fail
  (with_reducible refine (time_yes _ ⟨t0, by omega⟩ _).mono ?_)
  rintro e w4 ⟨rfl, rfl⟩
  go_wp2_with fail
  (with_reducible refine (time_yes _ ⟨by omega, t1⟩ _).mono ?_)
  rintro e w4 ⟨rfl, rfl⟩
  go_wp2_with fail
  have HBx := Lib.hid (HB.out)
  have hw4 : w.heap.size < w4.heap.size := Blk.lt HP.out
  go_region_law ((refine step_grows_c rfl (.tmp 62) (.tmp 64) 90 rfl 44 _ 5 56 Tryd.underlying90 infoPm rfl (by decide) (some ⟨g, 0, none⟩) n n (prow R) (by rfl) HROW.out.caps HL.out (HROW.out.in_ (HBx.out.trans (((Below.refl _ _).alloc (Nat.le_refl _) _).drew.mono HBx.out.size))) ⟨w4.heap.size, 0, none⟩ 1 1 (pcells p) (by rfl) rfl (World.news_of_block (Blk.new _ _ _)) (pcells_one p) (by omega) hm1.out hm2.out ?_); intro v' w5 hown hgrow; obtain ⟨g', cap', rfl, hge, hlt'⟩ := hown.form (by omega); (have k5 := (below_grown (grown_below hgrow) none).cell (a := ⟨r, 0, none⟩) (World.cell?_of_block (a := ⟨r, 0, none⟩) (Below.heap_alloc w4 _ r hrlt) |>.trans k0) (by simp)); (have f5 := ((grown_below hgrow).frozen (p := ⟨r, 0, none⟩) (by simp; omega)).trans ((World.frozen?_of_block (a := ⟨r, 0, none⟩) (Below.heap_alloc w4 _ r hrlt)).trans f0)))
  all_goals obtain ⟨hM, hG, hFP⟩ := Reg.mid (p := p) HR3.out ((((Below.refl w4.heap.size w4).alloc (Nat.le_refl _) _).drew)) hgrow (by rw [HN.out]; exact hown)
  all_goals (clear hown hgrow hge hlt' k5 f5 k0 f0 c0 c1 c2 c3 c4)
  all_goals (try rw [Nat.zero_add] at hM hG hFP)
  all_goals (generalize w5.setCell ⟨r, 0, none⟩ (Value.slice (some ⟨g', 0, none⟩) (n + 1) cap') = w6 at hM hG ⊢)
  all_goals (generalize (Value.slice (some ⟨g', 0, none⟩) (n + 1) cap') = vp6 at hM hFP ⊢)
  all_goals (have HFP := Lib.hid hFP)
  all_goals (clear hFP)
  all_goals
    obtain ⟨ao6, c6, rfl, hcap6, hrow6⟩ := RowIs.of hM.use
    rw [HN.out] at hrow6 hcap6 hM
    have HROW6 := Lib.hid hrow6
    have HL6 : Hid ((urow R).length = n * 1) := by show _ = _; rw [urow_length, HN.out, Nat.mul_one]
    clear hrow6
    have zc6 : (n : Int) ≤ (c6 : Int) := by omega
    rcases hM.use.2 with ⟨e6, z6⟩ | ⟨g6, cap6, cur6, e6, _⟩
    · simp only [Value.slice.injEq] at e6
      obtain ⟨rfl, e6a, rfl⟩ := e6
      subst e6a
      have r0 : w6.cell? ⟨r, 1, none⟩ = some (.slice none 0 0) := hM.blk.cell 1
      have r1 := hM.blk.frozen 1
      have rl := hM.blk.lt
      have HM := Lib.hid hM
      have HG := Lib.hid hG
      clear hM hG
      have hcellr : ∀ (o : Obj) (w7 : World), (w6.alloc o).grownBy w7 none → w7.cell? ⟨r, 1, none⟩ = some (.slice none 0 0) ∧ w7.frozen? ⟨r, 1, none⟩ = false := fun o w7 hg =>
        ⟨((grown_below hg).cell (p := ⟨r, 1, none⟩) (by simp; omega)).trans ((World.cell?_of_block (a := ⟨r, 1, none⟩) (Below.heap_alloc w6 o r rl)).trans r0), ((grown_below hg).frozen (p := ⟨r, 1, none⟩) (by simp; omega)).trans ((World.frozen?_of_block (a := ⟨r, 1, none⟩) (Below.heap_alloc w6 o r rl)).trans r1)⟩
      have HCR := Lib.hid hcellr
      clear hcellr
      go_wp2_with (at_builtin; refine wpList_grows_c rfl (.tmp 75) (.tmp 76) 91 rfl 3 (.int .i64 0) 1 8 Tryd.underlying91 infoI rfl (by decide) none 0 0 (urow R) (by rfl) HROW6.out.caps HL6.out (HROW6.out.in_ ((Below.refl _ _).alloc (Nat.le_refl _) _)) ⟨w6.heap.size, 0, none⟩ 1 1 [.int .i64 0] (by rfl) rfl (World.news_of_block (Blk.new _ _ _)) (by intro u hu; simp at hu; subst hu; rfl) (by omega) hm1.out hm3.out ?_)
      intro v' w7 hown hgrow
      obtain ⟨g7, cap7, rfl, hge, hlt'⟩ := hown.form (by omega)
      obtain ⟨k7, f7⟩ := HCR.out _ _ hgrow
      have HOWN := Lib.hid hown
      have HGROW := Lib.hid hgrow
      clear hown hgrow
      go_wp2_with fail
      go_ret
      obtain ⟨hR7, hG7⟩ := MidR.done (vu' := .slice (some ⟨g7, 0, none⟩) (0 + 1) cap7) HM.out ((Below.refl w6.heap.size w6).alloc (Nat.le_refl _) _) HGROW.out (by rw [HN.out]; simpa using HOWN.out)
      exact ⟨ret_int' HE.out.symm, by rw [HRR.out]; exact ⟨⟨_, _, hR7, .inr fun k hk => by simp [Value.ownBlock] at hk hge; have := HG.out.size; have := HB.out.size; omega, .inr fun k hk => Nat.le_trans HB.out.size (HFP.out k hk)⟩, ((below_grown HB.out _).trans HG.out).trans hG7⟩⟩
    · simp only [Value.slice.injEq] at e6
      obtain ⟨rfl, -, -⟩ := e6
      have r0 : w6.cell? ⟨r, 1, none⟩ = some (.slice (some ⟨g6, 0, none⟩) n c6) := hM.blk.cell 1
      have r1 := hM.blk.frozen 1
      have rl := hM.blk.lt
      have HM := Lib.hid hM
      have HG := Lib.hid hG
      clear hM hG
      have hcellr : ∀ (o : Obj) (w7 : World), (w6.alloc o).grownBy w7 none → w7.cell? ⟨r, 1, none⟩ = some (.slice (some ⟨g6, 0, none⟩) n c6) ∧ w7.frozen? ⟨r, 1, none⟩ = false := fun o w7 hg =>
        ⟨((grown_below hg).cell (p := ⟨r, 1, none⟩) (by simp; omega)).trans ((World.cell?_of_block (a := ⟨r, 1, none⟩) (Below.heap_alloc w6 o r rl)).trans r0), ((grown_below hg).frozen (p := ⟨r, 1, none⟩) (by simp; omega)).trans ((World.frozen?_of_block (a := ⟨r, 1, none⟩) (Below.heap_alloc w6 o r rl)).trans r1)⟩
      have HCR := Lib.hid hcellr
      clear hcellr
      go_wp2_with (at_builtin; refine wpList_grows_c rfl (.tmp 75) (.tmp 76) 91 rfl 3 (.int .i64 0) 1 8 Tryd.underlying91 infoI rfl (by decide) (some ⟨g6, 0, none⟩) n n (urow R) (by rfl) HROW6.out.caps HL6.out (HROW6.out.in_ ((Below.refl _ _).alloc (Nat.le_refl _) _)) ⟨w6.heap.size, 0, none⟩ 1 1 [.int .i64 0] (by rfl) rfl (World.news_of_block (Blk.new _ _ _)) (by intro u hu; simp at hu; subst hu; rfl) (by omega) hm1.out hm3.out ?_)
      intro v' w7 hown hgrow
      obtain ⟨g7, cap7, rfl, hge, hlt'⟩ := hown.form (by omega)
      obtain ⟨k7, f7⟩ := HCR.out _ _ hgrow
      have HOWN := Lib.hid hown
      have HGROW := Lib.hid hgrow
      clear hown hgrow
      go_wp2_with fail
      go_ret
      obtain ⟨hR7, hG7⟩ := MidR.done (vu' := .slice (some ⟨g7, 0, none⟩) (n + 1) cap7) HM.out ((Below.refl w6.heap.size w6).alloc (Nat.le_refl _) _) HGROW.out (by rw [HN.out]; simpa using HOWN.out)
      exact ⟨ret_int' HE.out.symm, by rw [HRR.out]; exact ⟨⟨_, _, hR7, .inr fun k hk => by simp [Value.ownBlock] at hk hge; have := HG.out.size; have := HB.out.size; omega, .inr fun k hk => Nat.le_trans HB.out.size (HFP.out k hk)⟩, ((below_grown HB.out _).trans HG.out).trans hG7⟩⟩

end Go.Proofs.YtpimmdmcmccbpaaDoor
