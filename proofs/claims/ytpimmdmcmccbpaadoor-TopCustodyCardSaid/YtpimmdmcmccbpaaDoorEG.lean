/- custody: Add, the walk. -/
import Derived.Test.YtpimmdmcmccbpaaDoorEF
namespace Go.Proofs.YtpimmdmcmccbpaaDoor
open Go.RowKit
set_option linter.unusedVariables false
open Cu (Lk Ls)
theorem check_eq {B r : Nat} {L : Ls} {v : Value} {b1 b2 : Nat} (it pa : ByteArray) (ti vo : Int) (sp : ByteArray) (ha : Int) (hf : Hid (Fit_ ⟨it, pa, ti, vo, sp, ha⟩)) (w : World) (HC : Hid (CReg w B r L v b1 b2)) (hg : Hid (Cu.Good L)) (E : Int) (HE : Hid (Cu.chE L ⟨it, pa, ti, vo, sp, ha⟩ = E)) :
    Calls Tryd.prog 42 #[.pointer (some ⟨r, 0, none⟩), .agg #[.string it, .string pa, .int .i64 ti, .int .i64 vo, .string sp, .int .u64 ha]] w fun e w' => e = .returned (.int .i64 E) ∧ Below w.heap.size w w' := by
  have := check_any it pa ti vo sp ha hf.out w HC hg.out.mild
  rw [HE.out] at this
  exact this
theorem chash_eq {B r : Nat} {L : Ls} {v : Value} {b1 b2 : Nat} (it pa : ByteArray) (ti vo : Int) (sp : ByteArray) (ha : Int) (hf : Hid (Fit_ ⟨it, pa, ti, vo, sp, ha⟩)) (w : World) (HC : Hid (CReg w B r L v b1 b2)) (ht : Hid (TabOk w)) (hg : Hid (Cu.Good L)) (H : Int) (HH : Hid (Cu.hsV L ⟨it, pa, ti, vo, sp, ha⟩ = H)) :
    Calls Tryd.prog 43 #[.pointer (some ⟨r, 0, none⟩), .agg #[.string it, .string pa, .int .i64 ti, .int .i64 vo, .string sp, .int .u64 ha]] w fun e w' => e = .returned (.int .u64 H) ∧ Below w.heap.size w w' := by
  have := chash_any ⟨it, pa, ti, vo, sp, ha⟩ hf.out w HC ht hg.out.mild.len (Lib.hid fun p hp => hg.out.al.ha p (par_mem hp))
  rw [HH.out] at this
  exact this
theorem CReg.other {w w' : World} {B r : Nat} {L : Ls} {v : Value} {b1 b2 : Nat} {S : Nat → Prop} (h : CReg w B r L v b1 b2) (hc : Cng w w' S) (hn : ∀ k, CS r v b1 b2 k → ¬ S k) : CReg w' B r L v b1 b2 := by
  refine ⟨h.low, h.l1, h.l2, h.ne, h.blk.cng hc (hn _ (.inl rfl)), row_cng h.row hc (fun j hj => hn _ (.inr (.inr (.inr hj)))), ?_, ?_⟩
  · obtain ⟨D, ⟨es, clock, hb, rest⟩, h2⟩ := h.m1
    exact ⟨D, ⟨es, clock, (hc.block b1 h.m1.lt (hn _ (.inr (.inl rfl)))).trans hb, rest⟩, h2⟩
  · obtain ⟨D, ⟨es, clock, hb, rest⟩, h2⟩ := h.m2
    exact ⟨D, ⟨es, clock, (hc.block b2 h.m2.lt (hn _ (.inr (.inr (.inl rfl))))).trans hb, rest⟩, h2⟩
theorem CReg.cs_lt {w : World} {B r : Nat} {L : Ls} {v : Value} {b1 b2 : Nat} (h : CReg w B r L v b1 b2) {k : Nat} (hk : CS r v b1 b2 k) : B ≤ k ∧ k < w.heap.size := by
  rcases hk with rfl | rfl | rfl | hk
  · exact ⟨h.low, h.blk.lt⟩
  · exact ⟨h.l1, h.m1.lt⟩
  · exact ⟨h.l2, h.m2.lt⟩
  · exact h.row.lt k hk
theorem CkW.hash {w wi : World} {B r : Nat} {L : Ls} {v : Value} {b1 b2 : Nat} {x : Lk} (h0 : CReg w B r L v b1 b2) (h : CkW w wi B r L v b1 b2 x) (H : Int) : CkW w (wi.setCell ⟨w.heap.size, 5, none⟩ (.int .u64 H)) B r L v b1 b2 ⟨x.it, x.pa, x.ti, x.vo, x.sp, H⟩ := by
  have hs := set_grown wi w.heap.size 5 (.int .u64 H)
  refine ⟨h.c.other (Cng.of_grown (S := fun k => k = w.heap.size) hs (fun k hk => by cases hk; rfl)) (fun k hk e => ?_), ?_, h.bel.grown hs h.bel.size (fun k hk => by cases hk; exact Nat.le_refl _)⟩
  · have := (h0.cs_lt hk).2; omega
  · have := Blk.set_ h.b 5 (.int .u64 H)
    simpa [LBox] using this
set_option maxHeartbeats 8000000 in
theorem cadd_any {B r : Nat} {L : Ls} {v : Value} {b1 b2 : Nat} (it pa sp : ByteArray) (ti vo : Int) (hf : Hid (Fit_ ⟨it, pa, ti, vo, sp, 0⟩)) (w : World) (HC : Hid (CReg w B r L v b1 b2)) (ht : Hid (TabOk w)) (hg : Hid (Cu.Good L)) :
    Calls Tryd.prog 16 #[.pointer (some ⟨r, 0, none⟩), .string it, .string pa, .string sp, .int .i64 ti, .int .i64 vo] w fun e w' => e = .returned (.tuple #[.int .u64 (Cu.adH L ⟨it, pa, ti, vo, sp, 0⟩), .int .i64 (Cu.chE L ⟨it, pa, ti, vo, sp, 0⟩)]) ∧ Rec w w' B r (Cu.adL L ⟨it, pa, ti, vo, sp, 0⟩) v b1 b2 := by
  obtain ⟨E, hE⟩ : ∃ E, Cu.chE L ⟨it, pa, ti, vo, sp, 0⟩ = E := ⟨_, rfl⟩
  have HE := Lib.hid hE
  by_cases hz : E = 0
  · subst hz
    have HA := Lib.hid (Cu.adH_ok hE)
    have HL := Lib.hid (Cu.adL_ok hE)
    clear hE
    obtain ⟨H, hH⟩ : ∃ H, Cu.hsV L ⟨it, pa, ti, vo, sp, 0⟩ = H := ⟨_, rfl⟩
    have HH := Lib.hid hH
    clear hH
    have HF2 : Hid (Fit_ ⟨it, pa, ti, vo, sp, H⟩) := ⟨hf.out.1, hf.out.2, hf.out.3, hf.out.4, hf.out.5, hf.out.6, hf.out.7⟩
    have HCAN : Hid (Cu.Can L ⟨it, pa, ti, vo, sp, H⟩) := Cu.can_of HE.out
    have HC0 := Lib.hid (CkW.new HC.out ⟨it, pa, ti, vo, sp, 0⟩)
    go_enter Tryd.func16, Tryd.ntmps16
    go_wp2_with fail
    (with_reducible refine (check_eq it pa ti vo sp 0 hf _ (Lib.hid HC0.out.c) hg 0 HE).mono ?_)
    rintro e w1 ⟨rfl, hb⟩
    have HK1 := Lib.hid (HC0.out.below hb)
    clear hb HC0
    obtain ⟨z0, z1, z2, z3, z4, z5⟩ := HK1.out.b.cells
    simp only at z0 z1 z2 z3 z4 z5
    go_wp2_with fail
    (with_reducible refine (chash_eq it pa ti vo sp 0 hf _ (Lib.hid HK1.out.c) (Lib.hid (ht.out.below HK1.out.bel)) hg H HH).mono ?_)
    rintro e w2 ⟨rfl, hb⟩
    have HK2 := Lib.hid (HK1.out.below hb)
    clear hb HK1 z0 z1 z2 z3 z4 z5
    obtain ⟨z0, z1, z2, z3, z4, z5⟩ := HK2.out.b.cells
    simp only at z0 z1 z2 z3 z4 z5
    have f5 := Blk.frozen HK2.out.b 5
    have HK3 := Lib.hid (HK2.out.hash HC.out H)
    go_wp2_with fail
    (with_reducible refine (record_any it pa ti vo sp H HF2.out _ (Lib.hid HK3.out.c) hg.out.mild (HCAN.out)).mono ?_)
    rintro e w4 ⟨rfl, hrec⟩
    have HREC := Lib.hid hrec
    obtain ⟨v', -, hcg, -⟩ := hrec
    have hx := Blk.cng HK3.out.b hcg (fun g => by have := (HC.out.cs_lt g).2; omega)
    have y5 : w4.cell? ⟨w.heap.size, 5, none⟩ = some (.int .u64 H) := Blk.cell hx 5
    clear hx hcg z0 z1 z2 z3 z4 z5 f5
    go_wp2_with fail
    (try simp only [Exit.inBlock, Exit.then])
    refine bodyPost_ret (results_tmp2 rfl _ _ _) rfl ⟨?_, ?_⟩
    · rw [HA.out, HH.out, HE.out]; rfl
    · rw [HL.out, HH.out]
      exact Rec.of_below HK3.out.bel HREC.out
  · have HA := Lib.hid (Cu.adH_no (by rw [hE]; exact hz))
    have HL := Lib.hid (Cu.adL_no (by rw [hE]; exact hz))
    have hz2 : (E == 0) = false := by simpa using hz
    clear hE
    go_enter Tryd.func16, Tryd.ntmps16
    have HC0 := Lib.hid (CkW.new HC.out ⟨it, pa, ti, vo, sp, 0⟩)
    go_wp2_with fail
    (with_reducible refine (check_eq it pa ti vo sp 0 hf _ (Lib.hid HC0.out.c) hg E HE).mono ?_)
    rintro e w1 ⟨rfl, hb⟩
    have HK1 := Lib.hid (HC0.out.below hb)
    clear hb HC0
    go_wp2_with fail
    (try simp only [Exit.inBlock, Exit.then])
    refine bodyPost_ret (results_tmp2 rfl _ _ _) rfl ⟨?_, ?_⟩
    · rw [HA.out, HE.out]; rfl
    · rw [HL.out]
      exact Rec.same HC.out HK1.out.bel
end Go.Proofs.YtpimmdmcmccbpaaDoor
