/- custody: record, the walk. -/
import Derived.Test.YtpimmdmcmccbpaaDoorED
namespace Go.Proofs.YtpimmdmcmccbpaaDoor
open Go.RowKit
set_option linter.unusedVariables false
open Cu (Lk Ls)
theorem wf_i64 {n : Int} (h0 : -9223372036854775808 ≤ n) (h1 : n ≤ 9223372036854775807) : (Lit.int .i64 n).wf = true := by
  simp [Lit.wf, IntKind.min, IntKind.max, IntKind.signed, IntKind.bits]
  omega
section
variable {w w6 w7 w8 w9 wA : World} {B r : Nat} {L : Ls} {v : Value} {b1 b2 g g' cap n : Nat} {x : Lk} {gg : Int}
theorem rec_new (hf : (Value.slice (some ⟨g', 0, none⟩) n cap).ownBlock = v.ownBlock ∨ w.heap.size ≤ g') : (Value.slice (some ⟨g', 0, none⟩) n cap).ownBlock = v.ownBlock ∨ ∀ k, (Value.slice (some ⟨g', 0, none⟩) n cap).ownBlock = some k → w.heap.size ≤ k := by
  rcases hf with h | h
  · exact .inl h
  · exact .inr fun k hk => by simp [Value.ownBlock] at hk; omega
theorem rec_some (hM : MReg wA B r (L ++ [x]) (.slice (some ⟨g', 0, none⟩) n cap) b1 b2 (L.length + 1) (fun t => if t = x.it then some (L.length : Int) else f1 L t) (L.length + 1) (fun t => if t = x.pa then some (gg + x.vo) else f2 L t) g x)
    (hG : Cng w w6 (CS r v b1 b2)) (hb : Below w6.heap.size w6 w7) (hg : w7.grownBy w8 (some b1)) (hb2 : Below w8.heap.size w8 w9) (hg2 : w9.grownBy wA (some b2)) (hf : (Value.slice (some ⟨g', 0, none⟩) n cap).ownBlock = v.ownBlock ∨ w.heap.size ≤ g')
    (hnew : ¬ Cu.ix x.it L < L.length) (hpn : x.pa ≠ ByteArray.empty) (hgg : (f2 L x.pa).getD 0 = gg) : Rec w wA B r (L ++ [x]) v b1 b2 := by
  refine ⟨_, hM.done (Nat.le_refl _) (Nat.le_refl _) (fun s => f1_snoc hnew s) (fun s => ?_), ?_, rec_new hf⟩
  · rw [f2_snoc hpn, hgg]
  · refine (((hG.trans (Cng.of_below (S := CS r v b1 b2) hb) fun k _ g => g).trans (Cng.of_grown (S := CS r v b1 b2) hg fun k hk => ?_) fun k _ g => g).trans (Cng.of_below (S := CS r v b1 b2) hb2) fun k _ g => g).trans (Cng.of_grown (S := CS r v b1 b2) hg2 fun k hk => ?_) fun k _ g => g
    · cases hk; exact .inr (.inl rfl)
    · cases hk; exact .inr (.inr (.inl rfl))
theorem rec_root (hM : MReg w8 B r (L ++ [x]) (.slice (some ⟨g', 0, none⟩) n cap) b1 b2 (L.length + 1) (fun t => if t = x.it then some (L.length : Int) else f1 L t) L.length (f2 L) g x)
    (hG : Cng w w6 (CS r v b1 b2)) (hb : Below w6.heap.size w6 w7) (hg : w7.grownBy w8 (some b1)) (hf : (Value.slice (some ⟨g', 0, none⟩) n cap).ownBlock = v.ownBlock ∨ w.heap.size ≤ g')
    (hnew : ¬ Cu.ix x.it L < L.length) (hpn : x.pa = ByteArray.empty) : Rec w w8 B r (L ++ [x]) v b1 b2 := by
  refine ⟨_, hM.done (Nat.le_refl _) (Nat.le_succ _) (fun s => f1_snoc hnew s) (fun s => f2_same hpn s), ?_, rec_new hf⟩
  refine (hG.trans (Cng.of_below (S := CS r v b1 b2) hb) fun k _ g => g).trans (Cng.of_grown (S := CS r v b1 b2) hg fun k hk => ?_) fun k _ g => g
  cases hk; exact .inr (.inl rfl)
end
set_option maxRecDepth 100000 in
set_option maxHeartbeats 16000000 in
theorem record_t {B r : Nat} {L : Ls} {A : Option Addr} {c : Nat} {b1 b2 : Nat} (it pa : ByteArray) (ti vo : Int) (sp : ByteArray) (ha : Int) (i1 : (it.size : Int) ≤ 1000) (i2 : (pa.size : Int) ≤ 1000) (w : World) (HC : Hid (CReg w B r L (.slice A L.length c) b1 b2)) (hl : (L.length : Int) ≤ 2000)
    (hnew : Hid (¬ Cu.ix it L < L.length)) (q1 : (pa.toList == []) = false) (HPN : Hid (pa ≠ ByteArray.empty)) {gg : Int} (HGG : Hid ((f2 L pa).getD 0 = gg)) (g0 : 0 ≤ gg) (g1 : gg ≤ 1125899906842624) (v0 : 0 ≤ vo) (v1 : vo ≤ 1125899906842624) :
    Calls Tryd.prog 44 #[.pointer (some ⟨r, 0, none⟩), .agg #[.string it, .string pa, .int .i64 ti, .int .i64 vo, .string sp, .int .u64 ha]] w fun e w' => e = .returned (.tuple #[]) ∧ Rec w w' B r (L ++ [⟨it, pa, ti, vo, sp, ha⟩]) (.slice A L.length c) b1 b2 := by
  have him : it.size ≤ maxLen := by unfold maxLen; omega
  have hpm : pa.size ≤ maxLen := by unfold maxLen; omega
  have HWF : Hid ((Lit.int .i64 (L.length : Int)).wf = true) := by show _ = _; exact wf_i64 (by omega) (by omega)
  have HWG : Hid ((Lit.int .i64 (gg + vo)).wf = true) := by show _ = _; exact wf_i64 (by omega) (by omega)
  have hal : Below w.heap.size w (w.alloc (.cells #[.string it, .string pa, .int .i64 ti, .int .i64 vo, .string sp, .int .u64 ha] 36)) := (Below.refl _ _).alloc (Nat.le_refl _) _
  have HX1 : Hid (LBox (w.alloc (.cells #[.string it, .string pa, .int .i64 ti, .int .i64 vo, .string sp, .int .u64 ha] 36)) w.heap.size ⟨it, pa, ti, vo, sp, ha⟩) := Blk.new _ _ _
  have HC1 := Lib.hid (HC.out.below hal)
  have HB1 := Lib.hid hal
  clear hal
  have hrlt0 := HC.out.blk.lt
  have HRV := Lib.hid (row_blk HC.out.row HC.out.blk (by decide))
  have HLOW := Lib.hid (Nat.le_trans HC.out.low (Nat.le_of_lt hrlt0))
  have HN1 : Hid (L.length + 1 ≤ maxLen) := by show _ ≤ _; unfold maxLen; omega
  have HN2 : Hid ((L.length + 1) * 72 ≤ 140737488355328) := by show _ ≤ _; omega
  go_enter Tryd.func44, Tryd.ntmps44
  generalize hw1 : w.alloc (.cells #[.string it, .string pa, .int .i64 ti, .int .i64 vo, .string sp, .int .u64 ha] 36) = w1 at *
  obtain ⟨z0, z1, z2, z3, z4, z5⟩ := HX1.out.cells
  simp only at z0 z1 z2 z3 z4 z5
  have k0 := HC1.out.c0
  have f0 := HC1.out.blk.frozen 0
  have hrlt := HC1.out.blk.lt
  have hw1s : w.heap.size < w1.heap.size := Blk.lt HX1.out
  go_wp2_with fail
  go_region_law ((refine step_lies_c rfl (.tmp 14) (.tmp 16) 33 rfl B 36 _ 6 72 Tryd.underlying33 infoLk rfl (by decide) (.slice A L.length c) L.length (lrowL L) (by rfl) (row_below HC1.out.row (((Below.refl _ _).alloc (Nat.le_refl _) _).drew)) ⟨w1.heap.size, 0, none⟩ 1 1 (lcells ⟨it, pa, ti, vo, sp, ha⟩) (by rfl) rfl (World.news_of_block (Blk.new _ _ _)) (lcells_one _) (by decide) HN1.out HN2.out (Nat.le_trans HLOW.out (by simp; omega)) ?_); intro g' cap' w5 hown hgrow hgv; (have k5 := hgrow.cell (a := ⟨r, 0, none⟩) (World.cell?_of_block (a := ⟨r, 0, none⟩) (Below.heap_alloc w1 _ r hrlt) |>.trans k0) HRV.out); (have f5 := (World.frozen?_of_block (a := ⟨r, 0, none⟩) (hgrow.block r (by simp; omega) HRV.out)).trans ((World.frozen?_of_block (a := ⟨r, 0, none⟩) (Below.heap_alloc w1 _ r hrlt)).trans f0)))
  all_goals obtain ⟨hM, hG, hF⟩ := CReg.mid (x := ⟨it, pa, ti, vo, sp, ha⟩) HC.out ((HB1.out.alloc (Nat.le_of_lt hw1s) _).drew) (HX1.out.below (((Below.refl _ _).alloc (Nat.le_refl _) _).drew)) hgrow hown hgv
  all_goals (clear hown hgrow hgv k5 f5 k0 f0 z0 z1 z2 z3 z4 z5 HC1 HX1 HB1 hw1s hrlt hrlt0)
  all_goals (generalize w5.setCell ⟨r, 0, none⟩ (Value.slice (some ⟨g', 0, none⟩) (L.length + 1) cap') = w6 at hM hG ⊢)
  all_goals (have HM := Lib.hid hM; have HG := Lib.hid hG; have HF := Lib.hid hF; clear hM hG hF)
  all_goals
    have k1 : ∀ u, (wx w6 u).cell? ⟨r, 1, none⟩ = some (.map (some b1)) := fun u => ((HM.out.below (wx_below w6 u)).blk).cell 1
    have z0 : ∀ u, (wx w6 u).cell? ⟨w.heap.size, 0, none⟩ = some (.string it) := fun u => (HM.out.below (wx_below w6 u)).box.cells.1
    go_wp2_with fail
    refine wp_region_grows_tail 7 (by kernel_rfl) (by kernel_rfl) ?_
    simp only [List.take_succ_cons, List.take_zero, List.drop_succ_cons, List.drop_zero]
    repeat (go_big_quiet_step (fail))
    refine wpQuiet_nil ?_
    rintro _ ⟨u, rfl⟩
    have HM1 := Lib.hid (HM.out.below (wx_below w6 u))
    have HB1 := Lib.hid (wx_below w6 u)
    clear k1 z0
    generalize wx w6 u = w7 at *
    refine wpList_put HM1.out.m1 rfl (.tmp 23) (.tmp 25) (.tmp 26) rfl (by rfl) HN1.out it him L.length HWF.out (by rfl) (by rfl) ?_
    intro w8 hm8 hg8
    have HM2 := Lib.hid (HM1.out.put1 hm8 hg8)
    have HG2 := Lib.hid hg8
    clear hm8 hg8
    have z1 : w8.cell? ⟨w.heap.size, 1, none⟩ = some (.string pa) := HM2.out.box.cells.2.1
    go_wp2_with fail
  all_goals
    have k2 : ∀ u, (wx w8 u).cell? ⟨r, 2, none⟩ = some (.map (some b2)) := fun u => ((HM2.out.below (wx_below w8 u)).blk).cell 2
    have y1 : ∀ u, (wx w8 u).cell? ⟨w.heap.size, 1, none⟩ = some (.string pa) := fun u => (HM2.out.below (wx_below w8 u)).box.cells.2.1
    have y3 : ∀ u, (wx w8 u).cell? ⟨w.heap.size, 3, none⟩ = some (.int .i64 vo) := fun u => (HM2.out.below (wx_below w8 u)).box.cells.2.2.2.1
    have hlk : ∀ u, (Instr.lookup 80 (.map (some b2)) (.string pa) false).run Tryd.prog (wx w8 u) = .ok (.int .i64 gg) (wx w8 u) := fun u => by
      have := (HM2.out.below (wx_below w8 u)).m2.get pa hpm
      rw [HGG.out] at this
      exact this
    refine wp_region_grows_tail 10 (by kernel_rfl) (by kernel_rfl) ?_
    simp only [List.take_succ_cons, List.take_zero, List.drop_succ_cons, List.drop_zero]
    repeat (go_big_quiet_step (fail))
    refine wpQuiet_nil ?_
    rintro _ ⟨u2, rfl⟩
    have HM3 := Lib.hid (HM2.out.below (wx_below w8 u2))
    have HB2 := Lib.hid (wx_below w8 u2)
    clear k2 y1 y3 hlk z1
    generalize wx w8 u2 = w9 at *
    refine wpList_put HM3.out.m2 rfl (.tmp 33) (.tmp 35) (.tmp 39) rfl (by rfl) HN1.out pa hpm (gg + vo) HWG.out (by rfl) (by rfl) ?_
    intro wA hmA hgA
    have HM4 := Lib.hid (HM3.out.put2 hmA hgA)
    have HG4 := Lib.hid hgA
    clear hmA hgA
    go_wp2_with fail
    (try simp only [Exit.inBlock, Exit.then])
    exact bodyPost_end (results_none rfl _ _ _) rfl ⟨rfl, rec_some (x := ⟨it, pa, ti, vo, sp, ha⟩) HM4.out HG.out HB1.out HG2.out HB2.out HG4.out HF.out hnew.out HPN.out HGG.out⟩
set_option maxRecDepth 100000 in
set_option maxHeartbeats 16000000 in
theorem record_r {B r : Nat} {L : Ls} {A : Option Addr} {c : Nat} {b1 b2 : Nat} (it : ByteArray) (ti vo : Int) (sp : ByteArray) (ha : Int) (i1 : (it.size : Int) ≤ 1000) (w : World) (HC : Hid (CReg w B r L (.slice A L.length c) b1 b2)) (hl : (L.length : Int) ≤ 2000)
    (hnew : Hid (¬ Cu.ix it L < L.length)) :
    Calls Tryd.prog 44 #[.pointer (some ⟨r, 0, none⟩), .agg #[.string it, .string ByteArray.empty, .int .i64 ti, .int .i64 vo, .string sp, .int .u64 ha]] w fun e w' => e = .returned (.tuple #[]) ∧ Rec w w' B r (L ++ [⟨it, ByteArray.empty, ti, vo, sp, ha⟩]) (.slice A L.length c) b1 b2 := by
  have him : it.size ≤ maxLen := by unfold maxLen; omega
  have HWF : Hid ((Lit.int .i64 (L.length : Int)).wf = true) := by show _ = _; exact wf_i64 (by omega) (by omega)
  have hal : Below w.heap.size w (w.alloc (.cells #[.string it, .string ByteArray.empty, .int .i64 ti, .int .i64 vo, .string sp, .int .u64 ha] 36)) := (Below.refl _ _).alloc (Nat.le_refl _) _
  have HX1 : Hid (LBox (w.alloc (.cells #[.string it, .string ByteArray.empty, .int .i64 ti, .int .i64 vo, .string sp, .int .u64 ha] 36)) w.heap.size ⟨it, ByteArray.empty, ti, vo, sp, ha⟩) := Blk.new _ _ _
  have HC1 := Lib.hid (HC.out.below hal)
  have HB1 := Lib.hid hal
  clear hal
  have hrlt0 := HC.out.blk.lt
  have HRV := Lib.hid (row_blk HC.out.row HC.out.blk (by decide))
  have HLOW := Lib.hid (Nat.le_trans HC.out.low (Nat.le_of_lt hrlt0))
  have HN1 : Hid (L.length + 1 ≤ maxLen) := by show _ ≤ _; unfold maxLen; omega
  have HN2 : Hid ((L.length + 1) * 72 ≤ 140737488355328) := by show _ ≤ _; omega
  go_enter Tryd.func44, Tryd.ntmps44
  generalize hw1 : w.alloc (.cells #[.string it, .string ByteArray.empty, .int .i64 ti, .int .i64 vo, .string sp, .int .u64 ha] 36) = w1 at *
  obtain ⟨z0, z1, z2, z3, z4, z5⟩ := HX1.out.cells
  simp only at z0 z1 z2 z3 z4 z5
  have k0 := HC1.out.c0
  have f0 := HC1.out.blk.frozen 0
  have hrlt := HC1.out.blk.lt
  have hw1s : w.heap.size < w1.heap.size := Blk.lt HX1.out
  go_wp2_with fail
  go_region_law ((refine step_lies_c rfl (.tmp 14) (.tmp 16) 33 rfl B 36 _ 6 72 Tryd.underlying33 infoLk rfl (by decide) (.slice A L.length c) L.length (lrowL L) (by rfl) (row_below HC1.out.row (((Below.refl _ _).alloc (Nat.le_refl _) _).drew)) ⟨w1.heap.size, 0, none⟩ 1 1 (lcells ⟨it, ByteArray.empty, ti, vo, sp, ha⟩) (by rfl) rfl (World.news_of_block (Blk.new _ _ _)) (lcells_one _) (by decide) HN1.out HN2.out (Nat.le_trans HLOW.out (by simp; omega)) ?_); intro g' cap' w5 hown hgrow hgv; (have k5 := hgrow.cell (a := ⟨r, 0, none⟩) (World.cell?_of_block (a := ⟨r, 0, none⟩) (Below.heap_alloc w1 _ r hrlt) |>.trans k0) HRV.out); (have f5 := (World.frozen?_of_block (a := ⟨r, 0, none⟩) (hgrow.block r (by simp; omega) HRV.out)).trans ((World.frozen?_of_block (a := ⟨r, 0, none⟩) (Below.heap_alloc w1 _ r hrlt)).trans f0)))
  all_goals obtain ⟨hM, hG, hF⟩ := CReg.mid (x := ⟨it, ByteArray.empty, ti, vo, sp, ha⟩) HC.out ((HB1.out.alloc (Nat.le_of_lt hw1s) _).drew) (HX1.out.below (((Below.refl _ _).alloc (Nat.le_refl _) _).drew)) hgrow hown hgv
  all_goals (clear hown hgrow hgv k5 f5 k0 f0 z0 z1 z2 z3 z4 z5 HC1 HX1 HB1 hw1s hrlt hrlt0)
  all_goals (generalize w5.setCell ⟨r, 0, none⟩ (Value.slice (some ⟨g', 0, none⟩) (L.length + 1) cap') = w6 at hM hG ⊢)
  all_goals (have HM := Lib.hid hM; have HG := Lib.hid hG; have HF := Lib.hid hF; clear hM hG hF)
  all_goals
    have k1 : ∀ u, (wx w6 u).cell? ⟨r, 1, none⟩ = some (.map (some b1)) := fun u => ((HM.out.below (wx_below w6 u)).blk).cell 1
    have z0 : ∀ u, (wx w6 u).cell? ⟨w.heap.size, 0, none⟩ = some (.string it) := fun u => (HM.out.below (wx_below w6 u)).box.cells.1
    go_wp2_with fail
    refine wp_region_grows_tail 7 (by kernel_rfl) (by kernel_rfl) ?_
    simp only [List.take_succ_cons, List.take_zero, List.drop_succ_cons, List.drop_zero]
    repeat (go_big_quiet_step (fail))
    refine wpQuiet_nil ?_
    rintro _ ⟨u, rfl⟩
    have HM1 := Lib.hid (HM.out.below (wx_below w6 u))
    have HB1 := Lib.hid (wx_below w6 u)
    clear k1 z0
    generalize wx w6 u = w7 at *
    refine wpList_put HM1.out.m1 rfl (.tmp 23) (.tmp 25) (.tmp 26) rfl (by rfl) HN1.out it him L.length HWF.out (by rfl) (by rfl) ?_
    intro w8 hm8 hg8
    have HM2 := Lib.hid (HM1.out.put1 hm8 hg8)
    have HG2 := Lib.hid hg8
    clear hm8 hg8
    have z1 : w8.cell? ⟨w.heap.size, 1, none⟩ = some (.string ByteArray.empty) := HM2.out.box.cells.2.1
    go_wp2_with fail
  all_goals
    (try simp only [Exit.inBlock, Exit.then])
    exact bodyPost_end (results_none rfl _ _ _) rfl ⟨rfl, rec_root (x := ⟨it, ByteArray.empty, ti, vo, sp, ha⟩) HM2.out HG.out HB1.out HG2.out HF.out hnew.out rfl⟩
theorem record_any {B r : Nat} {L : Ls} {v : Value} {b1 b2 : Nat} (it pa : ByteArray) (ti vo : Int) (sp : ByteArray) (ha : Int) (hf : Fit_ ⟨it, pa, ti, vo, sp, ha⟩) (w : World) (HC : Hid (CReg w B r L v b1 b2)) (hm : Cu.Mild L) (hc : Cu.Can L ⟨it, pa, ti, vo, sp, ha⟩) :
    Calls Tryd.prog 44 #[.pointer (some ⟨r, 0, none⟩), .agg #[.string it, .string pa, .int .i64 ti, .int .i64 vo, .string sp, .int .u64 ha]] w fun e w' => e = .returned (.tuple #[]) ∧ Rec w w' B r (L ++ [⟨it, pa, ti, vo, sp, ha⟩]) v b1 b2 := by
  obtain ⟨A, c, hv⟩ := row_form HC.out.row
  subst hv
  by_cases hpa : pa = ByteArray.empty
  · subst hpa
    exact record_r it ti vo sp ha hf.1 w HC hm.len (Lib.hid hc.new)
  · have hg := hm.gv pa hpa
    exact record_t it pa ti vo sp ha hf.1 hf.2 w HC hm.len (Lib.hid hc.new) (pa_some hpa).1 (Lib.hid hpa) (Lib.hid (f2_get hpa)) hg.1 hg.2 hc.vo.1 hc.vo.2
end Go.Proofs.YtpimmdmcmccbpaaDoor
