/- The reference of custody: Add, the walk. -/
import Derived.Test.YtpimmdmcmccbpaaDoorER
namespace Go.Proofs.YtpimmdmcmccbpaaDoor
open Go.RowKit
set_option linter.unusedVariables false
open Cu (Lk Ls)
/-- Links as a slice that the reference holds. -/
def LRow (w : World) (v : Value) (L : Ls) : Prop := w.ownsRow 0 36 6 v L.length (lrowL L)
theorem LRow.below {w w' : World} {v : Value} {L : Ls} (h : LRow w v L) (hb : Below w.heap.size w w') : LRow w' v L := row_below h hb
theorem LRow.form {w : World} {v : Value} {L : Ls} (h : LRow w v L) : ∃ A c, v = .slice A L.length c := row_form h
theorem LRow.slr {w : World} {A : Option Addr} {c : Nat} {L : Ls} (h : LRow w (.slice A L.length c) L) : SlR w A (lrowL L) := row_slr h A c rfl
theorem rcan_eq (L : Ls) (A : Option Addr) (c : Nat) (it pa : ByteArray) (ti vo : Int) (sp : ByteArray) (ha : Int) (hf : Hid (Fit_ ⟨it, pa, ti, vo, sp, ha⟩)) (E : Int) (HE : Hid (Cu.chE L ⟨it, pa, ti, vo, sp, ha⟩ = E)) (w : World) (HS : Hid (SlR w A (lrowL L))) (HG : Hid (Cu.Good L)) :
    Calls Tryd.prog 52 #[.slice A L.length c, .agg #[.string it, .string pa, .int .i64 ti, .int .i64 vo, .string sp, .int .u64 ha]] w fun e w' => e = .returned (.int .i64 E) ∧ Below w.heap.size w w' := by
  have := rcan_any L A c it pa ti vo sp ha hf.out w HS HG
  rw [HE.out] at this
  exact this
set_option maxRecDepth 100000 in
set_option maxHeartbeats 16000000 in
theorem radd_any (L : Ls) (v : Value) (it pa sp : ByteArray) (ti vo : Int) (hf : Hid (Fit_ ⟨it, pa, ti, vo, sp, 0⟩)) (w : World) (HR : Hid (LRow w v L)) (HG : Hid (Cu.Good L)) (H E : Int) (HH : Hid (Cu.adH L ⟨it, pa, ti, vo, sp, 0⟩ = H)) (HE : Hid (Cu.chE L ⟨it, pa, ti, vo, sp, 0⟩ = E)) :
    Calls Tryd.prog 30 #[v, .string it, .string pa, .string sp, .int .i64 ti, .int .i64 vo] w fun e w' => ∃ v', e = .returned (.tuple #[v', .int .u64 H, .int .i64 E]) ∧ LRow w' v' (Cu.adL L ⟨it, pa, ti, vo, sp, 0⟩) ∧ Below w.heap.size w w' ∧ (v' = v ∨ ∀ k, v'.ownBlock = some k → w.heap.size ≤ k) := by
  obtain ⟨A, c, hv⟩ := HR.out.form
  subst hv
  have hl := HG.out.mild.len
  have HK0 := Lib.hid (RcW.new HR.out.slr ⟨it, pa, ti, vo, sp, 0⟩)
  by_cases hz : E = 0
  · subst hz
    have HL := Lib.hid (Cu.adL_ok HE.out)
    have HH2 := Lib.hid ((Cu.adH_ok HE.out).symm.trans HH.out)
    go_enter Tryd.func30, Tryd.ntmps30
    go_wp2_with fail
    (with_reducible refine (rcan_eq L A c it pa ti vo sp 0 hf 0 HE _ (Lib.hid HK0.out.s) HG).mono ?_)
    rintro e w1 ⟨rfl, hb⟩
    have HK1 := Lib.hid (HK0.out.below hb)
    clear hb HK0
    obtain ⟨z0, z1, z2, z3, z4, z5⟩ := HK1.out.b.cells
    simp only at z0 z1 z2 z3 z4 z5
    go_wp2_with fail
    (with_reducible refine (rafter_any L A c it pa ti vo sp 0 hf _ (Lib.hid HK1.out.s) HG H HH2).mono ?_)
    rintro e w2 ⟨rfl, hb⟩
    have HK2 := Lib.hid (HK1.out.below hb)
    clear hb HK1 z0 z1 z2 z3 z4 z5
    obtain ⟨z0, z1, z2, z3, z4, z5⟩ := HK2.out.b.cells
    simp only at z0 z1 z2 z3 z4 z5
    have f5 := Blk.frozen HK2.out.b 5
    go_wp2_with fail
    clear z0 z1 z2 z3 z4 z5 f5
    have HX3 : Hid (LBox (w2.setCell ⟨w.heap.size, 5, none⟩ (.int .u64 H)) w.heap.size ⟨it, pa, ti, vo, sp, H⟩) := by
      have := Blk.set_ HK2.out.b 5 (.int .u64 H)
      show LBox _ _ _
      simpa [LBox] using this
    have hs := set_grown w2 w.heap.size 5 (.int .u64 H)
    have HB3 : Hid (Below w.heap.size w (w2.setCell ⟨w.heap.size, 5, none⟩ (.int .u64 H))) := HK2.out.bel.grown hs HK2.out.bel.size (fun k hk => by cases hk; exact Nat.le_refl _)
    have HR3 := Lib.hid (HR.out.below HB3.out)
    clear hs HK2
    generalize w2.setCell ⟨w.heap.size, 5, none⟩ (.int .u64 H) = w3 at *
    have hm1 : 0 + L.length ≤ maxLen := by unfold maxLen; omega
    have hm2 : L.length + 1 ≤ maxLen := by unfold maxLen; omega
    have hm3 : (0 + L.length) * 72 ≤ 140737488355328 := by omega
    have hm4 : (L.length + 1) * 72 ≤ 140737488355328 := by omega
    refine wp_region_fr (G := RaG) (by kernel_rfl) (by kernel_rfl) raD (by kernel_rfl) (raV (.slice A L.length c) w.heap.size ⟨it, pa, ti, vo, sp, H⟩) (RaW w3 L ⟨it, pa, ti, vo, sp, H⟩) ⟨0, .slice none 0 0, 0, .slice none 0 0⟩ ⟨(Below.refl _ _).drew, fun h => (by cases h), fun h => (by cases h), fun h => (by cases h), fun h => (by cases h), fun h => (by cases h), fun h => (by cases h), fun h => (by cases h), fun h => (by cases h), fun h => (by cases h)⟩ ?_ ?_
    · intro i o l a' w' G ho hLi hpre hF hW
      have put := fun (d i : Nat) (u : Value) (hd : raD.lookup d = some i) (hin : d < 42) (hu : raV (.slice A L.length c) w.heap.size ⟨it, pa, ti, vo, sp, H⟩ G i = u) => hF.put (V' := raV (.slice A L.length c) w.heap.size ⟨it, pa, ti, vo, sp, H⟩ G) hd (fun e he => lookup_inj (D := raD) (by decide) hd he) hin (fun _ _ _ => rfl) hu
      have hx := LBox.below HX3.out hW.bel
      obtain ⟨z0, z1, z2, z3, z4, z5⟩ := hx.cells
      simp only at z0 z1 z2 z3 z4 z5
      match i, ho, hLi, hpre with
      | 0, ho, hLi, hpre =>
        obtain rfl := Option.some.inj ho; clear ho
        refine wpOp_want rfl rfl ?_
        simp [go_sem]
        exact ⟨⟨w'.heap.size, G.va, G.b1, G.vb⟩, hF.put (V' := raV (.slice A L.length c) w.heap.size ⟨it, pa, ti, vo, sp, H⟩ ⟨w'.heap.size, G.va, G.b1, G.vb⟩) (d := 34) (i := 0) rfl (fun e he => lookup_inj (D := raD) (by decide) rfl he) (show 34 < 42 by decide) (fun j hj _ => raV_0 hj) rfl, raw_0 hW hLi⟩
      | 1, ho, hLi, hpre =>
        obtain rfl := Option.some.inj ho; clear ho
        refine wpOp_want rfl rfl ?_
        simp [go_sem, tm (show a'.eval (.tmp 0) = .slice A L.length c from hF.old rfl)]
        exact ⟨G, put 35 1 _ rfl (by decide) rfl, hW.next 1 (by decide) (by intro h; cases h)⟩
      | 2, ho, hLi, hpre =>
        obtain rfl := Option.some.inj ho; clear ho
        have h0 := hpre ⟨0, .data⟩ (by simp) rfl
        have e1 : a'.eval (.tmp 34) = .slice (some ⟨G.b0, 0, none⟩) 0 0 := hF.get rfl h0
        have e2 : a'.eval (.tmp 35) = .slice A L.length c := hF.get rfl (hpre ⟨1, .data⟩ (by simp) rfl)
        refine wpOp_want rfl rfl ?_
        refine wp_append_row (.tmp 34) (.tmp 35) 33 rfl w3.heap.size 36 _ 6 72 Tryd.underlying33 infoLk rfl (by decide) _ 0 [] e1 (hW.o0 h0 hLi) _ L.length 0 (lrowL L) e2 (LRow.below HR3.out hW.bel) (lrowL_one L) hm1 hm3 hW.bel.size ?_
        intro v' w'' hown hgrow
        exact ⟨⟨G.b0, v', G.b1, G.vb⟩, hF.put (V' := raV (.slice A L.length c) w.heap.size ⟨it, pa, ti, vo, sp, H⟩ ⟨G.b0, v', G.b1, G.vb⟩) (d := 36) (i := 2) rfl (fun e he => lookup_inj (D := raD) (by decide) rfl he) (show 36 < 42 by decide) (fun j hj _ => raV_2 hj) rfl, raw_2 hW h0 hLi (by simpa using hown) hgrow⟩
      | 3, ho, hLi, hpre =>
        obtain rfl := Option.some.inj ho; clear ho
        refine wpOp_want rfl rfl ?_
        simp [go_sem, tm (show a'.eval (.tmp 15) = .pointer (some ⟨w.heap.size, 0, none⟩) from hF.old rfl), z0, z1, z2, z3, z4, z5]
        exact ⟨G, put 37 3 _ rfl (by decide) rfl, hW.next 3 (by decide) (by intro h; cases h)⟩
      | 4, ho, hLi, hpre =>
        obtain rfl := Option.some.inj ho; clear ho
        have e1 := tm <| show a'.eval (.tmp 37) = .agg #[.string it, .string pa, .int .i64 ti, .int .i64 vo, .string sp, .int .u64 H] from hF.get rfl (hpre ⟨3, .data⟩ (by simp) rfl)
        refine wpOp_want rfl rfl ?_
        simp [go_sem, e1]
        exact ⟨⟨G.b0, G.va, w'.heap.size, G.vb⟩, hF.put (V' := raV (.slice A L.length c) w.heap.size ⟨it, pa, ti, vo, sp, H⟩ ⟨G.b0, G.va, w'.heap.size, G.vb⟩) (d := 38) (i := 4) rfl (fun e he => lookup_inj (D := raD) (by decide) rfl he) (show 38 < 42 by decide) (fun j hj _ => raV_4 hj) rfl, raw_4 hW hLi⟩
      | 5, ho, hLi, hpre =>
        obtain rfl := Option.some.inj ho; clear ho
        have h2 := hpre ⟨2, .data⟩ (by simp) rfl
        have h4 := hpre ⟨4, .data⟩ (by simp) rfl
        have e1 : a'.eval (.tmp 36) = G.va := hF.get rfl h2
        have e2 : a'.eval (.tmp 38) = .slice (some ⟨G.b1, 0, none⟩) 1 1 := hF.get rfl h4
        obtain ⟨i0, hi, hz0, hz1, hz2⟩ := info_parts infoLk
        refine wpOp_want rfl rfl ?_
        refine wp_append_own w' (.tmp 36) (.tmp 38) 33 rfl w3.heap.size 36 i0 _ 6 72 Tryd.underlying33 hi hz0 hz1 hz2 rfl (by decide) G.va L.length (lrowL L) e1 (hW.o2 h2 hLi) ⟨G.b1, 0, none⟩ 1 1 (lcells ⟨it, pa, ti, vo, sp, H⟩) e2 rfl (World.news_of_block (hW.o4 h4 hLi)) (lcells_one _) hm2 hm4 hW.bel.size ?_
        intro v' w'' hown hgrow _
        exact ⟨⟨G.b0, G.va, G.b1, v'⟩, hF.put (V' := raV (.slice A L.length c) w.heap.size ⟨it, pa, ti, vo, sp, H⟩ ⟨G.b0, G.va, G.b1, v'⟩) (d := 39) (i := 5) rfl (fun e he => lookup_inj (D := raD) (by decide) rfl he) (show 39 < 42 by decide) (fun j hj hl => raV_5 hj (by rintro rfl; rw [raw_no8 hW hLi] at hl; cases hl)) rfl, raw_5 hW hLi h2 h4 hown hgrow⟩
      | 6, ho, hLi, hpre =>
        obtain rfl := Option.some.inj ho; clear ho
        refine wpOp_want rfl rfl ?_
        simp [go_sem, tm (show a'.eval (.tmp 15) = .pointer (some ⟨w.heap.size, 0, none⟩) from hF.old rfl)]
        exact ⟨G, put 40 6 _ rfl (by decide) rfl, hW.next 6 (by decide) (by intro h; cases h)⟩
      | 7, ho, hLi, hpre =>
        obtain rfl := Option.some.inj ho; clear ho
        refine wpOp_want rfl rfl ?_
        simp [go_sem, tm (show a'.eval (.tmp 40) = .pointer (some ⟨w.heap.size, 5, none⟩) from hF.get rfl (hpre ⟨6, .data⟩ (by simp) rfl)), z5]
        exact ⟨G, put 41 7 _ rfl (by decide) rfl, hW.next 7 (by decide) (by intro h; cases h)⟩
      | 8, ho, hLi, hpre =>
        obtain rfl := Option.some.inj ho; clear ho
        refine wpOp_want rfl rfl ?_
        simp [go_sem, tm (show a'.eval (.tmp 39) = G.vb from hF.get rfl (hpre ⟨5, .data⟩ (by simp) rfl))]
        exact ⟨G, put 12 8 _ rfl (by decide) rfl, hW.next 8 (by decide) (by intro _; exact hpre ⟨5, .data⟩ (by simp) rfl)⟩
      | 9, ho, hLi, hpre =>
        obtain rfl := Option.some.inj ho; clear ho
        refine wpOp_want rfl rfl ?_
        simp [go_sem, tm (show a'.eval (.tmp 41) = .int .u64 H from hF.get rfl (hpre ⟨7, .data⟩ (by simp) rfl))]
        exact ⟨G, put 13 9 _ rfl (by decide) rfl, hW.next 9 (by decide) (by intro h; cases h)⟩
      | 10, ho, hLi, hpre =>
        obtain rfl := Option.some.inj ho; clear ho
        refine wpOp_want rfl rfl ?_
        simp [go_sem]
        exact ⟨G, put 14 10 _ rfl (by decide) rfl, hW.next 10 (by decide) (by intro h; cases h)⟩
      | i + 11, ho, hLi, hpre => exact absurd ho (by simp)
    · intro l G w' hall hW
      have HO : Hid (w'.ownsRow w3.heap.size 36 6 G.vb (L.length + 1) (lrowL L ++ lcells ⟨it, pa, ti, vo, sp, H⟩)) := hW.o5 (hall 5 (by decide))
      have HB := Lib.hid (below_old HB3.out hW.bel)
      clear hW hall hm1 hm2 hm3 hm4
      simp only [raD, List.foldl, raV, Act.put]
      generalize G.vb = vb at *
      simp only [List.setIfInBounds_toArray, List.set_cons_succ, List.set_cons_zero]
      go_wp2_with fail
      (try simp only [Exit.inBlock, Exit.then])
      refine bodyPost_ret (results_tmp3 rfl _ _ _) rfl ⟨vb, rfl, ?_, HB.out, .inr fun k hk => Nat.le_trans HB3.out.size (HO.out.lt k hk).1⟩
      rw [HL.out, HH2.out]
      unfold LRow
      rw [lrowL_snoc, List.length_append]
      exact ownsRow_base HO.out (Nat.zero_le _)
  · have HL := Lib.hid (Cu.adL_no (by rw [HE.out]; exact hz))
    have HH2 := Lib.hid ((Cu.adH_no (by rw [HE.out]; exact hz)).symm.trans HH.out)
    have hz2 : (E == 0) = false := by simpa using hz
    have hH : H = 0 := HH2.out.symm
    subst hH
    go_enter Tryd.func30, Tryd.ntmps30
    go_wp2_with fail
    (with_reducible refine (rcan_eq L A c it pa ti vo sp 0 hf E HE _ (Lib.hid HK0.out.s) HG).mono ?_)
    rintro e w1 ⟨rfl, hb⟩
    have HK1 := Lib.hid (HK0.out.below hb)
    clear hb HK0
    go_wp2_with fail
    (try simp only [Exit.inBlock, Exit.then])
    refine bodyPost_ret (results_tmp3 rfl _ _ _) rfl ⟨_, rfl, ?_, HK1.out.bel, .inl rfl⟩
    rw [HL.out]
    exact HR.out.below HK1.out.bel
end Go.Proofs.YtpimmdmcmccbpaaDoor
