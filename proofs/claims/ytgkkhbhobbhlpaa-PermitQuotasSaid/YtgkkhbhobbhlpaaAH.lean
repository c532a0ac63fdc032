/- PermitQuotas: the walk. -/
import Derived.Test.YtgkkhbhobbhlpaaAG
namespace Go.Proofs.Ytgkkhbhobbhlpaa
open Go.RowKit
set_option linter.unusedVariables false
theorem Pt.used_left {R : Pt.Rg} (hO : Pt.Ok R) {id : ByteArray} {v : Int} (h0 : Pt.usE R id v = 0) : ∃ (k : Nat) (e : Pt.Pm × Int) (hk : k < R.length), R[k] = e ∧ Pt.ix id R = k ∧ e.1.id = id ∧ Pt.usR R id v = R.set k (e.1, e.2 + v) ∧ (0 ≤ e.1.qu - e.2 ∧ e.1.qu - e.2 ≤ 1125899906842624) ∧ (1 ≤ v ∧ v ≤ e.1.qu - e.2) := by
  have h1 : Pt.ix id R < R.length := by
    by_cases g : Pt.ix id R < R.length
    · exact g
    · rw [Pt.usE_none g] at h0; omega
  obtain ⟨k, e, hk, he, hix, hat, hfn, hid, q0, q1, q2, q3⟩ := Pt.found hO h1
  have h2 : 1 ≤ v ∧ v ≤ 1125899906842624 := by
    by_cases g : 1 ≤ v ∧ v ≤ 1125899906842624
    · exact g
    · rw [Pt.usE_range h1 g] at h0; omega
  have h3 : v ≤ e.1.qu - e.2 := by
    by_cases g : v ≤ e.1.qu - e.2
    · exact g
    · rw [Pt.usE, hat] at h0; simp only [if_pos h2, if_neg g] at h0; omega
  exact ⟨k, e, hk, he, hix, hid, by rw [Pt.usR, if_pos h0, hat, hix], ⟨by omega, by omega⟩, h2.1, h3⟩

set_option maxRecDepth 100000 in
set_option maxHeartbeats 16000000 in
theorem permitQuotas_walk (A : Option Addr) (c : Nat) (l : List Opr) (w : World) (HS : Hid (SlR w A (orow l))) (hl : (l.length : Int) ≤ 9223372036854775807) (HZ : Hid (Sized l)) :
    Calls Try.prog 4 #[.slice A l.length c] w fun e w' => e = .returned (.bool true) ∧ Below w.heap.size w w' := by
  cases hsh : shortB l with
  | false =>
    have HSH := Lib.hid hsh
    clear hsh
    go_enter Try.func4, Try.ntmps4
    go_wp2_with fail
    (with_reducible refine (short_eq _ _ _ _ HSH _ HS hl HZ).mono ?_)
    rintro e w1 ⟨rfl, hw1⟩
    subst w1
    go_wp2_with fail
    (with_reducible refine (awake_any _).mono ?_)
    rintro e wz ⟨rfl, hb⟩
    have HBZ := Lib.hid (below_old (Below.refl _ _) hb)
    clear hb
    go_wp2_with fail
    go_ret
    exact ⟨rfl, HBZ.out⟩
  | true =>
    have HSH := Lib.hid hsh
    have z60 : (l.length : Int) ≤ 60 := by have := short_len hsh; omega
    clear hsh
    go_enter Try.func4, Try.ntmps4
    go_wp2_with fail
    (with_reducible refine (short_eq _ _ _ _ HSH _ HS hl HZ).mono ?_)
    rintro e w1 ⟨rfl, hw1⟩
    subst w1
    go_wp2_with fail
    (with_reducible refine (new_any _).mono ?_)
    rintro e w1 ⟨rfl, rfl⟩
    have HW0 := Lib.hid (QuW.new w)
    go_wp2_with fail
    go_loopw [4, 5, 6] (fun a b i wr => ∃ (k : Nat), i = .int .i64 k ∧ k ≤ l.length ∧ Hid (QuW w wr (plR (l.take k)) (plR (l.take k)) (plR (l.take k)) a b)) (fun _ _ i _ => l.length - (intOf i).toNat)
    case atStart => exact ⟨0, rfl, by omega, HW0⟩
    case round =>
      clear HW0
      obtain ⟨k, rfl, hk, HW⟩ := hrel
      obtain ⟨va, hva⟩ : ∃ v, u4 = v := ⟨_, rfl⟩
      subst u4
      obtain ⟨vl, hvl⟩ : ∃ v, u5 = v := ⟨_, rfl⟩
      subst u5
      have HO := Lib.hid (plOk (l.take k))
      have hlen := HO.out.len
      by_cases hlt : k < l.length
      · have HS2 := Lib.hid (HS.out.below HW.out.bel)
        obtain ⟨b, off, rfl, hb, c0, c1, c2, c3, c4, c5, c6⟩ := HS2.out.op hlt
        have zk : (k : Int) < (l.length : Int) := by omega
        obtain ⟨z1, z2⟩ := short_at HSH.out hlt
        have hN := pl_next l k hlt
        obtain ⟨o, ho⟩ : ∃ o, l[k] = o := ⟨_, rfl⟩
        rw [ho] at c0 c1 c2 c3 c4 c5 c6 z1 z2 hN
        obtain ⟨R, hR⟩ : ∃ R, plR (l.take k) = R := ⟨_, rfl⟩
        rw [hR] at HW HO hN hlen
        clear hR
        have hbx := (Below.refl wr.heap.size wr).alloc (Nat.le_refl _) (.cells #[.string o.p.id, .string o.p.sp, .int .i64 o.p.fr, .int .i64 o.p.un, .int .i64 o.p.qu] 32)
        have HP : Hid (PBox (wr.alloc (.cells #[.string o.p.id, .string o.p.sp, .int .i64 o.p.fr, .int .i64 o.p.un, .int .i64 o.p.qu] 32)) wr.heap.size o.p) := Blk.new _ _ _
        have HW1 := Lib.hid (HW.out.below hbx)
        have HG := Lib.hid (fun e => Nat.lt_irrefl _ ((HW.out.all.lt wr.heap.size e).2) : ¬ va.ownBlock = some wr.heap.size)
        have HCL : Hid (∀ w', Below w.heap.size w w' → w'.cell? ⟨b, off + k * 7, none⟩ = some (.int .i64 o.k) ∧ w'.cell? ⟨b, off + k * 7 + 6, none⟩ = some (.int .i64 o.n)) := fun w' hb' => by
          obtain ⟨b', off', e', _, x0, _, _, _, _, _, x6⟩ := (HS.out.below hb').op hlt
          cases e'
          rw [ho] at x0 x6
          exact ⟨x0, x6⟩
        clear ho
        obtain ⟨d0, d6⟩ := HCL.out _ HW1.out.bel
        have hbne : b ≠ wr.heap.size := by omega
        by_cases h0 : o.k = 0
        · have hk0 : (o.k == 0) = true := by simpa using h0
          have hk2 : (o.k != 1) = true := by rw [h0]; rfl
          have hN0 : plR (l.take (k + 1)) = Pt.adR R o.p := by rw [hN, stepR, if_pos h0]
          clear hN h0 hbx
          obtain ⟨vp, vu, hr, ap1, ap2⟩ := HW1.out.reg
          have HR := Lib.hid hr
          have HA1 := Lib.hid ap1
          have HA2 := Lib.hid ap2
          clear hr ap1 ap2
          by_cases hE : Pt.adE R o.p = 0
          · have HRR := Lib.hid (Pt.adR_ok hE)
            have HE := Lib.hid hE
            have HN : Hid (plR (l.take (k + 1)) = R ++ [(o.p, 0)]) := hN0.trans HRR.out
            clear hE hN0
            go_wp2_with fail
            (with_reducible refine (add_eq o.p _ HE HRR (by omega) (by omega) _ HR HO).mono ?_)
            rintro e w2 ⟨rfl, ha⟩
            have HW2 := Lib.hid (HW1.out.added HR.out HA1.out HA2.out ha)
            have HP2 : Hid (PBox w2 wr.heap.size o.p) := Blk.grown HP.out ha.grown (HR.out.other HP.out (by decide) (by decide)).1
            clear ha c0 c1 c2 c3 c4 c5 c6 d0 d6
            obtain ⟨c0, c1, c2, c3, c4⟩ := HP2.out.cells
            have hm1 : Hid (R.length + 1 ≤ maxLen) := by show _ ≤ _; unfold maxLen; omega
            have hm2 : Hid ((R.length + 1) * 56 ≤ 140737488355328) := by show _ ≤ _; omega
            have hm3 : Hid ((R.length + 1) * 8 ≤ 140737488355328) := by show _ ≤ _; omega
            have hsz2 := HW2.out.bel.size
            go_wp2_with (at_builtin; refine wpList_lies_c rfl (.tmp 42) (.tmp 44) 27 rfl w.heap.size 32 _ 5 56 Try.underlying27 infoPm rfl (by decide) _ _ _ rfl (HW2.out.all.alloc _) ⟨w2.heap.size, 0, none⟩ 1 1 (pcells o.p) rfl rfl (World.news_of_block (Blk.new _ _ _)) (pcells_one o.p) (by decide) hm1.out hm2.out (by simp; omega) ?_)
            intro g3 cap3 w3 hown hgrow hat
            have hb2 := (Below.refl w2.heap.size w2).alloc (Nat.le_refl _) (.cells #[.string o.p.id, .string o.p.sp, .int .i64 o.p.fr, .int .i64 o.p.un, .int .i64 o.p.qu] 32)
            have HW3 := Lib.hid ((HW2.out.below hb2).appAll (S1' := R ++ [(o.p, 0)]) (va' := .slice (some ⟨g3, 0, none⟩) (R.length + 1) cap3) hgrow (by rw [prow_snoc, List.length_append]; exact hown) (hat.elim (fun h => .inl h.symm) (fun h => .inr fun j hj => by simp [Value.ownBlock] at hj; subst hj; rw [h]; simp)))
            have HP3 : Hid (PBox w3 wr.heap.size o.p) := Blk.grown (PBox.below HP2.out hb2) hgrow (fun e => HG.out e.symm)
            clear hown hgrow hat hb2 c0 c1 c2 c3 c4
            obtain ⟨c0, c1, c2, c3, c4⟩ := HP3.out.cells
            have hsz3 := HW3.out.bel.size
            go_wp2_with (at_builtin; refine wpList_lies_c rfl (.tmp 46) (.tmp 49) 28 rfl w.heap.size 3 _ 1 8 Try.underlying28 infoI rfl (by decide) _ _ _ rfl (HW3.out.lef.alloc _) ⟨w3.heap.size, 0, none⟩ 1 1 [.int .i64 o.p.qu] rfl rfl (World.news_of_block (Blk.new _ _ _)) (by intro u hu; simp at hu; subst hu; rfl) (by decide) hm1.out hm3.out (by simp; omega) ?_)
            intro g4 cap4 w4 hown hgrow hat
            have hb3 := (Below.refl w3.heap.size w3).alloc (Nat.le_refl _) (.cells #[.int .i64 o.p.qu] 3)
            have HW4 := Lib.hid ((HW3.out.below hb3).appLef (S2' := R ++ [(o.p, 0)]) (vl' := .slice (some ⟨g4, 0, none⟩) (R.length + 1) cap4) hgrow (by rw [lrow_snoc, List.length_append]; exact hown) (hat.elim (fun h => .inl h.symm) (fun h => .inr fun j hj => by simp [Value.ownBlock] at hj; subst hj; rw [h]; simp)))
            clear hown hgrow hat hb3 c0 c1 c2 c3 c4
            have HW2 := HW4
            rw [← HN.out] at HW2
            obtain ⟨d0, d6⟩ := HCL.out _ HW4.out.bel
            -- not a use: the region only reads
            go_wp2_with fail
            go_quiet (fail)
            have HWn := Lib.hid (HW2.out.below (below_drewN (Below.refl _ _) nq))
            go_wp2_with fail
            go_roundw
            case rel => exact ⟨k + 1, by go_num, by omega, HWn⟩
            case measure => simp [intOf]; omega
          · have HRR := Lib.hid (Pt.adR_no rfl hE)
            have HN : Hid (plR (l.take (k + 1)) = R) := hN0.trans HRR.out
            obtain ⟨e, he⟩ : ∃ e, Pt.adE R o.p = e := ⟨_, rfl⟩
            rw [he] at hE
            have HE := Lib.hid he
            have he0 : (e == 0) = false := by simpa using hE
            clear hE hN0 he
            go_wp2_with fail
            (with_reducible refine (add_eq o.p _ HE HRR (by omega) (by omega) _ HR HO).mono ?_)
            rintro e' w2 ⟨rfl, ha⟩
            have HW2 := Lib.hid (HW1.out.added HR.out HA1.out HA2.out ha)
            clear ha c0 c1 c2 c3 c4 c5 c6 d0 d6
            obtain ⟨d0, d6⟩ := HCL.out _ HW2.out.bel
            rw [← HN.out] at HW2
            -- not a use: the region only reads
            go_wp2_with fail
            go_quiet (fail)
            have HWn := Lib.hid (HW2.out.below (below_drewN (Below.refl _ _) nq))
            go_wp2_with fail
            go_roundw
            case rel => exact ⟨k + 1, by go_num, by omega, HWn⟩
            case measure => simp [intOf]; omega
        · have hk0 : (o.k == 0) = false := by simpa using h0
          by_cases h1 : o.k = 1
          · have hk2 : (o.k != 1) = false := by rw [h1]; rfl
            have hN0 : plR (l.take (k + 1)) = Pt.usR R o.p.id o.n := by rw [hN, stepR, if_neg h0, if_pos h1]
            clear hN h0 h1 hbx
            go_wp2_with fail
            clear c0 c1 c2 c3 c4 c5 c6
            generalize wr.alloc (.cells #[.string o.p.id, .string o.p.sp, .int .i64 o.p.fr, .int .i64 o.p.un, .int .i64 o.p.qu] 32) = w1 at *
            have D0 := fun u => (HCL.out (wx w1 u) (below_old HW1.out.bel (wx_below w1 u))).1
            have D6 := fun u => (HCL.out (wx w1 u) (below_old HW1.out.bel (wx_below w1 u))).2
            have DI := fun u => (PBox.below HP.out (wx_below w1 u)).cells.1
            refine wp_region_grows_tail 15 (by kernel_rfl) (by kernel_rfl) ?_
            simp only [List.take_succ_cons, List.take_zero, List.drop_succ_cons, List.drop_zero]
            repeat (go_big_quiet_step (fail))
            refine wpQuiet_nil ?_
            rintro _ ⟨u, rfl⟩
            have HW3 := Lib.hid (HW1.out.below (wx_below w1 u))
            have HP3 := Lib.hid (PBox.below HP.out (wx_below w1 u))
            clear D0 D6 DI d0 d6
            generalize wx w1 u = w3 at *
            obtain ⟨vp, vu, hr, ap1, ap2⟩ := HW3.out.reg
            have HR := Lib.hid hr
            have HA1 := Lib.hid ap1
            have HA2 := Lib.hid ap2
            clear hr ap1 ap2
            by_cases hE : Pt.usE R o.p.id o.n = 0
            · have HE := Lib.hid hE
              obtain ⟨i, e, hi, he, hix, hid, hRR, ⟨q0, q1⟩, q2, q3⟩ := Pt.used_left HO.out hE
              have HUni := Lib.hid (fun m (hm : m < R.length) (h : (R[m]).1.id = o.p.id) => HO.out.uni m i hm hi (h.trans (by rw [he]; exact hid.symm)))
              have HRR := Lib.hid hRR
              have HN : Hid (plR (l.take (k + 1)) = R.set i (e.1, e.2 + o.n)) := hN0.trans hRR
              have HEI := Lib.hid he
              have HID := Lib.hid hid
              clear hE hN0 hRR hix he hid
              go_wp2_with fail
              (with_reducible refine (use_eq o.p.id o.n _ HE HRR _ HR HO).mono ?_)
              rintro e' w4 ⟨rfl, hr', hg'⟩
              have HW4 := Lib.hid (HW3.out.used HR.out HA1.out HA2.out hr' hg')
              have HP4 : Hid (PBox w4 wr.heap.size o.p) := Blk.grown HP3.out hg' (HR.out.other HP3.out (by decide) (by decide)).2
              clear hr' hg'
              go_wp2_with fail
              obtain ⟨Aa, ca, hva2⟩ := row_form HW4.out.all
              subst hva2
              obtain ⟨Al, cl, hvl2⟩ := row_form HW4.out.lef
              subst hvl2
              generalize wr.heap.size = gb at HP4 ⊢
              go_wp2_with fail
              go_loopw [8] (fun j wv => ∃ m : Nat, j = .int .i64 m ∧ m ≤ R.length ∧ Hid (QuW w wv (R.set i (e.1, e.2 + o.n)) R (if i < m then R.set i (e.1, e.2 + o.n) else R) (.slice Aa R.length ca) (.slice Al R.length cl)) ∧ Hid (PBox wv gb o.p)) (fun j _ => R.length - (intOf j).toNat)
              case atStart => exact ⟨0, rfl, by omega, by rw [if_neg (Nat.not_lt_zero _)]; exact HW4, HP4⟩
              case round =>
                clear HW4 HP4
                obtain ⟨m, rfl, hm, HWi, HPi⟩ := hrel
                by_cases hlt2 : m < R.length
                · obtain ⟨ga, rfl, hga, p0, p1, p2, p3, p4⟩ := row_permit HWi.out.all hlt2
                  have zm : (m : Int) < (R.length : Int) := by omega
                  obtain ⟨y0, y1, y2, y3, y4⟩ := HPi.out.cells
                  by_cases hmi : m = i
                  · subst hmi
                    rw [if_neg (Nat.lt_irrefl _)] at HWi
                    obtain ⟨gl, rfl, hgl, x0, fx⟩ := row_int HWi.out.lef hlt2
                    rw [HEI.out] at p0 p1 p2 p3 p4 x0
                    have hq := seq_t HID.out
                    go_wp2_with fail
                    go_quiet (fail)
                    have HWq := Lib.hid (HWi.out.below (below_drewN (Below.refl _ _) nq))
                    have HPq := Lib.hid (PBox.below HPi.out (below_drewN (Below.refl _ _) nq))
                    have hglq : gl < (wr.drewN nq).heap.size := hgl
                    go_wp2_with fail
                    clear x0 fx p0 p1 p2 p3 p4 y0 y1 y2 y3 y4 HWi HPi
                    generalize wr.drewN nq = w5 at *
                    have D6 := fun u => (HCL.out (wx w5 u) (below_old HWq.out.bel (wx_below w5 u))).2
                    have X0 : ∀ u, (wx w5 u).cell? ⟨gl, m, none⟩ = some (.int .i64 (e.1.qu - e.2)) := fun u => by
                      obtain ⟨g', e', _, x', _⟩ := row_int (HWq.out.below (wx_below w5 u)).lef hlt2
                      cases e'
                      rw [HEI.out] at x'
                      exact x'
                    refine wp_region_grows_tail 13 (by kernel_rfl) (by kernel_rfl) ?_
                    simp only [List.take_succ_cons, List.take_zero, List.drop_succ_cons, List.drop_zero]
                    repeat (go_big_quiet_step (fail))
                    refine wpQuiet_nil ?_
                    rintro _ ⟨u, rfl⟩
                    have HW6 := Lib.hid (HWq.out.below (wx_below w5 u))
                    have HP6 := Lib.hid (PBox.below HPq.out (wx_below w5 u))
                    clear D6 X0 HWq HPq
                    generalize wx w5 u = w6 at *
                    obtain ⟨g', e', _, x6, f6⟩ := row_int HW6.out.lef hlt2
                    cases e'
                    go_wp2_with fail
                    have HW7 := Lib.hid (HW6.out.storeLef hlt2 (congrArg Prod.fst HEI.out) (e.2 + o.n) (e.1.qu - e.2 - o.n) (by omega))
                    have HP7 : Hid (PBox (w6.setCell ⟨gl, m, none⟩ (.int .i64 (e.1.qu - e.2 - o.n))) gb o.p) := Blk.grown HP6.out (row := some gl) ⟨rfl, rfl, rfl, by simp, fun j _ hj => heap_setCell_other w6 ⟨gl, m, none⟩ j _ (fun e => hj (by simp [e]))⟩ (row_blk HW6.out.lef HP6.out (by decide))
                    go_roundw
                    case rel => exact ⟨m + 1, by go_num, by omega, by rw [if_pos (by omega)]; exact HW7, HP7⟩
                    case measure => simp [intOf]; omega
                  · have hne : ¬ (R[m]).1.id = o.p.id := fun h => hmi (HUni.out m hlt2 h)
                    have hq := seq_f hne
                    obtain ⟨e2, he2⟩ : ∃ e, R[m] = e := ⟨_, rfl⟩
                    rw [he2] at p0 p1 p2 p3 p4 hq
                    clear he2 hne
                    have hif : (if i < m then R.set i (e.1, e.2 + o.n) else R) = (if i < m + 1 then R.set i (e.1, e.2 + o.n) else R) := by
                      by_cases g : i < m
                      · rw [if_pos g, if_pos (by omega)]
                      · rw [if_neg g, if_neg (by omega)]
                    rw [hif] at HWi
                    clear hif
                    go_wp2_with fail
                    go_quiet (fail)
                    go_wp2_with fail
                    go_roundw
                    case rel => exact ⟨m + 1, by go_num, by omega, HWi.out.below (below_drewN (Below.refl _ _) nq), PBox.below HPi.out (below_drewN (Below.refl _ _) nq)⟩
                    case measure => simp [intOf]; omega
                · rw [if_pos (by omega)] at HWi
                  have hfin : QuW w wr (plR (l.take (k + 1))) (plR (l.take (k + 1))) (plR (l.take (k + 1))) (.slice Aa R.length ca) (.slice Al R.length cl) := by
                    rw [HN.out]
                    have h0 := HWi.out
                    refine ⟨h0.reg, ?_, h0.lef, h0.bel⟩
                    have h1 := h0.all
                    have h2 := prow_set R i hi (e.2 + o.n)
                    rw [HEI.out] at h2
                    rw [h2, List.length_set]
                    exact h1
                  have HF := Lib.hid hfin
                  clear hfin
                  go_wp2_with fail
                  go_roundw
                  case rel => exact ⟨k + 1, by go_num, by omega, HF⟩
                  case measure => simp [intOf]; omega
            · have HRR := Lib.hid (Pt.usR_no rfl hE)
              have HN : Hid (plR (l.take (k + 1)) = R) := hN0.trans HRR.out
              obtain ⟨e, he⟩ : ∃ e, Pt.usE R o.p.id o.n = e := ⟨_, rfl⟩
              rw [he] at hE
              have HE := Lib.hid he
              have he0 : (e == 0) = false := by simpa using hE
              have he1 : (e != 0) = true := by simpa using hE
              clear hE hN0 he
              go_wp2_with fail
              (with_reducible refine (use_eq o.p.id o.n _ HE HRR _ HR HO).mono ?_)
              rintro e' w4 ⟨rfl, hr', hg'⟩
              have HW4 := Lib.hid (HW3.out.used HR.out HA1.out HA2.out hr' hg')
              clear hr' hg'
              rw [← HN.out] at HW4
              go_wp2_with fail
              go_roundw
              case rel => exact ⟨k + 1, by go_num, by omega, HW4⟩
              case measure => simp [intOf]; omega
          · have HN : Hid (plR (l.take (k + 1)) = R) := by show _ = _; rw [hN, stepR, if_neg h0, if_neg h1]
            have hk1 : (o.k == 1) = false := by simpa using h1
            have hk2 : (o.k != 1) = true := by simpa using h1
            clear hN h0 h1 hbx
            have HW2 : Hid (QuW w (wr.alloc (.cells #[.string o.p.id, .string o.p.sp, .int .i64 o.p.fr, .int .i64 o.p.un, .int .i64 o.p.qu] 32)) (plR (l.take (k + 1))) (plR (l.take (k + 1))) (plR (l.take (k + 1))) va vl) := by show QuW _ _ _ _ _ _ _; rw [HN.out]; exact HW1.out
            -- not a use: the region only reads
            go_wp2_with fail
            go_quiet (fail)
            have HWn := Lib.hid (HW2.out.below (below_drewN (Below.refl _ _) nq))
            go_wp2_with fail
            go_roundw
            case rel => exact ⟨k + 1, by go_num, by omega, HWn⟩
            case measure => simp [intOf]; omega
      · have hE : l.take k = l := List.take_of_length_le (by omega)
        rw [hE] at HW HO hlen
        obtain ⟨R, hR⟩ : ∃ R, plR l = R := ⟨_, rfl⟩
        rw [hR] at HW HO hlen
        clear hE hR
        obtain ⟨Aa, ca, hva2⟩ := row_form HW.out.all
        subst hva2
        obtain ⟨Al, cl, hvl2⟩ := row_form HW.out.lef
        subst hvl2
        go_wp2_with fail
        go_loopw [9] (fun j wv => ∃ m : Nat, j = .int .i64 m ∧ m ≤ R.length ∧ Hid (QuW w wv R R R (.slice Aa R.length ca) (.slice Al R.length cl))) (fun j _ => R.length - (intOf j).toNat)
        case atStart => exact ⟨0, rfl, by omega, HW⟩
        case round =>
          clear HW
          obtain ⟨m, rfl, hm, HW⟩ := hrel
          obtain ⟨vp, vu, hr, _, _⟩ := HW.out.reg
          have HR := Lib.hid hr
          clear hr
          by_cases hlt2 : m < R.length
          · obtain ⟨ga, rfl, hga, p0, p1, p2, p3, p4⟩ := row_permit HW.out.all hlt2
            have zm : (m : Int) < (R.length : Int) := by omega
            obtain ⟨e, he⟩ : ∃ e, R[m] = e := ⟨_, rfl⟩
            obtain ⟨hat, hB0, hN, n0, n1⟩ := Pt.self HO.out hlt2 he
            have HB0 := Lib.hid hB0
            have HN := Lib.hid hN
            have HEI := Lib.hid he
            rw [he] at p0 p1 p2 p3 p4
            clear hat hB0 hN he
            go_wp2_with fail
            (with_reducible refine (left_eq e.1.id _ _ HN HB0 _ HR HO).mono ?_)
            rintro e' w4 ⟨rfl, hb⟩
            have HW4 := Lib.hid (HW.out.below hb)
            clear hb p0 p1 p2 p3 p4
            obtain ⟨gl, rfl, hgl, x0, fx⟩ := row_int HW4.out.lef hlt2
            rw [HEI.out] at x0
            generalize e.1.qu - e.2 = x at *
            go_wp2_with fail
            go_roundw
            case rel => exact ⟨m + 1, by go_num, by omega, HW4⟩
            case measure => simp [intOf]; omega
          · go_wp2_with fail
            (with_reducible refine (list_any _ HR HO).mono ?_)
            rintro e w4 ⟨v, rfl, hown, hb⟩
            obtain ⟨A4, c4, rfl, hsl, _⟩ := SlR.of_row hown
            have HA4 := Lib.hid hsl
            have HW4 := Lib.hid (HW.out.below hb)
            obtain ⟨A5, c5, e5, hsl5, _⟩ := SlR.of_row HW4.out.all
            simp only [Value.slice.injEq, true_and] at e5
            obtain ⟨rfl, rfl⟩ := e5
            have HA5 := Lib.hid hsl5
            clear hsl hown hb hsl5
            go_wp2_with fail
            (with_reducible refine (same_any _ _ _ _ R _ HA4 HA5 (by omega)).mono ?_)
            rintro e w5 ⟨rfl, hb⟩
            have HW5 := Lib.hid (HW4.out.below hb)
            clear hb
            go_wp2_with fail
            (with_reducible refine (awake_any _).mono ?_)
            rintro e wz ⟨rfl, hb⟩
            have HBZ := Lib.hid (below_old HW5.out.bel hb)
            clear hb
            go_wp2_with fail
            go_ret
            exact ⟨rfl, HBZ.out⟩
end Go.Proofs.Ytgkkhbhobbhlpaa
