/- law54: CustodyPermit. -/
import Derived.Test.YtpimmdmcmccbpaaDoorF2
import Derived.Test.YtpimmdmcmccbpaaDoorF4
namespace Go.Proofs.YtpimmdmcmccbpaaDoor
open Go.RowKit
set_option linter.unusedVariables false
open Cu (Lk Ls)
theorem is_w (s : ByteArray) (x : Bool) (hx : Hid (isB s 80 = x)) (hsz : (s.size : Int) ≤ 9223372036854775807) (w : World) :
    Calls Tryd.prog 41 #[.string s, .int .u8 80] w fun e w' => e = .returned (.bool x) ∧ Below w.heap.size w w' := by
  have := is_any s hsz 80 w
  rw [hx.out] at this
  exact this
theorem chl_kid {L : Ls} {s : ByteArray} (h : s ≠ ByteArray.empty) : Cu.chl L s = (Cu.kidL L s).map (·.it) := by
  unfold Cu.chl Cu.kids Cu.kidL
  rw [if_neg h]
/-- What the walk of CustodyPermit takes of one link. -/
structure PmI (L : Ls) (e : Lk) (R : Ls) (z : Lk) : Prop where
  fit : Fit_ e
  tr : Cu.trc L e.it = e :: R
  te : Cu.trE L e.it = 0
  rt : Cu.rtS L e.it = z.it
  has : true = decide (Cu.ix e.it L < L.length)
  len : R.length < L.length
  la : ∃ h : R.length < (e :: R).length, (e :: R)[R.length] = z
  zp : z.pa = ByteArray.empty
  zi : isB z.it 80 = true
  zs : z.sp = e.sp
  zf : Fit_ z
  st : ∀ k (h : k + 1 < (e :: R).length), ((e :: R)[k]).pa = ((e :: R)[k + 1]).it ∧ ((e :: R)[k + 1]).ti ≤ ((e :: R)[k]).ti
  ne : e.it ≠ ByteArray.empty
  vo : 0 ≤ e.vo ∧ e.vo ≤ 1125899906842624
  su : Cu.vsum (Cu.kidL L e.it) ≤ e.vo
  kd : ∀ k (h : k < (Cu.kidL L e.it).length), ∃ Q, Cu.trc L ((Cu.kidL L e.it)[k]).it = (Cu.kidL L e.it)[k] :: e :: Q ∧ Cu.trE L ((Cu.kidL L e.it)[k]).it = 0 ∧ Q.length + 2 ≤ L.length ∧ Fit_ ((Cu.kidL L e.it)[k]) ∧ 0 ≤ ((Cu.kidL L e.it)[k]).vo
  kl : (Cu.kidL L e.it).length ≤ L.length
  sb : ∀ k, 0 ≤ Cu.vsum ((Cu.kidL L e.it).take k) ∧ Cu.vsum ((Cu.kidL L e.it).take k) ≤ e.vo
theorem pmI {L : Ls} (hg : Cu.Good L) (hf : ∀ e ∈ L, Fit_ e) {e : Lk} (he : e ∈ L) : ∃ R z, PmI L e R z := by
  have ho := hg.ord
  have hix := ho.has he
  have htr := hg.top he
  have hch := hg.trc_chn hix
  have hlen := Cu.trc_length L e.it
  rw [htr] at hch hlen
  have hR : (Cu.trc L e.pa).length < (e :: Cu.trc L e.pa).length := by simp
  have hall := hch.all _ hR
  have hlast := hch.last _ hR (by simp)
  have hmem : (e :: Cu.trc L e.pa)[(Cu.trc L e.pa).length] ∈ L := by
    have h1 : (e :: Cu.trc L e.pa)[(Cu.trc L e.pa).length] ∈ Cu.trc L e.it := by rw [htr]; exact List.getElem_mem hR
    exact Cu.tr_mem L _ _ _ h1
  have hit := hch.code _ (List.getElem_mem hR)
  have hvo := hg.al.vo
  have hkm : ∀ f ∈ Cu.kidL L e.it, f ∈ L ∧ f.pa = e.it := fun f hf => by
    have := List.mem_filter.1 hf
    exact ⟨this.1, by simpa using this.2⟩
  have hsum : Cu.vsum (Cu.kidL L e.it) ≤ e.vo := by rw [Cu.vsum_kid]; exact hg.sum e he
  refine ⟨Cu.trc L e.pa, (e :: Cu.trc L e.pa)[(Cu.trc L e.pa).length], hf e he, htr, ?_, ?_, ?_, ?_, ⟨hR, rfl⟩, hlast, ?_, hall.1, hf _ hmem, fun k h => ⟨(hch.step k h).1, (hch.step k h).2.1⟩, Cu.empty_no (hg.up e he).it, hvo e he, hsum, fun k h => ?_, ?_, fun k => ?_⟩
  · rw [Cu.trE, if_pos hix]
  · have := Cu.rtS_yes (L := L) (s := e.it) (Cu.trc L e.pa).length (by rw [htr]; simp)
    rw [this]
    simp only [htr]
  · simp [hix]
  · simp at hlen; omega
  · have h1 := hit.1
    have h2 := hit.2.2 hlast
    simp [isB, h1, h2]
  · obtain ⟨h1, h2⟩ := hkm _ (List.getElem_mem h)
    have h3 := hg.child h1 he h2
    have h4 := Cu.trc_length L ((Cu.kidL L e.it)[k]).it
    rw [h3] at h4
    refine ⟨_, h3, ?_, by simpa using h4, hf _ h1, (hvo _ h1).1⟩
    rw [Cu.trE, if_pos (ho.has h1)]
  · exact List.length_filter_le _ _
  · have := Cu.vsum_take_le (L := Cu.kidL L e.it) (fun f hf => (hvo f (hkm f hf).1).1) k
    omega
set_option maxRecDepth 100000 in
set_option maxHeartbeats 32000000 in
theorem custodyPermit_walk (A : Option Addr) (c : Nat) (l : Ls) (w : World) (HS : Hid (SlR w A (orowL l))) (HO : Hid (∀ x ∈ l, LkOk x)) (HZ : Hid (∀ x ∈ l, x.ha = 0)) (hl : (l.length : Int) ≤ 9223372036854775807) (HT : Hid (TabOk w)) :
    Calls Tryd.prog 12 #[.slice A l.length c] w fun e w' => e = .returned (.bool true) ∧ Below w.heap.size w w' := by
  cases hsh : shortB l with
  | false =>
    have HSH := Lib.hid hsh
    clear hsh
    go_enter Tryd.func12, Tryd.ntmps12
    go_wp2_with fail
    (with_reducible refine (small_any l A c _ HS HO hl _ HSH).mono ?_)
    rintro e w1 ⟨rfl, hw1⟩
    subst w1
    go_wp2_with fail
    (with_reducible refine (awake54 _ (Lib.hid (HT.out.below (Below.refl _ _)))).mono ?_)
    rintro e wz ⟨rfl, hbz⟩
    have HBZ := Lib.hid (below_old (Below.refl _ _) hbz)
    clear hbz
    go_wp2_with fail
    go_ret
    exact ⟨rfl, HBZ.out⟩
  | true =>
    have HSH := Lib.hid hsh
    have HOP := Lib.hid (op_ok hsh HO.out HZ.out)
    clear hsh
    go_enter Tryd.func12, Tryd.ntmps12
    go_wp2_with fail
    (with_reducible refine (small_any l A c _ HS HO hl _ HSH).mono ?_)
    rintro e w1 ⟨rfl, hw1⟩
    subst w1
    go_wp2_with fail
    (with_reducible refine (register_any l A c _ HS HOP hl HT).mono ?_)
    rintro e w1 ⟨rfl, v1, hrg⟩
    have HR1 := Lib.hid hrg
    clear hrg
    have hlen := HR1.out.len
    obtain ⟨L, hL⟩ : ∃ L, Cu.reg [] l = L := ⟨_, rfl⟩
    rw [hL] at HR1 hlen
    clear hL
    go_wp2_with fail
    (with_reducible refine (links_w HR1).mono ?_)
    rintro e w2 ⟨vL, rfl, hrow, hb⟩
    obtain ⟨A2, c2, hv⟩ := row_form hrow
    subst hv
    have HLA := Lib.hid (row_slr hrow A2 c2 rfl)
    have HR2 := Lib.hid (HR1.out.below hb)
    clear hrow hb HR1
    go_wp2_with fail
    go_loopw [5] (fun i wr => ∃ (k : Nat), i = .int .i64 k ∧ k ≤ L.length ∧ Hid (Below w2.heap.size w2 wr)) (fun i _ => L.length - (intOf i).toNat)
    case atStart => exact ⟨0, rfl, by omega, Below.refl _ _⟩
    case round =>
      obtain ⟨k, rfl, hk, HB⟩ := hrel
      by_cases h : k < L.length
      · obtain ⟨e, he⟩ : ∃ e, L[k] = e := ⟨_, rfl⟩
        have HEK := Lib.hid he
        obtain ⟨R, z, hpm⟩ := pmI HR2.out.good HR2.out.fit (e := e) (by rw [← he]; exact List.getElem_mem h)
        have HP := Lib.hid hpm
        clear he hpm
        have hRl := HP.out.len
        have zk : (k : Int) < (L.length : Int) := by omega
        have HRr := Lib.hid (HR2.out.below HB.out)
        obtain ⟨bb, off, hA, hbl, -⟩ := HLA.out.link h
        subst hA
        have HCL : Hid (∀ w', Below w2.heap.size w2 w' → w'.cell? ⟨bb, off + k * 6, none⟩ = some (.string e.it) ∧ w'.cell? ⟨bb, off + k * 6 + 1, none⟩ = some (.string e.pa) ∧ w'.cell? ⟨bb, off + k * 6 + 2, none⟩ = some (.int .i64 e.ti) ∧ w'.cell? ⟨bb, off + k * 6 + 3, none⟩ = some (.int .i64 e.vo) ∧ w'.cell? ⟨bb, off + k * 6 + 4, none⟩ = some (.string e.sp) ∧ w'.cell? ⟨bb, off + k * 6 + 5, none⟩ = some (.int .u64 e.ha)) := fun w' hb => link_cells (HLA.out.below hb) h HEK.out
        have his := HP.out.fit.it
        obtain ⟨x0, x1, x2, x3, x4, x5⟩ := HCL.out _ HB.out
        go_wp2_with fail
        (with_reducible refine (trace_w (T := e :: R) e.it his HRr 0 (Lib.hid HP.out.te) (Lib.hid HP.out.tr)).mono ?_)
        rintro e' w3 ⟨vT, rfl, hrow, hb⟩
        obtain ⟨A3, c3, hv⟩ := row_form hrow
        subst hv
        have HT3 := Lib.hid (row_slr hrow A3 c3 rfl)
        have HB3 := Lib.hid (below_old HB.out hb)
        have HR3 := Lib.hid (HRr.out.below hb)
        clear hrow hb HRr x0 x1 x2 x3 x4 x5
        obtain ⟨x0, x1, x2, x3, x4, x5⟩ := HCL.out _ HB3.out
        go_wp2_with fail
        (with_reducible refine (root_w e.it his HR3 z.it true (Lib.hid HP.out.rt) (Lib.hid HP.out.has)).mono ?_)
        rintro e' w4 ⟨rfl, hb⟩
        have HB4 := Lib.hid (below_old HB3.out hb)
        have HR4 := Lib.hid (HR3.out.below hb)
        have HT4 := Lib.hid (HT3.out.below hb)
        clear hb HR3 HT3 x0 x1 x2 x3 x4 x5 HB3
        obtain ⟨x0, x1, x2, x3, x4, x5⟩ := HCL.out _ HB4.out
        obtain ⟨bt, offt, hAt, hbt, t0, t1, t2, t3, t4, t5⟩ := HT4.out.link (i := 0) (by simp)
        subst hAt
        simp only [List.getElem_cons_zero, Nat.zero_mul, Nat.add_zero] at t0 t1 t2 t3 t4 t5
        have q0 : (((R.length + 1 : Nat) : Int) == 0) = false := beq_eq_false_iff_ne.2 (by omega)
        have q1 : ((R.length : Int) + 1 == 0) = false := beq_eq_false_iff_ne.2 (by omega)
        have q2 : (0 : Int) < (R.length : Int) + 1 := by omega
        go_wp2_with fail
        go_quiet (fail)
        have HB5 := Lib.hid (below_drewN (Below.refl w4.heap.size w4) nq)
        have HB6 := Lib.hid (below_old HB4.out HB5.out)
        have HR5 := Lib.hid (HR4.out.below HB5.out)
        have HT5 := Lib.hid (HT4.out.below HB5.out)
        clear x0 x1 x2 x3 x4 x5 t0 t1 t2 t3 t4 t5 HR4 HT4 HB4 HB5 q0 q1
        generalize w4.drewN nq = w5 at *
        obtain ⟨t0, t1, t2, t3, t4, t5⟩ := link_cells HT5.out HP.out.la.1 HP.out.la.2
        rw [HP.out.zp] at t1
        rw [HP.out.zs] at t4
        go_wp2_with fail
        have hal := (Below.refl w5.heap.size w5).alloc (Nat.le_refl _) (.cells #[.string z.it, .string ByteArray.empty, .int .i64 z.ti, .int .i64 z.vo, .string e.sp, .int .u64 z.ha] 36)
        have HBX : Hid (LBox (w5.alloc (.cells #[.string z.it, .string ByteArray.empty, .int .i64 z.ti, .int .i64 z.vo, .string e.sp, .int .u64 z.ha] 36)) w5.heap.size ⟨z.it, ByteArray.empty, z.ti, z.vo, e.sp, z.ha⟩) := Blk.new _ _ _
        have HB7 := Lib.hid (below_old HB6.out hal)
        have HR7 := Lib.hid (HR5.out.below hal)
        have HT7 := Lib.hid (HT5.out.below hal)
        clear hal t0 t1 t2 t3 t4 t5 HR5 HT5 HB6
        generalize w5.alloc (.cells #[.string z.it, .string ByteArray.empty, .int .i64 z.ti, .int .i64 z.vo, .string e.sp, .int .u64 z.ha] 36) = w6 at *
        generalize w5.heap.size = gz at *
        have hzs := HP.out.zf.it
        have y0 := fun u => (LBox.below HBX.out (wx_below w6 u)).cells
        have y1 := fun u => HCL.out _ (below_old HB7.out (wx_below w6 u))
        simp only at y0
        refine wp_region_grows (by kernel_rfl) (by kernel_rfl) ?_
        repeat (go_big_quiet_step ((go_at_call 41; (with_reducible exact calls_grows (is_w z.it true (Lib.hid HP.out.zi) (by omega) _)))))
        refine wpQuiet_nil ?_
        rintro _ ⟨u, rfl⟩
        have HB8 := Lib.hid (below_old HB7.out (wx_below w6 u))
        have HR8 := Lib.hid (HR7.out.below (wx_below w6 u))
        have HT8 := Lib.hid (HT7.out.below (wx_below w6 u))
        clear y0 y1 HBX HR7 HT7 HB7
        generalize wx w6 u = w7 at *
        go_wp2_with fail
        go_loopw [11] (fun i wq => ∃ (j : Nat), i = .int .i64 j ∧ 1 ≤ j ∧ j ≤ R.length + 1 ∧ Hid (Below w7.heap.size w7 wq)) (fun i _ => R.length + 1 - (intOf i).toNat)
        case atStart => exact ⟨1, rfl, by omega, by omega, Below.refl _ _⟩
        case round =>
          obtain ⟨j, rfl, hj1, hj2, HQ⟩ := hrel
          by_cases hjl : j < R.length + 1
          · obtain ⟨j0, hj0⟩ : ∃ j0, j = j0 + 1 := ⟨j - 1, by omega⟩
            have hlt : j < (e :: R).length := by simpa using hjl
            have hlt0 : j0 < (e :: R).length := by simp; omega
            obtain ⟨f, hf⟩ : ∃ f, (e :: R)[j] = f := ⟨_, rfl⟩
            obtain ⟨g, hg⟩ : ∃ g, (e :: R)[j0] = g := ⟨_, rfl⟩
            have hst : g.pa = f.it ∧ f.ti ≤ g.ti := by
              have := HP.out.st j0 (by omega)
              simp only [← hj0, hf, hg] at this
              exact this
            obtain ⟨s1, s2⟩ := hst
            have HTq := Lib.hid (HT8.out.below HQ.out)
            obtain ⟨-, p1, p2, -, -, -⟩ := link_cells HTq.out hlt0 hg
            obtain ⟨r0, -, r2, -, -, -⟩ := link_cells HTq.out hlt hf
            have qs := seq_t s1
            have zj : (j : Int) < (R.length : Int) + 1 := by omega
            have zj0 : (j0 : Int) < (R.length : Int) + 1 := by omega
            have kw : IntKind.i64.wrap ((j : Int) - 1) = (j0 : Int) := by simp only [IntKind.wrap_i64]; omega
            have HJ0 := Lib.hid hj0
            clear hf hg s1 hlt hlt0 hj0
            go_wp2_with fail
            go_quiet (fail)
            have HQ2 := Lib.hid (below_drewN HQ.out nq)
            go_wp2_with fail
            go_roundw
            case rel => exact ⟨j + 1, by go_num, by omega, by omega, HQ2⟩
            case measure => simp [intOf]; omega
          · have zj : (R.length : Int) + 1 ≤ (j : Int) := by omega
            have HB9 := Lib.hid (below_old HB8.out HQ.out)
            have HR9 := Lib.hid (HR8.out.below HQ.out)
            obtain ⟨x0, x1, x2, x3, x4, x5⟩ := HCL.out _ HB9.out
            have HKD := Lib.hid HP.out.kd
            have HSB := Lib.hid HP.out.sb
            have HSU := Lib.hid HP.out.su
            have hkl := HP.out.kl
            have hvo := HP.out.vo
            have HCH := Lib.hid (chl_kid (L := L) HP.out.ne)
            generalize Cu.kidL L e.it = F at HKD HSB HSU hkl HCH
            have hch := children_any e.it wr (Lib.hid HR9.out.c) (by omega)
            rw [HCH.out] at hch
            have HCC := Lib.hid hch
            clear hch
            go_wp2_with fail
            (with_reducible refine HCC.out.mono ?_)
            rintro e' wA ⟨vC, rfl, hrow, hb⟩
            obtain ⟨AC, cC, hv⟩ := row_form hrow
            subst hv
            have HC := Lib.hid (row_slr hrow AC cC rfl)
            have HBA := Lib.hid (below_old HB9.out hb)
            have HRA := Lib.hid (HR9.out.below hb)
            clear hrow hb HR9 HB9 HCC x0 x1 x2 x3 x4 x5
            go_wp2_with fail
            go_loopw [13, 14] (fun s i wq => ∃ (q : Nat) (y : Int), s = .int .i64 y ∧ i = .int .i64 q ∧ q ≤ F.length ∧ Hid (y = Cu.vsum (F.take q)) ∧ Hid (Below wA.heap.size wA wq)) (fun _ i _ => F.length - (intOf i).toNat)
            case atStart => exact ⟨0, 0, rfl, rfl, by omega, by show (0 : Int) = _; simp [Cu.vsum], Below.refl _ _⟩
            case round =>
              obtain ⟨q, y, rfl, rfl, hq, HY, HQB⟩ := hrel
              have hy := HSB.out q
              rw [← HY.out] at hy
              obtain ⟨hy0, hy1⟩ := hy
              have HBq := Lib.hid (below_old HBA.out HQB.out)
              have HRq := Lib.hid (HRA.out.below HQB.out)
              by_cases hql : q < F.length
              · obtain ⟨Q, k1, k2, k3, k4, k5⟩ := HKD.out q hql
                have HS1 := Lib.hid (Cu.vsum_succ hql)
                obtain ⟨f, hf⟩ : ∃ f, F[q] = f := ⟨_, rfl⟩
                rw [hf] at k1 k2 k4 k5
                rw [hf, ← HY.out] at HS1
                have HK1 := Lib.hid k1
                have HK2 := Lib.hid k2
                have hfs := k4.it
                have hy2 := HSB.out (q + 1)
                rw [HS1.out] at hy2
                obtain ⟨hy3, hy4⟩ := hy2
                have zq : (q : Int) < (F.length : Int) := by omega
                obtain ⟨bc, offc, hAc, hbc, c0⟩ := (HC.out.below HQB.out).str (i := q) (by simpa using hql)
                subst hAc
                simp only [List.getElem_map, hf] at c0
                clear k1 k2 k4 hf
                go_wp2_with fail
                (with_reducible refine (trace_w (T := f :: e :: Q) f.it hfs HRq 0 HK2 HK1).mono ?_)
                rintro e' wB ⟨vB, rfl, hrow, hb⟩
                obtain ⟨AB, cB, hv⟩ := row_form hrow
                subst hv
                have HTB := Lib.hid (row_slr hrow AB cB rfl)
                have HBB := Lib.hid (below_old HBq.out hb)
                have HQC := Lib.hid (below_old HQB.out hb)
                clear hrow hb c0
                obtain ⟨x0, x1, x2, x3, x4, x5⟩ := HCL.out _ HBB.out
                obtain ⟨bB, offB, hAB, hbB, t0, t1, t2, t3, t4, t5⟩ := HTB.out.link (i := 1) (by simp)
                subst hAB
                obtain ⟨v0, v1', v2, v3, v4, v5⟩ := link_cells HTB.out (k := 0) (by simp) (e := f) rfl
                simp only [List.getElem_cons_zero, List.getElem_cons_succ, Nat.zero_mul, Nat.one_mul, Nat.add_zero] at t0 t1 t2 t3 t4 t5 v3
                have z2 : (1 : Int) < (Q.length : Int) + 1 + 1 := by omega
                have z3 : (0 : Int) < (Q.length : Int) + 1 + 1 := by omega
                have z4 : ¬ ((Q.length : Int) + 1 + 1 < 2) := by omega
                have z5 : decide ((Q.length : Int) + 1 + 1 < 2) = false := decide_eq_false (by omega)
                clear v0 v1' v2 v4 v5
                go_wp2_with fail
                go_quiet (fail)
                have HQD := Lib.hid (below_drewN HQC.out nq)
                have HY2 : Hid (y + f.vo = Cu.vsum (F.take (q + 1))) := HS1.out.symm
                clear x0 x1 x2 x3 x4 x5 t0 t1 t2 t3 t4 t5
                go_wp2_with fail
                go_roundw
                case rel => exact ⟨q + 1, y + f.vo, rfl, by go_num, by omega, HY2, HQD⟩
                case measure => simp [intOf]; omega
              · have hE : F.take q = F := List.take_of_length_le (by omega)
                rw [hE] at HY
                have hle : y ≤ e.vo := by rw [HY.out]; exact HSU.out
                have zq : (F.length : Int) ≤ (q : Int) := by omega
                obtain ⟨x0, x1, x2, x3, x4, x5⟩ := HCL.out _ HBq.out
                clear hE
                go_wp2_with fail
                go_roundw
                case rel => exact ⟨k + 1, by go_num, by omega, HBq⟩
                case measure => simp [intOf]; omega
      · have zk : (L.length : Int) ≤ (k : Int) := by omega
        have HBE := Lib.hid (below_old HR2.out.bel HB.out)
        go_wp2_with fail
        (with_reducible refine (awake54 _ (Lib.hid (HT.out.below HBE.out))).mono ?_)
        rintro e wz ⟨rfl, hbz⟩
        have HBZ := Lib.hid (below_old HBE.out hbz)
        clear hbz
        go_wp2_with fail
        go_ret
        exact ⟨rfl, HBZ.out⟩
end Go.Proofs.YtpimmdmcmccbpaaDoor
