/- sawmilltop: TopTamper. -/
import Derived.Test.YtpimmdmcmccbpaaDoorF6
import Derived.Laws.Bits64
namespace Go.Proofs.YtpimmdmcmccbpaaDoor
open Go.RowKit
set_option linter.unusedVariables false
open Cu (Lk Ls)
def crowL (l : List Clm) : List Value := l.flatMap ccells
theorem clm_cells {w : World} {A : Option Addr} {l : List Clm} (h : SlR w A (crowL l)) {i : Nat} (hi : i < l.length) {x : Clm} (hx : l[i] = x) :
    ∃ b off, A = some ⟨b, off, none⟩ ∧ b < w.heap.size ∧ w.cell? ⟨b, off + i * 6, none⟩ = some (.int .u8 x.ki) ∧ w.cell? ⟨b, off + i * 6 + 1, none⟩ = some (.int .u8 x.ix) ∧ w.cell? ⟨b, off + i * 6 + 2, none⟩ = some (.int .u8 x.of_) ∧ w.cell? ⟨b, off + i * 6 + 3, none⟩ = some (.int .i64 x.ti) ∧ w.cell? ⟨b, off + i * 6 + 4, none⟩ = some (.int .i64 x.vo) ∧ w.cell? ⟨b, off + i * 6 + 5, none⟩ = some (.bool x.oak) := by
  have hl : (crowL l).length = l.length * 6 := flat_length ccells (fun _ => rfl) l
  obtain ⟨b, off, e, hb, hc⟩ := h (by omega)
  have at_ : ∀ j, j < 6 → w.cell? ⟨b, off + i * 6 + j, none⟩ = (ccells x)[j]? := fun j hj => by
    have hlt : i * 6 + j < (crowL l).length := by omega
    have e1 := flat_at ccells (fun _ => rfl) l i j hi hj
    have e2 : (crowL l)[i * 6 + j]? = some (crowL l)[i * 6 + j] := List.getElem?_eq_getElem hlt
    rw [Nat.add_assoc, hc _ hlt, ← e2, ← hx, ← e1]; rfl
  exact ⟨b, off, e, hb, at_ 0 (by omega), at_ 1 (by omega), at_ 2 (by omega), at_ 3 (by omega), at_ 4 (by omega), at_ 5 (by omega)⟩
def KBox (w : World) (g : Nat) (x : Clm) : Prop := Blk w g 27 #[.int .u8 x.ki, .int .u8 x.ix, .int .u8 x.of_, .int .i64 x.ti, .int .i64 x.vo, .bool x.oak]
theorem KBox.cells {w : World} {g : Nat} {x : Clm} (h : KBox w g x) : w.cell? ⟨g, 0, none⟩ = some (.int .u8 x.ki) ∧ w.cell? ⟨g, 1, none⟩ = some (.int .u8 x.ix) ∧ w.cell? ⟨g, 2, none⟩ = some (.int .u8 x.of_) ∧ w.cell? ⟨g, 3, none⟩ = some (.int .i64 x.ti) ∧ w.cell? ⟨g, 4, none⟩ = some (.int .i64 x.vo) ∧ w.cell? ⟨g, 5, none⟩ = some (.bool x.oak) :=
  ⟨Blk.cell h 0, Blk.cell h 1, Blk.cell h 2, Blk.cell h 3, Blk.cell h 4, Blk.cell h 5⟩
/-- What an attempt adds. -/
def tmO (x : Clm) : Lk := ⟨codeS x.ki x.ix, if x.ki % 3 = 0 then ⟨#[]⟩ else codeS (x.of_ / 4) x.of_, x.ti, x.vo, tPi, 0⟩
theorem tmO_fit {x : Clm} (h : ClmOk x) : Fit_ (tmO x) := by
  refine fit_small ⟨by rw [codeS_size]; decide, ?_, by decide, h.t0, h.t1, h.v0, h.v1⟩
  split
  · decide
  · rw [codeS_size]; decide
theorem tm_succ {l : List Clm} {k : Nat} (h : k < l.length) {x : Clm} (hx : l[k] = x) : Cu.adL (Cu.reg [] ((l.take k).map tmO)) (tmO x) = Cu.reg [] ((l.take (k + 1)).map tmO) := by
  rw [List.take_succ_eq_append_getElem h, List.map_append, List.map_singleton, Cu.reg_snoc, hx]
theorem xor_i64 (x : Int) : -9223372036854775808 ≤ bits .xor .i64 x 1 ∧ bits .xor .i64 x 1 ≤ 9223372036854775807 := by
  unfold bits
  simp only [IntKind.wrap_i64]
  generalize ((BitVec.ofInt IntKind.i64.bits x ^^^ BitVec.ofInt IntKind.i64.bits 1).toNat : Int) = y
  omega
theorem xor_u64 {x : Int} (h0 : 0 ≤ x) (h1 : x ≤ 18446744073709551615) : bits .xor .u64 x 1 ≠ x := by
  obtain ⟨n, rfl⟩ := Int.eq_ofNat_of_zero_le h0
  have := bits_xor_u64_nat n 1 (by omega) (by omega)
  rw [show ((1 : Nat) : Int) = 1 from rfl] at this
  rw [this]
  intro e
  have e2 : n ^^^ 1 = n := by exact_mod_cast e
  have e3 : n ^^^ (n ^^^ 1) = 1 := by rw [← Nat.xor_assoc, Nat.xor_self, Nat.zero_xor]
  rw [e2, Nat.xor_self] at e3
  omega
/-- The hash before, as the law looks for it. -/
def pvK (L : Ls) (s : ByteArray) (k : Nat) : Int := if h : Cu.ix s L < k ∧ Cu.ix s L < L.length then (L[Cu.ix s L]'h.2).ha else 0
theorem pvK_yes {L : Ls} (ho : Cu.Ord L) {s : ByteArray} {k : Nat} (hk : k < L.length) (h : (L[k]).it = s) : pvK L s (k + 1) = (L[k]).ha := by
  have e : Cu.ix s L = k := by rw [← h]; exact ho.one k hk
  unfold pvK
  rw [dif_pos ⟨by omega, by omega⟩]
  congr 2
theorem pvK_no {L : Ls} {s : ByteArray} {k : Nat} (hk : k < L.length) (h : ¬ (L[k]).it = s) : pvK L s (k + 1) = pvK L s k := by
  unfold pvK
  by_cases g : Cu.ix s L < k ∧ Cu.ix s L < L.length
  · rw [dif_pos g, dif_pos ⟨by omega, g.2⟩]
  · rw [dif_neg g, dif_neg]
    rintro ⟨g1, g2⟩
    have e : Cu.ix s L = k := by
      rcases Nat.lt_or_ge (Cu.ix s L) k with q | q
      · exact absurd ⟨q, g2⟩ g
      · omega
    have := Cu.ix_at s L g2
    simp only [e] at this
    exact h this
theorem pvK_end {L : Ls} {m : Nat} (hm : m < L.length) (x : Lk) : pvK L x.pa m = Cu.pvV (L.take m) x := by
  have hl : (L.take m).length = m := by rw [List.length_take]; omega
  unfold pvK Cu.pvV
  by_cases g : Cu.ix x.pa L < m ∧ Cu.ix x.pa L < L.length
  · have e := Cu.ix_take (Nat.le_of_lt hm) g.1
    rw [dif_pos g, Cu.par_some (by rw [e, hl]; exact g.1)]
    simp only [e, List.getElem_take]
  · rw [dif_neg g, Cu.par_none]
    rw [hl]
    intro q
    apply g
    have h1 := Cu.ix_at x.pa (L.take m) (by rw [hl]; exact q)
    rw [List.getElem_take] at h1
    have h2 : Cu.ix x.pa L ≤ Cu.ix x.pa (L.take m) := by
      rcases Nat.lt_or_ge (Cu.ix x.pa (L.take m)) (Cu.ix x.pa L) with r | r
      · exact absurd h1 (Cu.ix_first x.pa L _ (by omega) r)
      · exact r
    omega
theorem tamper_v {L : Ls} (hg : Cu.Good L) {m : Nat} (hm : m < L.length) {Z : Lk} (h : Z.ha ≠ Cu.hsV (L.take m) Z) : ∃ b : Int, b ≠ 0 ∧ Cu.vfy [] (L.set m Z) 0 = ((m : Int), b) := by
  rw [Cu.vfy_set hg hm Z]
  by_cases hc : Cu.chE (L.take m) Z = 0
  · exact ⟨29, by decide, by rw [if_pos hc, if_neg h]⟩
  · exact ⟨_, hc, by rw [if_neg hc]⟩
theorem code_w (k n : Int) (k0 : 0 ≤ k) (k1 : k ≤ 255) (n0 : 0 ≤ n) (n1 : n ≤ 255) (X : ByteArray) (HX : Hid (codeS k n = X)) (w : World) :
    Calls Tryd.prog 15 #[.int .u8 k, .int .u8 n] w fun e w' => e = .returned (.string X) ∧ Below w.heap.size w w' := by
  have := code_any k n k0 k1 n0 n1 w
  rw [HX.out] at this
  exact this
set_option maxRecDepth 100000 in
set_option maxHeartbeats 32000000 in
theorem topTamper_walk (A : Option Addr) (c : Nat) (l : List Clm) (a f : Int) (ha : 0 ≤ a ∧ a ≤ 255) (hf : 0 ≤ f ∧ f ≤ 255) (w : World) (HS : Hid (SlR w A (crowL l))) (HO : Hid (∀ x ∈ l, ClmOk x)) (hl : (l.length : Int) ≤ 9223372036854775807) (HT : Hid (TabOk w)) :
    Calls Tryd.prog 3 #[.slice A l.length c, .int .u8 a, .int .u8 f] w fun e w' => e = .returned (.bool true) ∧ Below w.heap.size w w' := by
  by_cases h40 : (40 : Int) < (l.length : Int)
  · go_enter Tryd.func3, Tryd.ntmps3
    go_wp2_with fail
    (with_reducible refine (cuAwake _ (Lib.hid (HT.out.below (Below.refl _ _)))).mono ?_)
    rintro e wz ⟨rfl, hbz⟩
    have HBZ := Lib.hid (below_old (Below.refl _ _) hbz)
    clear hbz
    go_wp2_with fail
    go_ret
    exact ⟨rfl, HBZ.out⟩
  go_enter Tryd.func3, Tryd.ntmps3
  go_wp2_with fail
  (with_reducible refine (cnew_any _).mono ?_)
  rintro e w1 ⟨rfl, hw⟩
  have HG1 := Lib.hid (RgW.new w)
  rw [← hw] at HG1
  clear hw
  go_wp2_with fail
  go_loopw [8] (fun i wr => ∃ (k : Nat), i = .int .i64 k ∧ k ≤ l.length ∧ Hid (∃ v, RgW w wr (w.heap.size + 2) (Cu.reg [] ((l.take k).map tmO)) v w.heap.size (w.heap.size + 1))) (fun i _ => l.length - (intOf i).toNat)
  case atStart => exact ⟨0, rfl, by omega, ⟨_, HG1.out⟩⟩
  case round =>
    clear HG1
    obtain ⟨k, rfl, hk, HI0⟩ := hrel
    obtain ⟨v, hv⟩ := HI0.out
    have HR := Lib.hid hv
    clear hv HI0
    by_cases h : k < l.length
    · obtain ⟨x, hx⟩ : ∃ x, l[k] = x := ⟨_, rfl⟩
      have HOK := Lib.hid (HO.out _ (List.getElem_mem h))
      rw [hx] at HOK
      have HNX := Lib.hid (tm_succ h hx)
      obtain ⟨bb, off, hA, hbl, x0, x1, x2, x3, x4, x5⟩ := clm_cells (HS.out.below HR.out.bel) h hx
      subst hA
      clear hx
      have zk : (k : Int) < (l.length : Int) := by omega
      obtain ⟨I, hI⟩ : ∃ I, codeS x.ki x.ix = I := ⟨_, rfl⟩
      have HI := Lib.hid hI
      have k0 := HOK.out.k0
      have o0 := HOK.out.o0
      have o1 := HOK.out.o1
      have tk : x.ki.tmod 3 = x.ki % 3 := Int.tmod_eq_emod_of_nonneg k0
      have td : x.of_.tdiv 4 = x.of_ / 4 := Int.tdiv_eq_ediv_of_nonneg o0
      have hal := (Below.refl wr.heap.size wr).alloc (Nat.le_refl _) (.cells #[.int .u8 x.ki, .int .u8 x.ix, .int .u8 x.of_, .int .i64 x.ti, .int .i64 x.vo, .bool x.oak] 27)
      have HBX0 : Hid (KBox (wr.alloc (.cells #[.int .u8 x.ki, .int .u8 x.ix, .int .u8 x.of_, .int .i64 x.ti, .int .i64 x.vo, .bool x.oak] 27)) wr.heap.size x) := Blk.new _ _ _
      have HR1 := Lib.hid (HR.out.below hal)
      clear hal hI
      by_cases hki : x.ki % 3 = 0
      · have q3 : (x.ki % 3 == 0) = true := by simpa using hki
        have HKI := Lib.hid hki
        clear hki
        go_wp2_with fail
        clear x0 x1 x2 x3 x4 x5
        generalize wr.alloc (.cells #[.int .u8 x.ki, .int .u8 x.ix, .int .u8 x.of_, .int .i64 x.ti, .int .i64 x.vo, .bool x.oak] 27) = w2 at *
        generalize wr.heap.size = gx at *
        have HBX : Hid (KBox w2 gx x) := HBX0.out
        have HR2 := Lib.hid HR1.out
        clear HR1 HBX0 tk td
        -- region 13 (w2: the world; the box at wr.heap.size; PA: the parent's text)
        have HPA : Hid (tmO x = ⟨I, ⟨#[]⟩, x.ti, x.vo, tPi, 0⟩) := by show _ = _; rw [tmO, if_pos HKI.out, HI.out]
        have HF : Hid (Fit_ ⟨I, ⟨#[]⟩, x.ti, x.vo, tPi, 0⟩) := by show Fit_ _; rw [← HPA.out]; exact tmO_fit HOK.out
        have y0 := fun u => KBox.cells (Blk.below HBX.out (wx_below w2 u))
        refine wp_region_grows_tail 11 (by kernel_rfl) (by kernel_rfl) ?_
        simp only [List.take_succ_cons, List.take_zero, List.drop_succ_cons, List.drop_zero]
        repeat (go_big_quiet_step ((go_at_call 15; (with_reducible exact calls_grows (code_w x.ki x.ix HOK.out.k0 HOK.out.k1 HOK.out.i0 HOK.out.i1 I HI _)))))
        refine wpQuiet_nil ?_
        rintro _ ⟨u, rfl⟩
        have HR3 := Lib.hid (HR2.out.below (wx_below w2 u))
        clear y0
        generalize wx w2 u = w3 at *
        go_wp2_with fail
        (with_reducible refine (cadd_eq I ⟨#[]⟩ tPi x.ti x.vo HF HR3 HT _ _ (Lib.hid rfl) (Lib.hid rfl) (Lib.hid rfl)).mono ?_)
        rintro e' w4 ⟨rfl, v4, hrg, -, -⟩
        rw [← HPA.out, HNX.out] at hrg
        have HN : Hid (∃ v, RgW w w4 (w.heap.size + 2) (Cu.reg [] ((l.take (k + 1)).map tmO)) v w.heap.size (w.heap.size + 1)) := ⟨_, hrg⟩
        clear hrg
        go_wp2_with fail
        go_roundw
        case rel => exact ⟨k + 1, by go_num, by omega, HN⟩
        case measure => simp [intOf]; omega
      · have q3 : (x.ki % 3 == 0) = false := by simpa using hki
        have HKI := Lib.hid hki
        clear hki
        obtain ⟨J, hJ⟩ : ∃ J, codeS (x.of_ / 4) x.of_ = J := ⟨_, rfl⟩
        have HJ := Lib.hid hJ
        clear hJ
        go_wp2_with fail
        clear x0 x1 x2 x3 x4 x5
        generalize wr.alloc (.cells #[.int .u8 x.ki, .int .u8 x.ix, .int .u8 x.of_, .int .i64 x.ti, .int .i64 x.vo, .bool x.oak] 27) = w1' at *
        generalize wr.heap.size = gx at *
        (with_reducible refine (code_w (x.of_ / 4) x.of_ (by omega) (by omega) o0 o1 J HJ _).mono ?_)
        rintro e' w2 ⟨rfl, hb⟩
        have HBX : Hid (KBox w2 gx x) := Blk.below HBX0.out hb
        have HR2 := Lib.hid (HR1.out.below hb)
        clear HR1 HBX0 tk td hb
        go_wp2_with fail
        -- region 13 (w2: the world; the box at wr.heap.size; PA: the parent's text)
        have HPA : Hid (tmO x = ⟨I, J, x.ti, x.vo, tPi, 0⟩) := by show _ = _; rw [tmO, if_neg HKI.out, HI.out, HJ.out]
        have HF : Hid (Fit_ ⟨I, J, x.ti, x.vo, tPi, 0⟩) := by show Fit_ _; rw [← HPA.out]; exact tmO_fit HOK.out
        have y0 := fun u => KBox.cells (Blk.below HBX.out (wx_below w2 u))
        refine wp_region_grows_tail 11 (by kernel_rfl) (by kernel_rfl) ?_
        simp only [List.take_succ_cons, List.take_zero, List.drop_succ_cons, List.drop_zero]
        repeat (go_big_quiet_step ((go_at_call 15; (with_reducible exact calls_grows (code_w x.ki x.ix HOK.out.k0 HOK.out.k1 HOK.out.i0 HOK.out.i1 I HI _)))))
        refine wpQuiet_nil ?_
        rintro _ ⟨u, rfl⟩
        have HR3 := Lib.hid (HR2.out.below (wx_below w2 u))
        clear y0
        generalize wx w2 u = w3 at *
        go_wp2_with fail
        (with_reducible refine (cadd_eq I J tPi x.ti x.vo HF HR3 HT _ _ (Lib.hid rfl) (Lib.hid rfl) (Lib.hid rfl)).mono ?_)
        rintro e' w4 ⟨rfl, v4, hrg, -, -⟩
        rw [← HPA.out, HNX.out] at hrg
        have HN : Hid (∃ v, RgW w w4 (w.heap.size + 2) (Cu.reg [] ((l.take (k + 1)).map tmO)) v w.heap.size (w.heap.size + 1)) := ⟨_, hrg⟩
        clear hrg
        go_wp2_with fail
        go_roundw
        case rel => exact ⟨k + 1, by go_num, by omega, HN⟩
        case measure => simp [intOf]; omega
    · have hE : l.take k = l := List.take_of_length_le (by omega)
      rw [hE] at HR
      have zk : (l.length : Int) ≤ (k : Int) := by omega
      clear hE
      have hlen := HR.out.len
      obtain ⟨L, hL⟩ : ∃ L, Cu.reg [] (l.map tmO) = L := ⟨_, rfl⟩
      rw [hL] at HR hlen
      clear hL
      go_wp2_with fail
      (with_reducible refine (links_w HR).mono ?_)
      rintro e w2 ⟨vL, rfl, hrow, hb⟩
      have HB2 := Lib.hid (below_old HR.out.bel hb)
      have HG := Lib.hid HR.out.good
      have HFT := Lib.hid HR.out.fit
      have HWS := Lib.hid HR.out.bel.size
      by_cases hz : L.length = 0
      · obtain ⟨A2, c2, hv⟩ := row_form hrow
        subst hv
        have zz : ((L.length : Int) == 0) = true := by simp [hz]
        clear hrow hb
        go_wp2_with fail
        (with_reducible refine (cuAwake _ (Lib.hid (HT.out.below HB2.out))).mono ?_)
        rintro e wz ⟨rfl, hbz⟩
        have HBZ := Lib.hid (below_old HB2.out hbz)
        clear hbz
        go_wp2_with fail
        go_ret
        exact ⟨rfl, HBZ.out⟩
      obtain ⟨g2, c2, rfl, hg2, hlt2⟩ := hrow.form (by omega)
      have HRX := Lib.hid hrow
      have HG2 : Hid (wr.heap.size ≤ g2) := hg2
      clear hrow hb hg2 HR
      have zz : ((L.length : Int) == 0) = false := beq_eq_false_iff_ne.2 (by omega)
      obtain ⟨m, hm⟩ : ∃ m : Nat, a % (L.length : Int) = m := ⟨(a % (L.length : Int)).toNat, (Int.toNat_of_nonneg (Int.emod_nonneg a (by omega))).symm⟩
      have hm2 : (m : Int) < (L.length : Int) := by rw [← hm]; exact Int.emod_lt_of_pos a (by omega)
      have hm4 : a.tmod (L.length : Int) = m := by rw [Int.tmod_eq_emod_of_nonneg ha.1, hm]
      have hm5 : ¬ ((L.length : Int) = 0) := by omega
      have hml : m < L.length := by omega
      clear hm hz
      obtain ⟨X, hX⟩ : ∃ X, L[m] = X := ⟨_, rfl⟩
      have HXM := Lib.hid hX
      have HFX : Hid (Fit_ X) := by show Fit_ X; rw [← hX]; exact HFT.out _ (List.getElem_mem hml)
      have HXH : Hid (X.ha = Cu.hsV (L.take m) X) := by show _ = _; rw [← hX]; exact (HG.out.at_ hml).2
      have hxh : 0 ≤ X.ha ∧ X.ha ≤ 18446744073709551615 := HG.out.al.ha X (by rw [← hX]; exact List.getElem_mem hml)
      clear hX
      obtain ⟨t0, t1, t2, t3, t4, t5⟩ := link_cells (row_slr HRX.out _ _ rfl) hml HXM.out
      simp only [Nat.zero_add] at t0 t1 t2 t3 t4 t5
      have hal := (Below.refl w2.heap.size w2).alloc (Nat.le_refl _) (.cells #[.string X.it, .string X.pa, .int .i64 X.ti, .int .i64 X.vo, .string X.sp, .int .u64 X.ha] 36)
      have HBX : Hid (LBox (w2.alloc (.cells #[.string X.it, .string X.pa, .int .i64 X.ti, .int .i64 X.vo, .string X.sp, .int .u64 X.ha] 36)) w2.heap.size X) := Blk.new _ _ _
      have HAL := Lib.hid hal
      have HG2L : Hid (g2 < w2.heap.size) := hlt2
      clear hal
      go_wp2_with fail
      clear t0 t1 t2 t3 t4 t5 hm4 hm5
      generalize w2.alloc (.cells #[.string X.it, .string X.pa, .int .i64 X.ti, .int .i64 X.vo, .string X.sp, .int .u64 X.ha] 36) = w3 at *
      have HB3 := Lib.hid (below_old HB2.out HAL.out)
      have HR3 := Lib.hid (row_below HRX.out HAL.out)
      go_loopw [14, 15] (fun p i wq => ∃ (q : Nat) (y : Int), p = .int .u64 y ∧ i = .int .i64 q ∧ q ≤ m ∧ Hid (y = pvK L X.pa q) ∧ Hid (Below w3.heap.size w3 wq)) (fun _ i _ => m - (intOf i).toNat)
      case atStart => exact ⟨0, 0, rfl, rfl, by omega, by show (0 : Int) = _; simp [pvK], Below.refl _ _⟩
      case round =>
        obtain ⟨q, y, rfl, rfl, hq, HY, HQ⟩ := hrel
        have HRq := Lib.hid (row_below HR3.out HQ.out)
        have HBq : Hid (LBox wr w2.heap.size X) := LBox.below HBX.out HQ.out
        by_cases hqm : q < m
        · have hql : q < L.length := by omega
          have zq : (q : Int) < (m : Int) := by omega
          have zq2 : (q : Int) < (L.length : Int) := by omega
          obtain ⟨d, hd⟩ : ∃ d, L[q] = d := ⟨_, rfl⟩
          have HD := Lib.hid hd
          clear hd
          obtain ⟨t0, -, -, -, -, t5⟩ := link_cells (row_slr HRq.out _ _ rfl) hql HD.out
          simp only [Nat.zero_add] at t0 t5
          obtain ⟨-, y1, -, -, -, -⟩ := HBq.out.cells
          by_cases g : d.it = X.pa
          · have qs := seq_t g
            have HY2 : Hid (d.ha = pvK L X.pa (q + 1)) := by show _ = _; rw [pvK_yes HG.out.ord hql (by rw [HD.out]; exact g), HD.out]
            clear g
            go_wp2_with fail
            go_quiet (fail)
            have HQ2 := Lib.hid (below_drewN HQ.out nq)
            go_wp2_with fail
            go_roundw
            case rel => exact ⟨q + 1, d.ha, rfl, by go_num, by omega, HY2, HQ2⟩
            case measure => simp [intOf]; omega
          · have qs := seq_f g
            have HY2 : Hid (y = pvK L X.pa (q + 1)) := by show _ = _; rw [pvK_no hql (by rw [HD.out]; exact g)]; exact HY.out
            clear g
            go_wp2_with fail
            go_quiet (fail)
            have HQ2 := Lib.hid (below_drewN HQ.out nq)
            go_wp2_with fail
            go_roundw
            case rel => exact ⟨q + 1, y, rfl, by go_num, by omega, HY2, HQ2⟩
            case measure => simp [intOf]; omega
        · have zq : (m : Int) ≤ (q : Int) := by omega
          have hqe : q = m := by omega
          have HPV : Hid (y = Cu.pvV (L.take m) X) := by show _ = _; rw [HY.out, hqe]; exact pvK_end hml X
          clear hqe
          have tf : f.tmod 4 = f % 4 := Int.tmod_eq_emod_of_nonneg hf.1
          have HB4 := Lib.hid (below_old HB3.out HQ.out)
          obtain ⟨y0, y1, y2, y3, y4, y5⟩ := HBq.out.cells
          have fz := Blk.frozen HBq.out
          have h4 : f % 4 = 0 ∨ f % 4 = 1 ∨ f % 4 = 2 ∨ f % 4 = 3 := by omega
          rcases h4 with h4 | h4 | h4 | h4
          · go_wp2_with fail
            clear y0 y1 y2 y3 y4 y5
            have HZ5 : Hid (LBox (wr.setCell ⟨w2.heap.size, 3, none⟩ (.int .i64 (bits BinOp.xor IntKind.i64 X.vo 1))) w2.heap.size ⟨X.it, X.pa, X.ti, bits BinOp.xor IntKind.i64 X.vo 1, X.sp, X.ha⟩) := by
              show LBox _ _ _
              have := Blk.set_ HBq.out 3 (.int .i64 (bits BinOp.xor IntKind.i64 X.vo 1))
              simpa [LBox] using this
            have hgs := set_grown wr w2.heap.size 3 (.int .i64 (bits BinOp.xor IntKind.i64 X.vo 1))
            have HB5 : Hid (Below w.heap.size w (wr.setCell ⟨w2.heap.size, 3, none⟩ (.int .i64 (bits BinOp.xor IntKind.i64 X.vo 1)))) := HB4.out.grown hgs HB4.out.size (fun k hk => by cases hk; exact HB2.out.size)
            have HR5 := Lib.hid (HRq.out.kept hgs (.inr (by simp [Value.ownBlock]; have := HG2L.out; omega)))
            have HFZ : Hid (Fit_ ⟨X.it, X.pa, X.ti, bits BinOp.xor IntKind.i64 X.vo 1, X.sp, X.ha⟩) := ⟨HFX.out.1, HFX.out.2, HFX.out.3, HFX.out.4, HFX.out.5, (xor_i64 X.vo).1, (xor_i64 X.vo).2⟩
            have HPZ : Hid (Cu.pvV (L.take m) ⟨X.it, X.pa, X.ti, bits BinOp.xor IntKind.i64 X.vo 1, X.sp, X.ha⟩ = y) := HPV.out.symm
            clear hgs HBq HRq fz
            generalize wr.setCell ⟨w2.heap.size, 3, none⟩ (.int .i64 (bits BinOp.xor IntKind.i64 X.vo 1)) = w5 at *
            obtain ⟨Z, hZ⟩ : ∃ Z : Lk, Z = ⟨X.it, X.pa, X.ti, bits BinOp.xor IntKind.i64 X.vo 1, X.sp, X.ha⟩ := ⟨_, rfl⟩
            have HZE := Lib.hid hZ
            rw [← hZ] at HZ5 HFZ HPZ
            clear hZ
            obtain ⟨zit, zpa, zti, zvo, zsp, zha⟩ := Z
            have hyr : 0 ≤ y ∧ y ≤ 18446744073709551615 := by
              rw [HPV.out]
              unfold Cu.pvV
              split
              · omega
              · rename_i p hp
                exact (HG.out.take m).al.ha _ (par_mem hp)
            obtain ⟨r0, r1, r2, r3, r4, r5⟩ := HZ5.out.cells
            simp only at r0 r1 r2 r3 r4 r5
            obtain ⟨hs, hhs⟩ : ∃ h, chS y (Cu.txS ⟨zit, zpa, zti, zvo, zsp, zha⟩) = h := ⟨_, rfl⟩
            have HHS := Lib.hid hhs
            clear hhs r0 r1 r2 r3 r4 r5
            have y0 := fun u => (LBox.below HZ5.out (wx_below w5 u)).cells
            simp only at y0
            refine wp_region_grows (by kernel_rfl) (by kernel_rfl) ?_
            repeat (go_big_quiet_step ((go_at_call 18; (with_reducible exact calls_grows (rhashL_eq zit zpa zti zvo zsp zha HFZ y hyr hs HHS _)))))
            refine wpQuiet_nil ?_
            rintro _ ⟨u, rfl⟩
            have HB6 := Lib.hid (below_old HB5.out (wx_below w5 u))
            have HR6 := Lib.hid (row_below HR5.out (wx_below w5 u))
            have HZ6 : Hid (LBox (wx w5 u) w2.heap.size ⟨zit, zpa, zti, zvo, zsp, zha⟩) := LBox.below HZ5.out (wx_below w5 u)
            clear y0
            generalize wx w5 u = w6 at *
            by_cases he : hs = zha
            · have qe : (hs == zha) = true := by simpa using he
              clear he
              go_wp2_with fail
              (with_reducible refine (cuAwake _ (Lib.hid (HT.out.below HB6.out))).mono ?_)
              rintro e wz ⟨rfl, hbz⟩
              have HBZ := Lib.hid (below_old HB6.out hbz)
              clear hbz
              go_wp2_with fail
              go_ret
              exact ⟨rfl, HBZ.out⟩
            have qe : (hs == zha) = false := by simpa using he
            have HNE : Hid (zha ≠ Cu.hsV (L.take m) ⟨zit, zpa, zti, zvo, zsp, zha⟩) := fun e => he (by rw [← HHS.out, ← HPZ.out]; exact e.symm)
            clear he
            obtain ⟨b, hb0, hv⟩ := tamper_v (Z := ⟨zit, zpa, zti, zvo, zsp, zha⟩) HG.out hml HNE.out
            have HVV := Lib.hid hv
            have qb : (b == 0) = false := by simpa using hb0
            have qb2 : (b != 0) = true := by simpa using hb0
            clear hv
            obtain ⟨r0, r1, r2, r3, r4, r5⟩ := HZ6.out.cells
            simp only at r0 r1 r2 r3 r4 r5
            obtain ⟨p0, p1, p2, p3, p4, p5⟩ := link_cells (row_slr HR6.out _ _ rfl) hml HXM.out
            simp only [Nat.zero_add] at p0 p1 p2 p3 p4 p5
            have fr := row_frozen HR6.out
            go_wp2_with fail
            have HSM := Lib.hid (set6o_slr (row_slr HR6.out _ _ rfl) hml ⟨zit, zpa, zti, zvo, zsp, zha⟩)
            have HGM := Lib.hid (set6o_grown w6 g2 (m * 6) ⟨zit, zpa, zti, zvo, zsp, zha⟩)
            unfold set6o at HSM HGM
            clear p0 p1 p2 p3 p4 p5 r0 r1 r2 r3 r4 r5 fr
            simp only at HSM HGM
            generalize (((((w6.setCell ⟨g2, m * 6, none⟩ (.string zit)).setCell ⟨g2, m * 6 + 1, none⟩ (.string zpa)).setCell ⟨g2, m * 6 + 2, none⟩ (.int .i64 zti)).setCell ⟨g2, m * 6 + 3, none⟩ (.int .i64 zvo)).setCell ⟨g2, m * 6 + 4, none⟩ (.string zsp)).setCell ⟨g2, m * 6 + 5, none⟩ (.int .u64 zha) = w7 at HSM HGM ⊢
            have HB7 : Hid (Below w.heap.size w w7) := HB6.out.grown HGM.out HB6.out.size (fun k hk => by cases hk; have := HG2.out; have := HWS.out; omega)
            have HFM : Hid (∀ e ∈ L.set m ⟨zit, zpa, zti, zvo, zsp, zha⟩, Fit_ e) := fun e he => by
              rcases List.mem_or_eq_of_mem_set he with q | q
              · exact HFT.out e q
              · rw [q]; exact HFZ.out
            (with_reducible refine (verify_w (L.set m ⟨zit, zpa, zti, zvo, zsp, zha⟩) _ L.length c2 (Lib.hid (by rw [List.length_set])) _ HSM HFM (by omega) (Lib.hid (HT.out.below HB7.out)) m b HVV).mono ?_)
            rintro e w8 ⟨rfl, hb⟩
            have HB8 := Lib.hid (below_old HB7.out hb)
            clear hb
            go_wp2_with fail
            (with_reducible refine (cuAwake _ (Lib.hid (HT.out.below HB8.out))).mono ?_)
            rintro e wz ⟨rfl, hbz⟩
            have HBZ := Lib.hid (below_old HB8.out hbz)
            clear hbz
            go_wp2_with fail
            go_ret
            exact ⟨rfl, HBZ.out⟩
          · go_wp2_with fail
            clear y0 y1 y2 y3 y4 y5
            have HZ5 : Hid (LBox (wr.setCell ⟨w2.heap.size, 2, none⟩ (.int .i64 (bits BinOp.xor IntKind.i64 X.ti 1))) w2.heap.size ⟨X.it, X.pa, bits BinOp.xor IntKind.i64 X.ti 1, X.vo, X.sp, X.ha⟩) := by
              show LBox _ _ _
              have := Blk.set_ HBq.out 2 (.int .i64 (bits BinOp.xor IntKind.i64 X.ti 1))
              simpa [LBox] using this
            have hgs := set_grown wr w2.heap.size 2 (.int .i64 (bits BinOp.xor IntKind.i64 X.ti 1))
            have HB5 : Hid (Below w.heap.size w (wr.setCell ⟨w2.heap.size, 2, none⟩ (.int .i64 (bits BinOp.xor IntKind.i64 X.ti 1)))) := HB4.out.grown hgs HB4.out.size (fun k hk => by cases hk; exact HB2.out.size)
            have HR5 := Lib.hid (HRq.out.kept hgs (.inr (by simp [Value.ownBlock]; have := HG2L.out; omega)))
            have HFZ : Hid (Fit_ ⟨X.it, X.pa, bits BinOp.xor IntKind.i64 X.ti 1, X.vo, X.sp, X.ha⟩) := ⟨HFX.out.1, HFX.out.2, HFX.out.3, (xor_i64 X.ti).1, (xor_i64 X.ti).2, HFX.out.6, HFX.out.7⟩
            have HPZ : Hid (Cu.pvV (L.take m) ⟨X.it, X.pa, bits BinOp.xor IntKind.i64 X.ti 1, X.vo, X.sp, X.ha⟩ = y) := HPV.out.symm
            clear hgs HBq HRq fz
            generalize wr.setCell ⟨w2.heap.size, 2, none⟩ (.int .i64 (bits BinOp.xor IntKind.i64 X.ti 1)) = w5 at *
            obtain ⟨Z, hZ⟩ : ∃ Z : Lk, Z = ⟨X.it, X.pa, bits BinOp.xor IntKind.i64 X.ti 1, X.vo, X.sp, X.ha⟩ := ⟨_, rfl⟩
            have HZE := Lib.hid hZ
            rw [← hZ] at HZ5 HFZ HPZ
            clear hZ
            obtain ⟨zit, zpa, zti, zvo, zsp, zha⟩ := Z
            have hyr : 0 ≤ y ∧ y ≤ 18446744073709551615 := by
              rw [HPV.out]
              unfold Cu.pvV
              split
              · omega
              · rename_i p hp
                exact (HG.out.take m).al.ha _ (par_mem hp)
            obtain ⟨r0, r1, r2, r3, r4, r5⟩ := HZ5.out.cells
            simp only at r0 r1 r2 r3 r4 r5
            obtain ⟨hs, hhs⟩ : ∃ h, chS y (Cu.txS ⟨zit, zpa, zti, zvo, zsp, zha⟩) = h := ⟨_, rfl⟩
            have HHS := Lib.hid hhs
            clear hhs r0 r1 r2 r3 r4 r5
            have y0 := fun u => (LBox.below HZ5.out (wx_below w5 u)).cells
            simp only at y0
            refine wp_region_grows (by kernel_rfl) (by kernel_rfl) ?_
            repeat (go_big_quiet_step ((go_at_call 18; (with_reducible exact calls_grows (rhashL_eq zit zpa zti zvo zsp zha HFZ y hyr hs HHS _)))))
            refine wpQuiet_nil ?_
            rintro _ ⟨u, rfl⟩
            have HB6 := Lib.hid (below_old HB5.out (wx_below w5 u))
            have HR6 := Lib.hid (row_below HR5.out (wx_below w5 u))
            have HZ6 : Hid (LBox (wx w5 u) w2.heap.size ⟨zit, zpa, zti, zvo, zsp, zha⟩) := LBox.below HZ5.out (wx_below w5 u)
            clear y0
            generalize wx w5 u = w6 at *
            by_cases he : hs = zha
            · have qe : (hs == zha) = true := by simpa using he
              clear he
              go_wp2_with fail
              (with_reducible refine (cuAwake _ (Lib.hid (HT.out.below HB6.out))).mono ?_)
              rintro e wz ⟨rfl, hbz⟩
              have HBZ := Lib.hid (below_old HB6.out hbz)
              clear hbz
              go_wp2_with fail
              go_ret
              exact ⟨rfl, HBZ.out⟩
            have qe : (hs == zha) = false := by simpa using he
            have HNE : Hid (zha ≠ Cu.hsV (L.take m) ⟨zit, zpa, zti, zvo, zsp, zha⟩) := fun e => he (by rw [← HHS.out, ← HPZ.out]; exact e.symm)
            clear he
            obtain ⟨b, hb0, hv⟩ := tamper_v (Z := ⟨zit, zpa, zti, zvo, zsp, zha⟩) HG.out hml HNE.out
            have HVV := Lib.hid hv
            have qb : (b == 0) = false := by simpa using hb0
            have qb2 : (b != 0) = true := by simpa using hb0
            clear hv
            obtain ⟨r0, r1, r2, r3, r4, r5⟩ := HZ6.out.cells
            simp only at r0 r1 r2 r3 r4 r5
            obtain ⟨p0, p1, p2, p3, p4, p5⟩ := link_cells (row_slr HR6.out _ _ rfl) hml HXM.out
            simp only [Nat.zero_add] at p0 p1 p2 p3 p4 p5
            have fr := row_frozen HR6.out
            go_wp2_with fail
            have HSM := Lib.hid (set6o_slr (row_slr HR6.out _ _ rfl) hml ⟨zit, zpa, zti, zvo, zsp, zha⟩)
            have HGM := Lib.hid (set6o_grown w6 g2 (m * 6) ⟨zit, zpa, zti, zvo, zsp, zha⟩)
            unfold set6o at HSM HGM
            clear p0 p1 p2 p3 p4 p5 r0 r1 r2 r3 r4 r5 fr
            simp only at HSM HGM
            generalize (((((w6.setCell ⟨g2, m * 6, none⟩ (.string zit)).setCell ⟨g2, m * 6 + 1, none⟩ (.string zpa)).setCell ⟨g2, m * 6 + 2, none⟩ (.int .i64 zti)).setCell ⟨g2, m * 6 + 3, none⟩ (.int .i64 zvo)).setCell ⟨g2, m * 6 + 4, none⟩ (.string zsp)).setCell ⟨g2, m * 6 + 5, none⟩ (.int .u64 zha) = w7 at HSM HGM ⊢
            have HB7 : Hid (Below w.heap.size w w7) := HB6.out.grown HGM.out HB6.out.size (fun k hk => by cases hk; have := HG2.out; have := HWS.out; omega)
            have HFM : Hid (∀ e ∈ L.set m ⟨zit, zpa, zti, zvo, zsp, zha⟩, Fit_ e) := fun e he => by
              rcases List.mem_or_eq_of_mem_set he with q | q
              · exact HFT.out e q
              · rw [q]; exact HFZ.out
            (with_reducible refine (verify_w (L.set m ⟨zit, zpa, zti, zvo, zsp, zha⟩) _ L.length c2 (Lib.hid (by rw [List.length_set])) _ HSM HFM (by omega) (Lib.hid (HT.out.below HB7.out)) m b HVV).mono ?_)
            rintro e w8 ⟨rfl, hb⟩
            have HB8 := Lib.hid (below_old HB7.out hb)
            clear hb
            go_wp2_with fail
            (with_reducible refine (cuAwake _ (Lib.hid (HT.out.below HB8.out))).mono ?_)
            rintro e wz ⟨rfl, hbz⟩
            have HBZ := Lib.hid (below_old HB8.out hbz)
            clear hbz
            go_wp2_with fail
            go_ret
            exact ⟨rfl, HBZ.out⟩
          · go_wp2_with fail
            clear y0 y1 y2 y3 y4 y5
            have HZ5 : Hid (LBox (wr.setCell ⟨w2.heap.size, 4, none⟩ (.string ⟨#[111, 97, 107]⟩)) w2.heap.size ⟨X.it, X.pa, X.ti, X.vo, ⟨#[111, 97, 107]⟩, X.ha⟩) := by
              show LBox _ _ _
              have := Blk.set_ HBq.out 4 (.string ⟨#[111, 97, 107]⟩)
              simpa [LBox] using this
            have hgs := set_grown wr w2.heap.size 4 (.string ⟨#[111, 97, 107]⟩)
            have HB5 : Hid (Below w.heap.size w (wr.setCell ⟨w2.heap.size, 4, none⟩ (.string ⟨#[111, 97, 107]⟩))) := HB4.out.grown hgs HB4.out.size (fun k hk => by cases hk; exact HB2.out.size)
            have HR5 := Lib.hid (HRq.out.kept hgs (.inr (by simp [Value.ownBlock]; have := HG2L.out; omega)))
            have HFZ : Hid (Fit_ ⟨X.it, X.pa, X.ti, X.vo, ⟨#[111, 97, 107]⟩, X.ha⟩) := ⟨HFX.out.1, HFX.out.2, (by show (((⟨#[111, 97, 107]⟩ : ByteArray).size : Nat) : Int) ≤ 1000; decide), HFX.out.4, HFX.out.5, HFX.out.6, HFX.out.7⟩
            have HPZ : Hid (Cu.pvV (L.take m) ⟨X.it, X.pa, X.ti, X.vo, ⟨#[111, 97, 107]⟩, X.ha⟩ = y) := HPV.out.symm
            clear hgs HBq HRq fz
            generalize wr.setCell ⟨w2.heap.size, 4, none⟩ (.string ⟨#[111, 97, 107]⟩) = w5 at *
            obtain ⟨Z, hZ⟩ : ∃ Z : Lk, Z = ⟨X.it, X.pa, X.ti, X.vo, ⟨#[111, 97, 107]⟩, X.ha⟩ := ⟨_, rfl⟩
            have HZE := Lib.hid hZ
            rw [← hZ] at HZ5 HFZ HPZ
            clear hZ
            obtain ⟨zit, zpa, zti, zvo, zsp, zha⟩ := Z
            have hyr : 0 ≤ y ∧ y ≤ 18446744073709551615 := by
              rw [HPV.out]
              unfold Cu.pvV
              split
              · omega
              · rename_i p hp
                exact (HG.out.take m).al.ha _ (par_mem hp)
            obtain ⟨r0, r1, r2, r3, r4, r5⟩ := HZ5.out.cells
            simp only at r0 r1 r2 r3 r4 r5
            obtain ⟨hs, hhs⟩ : ∃ h, chS y (Cu.txS ⟨zit, zpa, zti, zvo, zsp, zha⟩) = h := ⟨_, rfl⟩
            have HHS := Lib.hid hhs
            clear hhs r0 r1 r2 r3 r4 r5
            have y0 := fun u => (LBox.below HZ5.out (wx_below w5 u)).cells
            simp only at y0
            refine wp_region_grows (by kernel_rfl) (by kernel_rfl) ?_
            repeat (go_big_quiet_step ((go_at_call 18; (with_reducible exact calls_grows (rhashL_eq zit zpa zti zvo zsp zha HFZ y hyr hs HHS _)))))
            refine wpQuiet_nil ?_
            rintro _ ⟨u, rfl⟩
            have HB6 := Lib.hid (below_old HB5.out (wx_below w5 u))
            have HR6 := Lib.hid (row_below HR5.out (wx_below w5 u))
            have HZ6 : Hid (LBox (wx w5 u) w2.heap.size ⟨zit, zpa, zti, zvo, zsp, zha⟩) := LBox.below HZ5.out (wx_below w5 u)
            clear y0
            generalize wx w5 u = w6 at *
            by_cases he : hs = zha
            · have qe : (hs == zha) = true := by simpa using he
              clear he
              go_wp2_with fail
              (with_reducible refine (cuAwake _ (Lib.hid (HT.out.below HB6.out))).mono ?_)
              rintro e wz ⟨rfl, hbz⟩
              have HBZ := Lib.hid (below_old HB6.out hbz)
              clear hbz
              go_wp2_with fail
              go_ret
              exact ⟨rfl, HBZ.out⟩
            have qe : (hs == zha) = false := by simpa using he
            have HNE : Hid (zha ≠ Cu.hsV (L.take m) ⟨zit, zpa, zti, zvo, zsp, zha⟩) := fun e => he (by rw [← HHS.out, ← HPZ.out]; exact e.symm)
            clear he
            obtain ⟨b, hb0, hv⟩ := tamper_v (Z := ⟨zit, zpa, zti, zvo, zsp, zha⟩) HG.out hml HNE.out
            have HVV := Lib.hid hv
            have qb : (b == 0) = false := by simpa using hb0
            have qb2 : (b != 0) = true := by simpa using hb0
            clear hv
            obtain ⟨r0, r1, r2, r3, r4, r5⟩ := HZ6.out.cells
            simp only at r0 r1 r2 r3 r4 r5
            obtain ⟨p0, p1, p2, p3, p4, p5⟩ := link_cells (row_slr HR6.out _ _ rfl) hml HXM.out
            simp only [Nat.zero_add] at p0 p1 p2 p3 p4 p5
            have fr := row_frozen HR6.out
            go_wp2_with fail
            have HSM := Lib.hid (set6o_slr (row_slr HR6.out _ _ rfl) hml ⟨zit, zpa, zti, zvo, zsp, zha⟩)
            have HGM := Lib.hid (set6o_grown w6 g2 (m * 6) ⟨zit, zpa, zti, zvo, zsp, zha⟩)
            unfold set6o at HSM HGM
            clear p0 p1 p2 p3 p4 p5 r0 r1 r2 r3 r4 r5 fr
            simp only at HSM HGM
            generalize (((((w6.setCell ⟨g2, m * 6, none⟩ (.string zit)).setCell ⟨g2, m * 6 + 1, none⟩ (.string zpa)).setCell ⟨g2, m * 6 + 2, none⟩ (.int .i64 zti)).setCell ⟨g2, m * 6 + 3, none⟩ (.int .i64 zvo)).setCell ⟨g2, m * 6 + 4, none⟩ (.string zsp)).setCell ⟨g2, m * 6 + 5, none⟩ (.int .u64 zha) = w7 at HSM HGM ⊢
            have HB7 : Hid (Below w.heap.size w w7) := HB6.out.grown HGM.out HB6.out.size (fun k hk => by cases hk; have := HG2.out; have := HWS.out; omega)
            have HFM : Hid (∀ e ∈ L.set m ⟨zit, zpa, zti, zvo, zsp, zha⟩, Fit_ e) := fun e he => by
              rcases List.mem_or_eq_of_mem_set he with q | q
              · exact HFT.out e q
              · rw [q]; exact HFZ.out
            (with_reducible refine (verify_w (L.set m ⟨zit, zpa, zti, zvo, zsp, zha⟩) _ L.length c2 (Lib.hid (by rw [List.length_set])) _ HSM HFM (by omega) (Lib.hid (HT.out.below HB7.out)) m b HVV).mono ?_)
            rintro e w8 ⟨rfl, hb⟩
            have HB8 := Lib.hid (below_old HB7.out hb)
            clear hb
            go_wp2_with fail
            (with_reducible refine (cuAwake _ (Lib.hid (HT.out.below HB8.out))).mono ?_)
            rintro e wz ⟨rfl, hbz⟩
            have HBZ := Lib.hid (below_old HB8.out hbz)
            clear hbz
            go_wp2_with fail
            go_ret
            exact ⟨rfl, HBZ.out⟩
          · have HX3 : Hid (bits BinOp.xor IntKind.u64 X.ha 1 ≠ Cu.hsV (L.take m) ⟨X.it, X.pa, X.ti, X.vo, X.sp, bits BinOp.xor IntKind.u64 X.ha 1⟩) := fun e => by
              have e2 : Cu.hsV (L.take m) ⟨X.it, X.pa, X.ti, X.vo, X.sp, bits BinOp.xor IntKind.u64 X.ha 1⟩ = X.ha := HXH.out.symm
              rw [e2] at e
              exact xor_u64 hxh.1 hxh.2 e
            go_wp2_with fail
            clear y0 y1 y2 y3 y4 y5
            have HZ5 : Hid (LBox (wr.setCell ⟨w2.heap.size, 5, none⟩ (.int .u64 (bits BinOp.xor IntKind.u64 X.ha 1))) w2.heap.size ⟨X.it, X.pa, X.ti, X.vo, X.sp, bits BinOp.xor IntKind.u64 X.ha 1⟩) := by
              show LBox _ _ _
              have := Blk.set_ HBq.out 5 (.int .u64 (bits BinOp.xor IntKind.u64 X.ha 1))
              simpa [LBox] using this
            have hgs := set_grown wr w2.heap.size 5 (.int .u64 (bits BinOp.xor IntKind.u64 X.ha 1))
            have HB5 : Hid (Below w.heap.size w (wr.setCell ⟨w2.heap.size, 5, none⟩ (.int .u64 (bits BinOp.xor IntKind.u64 X.ha 1)))) := HB4.out.grown hgs HB4.out.size (fun k hk => by cases hk; exact HB2.out.size)
            have HR5 := Lib.hid (HRq.out.kept hgs (.inr (by simp [Value.ownBlock]; have := HG2L.out; omega)))
            have HFZ : Hid (Fit_ ⟨X.it, X.pa, X.ti, X.vo, X.sp, bits BinOp.xor IntKind.u64 X.ha 1⟩) := ⟨HFX.out.1, HFX.out.2, HFX.out.3, HFX.out.4, HFX.out.5, HFX.out.6, HFX.out.7⟩
            have HPZ : Hid (Cu.pvV (L.take m) ⟨X.it, X.pa, X.ti, X.vo, X.sp, bits BinOp.xor IntKind.u64 X.ha 1⟩ = y) := HPV.out.symm
            clear hgs HBq HRq fz
            generalize wr.setCell ⟨w2.heap.size, 5, none⟩ (.int .u64 (bits BinOp.xor IntKind.u64 X.ha 1)) = w5 at *
            obtain ⟨Z, hZ⟩ : ∃ Z : Lk, Z = ⟨X.it, X.pa, X.ti, X.vo, X.sp, bits BinOp.xor IntKind.u64 X.ha 1⟩ := ⟨_, rfl⟩
            have HZE := Lib.hid hZ
            rw [← hZ] at HZ5 HFZ HPZ
            clear hZ
            obtain ⟨zit, zpa, zti, zvo, zsp, zha⟩ := Z
            have hyr : 0 ≤ y ∧ y ≤ 18446744073709551615 := by
              rw [HPV.out]
              unfold Cu.pvV
              split
              · omega
              · rename_i p hp
                exact (HG.out.take m).al.ha _ (par_mem hp)
            obtain ⟨r0, r1, r2, r3, r4, r5⟩ := HZ5.out.cells
            simp only at r0 r1 r2 r3 r4 r5
            have HNE : Hid (zha ≠ Cu.hsV (L.take m) ⟨zit, zpa, zti, zvo, zsp, zha⟩) := by
              have h := HX3.out
              rw [← HZE.out] at h
              have e3 : bits BinOp.xor IntKind.u64 X.ha 1 = zha := congrArg Lk.ha HZE.out.symm
              rw [e3] at h
              exact h
            go_quiet (fail)
            have HB6 := Lib.hid (below_drewN HB5.out nq)
            have HR6 := Lib.hid (row_below HR5.out (below_drewN (Below.refl w5.heap.size w5) nq))
            have HZ6 : Hid (LBox (w5.drewN nq) w2.heap.size ⟨zit, zpa, zti, zvo, zsp, zha⟩) := LBox.below HZ5.out (below_drewN (Below.refl w5.heap.size w5) nq)
            clear r0 r1 r2 r3 r4 r5
            generalize w5.drewN nq = w6 at *
            obtain ⟨b, hb0, hv⟩ := tamper_v (Z := ⟨zit, zpa, zti, zvo, zsp, zha⟩) HG.out hml HNE.out
            have HVV := Lib.hid hv
            have qb : (b == 0) = false := by simpa using hb0
            have qb2 : (b != 0) = true := by simpa using hb0
            clear hv
            obtain ⟨r0, r1, r2, r3, r4, r5⟩ := HZ6.out.cells
            simp only at r0 r1 r2 r3 r4 r5
            obtain ⟨p0, p1, p2, p3, p4, p5⟩ := link_cells (row_slr HR6.out _ _ rfl) hml HXM.out
            simp only [Nat.zero_add] at p0 p1 p2 p3 p4 p5
            have fr := row_frozen HR6.out
            go_wp2_with fail
            have HSM := Lib.hid (set6o_slr (row_slr HR6.out _ _ rfl) hml ⟨zit, zpa, zti, zvo, zsp, zha⟩)
            have HGM := Lib.hid (set6o_grown w6 g2 (m * 6) ⟨zit, zpa, zti, zvo, zsp, zha⟩)
            unfold set6o at HSM HGM
            clear p0 p1 p2 p3 p4 p5 r0 r1 r2 r3 r4 r5 fr
            simp only at HSM HGM
            generalize (((((w6.setCell ⟨g2, m * 6, none⟩ (.string zit)).setCell ⟨g2, m * 6 + 1, none⟩ (.string zpa)).setCell ⟨g2, m * 6 + 2, none⟩ (.int .i64 zti)).setCell ⟨g2, m * 6 + 3, none⟩ (.int .i64 zvo)).setCell ⟨g2, m * 6 + 4, none⟩ (.string zsp)).setCell ⟨g2, m * 6 + 5, none⟩ (.int .u64 zha) = w7 at HSM HGM ⊢
            have HB7 : Hid (Below w.heap.size w w7) := HB6.out.grown HGM.out HB6.out.size (fun k hk => by cases hk; have := HG2.out; have := HWS.out; omega)
            have HFM : Hid (∀ e ∈ L.set m ⟨zit, zpa, zti, zvo, zsp, zha⟩, Fit_ e) := fun e he => by
              rcases List.mem_or_eq_of_mem_set he with q | q
              · exact HFT.out e q
              · rw [q]; exact HFZ.out
            (with_reducible refine (verify_w (L.set m ⟨zit, zpa, zti, zvo, zsp, zha⟩) _ L.length c2 (Lib.hid (by rw [List.length_set])) _ HSM HFM (by omega) (Lib.hid (HT.out.below HB7.out)) m b HVV).mono ?_)
            rintro e w8 ⟨rfl, hb⟩
            have HB8 := Lib.hid (below_old HB7.out hb)
            clear hb
            go_wp2_with fail
            (with_reducible refine (cuAwake _ (Lib.hid (HT.out.below HB8.out))).mono ?_)
            rintro e wz ⟨rfl, hbz⟩
            have HBZ := Lib.hid (below_old HB8.out hbz)
            clear hbz
            go_wp2_with fail
            go_ret
            exact ⟨rfl, HBZ.out⟩
end Go.Proofs.YtpimmdmcmccbpaaDoor
