/- law54: CustodyNil, CustodyErrors. -/
import Derived.Test.YtpimmdmcmccbpaaDoorF0
namespace Go.Proofs.YtpimmdmcmccbpaaDoor
open Go.RowKit
set_option linter.unusedVariables false
open Cu (Lk Ls)
theorem lkok_of {it pa sp : ByteArray} {ti vo : Int} (h1 : it.size ≤ maxLen) (h2 : pa.size ≤ maxLen) (h3 : sp.size ≤ maxLen) (h4 : (Lit.int .i64 ti).wf = true) (h5 : (Lit.int .i64 vo).wf = true) : LkOk ⟨it, pa, ti, vo, sp, 0⟩ := by
  have := wfB h4
  have := wfB h5
  exact ⟨maxI h1, maxI h2, maxI h3, by simp only; omega, by simp only; omega, by simp only; omega, by simp only; omega⟩
set_option maxHeartbeats 4000000 in
theorem nil_add (it pa sp : ByteArray) (ti vo : Int) (w : World) : Calls Tryd.prog 16 #[.pointer none, .string it, .string pa, .string sp, .int .i64 ti, .int .i64 vo] w fun e w' => e = .returned (.tuple #[.int .u64 0, .int .i64 1]) ∧ w' = w := by
  go_enter Tryd.func16, Tryd.ntmps16
  go_wp2_with fail
  (try simp only [Exit.inBlock, Exit.then]); exact bodyPost_ret (results_tmp2 rfl _ _ _) rfl ⟨rfl, rfl⟩
set_option maxHeartbeats 4000000 in
theorem nil_trace (it : ByteArray) (w : World) : Calls Tryd.prog 25 #[.pointer none, .string it] w fun e w' => e = .returned (.tuple #[.slice none 0 0, .int .i64 1]) ∧ w' = w := by
  go_enter Tryd.func25, Tryd.ntmps25
  go_wp2_with fail
  (try simp only [Exit.inBlock, Exit.then]); exact bodyPost_ret (results_tmp2 rfl _ _ _) rfl ⟨rfl, rfl⟩
set_option maxHeartbeats 4000000 in
theorem nil_kids (it : ByteArray) (w : World) : Calls Tryd.prog 26 #[.pointer none, .string it] w fun e w' => e = .returned (.slice none 0 0) ∧ w' = w := by
  go_enter Tryd.func26, Tryd.ntmps26
  go_wp2_with fail
  go_ret; exact ⟨rfl, rfl⟩
set_option maxHeartbeats 4000000 in
theorem nil_links  (w : World) : Calls Tryd.prog 17 #[.pointer none] w fun e w' => e = .returned (.slice none 0 0) ∧ w' = w := by
  go_enter Tryd.func17, Tryd.ntmps17
  go_wp2_with fail
  go_ret; exact ⟨rfl, rfl⟩
set_option maxHeartbeats 4000000 in
theorem nil_root (it : ByteArray) (w : World) : Calls Tryd.prog 24 #[.pointer none, .string it] w fun e w' => e = .returned (.tuple #[.string ⟨#[]⟩, .bool false]) ∧ w' = w := by
  go_enter Tryd.func24, Tryd.ntmps24
  go_wp2_with fail
  (with_reducible refine (nil_trace it _).mono ?_)
  rintro e w1 ⟨rfl, hw⟩
  subst w1
  go_wp2_with fail
  (try simp only [Exit.inBlock, Exit.then])
  exact bodyPost_ret (results_tmp2 rfl _ _ _) rfl ⟨rfl, rfl⟩
set_option maxHeartbeats 8000000 in
theorem custodyNil_walk (it pa sp : ByteArray) (ti vo : Int) (ho : LkOk ⟨it, pa, ti, vo, sp, 0⟩) (w : World) (HT : Hid (TabOk w)) :
    Calls Tryd.prog 11 #[.agg #[.string it, .string pa, .string sp, .int .i64 ti, .int .i64 vo]] w fun e w' => e = .returned (.bool true) ∧ Below w.heap.size w w' := by
  have HAL := Lib.hid ((Below.refl w.heap.size w).alloc (Nat.le_refl _) (.cells #[.string it, .string pa, .string sp, .int .i64 ti, .int .i64 vo] 60))
  have HBX : Hid (OBox (w.alloc (.cells #[.string it, .string pa, .string sp, .int .i64 ti, .int .i64 vo] 60)) w.heap.size ⟨it, pa, ti, vo, sp, 0⟩) := Blk.new _ _ _
  clear ho
  go_enter Tryd.func11, Tryd.ntmps11
  go_wp2_with fail
  generalize w.alloc (.cells #[.string it, .string pa, .string sp, .int .i64 ti, .int .i64 vo] 60) = w1 at *
  obtain ⟨y0, y1, y2, y3, y4⟩ := HBX.out.cells
  simp only at y0 y1 y2 y3 y4
  (with_reducible refine (nil_add it pa sp ti vo _).mono ?_)
  rintro e w2 ⟨rfl, hw⟩
  subst w2
  go_wp2_with fail
  (with_reducible refine (nil_trace it _).mono ?_)
  rintro e w2 ⟨rfl, hw⟩
  subst w2
  go_wp2_with fail
  (with_reducible refine (nil_root it _).mono ?_)
  rintro e w2 ⟨rfl, hw⟩
  subst w2
  go_wp2_with fail
  (with_reducible refine (nil_kids it _).mono ?_)
  rintro e w2 ⟨rfl, hw⟩
  subst w2
  go_wp2_with fail
  (with_reducible refine (nil_links _).mono ?_)
  rintro e w2 ⟨rfl, hw⟩
  subst w2
  go_wp2_with fail
  (with_reducible refine (awake54 _ (Lib.hid (HT.out.below HAL.out))).mono ?_)
  rintro e wz ⟨rfl, hbz⟩
  have HBZ := Lib.hid (below_old HAL.out hbz)
  clear hbz
  go_wp2_with fail
  go_ret
  exact ⟨rfl, HBZ.out⟩
set_option maxRecDepth 100000 in
set_option maxHeartbeats 16000000 in
theorem custodyErrors_walk (A : Option Addr) (c : Nat) (l : Ls) (it pa sp : ByteArray) (ti vo : Int) (ho : LkOk ⟨it, pa, ti, vo, sp, 0⟩) (w : World) (HS : Hid (SlR w A (orowL l))) (HO : Hid (∀ x ∈ l, LkOk x)) (HZ : Hid (∀ x ∈ l, x.ha = 0)) (hl : (l.length : Int) ≤ 9223372036854775807) (HT : Hid (TabOk w)) :
    Calls Tryd.prog 9 #[.slice A l.length c, .agg #[.string it, .string pa, .string sp, .int .i64 ti, .int .i64 vo]] w fun e w' => e = .returned (.bool true) ∧ Below w.heap.size w w' := by
  obtain ⟨o1, o2, o3, o4, o5, o6, o7⟩ := ho
  simp only at o1 o2 o3 o4 o5 o6 o7
  cases hsh : shortB l with
  | false =>
    have HSH := Lib.hid hsh
    clear hsh
    have HAL := Lib.hid ((Below.refl w.heap.size w).alloc (Nat.le_refl _) (.cells #[.string it, .string pa, .string sp, .int .i64 ti, .int .i64 vo] 60))
    have HBX : Hid (OBox (w.alloc (.cells #[.string it, .string pa, .string sp, .int .i64 ti, .int .i64 vo] 60)) w.heap.size ⟨it, pa, ti, vo, sp, 0⟩) := Blk.new _ _ _
    go_enter Tryd.func9, Tryd.ntmps9
    go_wp2_with fail
    generalize w.alloc (.cells #[.string it, .string pa, .string sp, .int .i64 ti, .int .i64 vo] 60) = w1 at *
    obtain ⟨y0, y1, y2, y3, y4⟩ := HBX.out.cells
    simp only at y0 y1 y2 y3 y4
    have HS1 := Lib.hid (HS.out.below HAL.out)
    (with_reducible refine (small_any l A c _ HS1 HO hl _ HSH).mono ?_)
    rintro e w2 ⟨rfl, hw2⟩
    subst w2
    go_wp2_with fail
    (with_reducible refine (awake54 _ (Lib.hid (HT.out.below HAL.out))).mono ?_)
    rintro e wz ⟨rfl, hbz⟩
    have HBZ := Lib.hid (below_old HAL.out hbz)
    clear hbz
    go_wp2_with fail
    go_ret
    exact ⟨rfl, HBZ.out⟩
  | true =>
    have HSH := Lib.hid hsh
    have HOP := Lib.hid (op_ok hsh HO.out HZ.out)
    clear hsh
    by_cases g1 : (100 : Int) < (it.size : Int)
    · have HAL := Lib.hid ((Below.refl w.heap.size w).alloc (Nat.le_refl _) (.cells #[.string it, .string pa, .string sp, .int .i64 ti, .int .i64 vo] 60))
      have HBX : Hid (OBox (w.alloc (.cells #[.string it, .string pa, .string sp, .int .i64 ti, .int .i64 vo] 60)) w.heap.size ⟨it, pa, ti, vo, sp, 0⟩) := Blk.new _ _ _
      go_enter Tryd.func9, Tryd.ntmps9
      go_wp2_with fail
      generalize w.alloc (.cells #[.string it, .string pa, .string sp, .int .i64 ti, .int .i64 vo] 60) = w1 at *
      obtain ⟨y0, y1, y2, y3, y4⟩ := HBX.out.cells
      simp only at y0 y1 y2 y3 y4
      have HS1 := Lib.hid (HS.out.below HAL.out)
      (with_reducible refine (small_any l A c _ HS1 HO hl _ HSH).mono ?_)
      rintro e w2 ⟨rfl, hw2⟩
      subst w2
      go_wp2_with fail
      (with_reducible refine (awake54 _ (Lib.hid (HT.out.below HAL.out))).mono ?_)
      rintro e wz ⟨rfl, hbz⟩
      have HBZ := Lib.hid (below_old HAL.out hbz)
      clear hbz
      go_wp2_with fail
      go_ret
      exact ⟨rfl, HBZ.out⟩
    by_cases g2 : (100 : Int) < (pa.size : Int)
    · have HAL := Lib.hid ((Below.refl w.heap.size w).alloc (Nat.le_refl _) (.cells #[.string it, .string pa, .string sp, .int .i64 ti, .int .i64 vo] 60))
      have HBX : Hid (OBox (w.alloc (.cells #[.string it, .string pa, .string sp, .int .i64 ti, .int .i64 vo] 60)) w.heap.size ⟨it, pa, ti, vo, sp, 0⟩) := Blk.new _ _ _
      go_enter Tryd.func9, Tryd.ntmps9
      go_wp2_with fail
      generalize w.alloc (.cells #[.string it, .string pa, .string sp, .int .i64 ti, .int .i64 vo] 60) = w1 at *
      obtain ⟨y0, y1, y2, y3, y4⟩ := HBX.out.cells
      simp only at y0 y1 y2 y3 y4
      have HS1 := Lib.hid (HS.out.below HAL.out)
      (with_reducible refine (small_any l A c _ HS1 HO hl _ HSH).mono ?_)
      rintro e w2 ⟨rfl, hw2⟩
      subst w2
      go_wp2_with fail
      (with_reducible refine (awake54 _ (Lib.hid (HT.out.below HAL.out))).mono ?_)
      rintro e wz ⟨rfl, hbz⟩
      have HBZ := Lib.hid (below_old HAL.out hbz)
      clear hbz
      go_wp2_with fail
      go_ret
      exact ⟨rfl, HBZ.out⟩
    by_cases g3 : (100 : Int) < (sp.size : Int)
    · have HAL := Lib.hid ((Below.refl w.heap.size w).alloc (Nat.le_refl _) (.cells #[.string it, .string pa, .string sp, .int .i64 ti, .int .i64 vo] 60))
      have HBX : Hid (OBox (w.alloc (.cells #[.string it, .string pa, .string sp, .int .i64 ti, .int .i64 vo] 60)) w.heap.size ⟨it, pa, ti, vo, sp, 0⟩) := Blk.new _ _ _
      go_enter Tryd.func9, Tryd.ntmps9
      go_wp2_with fail
      generalize w.alloc (.cells #[.string it, .string pa, .string sp, .int .i64 ti, .int .i64 vo] 60) = w1 at *
      obtain ⟨y0, y1, y2, y3, y4⟩ := HBX.out.cells
      simp only at y0 y1 y2 y3 y4
      have HS1 := Lib.hid (HS.out.below HAL.out)
      (with_reducible refine (small_any l A c _ HS1 HO hl _ HSH).mono ?_)
      rintro e w2 ⟨rfl, hw2⟩
      subst w2
      go_wp2_with fail
      (with_reducible refine (awake54 _ (Lib.hid (HT.out.below HAL.out))).mono ?_)
      rintro e wz ⟨rfl, hbz⟩
      have HBZ := Lib.hid (below_old HAL.out hbz)
      clear hbz
      go_wp2_with fail
      go_ret
      exact ⟨rfl, HBZ.out⟩
    have HF : Hid (Fit_ ⟨it, pa, ti, vo, sp, 0⟩) := fit_small ⟨by omega, by omega, by omega, o4, o5, o6, o7⟩
    have HF0 : Hid (Fit_ ⟨it, pa, ti, 0, sp, 0⟩) := fit_small ⟨by omega, by omega, by omega, o4, o5, by omega, by omega⟩
    have HAL := Lib.hid ((Below.refl w.heap.size w).alloc (Nat.le_refl _) (.cells #[.string it, .string pa, .string sp, .int .i64 ti, .int .i64 vo] 60))
    have HBX : Hid (OBox (w.alloc (.cells #[.string it, .string pa, .string sp, .int .i64 ti, .int .i64 vo] 60)) w.heap.size ⟨it, pa, ti, vo, sp, 0⟩) := Blk.new _ _ _
    go_enter Tryd.func9, Tryd.ntmps9
    go_wp2_with fail
    generalize w.alloc (.cells #[.string it, .string pa, .string sp, .int .i64 ti, .int .i64 vo] 60) = w1 at *
    obtain ⟨y0, y1, y2, y3, y4⟩ := HBX.out.cells
    simp only at y0 y1 y2 y3 y4
    have HS1 := Lib.hid (HS.out.below HAL.out)
    (with_reducible refine (small_any l A c _ HS1 HO hl _ HSH).mono ?_)
    rintro e w2 ⟨rfl, hw2⟩
    subst w2
    go_wp2_with fail
    have HT1 := Lib.hid (HT.out.below HAL.out)
    have HWL : Hid (w.heap.size < w1.heap.size) := Blk.lt HBX.out
    (with_reducible refine (register_any l A c _ HS1 HOP hl HT1).mono ?_)
    rintro e w2 ⟨rfl, v1, hrg⟩
    have HR2 := Lib.hid hrg
    clear hrg y0 y1 y2 y3 y4
    have hlen := HR2.out.len
    obtain ⟨L, hL⟩ : ∃ L, Cu.reg [] l = L := ⟨_, rfl⟩
    rw [hL] at HR2 hlen
    clear hL
    go_wp2_with fail
    (with_reducible refine (links_w HR2).mono ?_)
    rintro e w3 ⟨vL, rfl, hrow, hb⟩
    obtain ⟨A3, c3, hv⟩ := row_form hrow
    subst hv
    have hc3 := row_cap hrow
    have HX3 := Lib.hid hrow
    have HR3 := Lib.hid (HR2.out.below hb)
    have HBb := Lib.hid hb
    clear hrow hb
    have HO3 : Hid (OBox w3 w.heap.size ⟨it, pa, ti, vo, sp, 0⟩) := Blk.below (Blk.below HBX.out HR2.out.bel) HBb.out
    have HCS3 : Hid (∀ j, CS (w1.heap.size + 2) v1 w1.heap.size (w1.heap.size + 1) j → w1.heap.size ≤ j ∧ j < w2.heap.size) := fun j hj => HR2.out.c.cs_lt hj
    clear HBb
    obtain ⟨y0, y1, y2, y3, y4⟩ := HO3.out.cells
    simp only at y0 y1 y2 y3 y4
    obtain ⟨H, hH⟩ : ∃ H, Cu.adH L ⟨it, pa, ti, vo, sp, 0⟩ = H := ⟨_, rfl⟩
    obtain ⟨E, hE⟩ : ∃ E, Cu.chE L ⟨it, pa, ti, vo, sp, 0⟩ = E := ⟨_, rfl⟩
    obtain ⟨L', hL'⟩ : ∃ L', Cu.adL L ⟨it, pa, ti, vo, sp, 0⟩ = L' := ⟨_, rfl⟩
    have HH := Lib.hid hH
    have HE := Lib.hid hE
    have HL' := Lib.hid hL'
    clear hH hE hL'
    go_wp2_with fail
    (with_reducible refine (cadd_eq it pa sp ti vo HF HR3 HT1 H E HH HE HL').mono ?_)
    rintro e w4 ⟨rfl, v4, hrg, hcn, -⟩
    have HR4 := Lib.hid hrg
    have HX4 := Lib.hid (row_cng HX3.out hcn (fun j hj g => by have := (HX3.out.lt j hj).1; have := (HCS3.out j g).2; omega))
    have HO4 : Hid (OBox w4 w.heap.size ⟨it, pa, ti, vo, sp, 0⟩) := Blk.cng HO3.out hcn (fun g => by have := (HCS3.out _ g).1; have := HWL.out; omega)
    clear hrg hcn HX3 HO3 y0 y1 y2 y3 y4
    go_wp2_with fail
    (with_reducible refine (links_w HR4).mono ?_)
    rintro e w5 ⟨vL, rfl, hrow, hb⟩
    obtain ⟨A5, c5, hv⟩ := row_form hrow
    subst hv
    have hc5 := row_cap hrow
    have HY5 := Lib.hid hrow
    have HR5 := Lib.hid (HR4.out.below hb)
    have HBb := Lib.hid hb
    clear hrow hb
    have HX5 := Lib.hid (row_below HX4.out HBb.out)
    have HO5 : Hid (OBox w5 w.heap.size ⟨it, pa, ti, vo, sp, 0⟩) := Blk.below HO4.out HBb.out
    have HCS5 : Hid (∀ j, CS (w1.heap.size + 2) v4 w1.heap.size (w1.heap.size + 1) j → w1.heap.size ≤ j ∧ j < w4.heap.size) := fun j hj => HR4.out.c.cs_lt hj
    clear HBb HX4 HO4
    have HSX := Lib.hid (row_slr HX5.out A3 c3 rfl)
    by_cases hz : E = 0
    rotate_left
    · have hz2 : (E == 0) = false := by simpa using hz
      have hH0 : H = 0 := by rw [← HH.out]; exact Cu.adH_no (by rw [HE.out]; exact hz)
      have hLL : L' = L := by rw [← HL'.out]; exact Cu.adL_no (by rw [HE.out]; exact hz)
      subst hH0 hLL
      have HSY := Lib.hid (row_slr HY5.out A5 c5 rfl)
      go_wp2_with fail
      (with_reducible refine (same_links A3 A5 c3 c5 L' _ HSX HSY (by omega)).mono ?_)
      rintro e w6 ⟨rfl, hb⟩
      have HB6 := Lib.hid (below_old (below_old HAL.out HR5.out.bel) hb)
      clear hb
      go_wp2_with fail
      (with_reducible refine (awake54 _ (Lib.hid (HT.out.below HB6.out))).mono ?_)
      rintro e wz ⟨rfl, hbz⟩
      have HBZ := Lib.hid (below_old HB6.out hbz)
      clear hbz
      go_wp2_with fail
      go_ret
      exact ⟨rfl, HBZ.out⟩
    subst hz
    have HCAN := Lib.hid (Cu.can_of HE.out)
    have HAPP : Hid (L' = L ++ [⟨it, pa, ti, vo, sp, H⟩]) := by show _ = _; rw [← HL'.out]; exact adL_of HE.out HH.out
    have HTK : Hid (L'.take L.length = L) := by show _ = _; rw [HAPP.out]; simp
    have hn' : L'.length = L.length + 1 := by rw [HAPP.out]; simp
    obtain ⟨n1, hn1⟩ : ∃ n, L'.length = n := ⟨_, rfl⟩
    have HN1 := Lib.hid hn1
    have HLT : Hid (L.length < L'.length) := by show _ < _; omega
    have HLAST : Hid (L'[L.length]'HLT.out = ⟨it, pa, ti, vo, sp, H⟩) := by
      show _ = _
      have := HAPP.out
      subst this
      simp
    rw [hn1] at HY5 hc5 hn'
    have HSY : Hid (SlR w5 A5 (lrowL L')) := row_slr HY5.out A5 c5 rfl
    have q1 : IntKind.i64.wrap ((L.length : Int) + 1) = (n1 : Int) := by simp only [IntKind.wrap_i64]; omega
    have q2 : (L.length : Int) ≤ (c5 : Int) := by omega
    have q3 : (L.length : Int) < (n1 : Int) := by omega
    have hl5 : (n1 : Int) ≤ 1025 := by omega
    have HR7' : Hid (Cu.chE L' ⟨it, pa, ti, 0, sp, 0⟩ = 7) := by show _ = _; rw [HAPP.out]; exact Cu.chE_again (y := ⟨it, pa, ti, 0, sp, 0⟩) HCAN.out rfl rfl ⟨it, pa, ti, vo, sp, H⟩ rfl
    clear hn1 hn'
    rw [HN1.out]
    obtain ⟨b5, off5, hA5, hb5, -⟩ := HSY.out.link HLT.out
    subst hA5
    have HCY : Hid (∀ w', Below w5.heap.size w5 w' → w'.cell? ⟨b5, off5 + L.length * 6, none⟩ = some (.string it) ∧ w'.cell? ⟨b5, off5 + L.length * 6 + 1, none⟩ = some (.string pa) ∧ w'.cell? ⟨b5, off5 + L.length * 6 + 2, none⟩ = some (.int .i64 ti) ∧ w'.cell? ⟨b5, off5 + L.length * 6 + 3, none⟩ = some (.int .i64 vo) ∧ w'.cell? ⟨b5, off5 + L.length * 6 + 4, none⟩ = some (.string sp) ∧ w'.cell? ⟨b5, off5 + L.length * 6 + 5, none⟩ = some (.int .u64 H)) := fun w' hb => by
      obtain ⟨b', o', e1, -, e2⟩ := (HSY.out.below hb).link HLT.out
      simp only [Option.some.injEq, Addr.mk.injEq, and_true] at e1
      obtain ⟨rfl, rfl⟩ := e1
      rw [HLAST.out] at e2
      exact e2
    have HSYT : Hid (∀ w', Below w5.heap.size w5 w' → SlR w' (some ⟨b5, off5, none⟩) (lrowL L)) := fun w' hb => by
      have := (HSY.out.take L.length).below hb
      rwa [HTK.out] at this
    go_wp2_with fail
    have y0 := fun u => HCY.out _ (wx_below w5 u)
    have y1 := fun u => (OBox.cells (Blk.below HO5.out (wx_below w5 u)))
    simp only at y1
    refine wp_region_grows (by kernel_rfl) (by kernel_rfl) ?_
    repeat (go_big_quiet_step ((go_at_call 31; (with_reducible exact calls_grows (same_links _ A3 c5 c3 L _ (Lib.hid (HSYT.out _ (wx_below w5 _))) (Lib.hid (HSX.out.below (wx_below w5 _))) (by omega))))))
    refine wpQuiet_nil ?_
    rintro _ ⟨u, rfl⟩
    have HR6 := Lib.hid (HR5.out.below (wx_below w5 u))
    have HY6 := Lib.hid (row_below HY5.out (wx_below w5 u))
    have HO6 : Hid (OBox (wx w5 u) w.heap.size ⟨it, pa, ti, vo, sp, 0⟩) := Blk.below HO5.out (wx_below w5 u)
    clear y0 y1 HCY HSYT HSX HX5 HY5 HO5 HSY HR5
    generalize wx w5 u = w6 at *
    obtain ⟨y0, y1, y2, y3, y4⟩ := HO6.out.cells
    simp only at y0 y1 y2 y3 y4
    go_wp2_with fail
    (with_reducible refine (cadd_eq it pa sp ti 0 HF0 HR6 HT1 0 7 (Lib.hid (Cu.adH_no (by rw [HR7'.out]; decide))) HR7' (L' := L') (Lib.hid (Cu.adL_no (by rw [HR7'.out]; decide)))).mono ?_)
    rintro e w7 ⟨rfl, v7, hrg, hcn, -⟩
    have HR7 := Lib.hid hrg
    have HY7 := Lib.hid (row_cng HY6.out hcn (fun j hj g => by have := (HY6.out.lt j hj).1; have := (HCS5.out j g).2; omega))
    clear hrg hcn HY6 HO6 y0 y1 y2 y3 y4
    go_wp2_with fail
    (with_reducible refine (links_w HR7).mono ?_)
    rintro e w8 ⟨vL, rfl, hrow, hb⟩
    obtain ⟨A8, c8, hv⟩ := row_form hrow
    subst hv
    have HA8 := Lib.hid (row_slr hrow A8 c8 rfl)
    have HR8 := Lib.hid (HR7.out.below hb)
    have HY8 := Lib.hid (row_below HY7.out hb)
    clear hrow hb HY7
    have hsl := same_links A8 (some ⟨b5, off5, none⟩) c8 c5 L' w8 HA8 (Lib.hid (row_slr HY8.out _ _ rfl)) (by rw [HN1.out]; omega)
    rw [HN1.out] at hsl
    have HSL := Lib.hid hsl
    clear hsl
    rw [HN1.out]
    go_wp2_with fail
    (with_reducible refine HSL.out.mono ?_)
    rintro e w9 ⟨rfl, hb⟩
    have HB9 := Lib.hid (below_old (below_old HAL.out HR8.out.bel) hb)
    clear hb
    go_wp2_with fail
    (with_reducible refine (awake54 _ (Lib.hid (HT.out.below HB9.out))).mono ?_)
    rintro e wz ⟨rfl, hbz⟩
    have HBZ := Lib.hid (below_old HB9.out hbz)
    clear hbz
    go_wp2_with fail
    go_ret
    exact ⟨rfl, HBZ.out⟩
end Go.Proofs.YtpimmdmcmccbpaaDoor
