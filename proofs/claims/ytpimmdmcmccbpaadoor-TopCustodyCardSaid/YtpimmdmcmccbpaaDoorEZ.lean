/- law54: register; CustodyAdds, CustodyVerifies, CustodySound. -/
import Derived.Test.YtpimmdmcmccbpaaDoorEY
namespace Go.Proofs.YtpimmdmcmccbpaaDoor
open Go.RowKit
set_option linter.unusedVariables false
open Cu (Lk Ls)
/-- A world with the operations' cells. -/
theorem op_cells {w : World} {b off : Nat} {l : Ls} (h : SlR w (some ⟨b, off, none⟩) (orowL l)) {k : Nat} (hk : k < l.length) {e : Lk} (he : l[k] = e) :
    w.cell? ⟨b, off + k * 5, none⟩ = some (.string e.it) ∧ w.cell? ⟨b, off + k * 5 + 1, none⟩ = some (.string e.pa) ∧ w.cell? ⟨b, off + k * 5 + 2, none⟩ = some (.string e.sp) ∧ w.cell? ⟨b, off + k * 5 + 3, none⟩ = some (.int .i64 e.ti) ∧ w.cell? ⟨b, off + k * 5 + 4, none⟩ = some (.int .i64 e.vo) := by
  obtain ⟨b', o', e1, -, e2⟩ := h.op hk
  simp only [Option.some.injEq, Addr.mk.injEq, and_true] at e1
  obtain ⟨rfl, rfl⟩ := e1
  rw [he] at e2
  exact e2
theorem adL_at {l : Ls} {k : Nat} (h : k < l.length) {e : Lk} (he : l[k] = e) (ho : OpOk e) : Cu.adL (Cu.reg [] (l.take k)) ⟨e.it, e.pa, e.ti, e.vo, e.sp, 0⟩ = Cu.reg [] (l.take (k + 1)) := by
  rw [Cu.reg_succ h, he, ← op_eq ho]
set_option maxRecDepth 100000 in
set_option maxHeartbeats 16000000 in
theorem register_any (l : Ls) (A : Option Addr) (c : Nat) (w : World) (HS : Hid (SlR w A (orowL l))) (HO : Hid (∀ x ∈ l, OpOk x)) (hl : (l.length : Int) ≤ 9223372036854775807) (HT : Hid (TabOk w)) :
    Calls Tryd.prog 34 #[.slice A l.length c] w fun e w' => e = .returned (.pointer (some ⟨w.heap.size + 2, 0, none⟩)) ∧ ∃ v, RgW w w' (w.heap.size + 2) (Cu.reg [] l) v w.heap.size (w.heap.size + 1) := by
  go_enter Tryd.func34, Tryd.ntmps34
  go_wp2_with fail
  (with_reducible refine (cnew_any _).mono ?_)
  rintro e w1 ⟨rfl, hw⟩
  have HG1 := Lib.hid (RgW.new w)
  rw [← hw] at HG1
  clear hw
  go_wp2_with fail
  go_loopw [4] (fun i wr => ∃ (k : Nat), i = .int .i64 k ∧ k ≤ l.length ∧ Hid (∃ v, RgW w wr (w.heap.size + 2) (Cu.reg [] (l.take k)) v w.heap.size (w.heap.size + 1))) (fun i _ => l.length - (intOf i).toNat)
  case atStart => exact ⟨0, rfl, by omega, ⟨_, HG1.out⟩⟩
  case round =>
    clear HG1
    obtain ⟨k, rfl, hk, HI⟩ := hrel
    obtain ⟨v, hv⟩ := HI.out
    have HR := Lib.hid hv
    clear hv HI
    by_cases h : k < l.length
    · obtain ⟨e, he⟩ : ∃ e, l[k] = e := ⟨_, rfl⟩
      have HOK := Lib.hid (HO.out _ (List.getElem_mem h))
      rw [he] at HOK
      have HEK := Lib.hid he
      have HNX := Lib.hid (adL_at h he HOK.out)
      clear he
      obtain ⟨bb, off, hA, hbl, -⟩ := HS.out.op h
      subst hA
      have zk : (k : Int) < (l.length : Int) := by omega
      have HF : Hid (Fit_ ⟨e.it, e.pa, e.ti, e.vo, e.sp, 0⟩) := by show Fit_ _; rw [← op_eq HOK.out]; exact HOK.out.f
      have y0 := fun u => op_cells (HS.out.below (below_old HR.out.bel (wx_below wr u))) h HEK.out
      go_wp2_with fail
      refine wp_region_grows_tail 26 (by kernel_rfl) (by kernel_rfl) ?_
      simp only [List.take_succ_cons, List.take_zero, List.drop_succ_cons, List.drop_zero]
      repeat (go_big_quiet_step (fail))
      refine wpQuiet_nil ?_
      rintro _ ⟨u, rfl⟩
      have HR2 := Lib.hid (HR.out.below (wx_below wr u))
      clear y0
      generalize wx wr u = w2 at *
      go_wp2_with fail
      (with_reducible refine (cadd_eq e.it e.pa e.sp e.ti e.vo HF HR2 HT _ _ (Lib.hid rfl) (Lib.hid rfl) (Lib.hid rfl)).mono ?_)
      rintro e' w3 ⟨rfl, v3, hrg, -, -⟩
      rw [HNX.out] at hrg
      have HN : Hid (∃ v, RgW w w3 (w.heap.size + 2) (Cu.reg [] (l.take (k + 1))) v w.heap.size (w.heap.size + 1)) := ⟨_, hrg⟩
      clear hrg
      go_wp2_with fail
      go_roundw
      case rel => exact ⟨k + 1, by go_num, by omega, HN⟩
      case measure => simp [intOf]; omega
    · have hE : l.take k = l := List.take_of_length_le (by omega)
      rw [hE] at HR
      have zk : (l.length : Int) ≤ (k : Int) := by omega
      clear hE
      go_wp2_with fail
      go_ret
      exact ⟨rfl, _, HR.out⟩
theorem op_ok {l : Ls} (h : shortB l = true) (ho : ∀ x ∈ l, LkOk x) (h0 : ∀ x ∈ l, x.ha = 0) : ∀ x ∈ l, OpOk x := fun x hx => ⟨short_fit h ho x hx, h0 x hx⟩
theorem reg_good (L : Ls) : ∀ l : Ls, Cu.Good L → Cu.Good (Cu.reg L l) := fun l => by
  induction l generalizing L with
  | nil => exact id
  | cons a r ih => exact fun h => ih _ (h.add a)
/-- Where CustodyAdds stands. -/
structure AdI (w wr : World) (L : Ls) (v tv : Value) : Prop where
  rg : RgW w wr (w.heap.size + 2) L v w.heap.size (w.heap.size + 1)
  t : LRow wr tv L
  ap : ∀ j, tv.ownBlock = some j → ¬ CS (w.heap.size + 2) v w.heap.size (w.heap.size + 1) j
theorem AdI.below {w wr w1 : World} {L : Ls} {v tv : Value} (h : AdI w wr L v tv) (hb : Below wr.heap.size wr w1) : AdI w w1 L v tv := ⟨h.rg.below hb, h.t.below hb, h.ap⟩
theorem AdI.step {w w1 w2 w3 : World} {L L' : Ls} {v tv v' tv' : Value} (h : AdI w w1 L v tv) (hr : RgW w w2 (w.heap.size + 2) L' v' w.heap.size (w.heap.size + 1)) (hc : Cng w1 w2 (CS (w.heap.size + 2) v w.heap.size (w.heap.size + 1)))
    (hf : v'.ownBlock = v.ownBlock ∨ ∀ k, v'.ownBlock = some k → w1.heap.size ≤ k) (ht : LRow w3 tv' L') (hb : Below w2.heap.size w2 w3) (hf2 : tv' = tv ∨ ∀ k, tv'.ownBlock = some k → w2.heap.size ≤ k) : AdI w w3 L' v' tv' := by
  refine ⟨hr.below hb, ht, fun j hj g => ?_⟩
  rcases hf2 with e | hf2
  · subst e
    refine h.ap j hj ?_
    rcases g with g | g | g | g
    · exact .inl g
    · exact .inr (.inl g)
    · exact .inr (.inr (.inl g))
    · rcases hf with hf | hf
      · exact .inr (.inr (.inr (by rw [← hf]; exact g)))
      · have := hf j g
        have := (h.t.lt j hj).2
        omega
  · have := hf2 j hj
    have := (hr.c.cs_lt g).2
    omega
theorem AdI.row {w w1 w2 : World} {L : Ls} {v tv : Value} (h : AdI w w1 L v tv) (hc : Cng w1 w2 (CS (w.heap.size + 2) v w.heap.size (w.heap.size + 1))) : LRow w2 tv L := row_cng h.t hc h.ap
def OBox (w : World) (g : Nat) (x : Lk) : Prop := Blk w g 60 #[.string x.it, .string x.pa, .string x.sp, .int .i64 x.ti, .int .i64 x.vo]
theorem OBox.cells {w : World} {g : Nat} {x : Lk} (h : OBox w g x) : w.cell? ⟨g, 0, none⟩ = some (.string x.it) ∧ w.cell? ⟨g, 1, none⟩ = some (.string x.pa) ∧ w.cell? ⟨g, 2, none⟩ = some (.string x.sp) ∧ w.cell? ⟨g, 3, none⟩ = some (.int .i64 x.ti) ∧ w.cell? ⟨g, 4, none⟩ = some (.int .i64 x.vo) :=
  ⟨Blk.cell h 0, Blk.cell h 1, Blk.cell h 2, Blk.cell h 3, Blk.cell h 4⟩
set_option maxRecDepth 100000 in
set_option maxHeartbeats 16000000 in
theorem custodyAdds_walk (A : Option Addr) (c : Nat) (l : Ls) (w : World) (HS : Hid (SlR w A (orowL l))) (HO : Hid (∀ x ∈ l, LkOk x)) (HZ : Hid (∀ x ∈ l, x.ha = 0)) (hl : (l.length : Int) ≤ 9223372036854775807) (HT : Hid (TabOk w)) :
    Calls Tryd.prog 5 #[.slice A l.length c] w fun e w' => e = .returned (.bool true) ∧ Below w.heap.size w w' := by
  cases hsh : shortB l with
  | false =>
    have HSH := Lib.hid hsh
    clear hsh
    go_enter Tryd.func5, Tryd.ntmps5
    go_wp2_with fail
    (with_reducible refine (small_any l A c _ HS HO hl _ HSH).mono ?_)
    rintro e w1 ⟨rfl, hw1⟩
    subst w1
    go_wp2_with fail
    (with_reducible refine (awake54 _ (Lib.hid (HT.out.below (Below.refl _ _)))).mono ?_)
    rintro e wz ⟨rfl, hbz⟩
    have HBZ := Lib.hid (below_old (Below.refl _ _) hbz)
    clear hbz
    go_wp2_with fail
    go_ret
    exact ⟨rfl, HBZ.out⟩
  | true =>
    have HSH := Lib.hid hsh
    have HOP := Lib.hid (op_ok hsh HO.out HZ.out)
    clear hsh
    go_enter Tryd.func5, Tryd.ntmps5
    go_wp2_with fail
    (with_reducible refine (small_any l A c _ HS HO hl _ HSH).mono ?_)
    rintro e w1 ⟨rfl, hw1⟩
    subst w1
    go_wp2_with fail
    (with_reducible refine (cnew_any _).mono ?_)
    rintro e w1 ⟨rfl, hw⟩
    have HG1 := Lib.hid (RgW.new w)
    rw [← hw] at HG1
    clear hw
    go_wp2_with fail
    go_loopw [4, 5] (fun t i wr => ∃ (k : Nat), i = .int .i64 k ∧ k ≤ l.length ∧ Hid (∃ v, AdI w wr (Cu.reg [] (l.take k)) v t)) (fun _ i _ => l.length - (intOf i).toNat)
    case atStart => exact ⟨0, rfl, by omega, ⟨_, HG1.out, World.ownsRow_nil _ _ _ _, fun j h => by cases h⟩⟩
    case round =>
      clear HG1
      obtain ⟨k, rfl, hk, HI⟩ := hrel
      obtain ⟨v, hv⟩ := HI.out
      have HR := Lib.hid hv
      clear hv HI
      by_cases h : k < l.length
      · obtain ⟨e, he⟩ : ∃ e, l[k] = e := ⟨_, rfl⟩
        have HOK := Lib.hid (HOP.out _ (List.getElem_mem h))
        rw [he] at HOK
        have HEK := Lib.hid he
        have HNX := Lib.hid (adL_at h he HOK.out)
        clear he
        obtain ⟨bb, off, hA, hbl, -⟩ := HS.out.op h
        subst hA
        have zk : (k : Int) < (l.length : Int) := by omega
        have HF : Hid (Fit_ ⟨e.it, e.pa, e.ti, e.vo, e.sp, 0⟩) := by show Fit_ _; rw [← op_eq HOK.out]; exact HOK.out.f
        obtain ⟨L, hL⟩ : ∃ L, Cu.reg [] (l.take k) = L := ⟨_, rfl⟩
        obtain ⟨L', hL'⟩ : ∃ L', Cu.reg [] (l.take (k + 1)) = L' := ⟨_, rfl⟩
        have HL' := Lib.hid hL'
        rw [hL] at HR HNX
        rw [hL'] at HNX
        clear hL hL'
        have HG := Lib.hid HR.out.rg.good
        obtain ⟨H, hH⟩ : ∃ H, Cu.adH L ⟨e.it, e.pa, e.ti, e.vo, e.sp, 0⟩ = H := ⟨_, rfl⟩
        obtain ⟨E, hE⟩ : ∃ E, Cu.chE L ⟨e.it, e.pa, e.ti, e.vo, e.sp, 0⟩ = E := ⟨_, rfl⟩
        have HH := Lib.hid hH
        have HE := Lib.hid hE
        clear hH hE
        obtain ⟨y0, y1, y2, y3, y4⟩ := op_cells (HS.out.below HR.out.rg.bel) h HEK.out
        have hal := (Below.refl wr.heap.size wr).alloc (Nat.le_refl _) (.cells #[.string e.it, .string e.pa, .string e.sp, .int .i64 e.ti, .int .i64 e.vo] 60)
        have HR1 := Lib.hid (HR.out.below hal)
        have HBX : Hid (OBox (wr.alloc (.cells #[.string e.it, .string e.pa, .string e.sp, .int .i64 e.ti, .int .i64 e.vo] 60)) wr.heap.size e) := Blk.new _ _ _
        have HCS : Hid (∀ j, CS (w.heap.size + 2) v w.heap.size (w.heap.size + 1) j → j < wr.heap.size) := fun j hj => (HR.out.rg.c.cs_lt hj).2
        clear hal
        go_wp2_with fail
        clear y0 y1 y2 y3 y4
        generalize wr.alloc (.cells #[.string e.it, .string e.pa, .string e.sp, .int .i64 e.ti, .int .i64 e.vo] 60) = w2 at *
        (with_reducible refine (cadd_eq e.it e.pa e.sp e.ti e.vo HF (Lib.hid HR1.out.rg) HT H E HH HE HNX).mono ?_)
        rintro e' w3 ⟨rfl, v3, hrg, hcn, hfr⟩
        have HRG := Lib.hid hrg
        have HCN := Lib.hid hcn
        have HFR := Lib.hid hfr
        have HTR := Lib.hid (HR1.out.row hcn)
        have HB3 : Hid (OBox w3 wr.heap.size e) := Blk.cng HBX.out hcn (fun g => by have := HCS.out _ g; omega)
        clear hrg hcn hfr
        obtain ⟨y0, y1, y2, y3, y4⟩ := HB3.out.cells
        go_wp2_with fail
        (with_reducible refine (radd_any L u4 e.it e.pa e.sp e.ti e.vo HF w3 HTR HG H E HH HE).mono ?_)
        rintro e' w4 ⟨v4, rfl, hrow, hb, hfr2⟩
        rw [HNX.out] at hrow
        have HN : Hid (∃ v, AdI w w4 (Cu.reg [] (l.take (k + 1))) v v4) := ⟨v3, by rw [HL'.out]; exact HR1.out.step HRG.out HCN.out HFR.out hrow hb hfr2⟩
        clear hrow hb hfr2 y0 y1 y2 y3 y4
        go_wp2_with fail
        go_roundw
        case rel => exact ⟨k + 1, by go_num, by omega, HN⟩
        case measure => simp [intOf]; omega
      · have hE : l.take k = l := List.take_of_length_le (by omega)
        rw [hE] at HR
        have zk : (l.length : Int) ≤ (k : Int) := by omega
        clear hE
        have hlen := HR.out.rg.len
        obtain ⟨L, hL⟩ : ∃ L, Cu.reg [] l = L := ⟨_, rfl⟩
        rw [hL] at HR hlen
        clear hL
        obtain ⟨At, ct, ht⟩ := HR.out.t.form
        subst ht
        go_wp2_with fail
        (with_reducible refine (links_w (Lib.hid HR.out.rg)).mono ?_)
        rintro e w2 ⟨vL, rfl, hrow, hb⟩
        obtain ⟨A2, c2, hv⟩ := row_form hrow
        subst hv
        have HLA := Lib.hid (row_slr hrow A2 c2 rfl)
        have HR2 := Lib.hid (HR.out.below hb)
        clear hrow hb
        go_wp2_with fail
        (with_reducible refine (same_links A2 At c2 ct L _ HLA (Lib.hid HR2.out.t.slr) (by omega)).mono ?_)
        rintro e w3 ⟨rfl, hb⟩
        have HB3 := Lib.hid (below_old HR2.out.rg.bel hb)
        clear hb
        go_wp2_with fail
        (with_reducible refine (awake54 _ (Lib.hid (HT.out.below HB3.out))).mono ?_)
        rintro e wz ⟨rfl, hbz⟩
        have HBZ := Lib.hid (below_old HB3.out hbz)
        clear hbz
        go_wp2_with fail
        go_ret
        exact ⟨rfl, HBZ.out⟩
theorem rverify_w (l : Ls) (A : Option Addr) (c : Nat) (hc : l.length ≤ c) (w : World) (HS : Hid (SlR w A (lrowL l))) (HF : Hid (∀ e ∈ l, Fit_ e)) (hl : (l.length : Int) ≤ 2000) (a b : Int) (HA : Hid (Cu.vfy [] l 0 = (a, b))) :
    Calls Tryd.prog 33 #[.slice A l.length c] w fun e w' => e = .returned (.tuple #[.int .i64 a, .int .i64 b]) ∧ Below w.heap.size w w' := by
  have := rverify_any l A c hc w HS HF hl
  rw [HA.out] at this
  exact this
set_option maxHeartbeats 8000000 in
theorem custodyVerifies_walk (A : Option Addr) (c : Nat) (l : Ls) (hc : l.length ≤ c) (w : World) (HS : Hid (SlR w A (lrowL l))) (HO : Hid (∀ x ∈ l, LkOk x)) (hl : (l.length : Int) ≤ 9223372036854775807) (HT : Hid (TabOk w)) :
    Calls Tryd.prog 6 #[.slice A l.length c] w fun e w' => e = .returned (.bool true) ∧ Below w.heap.size w w' := by
  cases hsh : shortB l with
  | false =>
    have HSH := Lib.hid hsh
    clear hsh
    go_enter Tryd.func6, Tryd.ntmps6
    go_wp2_with fail
    (with_reducible refine (few_any l A c _ HS HO hl _ HSH).mono ?_)
    rintro e w1 ⟨rfl, hw1⟩
    subst w1
    go_wp2_with fail
    (with_reducible refine (awake54 _ (Lib.hid (HT.out.below (Below.refl _ _)))).mono ?_)
    rintro e wz ⟨rfl, hbz⟩
    have HBZ := Lib.hid (below_old (Below.refl _ _) hbz)
    clear hbz
    go_wp2_with fail
    go_ret
    exact ⟨rfl, HBZ.out⟩
  | true =>
    have HSH := Lib.hid hsh
    have HF := Lib.hid (short_fit hsh HO.out)
    have hl2 : (l.length : Int) ≤ 2000 := by have := (shortB_spec hsh).1; omega
    clear hsh
    obtain ⟨⟨a, b⟩, hab⟩ : ∃ p, Cu.vfy [] l 0 = p := ⟨_, rfl⟩
    have HAB := Lib.hid hab
    clear hab
    go_enter Tryd.func6, Tryd.ntmps6
    go_wp2_with fail
    (with_reducible refine (few_any l A c _ HS HO hl _ HSH).mono ?_)
    rintro e w1 ⟨rfl, hw1⟩
    subst w1
    go_wp2_with fail
    (with_reducible refine (verify_w l A l.length c (Lib.hid rfl) _ HS HF hl2 HT a b HAB).mono ?_)
    rintro e w2 ⟨rfl, hb⟩
    have HB2 := Lib.hid hb
    clear hb
    go_wp2_with fail
    (with_reducible refine (rverify_w l A c hc _ (Lib.hid (HS.out.below HB2.out)) HF hl2 a b HAB).mono ?_)
    rintro e w3 ⟨rfl, hb⟩
    have HB3 := Lib.hid (below_old HB2.out hb)
    clear hb
    go_wp2_with fail
    (with_reducible refine (awake54 _ (Lib.hid (HT.out.below HB3.out))).mono ?_)
    rintro e wz ⟨rfl, hbz⟩
    have HBZ := Lib.hid (below_old HB3.out hbz)
    clear hbz
    go_wp2_with fail
    go_ret
    exact ⟨rfl, HBZ.out⟩
end Go.Proofs.YtpimmdmcmccbpaaDoor
