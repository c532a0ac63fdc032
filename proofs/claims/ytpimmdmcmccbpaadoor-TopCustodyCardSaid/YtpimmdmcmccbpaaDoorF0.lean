/- law54: CustodySound, CustodyTraces. -/
import Derived.Test.YtpimmdmcmccbpaaDoorEZ
namespace Go.Proofs.YtpimmdmcmccbpaaDoor
open Go.RowKit
set_option linter.unusedVariables false
open Cu (Lk Ls)
theorem row_cap {w : World} {B : Nat} {t : TypeId} {k n : Nat} {A : Option Addr} {c : Nat} {xs : List Value} (h : w.ownsRow B t k (.slice A n c) n xs) : n ≤ c := by
  rcases h.2 with ⟨e, _⟩ | ⟨g, cap, cur, e, hb, hg, h1, _⟩
  · simp at e; omega
  · simp at e; omega
set_option maxRecDepth 100000 in
set_option maxHeartbeats 16000000 in
theorem custodySound_walk (A : Option Addr) (c : Nat) (l : Ls) (f : Int) (hf : 0 ≤ f ∧ f ≤ 255) (w : World) (HS : Hid (SlR w A (orowL l))) (HO : Hid (∀ x ∈ l, LkOk x)) (HZ : Hid (∀ x ∈ l, x.ha = 0)) (hl : (l.length : Int) ≤ 9223372036854775807) (HT : Hid (TabOk w)) :
    Calls Tryd.prog 7 #[.slice A l.length c, .int .u8 f] w fun e w' => e = .returned (.bool true) ∧ Below w.heap.size w w' := by
  cases hsh : shortB l with
  | false =>
    have HSH := Lib.hid hsh
    clear hsh
    go_enter Tryd.func7, Tryd.ntmps7
    go_wp2_with fail
    (with_reducible refine (small_any l A c _ HS HO hl _ HSH).mono ?_)
    rintro e w1 ⟨rfl, hw1⟩
    subst w1
    go_wp2_with fail
    (with_reducible refine (awake54 _ (Lib.hid (HT.out.below (Below.refl _ _)))).mono ?_)
    rintro e wz ⟨rfl, hbz⟩
    have HBZ := Lib.hid (below_old (Below.refl _ _) hbz)
    clear hbz
    go_wp2_with fail
    go_ret
    exact ⟨rfl, HBZ.out⟩
  | true =>
    have HSH := Lib.hid hsh
    have HOP := Lib.hid (op_ok hsh HO.out HZ.out)
    clear hsh
    go_enter Tryd.func7, Tryd.ntmps7
    go_wp2_with fail
    (with_reducible refine (small_any l A c _ HS HO hl _ HSH).mono ?_)
    rintro e w1 ⟨rfl, hw1⟩
    subst w1
    go_wp2_with fail
    (with_reducible refine (register_any l A c _ HS HOP hl HT).mono ?_)
    rintro e w1 ⟨rfl, v1, hrg⟩
    have HR1 := Lib.hid hrg
    clear hrg
    have hlen := HR1.out.len
    obtain ⟨L, hL⟩ : ∃ L, Cu.reg [] l = L := ⟨_, rfl⟩
    rw [hL] at HR1 hlen
    have HLL := Lib.hid hL
    clear hL
    go_wp2_with fail
    (with_reducible refine (links_w HR1).mono ?_)
    rintro e w2 ⟨vL, rfl, hrow, hb⟩
    obtain ⟨A2, c2, hv⟩ := row_form hrow
    subst hv
    have hc2 := row_cap hrow
    have HLA := Lib.hid (row_slr hrow A2 c2 rfl)
    have HR2 := Lib.hid (HR1.out.below hb)
    clear hrow hb
    have HG := Lib.hid HR2.out.good
    have HF := Lib.hid HR2.out.fit
    have HV := Lib.hid (Cu.vfy_good HG.out)
    go_wp2_with fail
    (with_reducible refine (verify_w L A2 L.length c2 (Lib.hid rfl) _ HLA HF (by omega) (Lib.hid (HT.out.below HR2.out.bel)) (-1) 0 HV).mono ?_)
    rintro e w3 ⟨rfl, hb⟩
    have HB3 := Lib.hid (below_old HR2.out.bel hb)
    have HLB := Lib.hid (HLA.out.below hb)
    clear hb
    obtain ⟨m, hm⟩ : ∃ m : Nat, f % ((L.length : Int) + 1) = m := ⟨(f % ((L.length : Int) + 1)).toNat, by have := Int.emod_nonneg f (b := (L.length : Int) + 1) (by omega); omega⟩
    have hm2 : (m : Int) ≤ (L.length : Int) := by have := Int.emod_lt_of_pos f (b := (L.length : Int) + 1) (by omega); omega
    have hm4 : f.tmod ((L.length : Int) + 1) = m := by rw [Int.tmod_eq_emod_of_nonneg hf.1, hm]
    have hm3 : (m : Int) ≤ (c2 : Int) := by omega
    have hm5 : ¬ ((L.length : Int) + 1 = 0) := by omega
    have HLN : Hid ((L.take m).length = m) := by show _ = _; rw [List.length_take]; omega
    have HFM : Hid (∀ e ∈ L.take m, Fit_ e) := fun e he => HF.out e (List.mem_of_mem_take he)
    have HVM := Lib.hid (Cu.vfy_good (HG.out.take m))
    go_wp2_with fail
    (with_reducible refine (verify_w (L.take m) A2 m c2 HLN _ (Lib.hid (HLB.out.take m)) HFM (by omega) (Lib.hid (HT.out.below HB3.out)) (-1) 0 HVM).mono ?_)
    rintro e w4 ⟨rfl, hb⟩
    have HB4 := Lib.hid (below_old HB3.out hb)
    clear hb hm hm4
    go_wp2_with fail
    (with_reducible refine (awake54 _ (Lib.hid (HT.out.below HB4.out))).mono ?_)
    rintro e wz ⟨rfl, hbz⟩
    have HBZ := Lib.hid (below_old HB4.out hbz)
    clear hbz
    go_wp2_with fail
    go_ret
    exact ⟨rfl, HBZ.out⟩
/-- Where the list of CustodyTraces stands. -/
structure TlI (w0 w1 wr : World) (L : Ls) (tv : Value) : Prop where
  bel : Below w1.heap.size w1 wr
  t : LRow wr tv L
set_option maxRecDepth 100000 in
set_option maxHeartbeats 16000000 in
theorem custodyTraces_walk (A : Option Addr) (c : Nat) (l : Ls) (s : ByteArray) (hs : (s.size : Int) ≤ 9223372036854775807) (w : World) (HS : Hid (SlR w A (orowL l))) (HO : Hid (∀ x ∈ l, LkOk x)) (HZ : Hid (∀ x ∈ l, x.ha = 0)) (hl : (l.length : Int) ≤ 9223372036854775807) (HT : Hid (TabOk w)) :
    Calls Tryd.prog 10 #[.slice A l.length c, .string s] w fun e w' => e = .returned (.bool true) ∧ Below w.heap.size w w' := by
  cases hsh : shortB l with
  | false =>
    have HSH := Lib.hid hsh
    clear hsh
    go_enter Tryd.func10, Tryd.ntmps10
    go_wp2_with fail
    (with_reducible refine (small_any l A c _ HS HO hl _ HSH).mono ?_)
    rintro e w1 ⟨rfl, hw1⟩
    subst w1
    go_wp2_with fail
    (with_reducible refine (awake54 _ (Lib.hid (HT.out.below (Below.refl _ _)))).mono ?_)
    rintro e wz ⟨rfl, hbz⟩
    have HBZ := Lib.hid (below_old (Below.refl _ _) hbz)
    clear hbz
    go_wp2_with fail
    go_ret
    exact ⟨rfl, HBZ.out⟩
  | true =>
    have HSH := Lib.hid hsh
    have HOP := Lib.hid (op_ok hsh HO.out HZ.out)
    clear hsh
    by_cases hss : (100 : Int) < (s.size : Int)
    · go_enter Tryd.func10, Tryd.ntmps10
      go_wp2_with fail
      (with_reducible refine (small_any l A c _ HS HO hl _ HSH).mono ?_)
      rintro e w1 ⟨rfl, hw1⟩
      subst w1
      go_wp2_with fail
      (with_reducible refine (awake54 _ (Lib.hid (HT.out.below (Below.refl _ _)))).mono ?_)
      rintro e wz ⟨rfl, hbz⟩
      have HBZ := Lib.hid (below_old (Below.refl _ _) hbz)
      clear hbz
      go_wp2_with fail
      go_ret
      exact ⟨rfl, HBZ.out⟩
    have his : (s.size : Int) ≤ 1000 := by omega
    go_enter Tryd.func10, Tryd.ntmps10
    go_wp2_with fail
    (with_reducible refine (small_any l A c _ HS HO hl _ HSH).mono ?_)
    rintro e w1 ⟨rfl, hw1⟩
    subst w1
    go_wp2_with fail
    (with_reducible refine (register_any l A c _ HS HOP hl HT).mono ?_)
    rintro e w1 ⟨rfl, v1, hrg⟩
    have HR1 := Lib.hid hrg
    clear hrg
    have hlen := HR1.out.len
    obtain ⟨L, hL⟩ : ∃ L, Cu.reg [] l = L := ⟨_, rfl⟩
    rw [hL] at HR1 hlen
    have HLL := Lib.hid hL
    clear hL
    go_wp2_with fail
    have HSL1 := Lib.hid (HS.out.below HR1.out.bel)
    go_loopw [6, 7] (fun t i wr => ∃ (k : Nat), i = .int .i64 k ∧ k ≤ l.length ∧ Hid (TlI w w1 wr (Cu.reg [] (l.take k)) t)) (fun _ i _ => l.length - (intOf i).toNat)
    case atStart => exact ⟨0, rfl, by omega, ⟨Below.refl _ _, World.ownsRow_nil _ _ _ _⟩⟩
    case round =>
      obtain ⟨k, rfl, hk, HI⟩ := hrel
      by_cases h : k < l.length
      · obtain ⟨e, he⟩ : ∃ e, l[k] = e := ⟨_, rfl⟩
        have HOK := Lib.hid (HOP.out _ (List.getElem_mem h))
        rw [he] at HOK
        have HEK := Lib.hid he
        have HNX := Lib.hid (adL_at h he HOK.out)
        clear he
        obtain ⟨bb, off, hA, hbl, -⟩ := HS.out.op h
        subst hA
        have zk : (k : Int) < (l.length : Int) := by omega
        have HF : Hid (Fit_ ⟨e.it, e.pa, e.ti, e.vo, e.sp, 0⟩) := by show Fit_ _; rw [← op_eq HOK.out]; exact HOK.out.f
        have HG : Hid (Cu.Good (Cu.reg [] (l.take k))) := reg_good _ _ .nil
        have hbd := (Below.refl wr.heap.size wr).drew
        have HID : Hid (TlI w w1 wr.drew (Cu.reg [] (l.take k)) u6) := ⟨below_old HI.out.bel hbd, HI.out.t.below hbd⟩
        have q0 : wr.drew.cell? ⟨bb, off + k * 5, none⟩ = some (.string e.it) ∧ wr.drew.cell? ⟨bb, off + k * 5 + 1, none⟩ = some (.string e.pa) ∧ wr.drew.cell? ⟨bb, off + k * 5 + 2, none⟩ = some (.string e.sp) ∧ wr.drew.cell? ⟨bb, off + k * 5 + 3, none⟩ = some (.int .i64 e.ti) ∧ wr.drew.cell? ⟨bb, off + k * 5 + 4, none⟩ = some (.int .i64 e.vo) := op_cells (HSL1.out.below HID.out.bel) h HEK.out
        clear hbd HI
        go_wp2_with fail
        go_region_held3 (fun w' => w'.cell? ⟨bb, off + k * 5, none⟩ = some (.string e.it) ∧ w'.cell? ⟨bb, off + k * 5 + 1, none⟩ = some (.string e.pa) ∧ w'.cell? ⟨bb, off + k * 5 + 2, none⟩ = some (.string e.sp) ∧ w'.cell? ⟨bb, off + k * 5 + 3, none⟩ = some (.int .i64 e.ti) ∧ w'.cell? ⟨bb, off + k * 5 + 4, none⟩ = some (.int .i64 e.vo)) (first | exact q0 | exact q1) (first | (go_at_call 30; (with_reducible refine (radd_any (Cu.reg [] (l.take k)) u6 e.it e.pa e.sp e.ti e.vo HF _ (Lib.hid HID.out.t) HG _ _ (Lib.hid rfl) (Lib.hid rfl)).mono ?_); rintro e' w4 ⟨v4, rfl, hrow, hb, -⟩; (rw [HNX.out] at hrow); (have HN : Hid (TlI w w1 w4 (Cu.reg [] (l.take (k + 1))) v4) := ⟨below_old HID.out.bel hb, hrow⟩); (have q1 : w4.cell? ⟨bb, off + k * 5, none⟩ = some (.string e.it) ∧ w4.cell? ⟨bb, off + k * 5 + 1, none⟩ = some (.string e.pa) ∧ w4.cell? ⟨bb, off + k * 5 + 2, none⟩ = some (.string e.sp) ∧ w4.cell? ⟨bb, off + k * 5 + 3, none⟩ = some (.int .i64 e.ti) ∧ w4.cell? ⟨bb, off + k * 5 + 4, none⟩ = some (.int .i64 e.vo) := op_cells (HSL1.out.below HN.out.bel) h HEK.out); clear hrow hb))
        go_wp2_with fail
        go_roundw
        case rel => exact ⟨k + 1, by go_num, by omega, HN⟩
        case measure => simp [intOf]; omega
      · have hE : l.take k = l := List.take_of_length_le (by omega)
        rw [hE, HLL.out] at HI
        have zk : (l.length : Int) ≤ (k : Int) := by omega
        clear hE
        obtain ⟨At, ct, ht⟩ := HI.out.t.form
        subst ht
        have hct := row_cap HI.out.t
        have HR2 := Lib.hid (HR1.out.below HI.out.bel)
        have HL2 := Lib.hid HI.out.t.slr
        have HOR := Lib.hid HR1.out.good.ord
        clear HI
        obtain ⟨E, hE⟩ : ∃ E, Cu.trE L s = E := ⟨_, rfl⟩
        have HE := Lib.hid hE
        obtain ⟨T, hT⟩ : ∃ T, Cu.trc L s = T := ⟨_, rfl⟩
        have hTl := Cu.trc_length L s
        rw [hT] at hTl
        have HTT := Lib.hid hT
        obtain ⟨S, hS⟩ : ∃ S, Cu.rtS L s = S := ⟨_, rfl⟩
        have HSS := Lib.hid hS
        obtain ⟨X, hX⟩ : ∃ X, decide (Cu.ix s L < L.length) = X := ⟨_, rfl⟩
        have HX := Lib.hid hX.symm
        obtain ⟨C, hC⟩ : ∃ C, Cu.chl L s = C := ⟨_, rfl⟩
        have HC := Lib.hid hC
        have hCl : C.length ≤ L.length := by
          rw [← hC]
          unfold Cu.chl
          split
          · simp
          · exact Cu.kids_length L s
        clear hE hT hS hX hC
        go_wp2_with fail
        (with_reducible refine (trace_w s his HR2 E HE HTT).mono ?_)
        rintro e w3 ⟨va, rfl, hrow, hb⟩
        obtain ⟨A3, c3, hv⟩ := row_form hrow
        subst hv
        have HA3 := Lib.hid (row_slr hrow A3 c3 rfl)
        have HR3 := Lib.hid (HR2.out.below hb)
        have HL3 := Lib.hid (HL2.out.below hb)
        clear hrow hb HR2 HL2
        go_wp2_with fail
        have hrt := rtrace_any L At ct hct s w3 HL3 HOR (by omega)
        rw [HE.out, HTT.out] at hrt
        (with_reducible refine hrt.mono ?_)
        rintro e w4 ⟨vb, rfl, hrow, hb⟩
        clear hrt
        obtain ⟨A4, c4, hv⟩ := row_form hrow
        subst hv
        have HA4 := Lib.hid (row_slr hrow A4 c4 rfl)
        have HR4 := Lib.hid (HR3.out.below hb)
        have HL4 := Lib.hid (HL3.out.below hb)
        have HB4 := Lib.hid (HA3.out.below hb)
        clear hrow hb HR3 HL3 HA3
        go_wp2_with fail
        (with_reducible refine (root_w s his HR4 S X HSS HX).mono ?_)
        rintro e w5 ⟨rfl, hb⟩
        have HR5 := Lib.hid (HR4.out.below hb)
        have HL5 := Lib.hid (HL4.out.below hb)
        have HB5 := Lib.hid (HB4.out.below hb)
        have HC5 := Lib.hid (HA4.out.below hb)
        clear hb HR4 HL4 HB4 HA4
        go_wp2_with fail
        have hrr := rroot_any L At ct hct s w5 HL5 HOR (by omega) X HX
        rw [HSS.out] at hrr
        (with_reducible refine hrr.mono ?_)
        rintro e w6 ⟨rfl, hb⟩
        clear hrr
        have HR6 := Lib.hid (HR5.out.below hb)
        have HL6 := Lib.hid (HL5.out.below hb)
        have HB6 := Lib.hid (HB5.out.below hb)
        have HC6 := Lib.hid (HC5.out.below hb)
        clear hb HR5 HL5 HB5 HC5
        go_wp2_with fail
        (with_reducible refine (same_links A3 A4 c3 c4 T _ HB6 HC6 (by omega)).mono ?_)
        rintro e w7 ⟨rfl, hb⟩
        have HR7 := Lib.hid (HR6.out.below hb)
        have HL7 := Lib.hid (HL6.out.below hb)
        clear hb HR6 HL6 HB6 HC6
        go_wp2_with fail
        have hch := children_any s w7 (Lib.hid HR7.out.c) (by omega)
        rw [HC.out] at hch
        (with_reducible refine hch.mono ?_)
        rintro e w8 ⟨vc, rfl, hrow, hb⟩
        clear hch
        obtain ⟨A8, c8, hv⟩ := row_form hrow
        subst hv
        have HA8 := Lib.hid (row_slr hrow A8 c8 rfl)
        have HR8 := Lib.hid (HR7.out.below hb)
        have HL8 := Lib.hid (HL7.out.below hb)
        clear hrow hb HR7 HL7
        go_wp2_with fail
        have hrc := rkids_any L At ct s w8 HL8 (by omega)
        rw [HC.out] at hrc
        (with_reducible refine hrc.mono ?_)
        rintro e w9 ⟨vd, rfl, hrow, hb⟩
        clear hrc
        obtain ⟨A9, c9, hv⟩ := row_form hrow
        subst hv
        have HA9 := Lib.hid (row_slr hrow A9 c9 rfl)
        have HR9 := Lib.hid (HR8.out.below hb)
        have HB9 := Lib.hid (HA8.out.below hb)
        clear hrow hb HR8 HL8 HA8
        go_wp2_with fail
        (with_reducible refine (same_strs A8 A9 c8 c9 C _ HB9 HA9 (by omega)).mono ?_)
        rintro e wA ⟨rfl, hb⟩
        have HBA := Lib.hid (below_old HR9.out.bel hb)
        clear hb
        go_wp2_with fail
        (with_reducible refine (awake54 _ (Lib.hid (HT.out.below HBA.out))).mono ?_)
        rintro e wz ⟨rfl, hbz⟩
        have HBZ := Lib.hid (below_old HBA.out hbz)
        clear hbz
        go_wp2_with fail
        go_ret
        exact ⟨rfl, HBZ.out⟩
end Go.Proofs.YtpimmdmcmccbpaaDoor
