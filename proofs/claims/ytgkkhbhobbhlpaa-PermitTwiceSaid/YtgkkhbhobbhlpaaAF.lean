/- PermitTwice: the walk. -/
import Derived.Test.YtgkkhbhobbhlpaaAE
namespace Go.Proofs.Ytgkkhbhobbhlpaa
open Go.RowKit
set_option linter.unusedVariables false
set_option maxRecDepth 100000 in
set_option maxHeartbeats 16000000 in
theorem permitTwice_walk (A : Option Addr) (c : Nat) (l : List Opr) (id : ByteArray) (x y : Int) (w : World) (HS0 : Hid (SlR w A (orow l))) (hl : (l.length : Int) ≤ 9223372036854775807) (HZ : Hid (Sized l)) (hid : (id.size : Int) ≤ 9223372036854775807) :
    Calls Try.prog 5 #[.slice A l.length c, .string id, .agg #[.int .i64 x, .int .i64 y]] w fun e w' => e = .returned (.bool true) ∧ Below w.heap.size w w' := by
  have hbx := (Below.refl w.heap.size w).alloc (Nat.le_refl _) (.cells #[.int .i64 x, .int .i64 y] 48)
  have HS := Lib.hid (HS0.out.below hbx)
  cases hsh : shortB l with
  | false =>
    have HSH := Lib.hid hsh
    clear hsh
    go_enter Try.func5, Try.ntmps5
    go_wp2_with fail
    (with_reducible refine (short_eq _ _ _ _ HSH _ HS hl HZ).mono ?_)
    rintro e w1 ⟨rfl, hw1⟩
    subst w1
    go_wp2_with fail
    (with_reducible refine (awake_any _).mono ?_)
    rintro e wz ⟨rfl, hb⟩
    have HBZ := Lib.hid (below_old hbx hb)
    clear hb
    go_wp2_with fail
    go_ret
    first | exact ⟨rfl, HBZ.out⟩ | exact ⟨ret_bool (by simpa using a2), HBZ.out⟩
  | true =>
    have HSH := Lib.hid hsh
    by_cases h40 : (id.size : Int) ≤ 40
    rotate_left
    · have h41 : (40 : Int) < (id.size : Int) := by omega
      clear hsh
      go_enter Try.func5, Try.ntmps5
      go_wp2_with fail
      (with_reducible refine (short_eq _ _ _ _ HSH _ HS hl HZ).mono ?_)
      rintro e w1 ⟨rfl, hw1⟩
      subst w1
      go_wp2_with fail
      (with_reducible refine (awake_any _).mono ?_)
      rintro e wz ⟨rfl, hb⟩
      have HBZ := Lib.hid (below_old hbx hb)
      clear hb
      go_wp2_with fail
      go_ret
      first | exact ⟨rfl, HBZ.out⟩ | exact ⟨ret_bool (by simpa using a2), HBZ.out⟩
    by_cases x0 : x < 1
    · clear hsh
      go_enter Try.func5, Try.ntmps5
      go_wp2_with fail
      (with_reducible refine (short_eq _ _ _ _ HSH _ HS hl HZ).mono ?_)
      rintro e w1 ⟨rfl, hw1⟩
      subst w1
      go_wp2_with fail
      (with_reducible refine (awake_any _).mono ?_)
      rintro e wz ⟨rfl, hb⟩
      have HBZ := Lib.hid (below_old hbx hb)
      clear hb
      go_wp2_with fail
      go_ret
      first | exact ⟨rfl, HBZ.out⟩ | exact ⟨ret_bool (by simpa using a2), HBZ.out⟩
    by_cases y0 : y < 1
    · clear hsh
      go_enter Try.func5, Try.ntmps5
      go_wp2_with fail
      (with_reducible refine (short_eq _ _ _ _ HSH _ HS hl HZ).mono ?_)
      rintro e w1 ⟨rfl, hw1⟩
      subst w1
      go_wp2_with fail
      (with_reducible refine (awake_any _).mono ?_)
      rintro e wz ⟨rfl, hb⟩
      have HBZ := Lib.hid (below_old hbx hb)
      clear hb
      go_wp2_with fail
      go_ret
      first | exact ⟨rfl, HBZ.out⟩ | exact ⟨ret_bool (by simpa using a2), HBZ.out⟩
    by_cases x1 : (562949953421312 : Int) < x
    · clear hsh
      go_enter Try.func5, Try.ntmps5
      go_wp2_with fail
      (with_reducible refine (short_eq _ _ _ _ HSH _ HS hl HZ).mono ?_)
      rintro e w1 ⟨rfl, hw1⟩
      subst w1
      go_wp2_with fail
      (with_reducible refine (awake_any _).mono ?_)
      rintro e wz ⟨rfl, hb⟩
      have HBZ := Lib.hid (below_old hbx hb)
      clear hb
      go_wp2_with fail
      go_ret
      first | exact ⟨rfl, HBZ.out⟩ | exact ⟨ret_bool (by simpa using a2), HBZ.out⟩
    by_cases y1 : (562949953421312 : Int) < y
    · clear hsh
      go_enter Try.func5, Try.ntmps5
      go_wp2_with fail
      (with_reducible refine (short_eq _ _ _ _ HSH _ HS hl HZ).mono ?_)
      rintro e w1 ⟨rfl, hw1⟩
      subst w1
      go_wp2_with fail
      (with_reducible refine (awake_any _).mono ?_)
      rintro e wz ⟨rfl, hb⟩
      have HBZ := Lib.hid (below_old hbx hb)
      clear hb
      go_wp2_with fail
      go_ret
      first | exact ⟨rfl, HBZ.out⟩ | exact ⟨ret_bool (by simpa using a2), HBZ.out⟩
    have HPL := fun w' hs => Lib.hid (play_any A c l w' hs hsh)
    have HO := Lib.hid (plOk l)
    have hTW := Pt.twice HO.out id x y ⟨by omega, by omega⟩ ⟨by omega, by omega⟩
    have hrange : 0 ≤ Pt.lfN (plR l) id ∧ Pt.lfN (plR l) id ≤ 1125899906842624 := by
      by_cases h : Pt.ix id (plR l) < (plR l).length
      · obtain ⟨k, e, hk, he, hix, hat, hfn, hid, q0, q1, q2, q3⟩ := Pt.found HO.out h
        rw [Pt.lfN, hat]
        simp only
        omega
      · rw [Pt.lfN_none h]; omega
    clear hsh
    go_enter Try.func5, Try.ntmps5
    go_wp2_with fail
    (with_reducible refine (short_eq _ _ _ _ HSH _ HS hl HZ).mono ?_)
    rintro e w1 ⟨rfl, hw1⟩
    subst w1
    go_wp2_with fail
    (with_reducible refine (HPL _ HS).out.mono ?_)
    rintro e w2 ⟨rfl, hp1⟩
    have HS2 := Lib.hid (HS.out.below hp1.bel)
    have HP1 := Lib.hid hp1
    clear hp1
    obtain ⟨ra, hra⟩ : ∃ ra, (w.alloc (.cells #[.int .i64 x, .int .i64 y] 48)).heap.size = ra := ⟨_, rfl⟩
    rw [hra]
    have HRA := Lib.hid hra
    clear hra
    go_wp2_with fail
    (with_reducible refine (HPL _ HS2).out.mono ?_)
    rintro e w3 ⟨rfl, hp2⟩
    obtain ⟨R, hR⟩ : ∃ R, plR l = R := ⟨_, rfl⟩
    obtain ⟨vpa, vua, vpb, vub, hT⟩ := TwW.two (Blk.new w 48 #[.int .i64 x, .int .i64 y]) hbx HP1.out hp2
    rw [hR] at hT HO hTW hrange
    rw [HRA.out] at hT
    have HT := Lib.hid hT
    clear hR HPL HP1 hp2 hT HS2 HS HS0 HRA
    have hO1 := HO.out.use id x
    have hO2 := hO1.use id y
    have HO3 := Lib.hid (HO.out.use id (x + y))
    obtain ⟨Ra1, hR1⟩ : ∃ Q, Pt.usR R id x = Q := ⟨_, rfl⟩
    rw [hR1] at hO1 hO2 hTW
    obtain ⟨Ra2, hR2⟩ : ∃ Q, Pt.usR Ra1 id y = Q := ⟨_, rfl⟩
    rw [hR2] at hO2 hTW
    obtain ⟨Rb1, hR3⟩ : ∃ Q, Pt.usR R id (x + y) = Q := ⟨_, rfl⟩
    rw [hR3] at HO3 hTW
    have HO1 := Lib.hid hO1
    have HO2 := Lib.hid hO2
    have R1 := Lib.hid hR1
    have R2 := Lib.hid hR2
    have R3 := Lib.hid hR3
    clear hO1 hO2 hR1 hR2 hR3
    obtain ⟨bb1, hb1⟩ : ∃ b, Pt.lfB Ra2 id = b := ⟨_, rfl⟩
    obtain ⟨bb2, hb2⟩ : ∃ b, Pt.lfB Rb1 id = b := ⟨_, rfl⟩
    obtain ⟨m1, hm1⟩ : ∃ b, Pt.lfN Ra2 id = b := ⟨_, rfl⟩
    obtain ⟨m2, hm2⟩ : ∃ b, Pt.lfN Rb1 id = b := ⟨_, rfl⟩
    obtain ⟨n, hn⟩ : ∃ b, Pt.lfN R id = b := ⟨_, rfl⟩
    rw [hm1, hm2, hn] at hTW
    rw [hn] at hrange
    have B1 := Lib.hid hb1
    have B2 := Lib.hid hb2
    have N1 := Lib.hid hm1
    have N2 := Lib.hid hm2
    have N0 := Lib.hid hn
    clear hb1 hb2 hm1 hm2 hn
    have d0 : w3.cell? ⟨w.heap.size, 0, none⟩ = some (.int .i64 x) := HT.out.box.cell 0
    have d1 : w3.cell? ⟨w.heap.size, 1, none⟩ = some (.int .i64 y) := HT.out.box.cell 1
    clear hbx
    go_wp2_with fail
    rcases hTW with ⟨b0, a1, a2, a3⟩ | ⟨b0, hs, a1, a2, a3, n1, n2⟩ | ⟨b0, hs, a3, n2, hor⟩
    · have B0 := Lib.hid b0
      have E1 := Lib.hid a1
      have E2 := Lib.hid a2
      have E3 := Lib.hid a3
      clear b0 a1 a2 a3
      (with_reducible refine (left_eq id _ _ N0 B0 _ (Lib.hid HT.out.a) HO).mono ?_)
      rintro e w5 ⟨rfl, hb⟩
      have HT := Lib.hid (HT.out.below hb)
      clear hb d0 d1
      have d0 : w5.cell? ⟨w.heap.size, 0, none⟩ = some (.int .i64 x) := HT.out.box.cell 0
      have d1 : w5.cell? ⟨w.heap.size, 1, none⟩ = some (.int .i64 y) := HT.out.box.cell 1
      go_wp2_with fail
      -- the two volumes one after the other, in the region that draws
      have HTd := Lib.hid (HT.out.below ((Below.refl w5.heap.size w5).drew))
      have hd0 : w5.drew.cell? ⟨w.heap.size, 0, none⟩ = some (.int .i64 x) := d0
      have hd1 : w5.drew.cell? ⟨w.heap.size, 1, none⟩ = some (.int .i64 y) := d1
      go_region_held3 (fun w' => w'.cell? ⟨w.heap.size, 0, none⟩ = some (.int .i64 x) ∧ w'.cell? ⟨w.heap.size, 1, none⟩ = some (.int .i64 y)) (first | exact ⟨hd0, hd1⟩ | exact ⟨he0, he1⟩ | exact ⟨hf0, hf1⟩)
        (first | (go_at_call 21; (with_reducible refine (use_eq id x _ E1 R1 _ (Lib.hid HTd.out.a) HO).mono ?_); rintro e w6 ⟨rfl, hr6, hg6⟩; (have HT6 := Lib.hid (HTd.out.useA hr6 hg6)); (have he0 : w6.cell? ⟨w.heap.size, 0, none⟩ = some (.int .i64 x) := HT6.out.box.cell 0); (have he1 : w6.cell? ⟨w.heap.size, 1, none⟩ = some (.int .i64 y) := HT6.out.box.cell 1)) | (go_at_call 21; (with_reducible refine (use_eq id y _ E2 R2 _ (Lib.hid HT6.out.a) HO1).mono ?_); rintro e w7 ⟨rfl, hr7, hg7⟩; (have HT7 := Lib.hid (HT6.out.useA hr7 hg7)); (have hf0 : w7.cell? ⟨w.heap.size, 0, none⟩ = some (.int .i64 x) := HT7.out.box.cell 0); (have hf1 : w7.cell? ⟨w.heap.size, 1, none⟩ = some (.int .i64 y) := HT7.out.box.cell 1)))
      all_goals
        have HT := HT7
        clear HT7 HT6 HTd hd0 hd1 he0 he1 hr6 hg6 hr7 hg7 d0 d1
        go_wp2_with fail
        (with_reducible refine (use_eq id (x + y) _ E3 R3 _ (Lib.hid HT.out.b) HO).mono ?_)
        rintro e w8 ⟨rfl, hr8, hg8⟩
        have HT := Lib.hid (HT.out.useB hr8 hg8)
        clear hr8 hg8 hf0 hf1
        have d0 : w8.cell? ⟨w.heap.size, 0, none⟩ = some (.int .i64 x) := HT.out.box.cell 0
        have d1 : w8.cell? ⟨w.heap.size, 1, none⟩ = some (.int .i64 y) := HT.out.box.cell 1
        go_wp2_with fail
        (with_reducible refine (left_eq id _ _ N1 B1 _ (Lib.hid HT.out.a) HO2).mono ?_)
        rintro e w9 ⟨rfl, hb⟩
        have HT := Lib.hid (HT.out.below hb)
        clear hb d0 d1
        have d0 : w9.cell? ⟨w.heap.size, 0, none⟩ = some (.int .i64 x) := HT.out.box.cell 0
        have d1 : w9.cell? ⟨w.heap.size, 1, none⟩ = some (.int .i64 y) := HT.out.box.cell 1
        go_wp2_with fail
        (with_reducible refine (left_eq id _ _ N2 B2 _ (Lib.hid HT.out.b) HO3).mono ?_)
        rintro e wA ⟨rfl, hb⟩
        have HT := Lib.hid (HT.out.below hb)
        clear hb d0 d1
        have d0 : wA.cell? ⟨w.heap.size, 0, none⟩ = some (.int .i64 x) := HT.out.box.cell 0
        have d1 : wA.cell? ⟨w.heap.size, 1, none⟩ = some (.int .i64 y) := HT.out.box.cell 1
        go_wp2_with fail
        (with_reducible refine (awake_any _).mono ?_)
        rintro e wz ⟨rfl, hb⟩
        have HBZ := Lib.hid (below_old HT.out.bel hb)
        clear hb
        go_wp2_with fail
        go_ret
        first | exact ⟨rfl, HBZ.out⟩ | exact ⟨ret_bool (by simpa using a2), HBZ.out⟩
    · have B0 := Lib.hid b0
      have E1 := Lib.hid a1
      have E2 := Lib.hid a2
      have E3 := Lib.hid a3
      subst n1 n2
      clear b0 a1 a2 a3
      (with_reducible refine (left_eq id _ _ N0 B0 _ (Lib.hid HT.out.a) HO).mono ?_)
      rintro e w5 ⟨rfl, hb⟩
      have HT := Lib.hid (HT.out.below hb)
      clear hb d0 d1
      have d0 : w5.cell? ⟨w.heap.size, 0, none⟩ = some (.int .i64 x) := HT.out.box.cell 0
      have d1 : w5.cell? ⟨w.heap.size, 1, none⟩ = some (.int .i64 y) := HT.out.box.cell 1
      go_wp2_with fail
      -- the two volumes one after the other, in the region that draws
      have HTd := Lib.hid (HT.out.below ((Below.refl w5.heap.size w5).drew))
      have hd0 : w5.drew.cell? ⟨w.heap.size, 0, none⟩ = some (.int .i64 x) := d0
      have hd1 : w5.drew.cell? ⟨w.heap.size, 1, none⟩ = some (.int .i64 y) := d1
      go_region_held3 (fun w' => w'.cell? ⟨w.heap.size, 0, none⟩ = some (.int .i64 x) ∧ w'.cell? ⟨w.heap.size, 1, none⟩ = some (.int .i64 y)) (first | exact ⟨hd0, hd1⟩ | exact ⟨he0, he1⟩ | exact ⟨hf0, hf1⟩)
        (first | (go_at_call 21; (with_reducible refine (use_eq id x _ E1 R1 _ (Lib.hid HTd.out.a) HO).mono ?_); rintro e w6 ⟨rfl, hr6, hg6⟩; (have HT6 := Lib.hid (HTd.out.useA hr6 hg6)); (have he0 : w6.cell? ⟨w.heap.size, 0, none⟩ = some (.int .i64 x) := HT6.out.box.cell 0); (have he1 : w6.cell? ⟨w.heap.size, 1, none⟩ = some (.int .i64 y) := HT6.out.box.cell 1)) | (go_at_call 21; (with_reducible refine (use_eq id y _ E2 R2 _ (Lib.hid HT6.out.a) HO1).mono ?_); rintro e w7 ⟨rfl, hr7, hg7⟩; (have HT7 := Lib.hid (HT6.out.useA hr7 hg7)); (have hf0 : w7.cell? ⟨w.heap.size, 0, none⟩ = some (.int .i64 x) := HT7.out.box.cell 0); (have hf1 : w7.cell? ⟨w.heap.size, 1, none⟩ = some (.int .i64 y) := HT7.out.box.cell 1)))
      all_goals
        have HT := HT7
        clear HT7 HT6 HTd hd0 hd1 he0 he1 hr6 hg6 hr7 hg7 d0 d1
        go_wp2_with fail
        (with_reducible refine (use_eq id (x + y) _ E3 R3 _ (Lib.hid HT.out.b) HO).mono ?_)
        rintro e w8 ⟨rfl, hr8, hg8⟩
        have HT := Lib.hid (HT.out.useB hr8 hg8)
        clear hr8 hg8 hf0 hf1
        have d0 : w8.cell? ⟨w.heap.size, 0, none⟩ = some (.int .i64 x) := HT.out.box.cell 0
        have d1 : w8.cell? ⟨w.heap.size, 1, none⟩ = some (.int .i64 y) := HT.out.box.cell 1
        go_wp2_with fail
        (with_reducible refine (left_eq id _ _ N1 B1 _ (Lib.hid HT.out.a) HO2).mono ?_)
        rintro e w9 ⟨rfl, hb⟩
        have HT := Lib.hid (HT.out.below hb)
        clear hb d0 d1
        have d0 : w9.cell? ⟨w.heap.size, 0, none⟩ = some (.int .i64 x) := HT.out.box.cell 0
        have d1 : w9.cell? ⟨w.heap.size, 1, none⟩ = some (.int .i64 y) := HT.out.box.cell 1
        go_wp2_with fail
        (with_reducible refine (left_eq id _ _ N2 B2 _ (Lib.hid HT.out.b) HO3).mono ?_)
        rintro e wA ⟨rfl, hb⟩
        have HT := Lib.hid (HT.out.below hb)
        clear hb d0 d1
        have d0 : wA.cell? ⟨w.heap.size, 0, none⟩ = some (.int .i64 x) := HT.out.box.cell 0
        have d1 : wA.cell? ⟨w.heap.size, 1, none⟩ = some (.int .i64 y) := HT.out.box.cell 1
        go_wp2_with fail
        (with_reducible refine (awake_any _).mono ?_)
        rintro e wz ⟨rfl, hb⟩
        have HBZ := Lib.hid (below_old HT.out.bel hb)
        clear hb
        go_wp2_with fail
        go_ret
        first | exact ⟨rfl, HBZ.out⟩ | exact ⟨ret_bool (by simpa using a2), HBZ.out⟩
    · have B0 := Lib.hid b0
      have E3 := Lib.hid a3
      subst n2
      clear b0 a3
      rcases hor with a1 | ⟨a1, a2⟩
      · obtain ⟨e1, he1⟩ : ∃ e, Pt.usE R id x = e := ⟨_, rfl⟩
        obtain ⟨e2, he2⟩ : ∃ e, Pt.usE Ra1 id y = e := ⟨_, rfl⟩
        rw [he1] at a1
        have E1 := Lib.hid he1
        have E2 := Lib.hid he2
        have k1 : (e1 == 0) = false := by simpa using a1
        clear he1 he2
        (with_reducible refine (left_eq id _ _ N0 B0 _ (Lib.hid HT.out.a) HO).mono ?_)
        rintro e w5 ⟨rfl, hb⟩
        have HT := Lib.hid (HT.out.below hb)
        clear hb d0 d1
        have d0 : w5.cell? ⟨w.heap.size, 0, none⟩ = some (.int .i64 x) := HT.out.box.cell 0
        have d1 : w5.cell? ⟨w.heap.size, 1, none⟩ = some (.int .i64 y) := HT.out.box.cell 1
        go_wp2_with fail
        -- the two volumes one after the other, in the region that draws
        have HTd := Lib.hid (HT.out.below ((Below.refl w5.heap.size w5).drew))
        have hd0 : w5.drew.cell? ⟨w.heap.size, 0, none⟩ = some (.int .i64 x) := d0
        have hd1 : w5.drew.cell? ⟨w.heap.size, 1, none⟩ = some (.int .i64 y) := d1
        go_region_held3 (fun w' => w'.cell? ⟨w.heap.size, 0, none⟩ = some (.int .i64 x) ∧ w'.cell? ⟨w.heap.size, 1, none⟩ = some (.int .i64 y)) (first | exact ⟨hd0, hd1⟩ | exact ⟨he0, he1⟩ | exact ⟨hf0, hf1⟩)
          (first | (go_at_call 21; (with_reducible refine (use_eq id x _ E1 R1 _ (Lib.hid HTd.out.a) HO).mono ?_); rintro e w6 ⟨rfl, hr6, hg6⟩; (have HT6 := Lib.hid (HTd.out.useA hr6 hg6)); (have he0 : w6.cell? ⟨w.heap.size, 0, none⟩ = some (.int .i64 x) := HT6.out.box.cell 0); (have he1 : w6.cell? ⟨w.heap.size, 1, none⟩ = some (.int .i64 y) := HT6.out.box.cell 1)) | (go_at_call 21; (with_reducible refine (use_eq id y _ E2 R2 _ (Lib.hid HT6.out.a) HO1).mono ?_); rintro e w7 ⟨rfl, hr7, hg7⟩; (have HT7 := Lib.hid (HT6.out.useA hr7 hg7)); (have hf0 : w7.cell? ⟨w.heap.size, 0, none⟩ = some (.int .i64 x) := HT7.out.box.cell 0); (have hf1 : w7.cell? ⟨w.heap.size, 1, none⟩ = some (.int .i64 y) := HT7.out.box.cell 1)))
        all_goals
          have HT := HT7
          clear HT7 HT6 HTd hd0 hd1 he0 he1 hr6 hg6 hr7 hg7 d0 d1
          go_wp2_with fail
          (with_reducible refine (use_eq id (x + y) _ E3 R3 _ (Lib.hid HT.out.b) HO).mono ?_)
          rintro e w8 ⟨rfl, hr8, hg8⟩
          have HT := Lib.hid (HT.out.useB hr8 hg8)
          clear hr8 hg8 hf0 hf1
          have d0 : w8.cell? ⟨w.heap.size, 0, none⟩ = some (.int .i64 x) := HT.out.box.cell 0
          have d1 : w8.cell? ⟨w.heap.size, 1, none⟩ = some (.int .i64 y) := HT.out.box.cell 1
          go_wp2_with fail
          (with_reducible refine (left_eq id _ _ N1 B1 _ (Lib.hid HT.out.a) HO2).mono ?_)
          rintro e w9 ⟨rfl, hb⟩
          have HT := Lib.hid (HT.out.below hb)
          clear hb d0 d1
          have d0 : w9.cell? ⟨w.heap.size, 0, none⟩ = some (.int .i64 x) := HT.out.box.cell 0
          have d1 : w9.cell? ⟨w.heap.size, 1, none⟩ = some (.int .i64 y) := HT.out.box.cell 1
          go_wp2_with fail
          (with_reducible refine (left_eq id _ _ N2 B2 _ (Lib.hid HT.out.b) HO3).mono ?_)
          rintro e wA ⟨rfl, hb⟩
          have HT := Lib.hid (HT.out.below hb)
          clear hb d0 d1
          have d0 : wA.cell? ⟨w.heap.size, 0, none⟩ = some (.int .i64 x) := HT.out.box.cell 0
          have d1 : wA.cell? ⟨w.heap.size, 1, none⟩ = some (.int .i64 y) := HT.out.box.cell 1
          go_wp2_with fail
          (with_reducible refine (awake_any _).mono ?_)
          rintro e wz ⟨rfl, hb⟩
          have HBZ := Lib.hid (below_old HT.out.bel hb)
          clear hb
          go_wp2_with fail
          go_ret
          first | exact ⟨rfl, HBZ.out⟩ | exact ⟨ret_bool (by simpa using a2), HBZ.out⟩
      · obtain ⟨e2, he2⟩ : ∃ e, Pt.usE Ra1 id y = e := ⟨_, rfl⟩
        rw [he2] at a2
        have E1 := Lib.hid a1
        have E2 := Lib.hid he2
        have k1 : (e2 == 0) = false := by simpa using a2
        clear he2 a1
        (with_reducible refine (left_eq id _ _ N0 B0 _ (Lib.hid HT.out.a) HO).mono ?_)
        rintro e w5 ⟨rfl, hb⟩
        have HT := Lib.hid (HT.out.below hb)
        clear hb d0 d1
        have d0 : w5.cell? ⟨w.heap.size, 0, none⟩ = some (.int .i64 x) := HT.out.box.cell 0
        have d1 : w5.cell? ⟨w.heap.size, 1, none⟩ = some (.int .i64 y) := HT.out.box.cell 1
        go_wp2_with fail
        -- the two volumes one after the other, in the region that draws
        have HTd := Lib.hid (HT.out.below ((Below.refl w5.heap.size w5).drew))
        have hd0 : w5.drew.cell? ⟨w.heap.size, 0, none⟩ = some (.int .i64 x) := d0
        have hd1 : w5.drew.cell? ⟨w.heap.size, 1, none⟩ = some (.int .i64 y) := d1
        go_region_held3 (fun w' => w'.cell? ⟨w.heap.size, 0, none⟩ = some (.int .i64 x) ∧ w'.cell? ⟨w.heap.size, 1, none⟩ = some (.int .i64 y)) (first | exact ⟨hd0, hd1⟩ | exact ⟨he0, he1⟩ | exact ⟨hf0, hf1⟩)
          (first | (go_at_call 21; (with_reducible refine (use_eq id x _ E1 R1 _ (Lib.hid HTd.out.a) HO).mono ?_); rintro e w6 ⟨rfl, hr6, hg6⟩; (have HT6 := Lib.hid (HTd.out.useA hr6 hg6)); (have he0 : w6.cell? ⟨w.heap.size, 0, none⟩ = some (.int .i64 x) := HT6.out.box.cell 0); (have he1 : w6.cell? ⟨w.heap.size, 1, none⟩ = some (.int .i64 y) := HT6.out.box.cell 1)) | (go_at_call 21; (with_reducible refine (use_eq id y _ E2 R2 _ (Lib.hid HT6.out.a) HO1).mono ?_); rintro e w7 ⟨rfl, hr7, hg7⟩; (have HT7 := Lib.hid (HT6.out.useA hr7 hg7)); (have hf0 : w7.cell? ⟨w.heap.size, 0, none⟩ = some (.int .i64 x) := HT7.out.box.cell 0); (have hf1 : w7.cell? ⟨w.heap.size, 1, none⟩ = some (.int .i64 y) := HT7.out.box.cell 1)))
        all_goals
          have HT := HT7
          clear HT7 HT6 HTd hd0 hd1 he0 he1 hr6 hg6 hr7 hg7 d0 d1
          go_wp2_with fail
          (with_reducible refine (use_eq id (x + y) _ E3 R3 _ (Lib.hid HT.out.b) HO).mono ?_)
          rintro e w8 ⟨rfl, hr8, hg8⟩
          have HT := Lib.hid (HT.out.useB hr8 hg8)
          clear hr8 hg8 hf0 hf1
          have d0 : w8.cell? ⟨w.heap.size, 0, none⟩ = some (.int .i64 x) := HT.out.box.cell 0
          have d1 : w8.cell? ⟨w.heap.size, 1, none⟩ = some (.int .i64 y) := HT.out.box.cell 1
          go_wp2_with fail
          (with_reducible refine (left_eq id _ _ N1 B1 _ (Lib.hid HT.out.a) HO2).mono ?_)
          rintro e w9 ⟨rfl, hb⟩
          have HT := Lib.hid (HT.out.below hb)
          clear hb d0 d1
          have d0 : w9.cell? ⟨w.heap.size, 0, none⟩ = some (.int .i64 x) := HT.out.box.cell 0
          have d1 : w9.cell? ⟨w.heap.size, 1, none⟩ = some (.int .i64 y) := HT.out.box.cell 1
          go_wp2_with fail
          (with_reducible refine (left_eq id _ _ N2 B2 _ (Lib.hid HT.out.b) HO3).mono ?_)
          rintro e wA ⟨rfl, hb⟩
          have HT := Lib.hid (HT.out.below hb)
          clear hb d0 d1
          have d0 : wA.cell? ⟨w.heap.size, 0, none⟩ = some (.int .i64 x) := HT.out.box.cell 0
          have d1 : wA.cell? ⟨w.heap.size, 1, none⟩ = some (.int .i64 y) := HT.out.box.cell 1
          go_wp2_with fail
          (with_reducible refine (awake_any _).mono ?_)
          rintro e wz ⟨rfl, hb⟩
          have HBZ := Lib.hid (below_old HT.out.bel hb)
          clear hb
          go_wp2_with fail
          go_ret
          first | exact ⟨rfl, HBZ.out⟩ | exact ⟨ret_bool (by simpa using a2), HBZ.out⟩
end Go.Proofs.Ytgkkhbhobbhlpaa
