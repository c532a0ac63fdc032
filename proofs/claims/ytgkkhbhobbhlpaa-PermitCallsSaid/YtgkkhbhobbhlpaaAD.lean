/- PermitFells. -/
import Derived.Test.YtgkkhbhobbhlpaaAC
namespace Go.Proofs.Ytgkkhbhobbhlpaa
open Go.RowKit
set_option linter.unusedVariables false

theorem Pt.ix_self {R : Pt.Rg} (hO : Pt.Ok R) {k : Nat} (hk : k < R.length) : Pt.ix (R[k]).1.id R = k :=
  Pt.ix_eq hk rfl fun j hj hjk e => by have := hO.uni j k hj hk e; omega
theorem Pt.self {R : Pt.Rg} (hO : Pt.Ok R) {k : Nat} (hk : k < R.length) {e : Pt.Pm × Int} (he : R[k] = e) : R[Pt.ix e.1.id R]? = some e ∧ Pt.lfB R e.1.id = true ∧ Pt.lfN R e.1.id = e.1.qu - e.2 ∧ 0 ≤ e.1.qu - e.2 ∧ e.1.qu - e.2 ≤ 1125899906842624 := by
  subst he
  have h := Pt.ix_self hO hk
  obtain ⟨q0, q1, q2, q3⟩ := hO.quo k hk
  have hs : R[Pt.ix (R[k]).1.id R]? = some R[k] := by rw [h]; simp
  exact ⟨hs, by simp [Pt.lfB, h, hk], by rw [Pt.lfN, hs], by omega, by omega⟩

theorem short_eq (A : Option Addr) (c : Nat) (l : List Opr) (b : Bool) (hb : Hid (shortB l = b)) (w : World) (HS : Hid (SlR w A (orow l))) (hl : (l.length : Int) ≤ 9223372036854775807) (HZ : Hid (Sized l)) :
    Calls Try.prog 15 #[.slice A l.length c] w fun e w' => e = .returned (.bool b) ∧ w' = w := by
  have := short_any A c l w HS hl HZ
  rw [hb.out] at this
  exact this

set_option maxRecDepth 100000 in
set_option maxHeartbeats 8000000 in
theorem permitFells_walk (A : Option Addr) (c : Nat) (l : List Opr) (sp : ByteArray) (t : Int) (w : World) (HS : Hid (SlR w A (orow l))) (hl : (l.length : Int) ≤ 9223372036854775807) (HZ : Hid (Sized l)) (hsp : (sp.size : Int) ≤ 9223372036854775807) :
    Calls Try.prog 6 #[.slice A l.length c, .string sp, .int .i64 t] w fun e w' => e = .returned (.bool true) ∧ Below w.heap.size w w' := by
  cases hsh : shortB l with
  | false =>
    have HSH := Lib.hid hsh
    clear hsh
    go_enter Try.func6, Try.ntmps6
    go_wp2_with fail
    (with_reducible refine (short_eq _ _ _ _ HSH _ HS hl HZ).mono ?_)
    rintro e w1 ⟨rfl, hw1⟩
    subst w1
    go_wp2_with fail
    (with_reducible refine (awake_any _).mono ?_)
    rintro e wz ⟨rfl, hb⟩
    have HBZ := Lib.hid (below_old (Below.refl _ _) hb)
    clear hb
    go_wp2_with fail
    go_ret
    exact ⟨rfl, HBZ.out⟩
  | true =>
    have HSH := Lib.hid hsh
    by_cases h40 : (sp.size : Int) ≤ 40
    rotate_left
    · have h41 : (40 : Int) < (sp.size : Int) := by omega
      clear hsh
      go_enter Try.func6, Try.ntmps6
      go_wp2_with fail
      (with_reducible refine (short_eq _ _ _ _ HSH _ HS hl HZ).mono ?_)
      rintro e w1 ⟨rfl, hw1⟩
      subst w1
      go_wp2_with fail
      (with_reducible refine (awake_any _).mono ?_)
      rintro e wz ⟨rfl, hb⟩
      have HBZ := Lib.hid (below_old (Below.refl _ _) hb)
      clear hb
      go_wp2_with fail
      go_ret
      exact ⟨rfl, HBZ.out⟩
    have HPL := Lib.hid (play_any A c l w HS hsh)
    clear hsh
    have HO := Lib.hid (plOk l)
    have hl16 := HO.out.len
    go_enter Try.func6, Try.ntmps6
    go_wp2_with fail
    (with_reducible refine (short_eq _ _ _ _ HSH _ HS hl HZ).mono ?_)
    rintro e w1 ⟨rfl, hw1⟩
    subst w1
    go_wp2_with fail
    (with_reducible refine HPL.out.mono ?_)
    rintro e w2 ⟨rfl, hpw⟩
    obtain ⟨R, hR⟩ : ∃ R, plR l = R := ⟨_, rfl⟩
    rw [hR] at hpw HO hl16
    clear hR HPL
    have HW := Lib.hid hpw
    clear hpw
    obtain ⟨vp, vu, hr⟩ := HW.out.reg
    have HR := Lib.hid hr
    clear hr
    go_wp2_with fail
    (with_reducible refine (list_any _ HR HO).mono ?_)
    rintro e w3 ⟨v, rfl, hown, hb⟩
    obtain ⟨A2, c2, rfl, hsl, _⟩ := SlR.of_row hown
    have HA := Lib.hid hsl
    have HW := Lib.hid (HW.out.below hb)
    clear hsl hown hb HR
    go_wp2_with fail
    go_loopw [9] (fun i wr => ∃ k : Nat, i = .int .i64 k ∧ k ≤ R.length ∧ Hid (PlW w wr R) ∧ Hid (SlR wr A2 (prow R))) (fun i _ => R.length - (intOf i).toNat)
    case atStart => exact ⟨0, rfl, by omega, HW, HA⟩
    case round =>
      clear HW HA
      obtain ⟨k, rfl, hk, HW, HA⟩ := hrel
      obtain ⟨vp, vu, hr⟩ := HW.out.reg
      by_cases hlt : k < R.length
      · obtain ⟨b, off, rfl, hb, p0, p1, p2, p3, p4⟩ := HA.out.permit hlt
        have zk : (k : Int) < (R.length : Int) := by omega
        obtain ⟨e, he⟩ : ∃ e, R[k] = e := ⟨_, rfl⟩
        obtain ⟨hat, hB0, hN, n0, n1⟩ := Pt.self HO.out hlt he
        rw [he] at p0 p1 p2 p3 p4
        have HB0 := Lib.hid hB0
        have HN := Lib.hid hN
        have HF0 : Pt.flE R e.1.id sp t = if e.1.sp = sp then (if e.1.fr ≤ t ∧ t < e.1.un then 0 else 15) else 24 := by rw [Pt.flE, hat]
        have hbx := (Below.refl wr.heap.size wr).alloc (Nat.le_refl _) (.cells #[.string e.1.id, .string e.1.sp, .int .i64 e.1.fr, .int .i64 e.1.un, .int .i64 e.1.qu] 32)
        have HP : Hid (PBox (wr.alloc (.cells #[.string e.1.id, .string e.1.sp, .int .i64 e.1.fr, .int .i64 e.1.un, .int .i64 e.1.qu] 32)) wr.heap.size e.1) := Blk.new _ _ _
        have HW := Lib.hid (HW.out.below hbx)
        have HR := Lib.hid (hr.below hbx)
        have HA := Lib.hid (HA.out.below hbx)
        clear he hat hB0 hN hr hbx
        generalize hx : e.1.qu - e.2 = x at *
        clear hx
        by_cases hs : e.1.sp = sp
        · rw [if_pos hs] at HF0
          have hq := seq_t hs.symm
          by_cases h1 : e.1.fr ≤ t
          · by_cases h2 : t < e.1.un
            · have HF := Lib.hid (HF0.trans (if_pos ⟨h1, h2⟩))
              clear HF0 hs
              obtain ⟨c0, c1, c2, c3, c4⟩ := HP.out.cells
              go_wp2_with fail
              clear c0 c1 c2 c3 c4
              (with_reducible refine (left_eq e.1.id _ _ HN HB0 _ HR HO).mono ?_)
              rintro e w5 ⟨rfl, hb⟩
              have HW := Lib.hid (HW.out.below hb)
              have HR := Lib.hid (HR.out.below hb)
              have HA := Lib.hid (HA.out.below hb)
              have HP := Lib.hid (PBox.below HP.out hb)
              clear hb
              obtain ⟨c0, c1, c2, c3, c4⟩ := HP.out.cells
              go_wp2_with fail
              clear c0 c1 c2 c3 c4
              (with_reducible refine (fell_eq e.1.id sp t _ HF _ HR HO).mono ?_)
              rintro e w6 ⟨rfl, hb⟩
              have HW := Lib.hid (HW.out.below hb)
              have HR := Lib.hid (HR.out.below hb)
              have HA := Lib.hid (HA.out.below hb)
              have HP := Lib.hid (PBox.below HP.out hb)
              clear hb
              obtain ⟨c0, c1, c2, c3, c4⟩ := HP.out.cells
              go_wp2_with fail
              (with_reducible refine (left_eq e.1.id _ _ HN HB0 _ HR HO).mono ?_)
              rintro e w7 ⟨rfl, hb⟩
              have HW := Lib.hid (HW.out.below hb)
              have HA := Lib.hid (HA.out.below hb)
              clear hb
              go_wp2_with fail
              go_roundw
              case rel => exact ⟨k + 1, by go_num, by omega, HW, HA⟩
              case measure => simp [intOf]; omega
            · have HF := Lib.hid (HF0.trans (if_neg (fun g => h2 g.2)))
              clear HF0 hs
              obtain ⟨c0, c1, c2, c3, c4⟩ := HP.out.cells
              go_wp2_with fail
              clear c0 c1 c2 c3 c4
              (with_reducible refine (left_eq e.1.id _ _ HN HB0 _ HR HO).mono ?_)
              rintro e w5 ⟨rfl, hb⟩
              have HW := Lib.hid (HW.out.below hb)
              have HR := Lib.hid (HR.out.below hb)
              have HA := Lib.hid (HA.out.below hb)
              have HP := Lib.hid (PBox.below HP.out hb)
              clear hb
              obtain ⟨c0, c1, c2, c3, c4⟩ := HP.out.cells
              go_wp2_with fail
              clear c0 c1 c2 c3 c4
              (with_reducible refine (fell_eq e.1.id sp t _ HF _ HR HO).mono ?_)
              rintro e w6 ⟨rfl, hb⟩
              have HW := Lib.hid (HW.out.below hb)
              have HR := Lib.hid (HR.out.below hb)
              have HA := Lib.hid (HA.out.below hb)
              have HP := Lib.hid (PBox.below HP.out hb)
              clear hb
              obtain ⟨c0, c1, c2, c3, c4⟩ := HP.out.cells
              go_wp2_with fail
              (with_reducible refine (left_eq e.1.id _ _ HN HB0 _ HR HO).mono ?_)
              rintro e w7 ⟨rfl, hb⟩
              have HW := Lib.hid (HW.out.below hb)
              have HA := Lib.hid (HA.out.below hb)
              clear hb
              go_wp2_with fail
              go_roundw
              case rel => exact ⟨k + 1, by go_num, by omega, HW, HA⟩
              case measure => simp [intOf]; omega
          · have HF := Lib.hid (HF0.trans (if_neg (fun g => h1 g.1)))
            clear HF0 hs
            obtain ⟨c0, c1, c2, c3, c4⟩ := HP.out.cells
            go_wp2_with fail
            clear c0 c1 c2 c3 c4
            (with_reducible refine (left_eq e.1.id _ _ HN HB0 _ HR HO).mono ?_)
            rintro e w5 ⟨rfl, hb⟩
            have HW := Lib.hid (HW.out.below hb)
            have HR := Lib.hid (HR.out.below hb)
            have HA := Lib.hid (HA.out.below hb)
            have HP := Lib.hid (PBox.below HP.out hb)
            clear hb
            obtain ⟨c0, c1, c2, c3, c4⟩ := HP.out.cells
            go_wp2_with fail
            clear c0 c1 c2 c3 c4
            (with_reducible refine (fell_eq e.1.id sp t _ HF _ HR HO).mono ?_)
            rintro e w6 ⟨rfl, hb⟩
            have HW := Lib.hid (HW.out.below hb)
            have HR := Lib.hid (HR.out.below hb)
            have HA := Lib.hid (HA.out.below hb)
            have HP := Lib.hid (PBox.below HP.out hb)
            clear hb
            obtain ⟨c0, c1, c2, c3, c4⟩ := HP.out.cells
            go_wp2_with fail
            (with_reducible refine (left_eq e.1.id _ _ HN HB0 _ HR HO).mono ?_)
            rintro e w7 ⟨rfl, hb⟩
            have HW := Lib.hid (HW.out.below hb)
            have HA := Lib.hid (HA.out.below hb)
            clear hb
            go_wp2_with fail
            go_roundw
            case rel => exact ⟨k + 1, by go_num, by omega, HW, HA⟩
            case measure => simp [intOf]; omega
        · have HF := Lib.hid (HF0.trans (if_neg hs))
          have hq := seq_f (fun g => hs g.symm)
          clear HF0 hs
          obtain ⟨c0, c1, c2, c3, c4⟩ := HP.out.cells
          go_wp2_with fail
          clear c0 c1 c2 c3 c4
          (with_reducible refine (left_eq e.1.id _ _ HN HB0 _ HR HO).mono ?_)
          rintro e w5 ⟨rfl, hb⟩
          have HW := Lib.hid (HW.out.below hb)
          have HR := Lib.hid (HR.out.below hb)
          have HA := Lib.hid (HA.out.below hb)
          have HP := Lib.hid (PBox.below HP.out hb)
          clear hb
          obtain ⟨c0, c1, c2, c3, c4⟩ := HP.out.cells
          go_wp2_with fail
          clear c0 c1 c2 c3 c4
          (with_reducible refine (fell_eq e.1.id sp t _ HF _ HR HO).mono ?_)
          rintro e w6 ⟨rfl, hb⟩
          have HW := Lib.hid (HW.out.below hb)
          have HR := Lib.hid (HR.out.below hb)
          have HA := Lib.hid (HA.out.below hb)
          have HP := Lib.hid (PBox.below HP.out hb)
          clear hb
          obtain ⟨c0, c1, c2, c3, c4⟩ := HP.out.cells
          go_wp2_with fail
          (with_reducible refine (left_eq e.1.id _ _ HN HB0 _ HR HO).mono ?_)
          rintro e w7 ⟨rfl, hb⟩
          have HW := Lib.hid (HW.out.below hb)
          have HA := Lib.hid (HA.out.below hb)
          clear hb
          go_wp2_with fail
          go_roundw
          case rel => exact ⟨k + 1, by go_num, by omega, HW, HA⟩
          case measure => simp [intOf]; omega
      · have HR := Lib.hid hr
        clear hr
        go_wp2_with fail
        (with_reducible refine (list_any _ HR HO).mono ?_)
        rintro e w4 ⟨v, rfl, hown, hb⟩
        obtain ⟨A4, c4, rfl, hsl, _⟩ := SlR.of_row hown
        have HA4 := Lib.hid hsl
        have HA := Lib.hid (HA.out.below hb)
        have HW := Lib.hid (HW.out.below hb)
        clear hsl hown hb
        go_wp2_with fail
        (with_reducible refine (same_any _ _ _ _ R _ HA4 HA (by omega)).mono ?_)
        rintro e w5 ⟨rfl, hb⟩
        have HW := Lib.hid (HW.out.below hb)
        clear hb
        go_wp2_with fail
        (with_reducible refine (awake_any _).mono ?_)
        rintro e wz ⟨rfl, hb⟩
        have HBZ := Lib.hid (below_old HW.out.bel hb)
        clear hb
        go_wp2_with fail
        go_ret
        exact ⟨rfl, HBZ.out⟩
end Go.Proofs.Ytgkkhbhobbhlpaa
