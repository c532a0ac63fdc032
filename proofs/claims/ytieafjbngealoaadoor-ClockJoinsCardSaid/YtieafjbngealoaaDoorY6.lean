/- The reference of chapter 7: until, Work, Next, Add. -/
import Derived.Test.YtieafjbngealoaaDoorY5
namespace Go.Proofs.YtieafjbngealoaaDoor
open Go.RowKit
set_option linter.unusedVariables false

theorem before_eq (A : Option Addr) (c : Nat) (S : Ck.Sh) (m v : Int) (hv : Hid (Ck.bf S m = v)) (w : World) (HA : Hid (SlA w A S)) (HOK : Hid (Ck.Ok 0 S)) (hl : (S.length : Int) ≤ 1000) (m0 : 0 ≤ m) (m1 : m ≤ 10080) :
    Calls Tryd.prog 47 #[.slice A S.length c, .int .i64 m] w fun e w' => e = .returned (.int .i64 v) ∧ ∃ n, w' = w.drewN n := by
  have := before_any A c S m w HA HOK hl m0 m1
  rw [hv.out] at this
  exact this
set_option maxHeartbeats 2000000 in
theorem until_any (A : Option Addr) (c : Nat) (S : Ck.Sh) (t : Int) (w : World) (HA : Hid (SlA w A S)) (HOK : Hid (Ck.Ok 0 S)) (hl : (S.length : Int) ≤ 1000) (t0 : 0 ≤ t) (t1 : t ≤ 10000000) :
    Calls Tryd.prog 35 #[.slice A S.length c, .int .i64 t] w fun e w' => e = .returned (.int .i64 (Ck.pas S t)) ∧ ∃ n, w' = w.drewN n := by
  have hwk := wk_take S.length HOK.out
  rw [List.take_length] at hwk
  have hp0 : 0 ≤ t / 10080 * Ck.wk S := Int.mul_nonneg (by omega) hwk.1
  have hp1 : t / 10080 * Ck.wk S ≤ 1000 * 10080 := Int.mul_le_mul (by omega) hwk.2 hwk.1 (by omega)
  have hb := bf_take S.length (t % 10080) HOK.out
  rw [List.take_length] at hb
  have hw := Ck.bf_week HOK.out
  obtain ⟨v, hv⟩ : ∃ v, Ck.wk S = v := ⟨_, rfl⟩
  obtain ⟨p, hp⟩ : ∃ p, t / 10080 * v = p := ⟨_, rfl⟩
  obtain ⟨m, hm⟩ : ∃ m, t % 10080 = m := ⟨_, rfl⟩
  rw [hm] at hb
  obtain ⟨u, hu⟩ : ∃ u, Ck.bf S m = u := ⟨_, rfl⟩
  have hE : Hid (Ck.pas S t = p + u) := by show _ = _; unfold Ck.pas; rw [hv, hp, hm, hu]
  rw [hv, hp] at hp0 hp1
  rw [hu] at hb
  rw [hv] at hw
  have HW := Lib.hid hw; have HU := Lib.hid hu
  clear hv hwk hw hu
  have hm0 : 0 ≤ m ∧ m < 10080 := by omega
  go_enter Tryd.func35, Tryd.ntmps35
  go_wp2_with fail
  (with_reducible refine (before_eq _ _ _ _ _ HW _ HA HOK hl (by omega) (by omega)).mono ?_)
  rintro e w1 ⟨rfl, n, rfl⟩
  go_wp2_with fail
  (with_reducible refine (before_eq _ _ _ _ _ HU _ (Lib.hid (HA.out.drew n)) HOK hl (by omega) (by omega)).mono ?_)
  rintro e w2 ⟨rfl, n2, rfl⟩
  go_wp2_with fail
  go_ret
  exact ⟨ret_i hE.out.symm, n + n2, by first | rfl | rw [World.drewN_drewN]⟩
theorem until_eq (A : Option Addr) (c : Nat) (S : Ck.Sh) (t v : Int) (hv : Hid (Ck.pas S t = v)) (w : World) (HA : Hid (SlA w A S)) (HOK : Hid (Ck.Ok 0 S)) (hl : (S.length : Int) ≤ 1000) (t0 : 0 ≤ t) (t1 : t ≤ 10000000) :
    Calls Tryd.prog 35 #[.slice A S.length c, .int .i64 t] w fun e w' => e = .returned (.int .i64 v) ∧ Below w.heap.size w w' := by
  have := until_any A c S t w HA HOK hl t0 t1
  rw [hv.out] at this
  exact calls_drew this
set_option maxHeartbeats 2000000 in
theorem rwork_any (A : Option Addr) (c : Nat) (S : Ck.Sh) (x y : Int) (w : World) (HA : Hid (SlA w A S)) (HOK : Hid (Ck.Ok 0 S)) (hl : (S.length : Int) ≤ 1000) :
    Calls Tryd.prog 23 #[.slice A S.length c, .int .i64 x, .int .i64 y] w fun e w' => e = .returned (.int .i64 (wrV S x y)) ∧ Below w.heap.size w w' := by
  by_cases hx : 0 ≤ x ∧ x ≤ 10000000
  · by_cases hy : 0 ≤ y ∧ y ≤ 10000000
    · by_cases hxy : x ≤ y
      · have hE : Hid (wrV S x y = Ck.pas S y - Ck.pas S x) := by show _ = _; unfold wrV tmB; rw [if_pos ⟨decide_eq_true hx, decide_eq_true hy, hxy⟩]
        have p1 := Ck.pas_range HOK.out hx.1 hx.2
        have p2 := Ck.pas_range HOK.out hy.1 hy.2
        obtain ⟨v, hv⟩ : ∃ v, Ck.pas S x = v := ⟨_, rfl⟩
        obtain ⟨u, hu⟩ : ∃ v, Ck.pas S y = v := ⟨_, rfl⟩
        rw [hv] at p1 hE
        rw [hu] at p2 hE
        have HV := Lib.hid hv; have HU := Lib.hid hu
        clear hv hu
        go_enter Tryd.func23, Tryd.ntmps23
        go_wp2_with fail
        (with_reducible refine (rtm_yes _ hx _).mono ?_)
        rintro e w1 ⟨rfl, rfl⟩
        go_wp2_with fail
        (with_reducible refine (rtm_yes _ hy _).mono ?_)
        rintro e w1 ⟨rfl, rfl⟩
        go_wp2_with fail
        (with_reducible refine (until_eq _ _ _ _ _ HU _ HA HOK hl hy.1 hy.2).mono ?_)
        rintro e w1 ⟨rfl, hb⟩
        have HA1 := Lib.hid (HA.out.below hb)
        have HB1 := Lib.hid hb
        clear hb
        go_wp2_with fail
        (with_reducible refine (until_eq _ _ _ _ _ HV _ HA1 HOK hl hx.1 hx.2).mono ?_)
        rintro e w2 ⟨rfl, hb⟩
        have HB2 := Lib.hid (below_old HB1.out hb)
        clear hb
        go_wp2_with fail
        go_ret
        exact ⟨ret_i hE.out.symm, HB2.out⟩
      · have hE : Hid (wrV S x y = 0) := by show _ = _; unfold wrV; rw [if_neg (fun h => hxy h.2.2)]
        go_enter Tryd.func23, Tryd.ntmps23
        go_wp2_with fail
        (with_reducible refine (rtm_yes _ hx _).mono ?_)
        rintro e w1 ⟨rfl, rfl⟩
        go_wp2_with fail
        (with_reducible refine (rtm_yes _ hy _).mono ?_)
        rintro e w1 ⟨rfl, rfl⟩
        go_wp2_with fail
        go_ret
        exact ⟨ret_i hE.out.symm, Below.refl _ _⟩
    · have hE : Hid (wrV S x y = 0) := by show _ = _; unfold wrV tmB; rw [if_neg (fun h => hy (by simpa using h.2.1))]
      go_enter Tryd.func23, Tryd.ntmps23
      go_wp2_with fail
      (with_reducible refine (rtm_yes _ hx _).mono ?_)
      rintro e w1 ⟨rfl, rfl⟩
      go_wp2_with fail
      (with_reducible refine (rtm_no _ hy _).mono ?_)
      rintro e w1 ⟨rfl, rfl⟩
      go_wp2_with fail
      go_ret
      exact ⟨ret_i hE.out.symm, Below.refl _ _⟩
  · have hE : Hid (wrV S x y = 0) := by show _ = _; unfold wrV tmB; rw [if_neg (fun h => hx (by simpa using h.1))]
    go_enter Tryd.func23, Tryd.ntmps23
    go_wp2_with fail
    (with_reducible refine (rtm_no _ hx _).mono ?_)
    rintro e w1 ⟨rfl, rfl⟩
    go_wp2_with fail
    go_ret
    exact ⟨ret_i hE.out.symm, Below.refl _ _⟩

theorem ropen_eq (A : Option Addr) (c : Nat) (S : Ck.Sh) (t : Int) (o : Bool) (ho : Hid (opB S t = o)) (w : World) (HA : Hid (SlA w A S)) (hl : (S.length : Int) ≤ 1000) :
    Calls Tryd.prog 21 #[.slice A S.length c, .int .i64 t] w fun e w' => e = .returned (.bool o) ∧ w = w' := by
  have := ropen07_any A c S t w HA hl
  rw [ho.out] at this
  exact this
/-- The reference's loop, from behind. -/
theorem nrm_drop {S : Ck.Sh} {d m : Int} {k : Nat} (hk : k < S.length) : Ck.nrm d (S.drop k) m = if m < S[k].1 then S[k].1 else Ck.nrm d (S.drop (k + 1)) m := by
  rw [drop_at hk, Ck.nrm]
theorem nrm_range : ∀ {S : Ck.Sh} {last m d : Int}, Ck.Ok last S → 0 ≤ d → d ≤ 20160 → 0 ≤ Ck.nrm d S m ∧ Ck.nrm d S m ≤ 20160
  | [], _, _, _, _, h0, h1 => ⟨h0, h1⟩
  | s :: r, last, m, d, h, h0, h1 => by
    rw [Ck.nrm]
    have := h.1; have := h.2.1; have := h.2.2.1
    split
    · omega
    · exact nrm_range h.2.2.2.2 h0 h1
theorem ok_drop : ∀ {S : Ck.Sh} {last : Int} (k : Nat), Ck.Ok last S → ∃ l, Ck.Ok l (S.drop k)
  | S, last, 0, h => ⟨last, by simpa using h⟩
  | [], _, k + 1, _ => ⟨0, by simp [Ck.Ok]⟩
  | s :: r, last, k + 1, h => by
    obtain ⟨l, hl⟩ := ok_drop k h.2.2.2.2
    exact ⟨l, by simpa using hl⟩
set_option maxHeartbeats 2000000 in
theorem rnext_any (A : Option Addr) (c : Nat) (S : Ck.Sh) (t : Int) (w : World) (HA : Hid (SlA w A S)) (HOK : Hid (Ck.Ok 0 S)) (hl : (S.length : Int) ≤ 1000) (hne : S ≠ []) :
    Calls Tryd.prog 19 #[.slice A S.length c, .int .i64 t] w fun e w' => e = .returned (.tuple #[.int .i64 (nxV S t), .int .i64 (nxE S t)]) ∧ w = w' := by
  by_cases ht : 0 ≤ t ∧ t ≤ 10000000
  · have hpos : 0 < S.length := List.length_pos_iff.2 hne
    have hop : opB S t = Ck.opm S (t % 10080) := by unfold opB tmB Ck.op; rw [decide_eq_true ht]; rfl
    have t0 := ht.1
    have t1 := ht.2
    cases ho : Ck.opm S (t % 10080) with
    | true =>
      have hN : Ck.nxt S t = t := by unfold Ck.nxt; rw [Ck.nxm_open HOK.out ho]; omega
      have hE := Lib.hid (nx_ok (S := S) ht (by rw [hN]; exact t1))
      rw [hN] at hE
      have HO : Hid (opB S t = true) := by show _ = _; rw [hop, ho]
      clear hop ho hN
      go_enter Tryd.func19, Tryd.ntmps19
      go_wp2_with fail
      (with_reducible refine (rtm_yes _ ht _).mono ?_)
      rintro e w1 ⟨rfl, rfl⟩
      go_wp2_with fail
      (with_reducible refine (ropen_eq _ _ _ _ _ HO _ HA hl).mono ?_)
      rintro e w1 ⟨rfl, rfl⟩
      go_wp2_with fail
      go_ret2
      exact ⟨ret_ii hE.out.1.symm hE.out.2.symm, rfl⟩
    | false =>
      have hN : Ck.nxt S t = t - t % (10080 : Int) + Ck.nrm ((10080 : Int) + Ck.hd S) S (t % (10080 : Int)) := by unfold Ck.nxt; rw [Ck.nrm_eq HOK.out ho]
      have HO : Hid (opB S t = false) := by show _ = _; rw [hop, ho]
      obtain ⟨b, off, rfl, hbl, hcc⟩ := HA.out hpos
      have c0 := (hcc 0 hpos).1
      rw [hd_zero hpos] at hN
      obtain ⟨x0, x1, x2⟩ := sh_range HOK.out 0 hpos
      have hx3 : S[0].1 ≤ 10080 := by omega
      clear x1 x2
      generalize S[0].1 = a at *
      obtain ⟨m, hm⟩ : ∃ m, t % 10080 = m := ⟨_, rfl⟩
      rw [hm] at hN
      have hm0 : 0 ≤ m ∧ m < 10080 ∧ m ≤ t := by omega
      have HN := Lib.hid hN
      have hst : Ck.nrm (10080 + a) (S.drop S.length) m = 10080 + a := by rw [List.drop_length]; rfl
      have HST : Hid (t - m + 10080 + a = t - m + Ck.nrm (10080 + a) (S.drop S.length) m) := by show _ = _; rw [hst]; omega
      simp only [Nat.zero_mul, Nat.add_zero] at c0
      have hpI : (0 : Int) < (S.length : Int) := by omega
      clear hop ho hN hne hcc hst
      go_enter Tryd.func19, Tryd.ntmps19
      go_wp2_with fail
      (with_reducible refine (rtm_yes _ ht _).mono ?_)
      rintro e w1 ⟨rfl, rfl⟩
      go_wp2_with fail
      (with_reducible refine (ropen_eq _ _ _ _ _ HO _ HA hl).mono ?_)
      rintro e w1 ⟨rfl, rfl⟩
      go_wp2_with fail
      simp only [hm]
      go_loop [7, 8] (fun s i => ∃ k : Nat, i = .int .i64 ((k : Int) - 1) ∧ k ≤ S.length ∧ s = .int .i64 (t - m + Ck.nrm (10080 + a) (S.drop k) m)) (fun _ i => (intOf i + 1).toNat)
      case atStart => exact ⟨S.length, rfl, by omega, by rw [← HST.out]⟩
      case round =>
        obtain ⟨k, rfl, hk, rfl⟩ := hrel
        clear hm c0
        cases k with
        | zero =>
          rw [List.drop_zero, ← HN.out, show ((0 : Nat) : Int) - 1 = -1 from rfl]
          by_cases hr : Ck.nxt S t ≤ 10000000
          · have hE := Lib.hid (nx_ok (S := S) ht hr)
            generalize Ck.nxt S t = N at *
            go_wp2_with fail
            go_ret2
            exact ⟨ret_ii hE.out.1.symm hE.out.2.symm, rfl⟩
          · have hE := Lib.hid (nx_no (S := S) (t := t) (fun g => hr g.2))
            generalize Ck.nxt S t = N at *
            go_wp2_with fail
            go_ret2
            exact ⟨ret_ii hE.out.1.symm hE.out.2.symm, rfl⟩
        | succ k =>
          have hlt : k < S.length := by omega
          obtain ⟨b', off', hAe, _, hcc⟩ := HA.out hpos
          have c1 := (hcc k hlt).1
          obtain ⟨rfl, rfl⟩ : b = b' ∧ off = off' := by simpa using hAe
          clear hcc hAe
          obtain ⟨r0, r1, r2⟩ := sh_range HOK.out k hlt
          have hnr := Lib.hid (nrm_drop (S := S) (d := 10080 + a) (m := m) hlt)
          obtain ⟨l, hol⟩ := ok_drop (k + 1) HOK.out
          have hrg := nrm_range (m := m) (d := 10080 + a) hol (by omega) (by omega)
          have hx4 : S[k].1 ≤ 10080 := by omega
          clear r1 r2 hol
          generalize S[k].1 = x at *
          generalize Ck.nrm (10080 + a) (S.drop (k + 1)) m = v at *
          rw [show ((k + 1 : Nat) : Int) - 1 = (k : Int) by omega]
          have zk : (k : Int) < (S.length : Int) := by omega
          by_cases g : m < x
          · rw [if_pos g] at hnr
            go_wp2_with fail
            go_round
            case rel => exact ⟨k, rfl, by omega, by rw [hnr.out]⟩
            case measure => first | (simp [intOf]; done) | (simp [intOf]; omega)
          · rw [if_neg g] at hnr
            go_wp2_with fail
            go_round
            case rel => exact ⟨k, rfl, by omega, by rw [hnr.out]⟩
            case measure => first | (simp [intOf]; done) | (simp [intOf]; omega)
  · have hE := Lib.hid (nx_no (S := S) (t := t) (fun g => ht g.1))
    go_enter Tryd.func19, Tryd.ntmps19
    go_wp2_with fail
    (with_reducible refine (rtm_no _ ht _).mono ?_)
    rintro e w1 ⟨rfl, rfl⟩
    go_wp2_with fail
    go_ret2
    exact ⟨ret_ii hE.out.1.symm hE.out.2.symm, rfl⟩
end Go.Proofs.YtieafjbngealoaaDoor
