/- Package clock: reached, Add, Next. -/
import Derived.Test.YtieafjbngealoaaDoorY3
namespace Go.Proofs.YtieafjbngealoaaDoor
open Go.RowKit
set_option linter.unusedVariables false

theorem drop_at {S : Ck.Sh} {k : Nat} (hk : k < S.length) : S.drop k = S[k] :: S.drop (k + 1) := List.drop_eq_getElem_cons hk
set_option maxHeartbeats 2000000 in
theorem reached_any (b : Nat) (S : Ck.Sh) (M : Int) (w : World) (HC : Hid (Cal w b S)) (HOK : Hid (Ck.Ok 0 S)) (hne : S ≠ []) (m0 : 1 ≤ M) (m1 : M ≤ 30000000) :
    Calls Tryd.prog 36 #[.pointer (some ⟨b, 0, none⟩), .int .i64 M] w fun e w' => e = .returned (.int .i64 (Ck.rch S M)) ∧ Below w.heap.size w w' := by
  have hl := HC.out.len
  have hl2 : (S.length : Int) ≤ 21 := by omega
  have hw0 := Ck.wk_pos hne HOK.out
  have hw1 := Ck.wk_hi HOK.out (by omega)
  have hE : Ck.rch S M = (M - 1) / Ck.wk S * 10080 + Ck.rcL S (M - (M - 1) / Ck.wk S * Ck.wk S) := rfl
  obtain ⟨v, hv⟩ : ∃ v, Ck.wk S = v := ⟨_, rfl⟩
  rw [hv] at hw0 hw1 hE
  have HV := Lib.hid hv
  clear hv hne
  have q0 : 0 ≤ (M - 1) / v := Int.ediv_nonneg (by omega) (by omega)
  have q1 : (M - 1) / v ≤ M - 1 := Int.ediv_le_self _ (by omega)
  have q2 := Int.mul_ediv_add_emod (M - 1) v
  have q3 := Int.emod_nonneg (M - 1) (show v ≠ 0 by omega)
  rw [Int.mul_comm] at q2
  have q4 : 0 ≤ (M - 1) / v * v := Int.mul_nonneg q0 (by omega)
  have q5 : (M - 1) / v * v ≤ M - 1 := by omega
  obtain ⟨q, hq⟩ : ∃ q, (M - 1) / v = q := ⟨_, rfl⟩
  obtain ⟨z, hz⟩ : ∃ z, q * v = z := ⟨_, rfl⟩
  rw [hq] at q0 q1 q4 q5 hE
  rw [hz] at q4 q5 hE
  have HE := Lib.hid hE
  clear q2 q3 hE
  go_enter Tryd.func36, Tryd.ntmps36
  go_wp2_with fail
  (with_reducible refine (weekly_eq _ _ _ HV _ HC HOK).mono ?_)
  rintro e w1 ⟨rfl, hb⟩
  have HC1 := Lib.hid (HC.out.below hb)
  have HB1 := Lib.hid hb
  clear hb
  go_wp2_with fail
  (with_reducible refine (list_any _ _ _ HC1).mono ?_)
  rintro e w2 ⟨rfl, n, rfl⟩
  go_wp2_with fail
  go_loopw [7, 28] (fun s i wr => ∃ (k : Nat) (l : Int), i = .int .i64 k ∧ k ≤ S.length ∧ s = .int .i64 l ∧ -10000000 ≤ l ∧ l ≤ 30000000 ∧ l ≤ 30000000 - k ∧ -10080 * (k : Int) ≤ l ∧ Hid (Ck.rch S M = q * 10080 + Ck.rcL (S.drop k) l) ∧ Below w.heap.size w wr) (fun _ i _ => S.length - (intOf i).toNat)
  case atStart => exact ⟨0, M - z, rfl, by omega, rfl, by omega, by omega, by omega, by omega, by show _ = _; rw [HE.out]; simp, below_drewN HB1.out n⟩
  case round =>
    obtain ⟨k, l, rfl, hk, rfl, hl1, hl2, hl3, hl4, hR, hB⟩ := hrel
    clear hq hz
    by_cases hlt : k < S.length
    · obtain ⟨c0, c1⟩ := HC.out.at_ hB k hlt
      obtain ⟨r0, r1, r2⟩ := sh_range HOK.out k hlt
      have zk : (k : Int) < (S.length : Int) := by omega
      have hbw : b < wr.heap.size := Nat.lt_of_lt_of_le HC.out.lt hB.size
      have hszw := hB.size
      have hne : b ≠ wr.heap.size := by omega
      have hdr := drop_at hlt
      by_cases g : l ≤ S[k].2 - S[k].1
      · have hres : Hid (Ck.rch S M = q * 10080 + S[k].1 + l) := by show _ = _; rw [hR.out, hdr, Ck.rcL, if_pos g]; omega
        clear hdr
        generalize S[k].1 = x at *
        generalize S[k].2 = y at *
        go_wp2_with fail
        go_ret
        exact ⟨ret_i hres.out.symm, hB.alloc hszw _⟩
      · have hnx : Hid (Ck.rch S M = q * 10080 + Ck.rcL (S.drop (k + 1)) (l - (S[k].2 - S[k].1))) := by show _ = _; rw [hR.out, hdr, Ck.rcL, if_neg g]
        clear hdr
        generalize S[k].1 = x at *
        generalize S[k].2 = y at *
        go_wp2_with fail
        go_roundw
        case rel => exact ⟨k + 1, _, by go_num, by omega, rfl, by omega, by omega, by omega, by omega, hnx, hB.alloc hszw _⟩
        case measure => simp [intOf]; omega
    · have he : S.drop k = [] := List.drop_of_length_le (by omega)
      have hres : Hid (Ck.rch S M = q * 10080 + 10080) := by show _ = _; rw [hR.out, he]; rfl
      go_wp2_with fail
      go_ret
      exact ⟨ret_i hres.out.symm, hB⟩
theorem reached_eq (b : Nat) (S : Ck.Sh) (M v : Int) (hv : Hid (Ck.rch S M = v)) (w : World) (HC : Hid (Cal w b S)) (HOK : Hid (Ck.Ok 0 S)) (hne : S ≠ []) (m0 : 1 ≤ M) (m1 : M ≤ 30000000) :
    Calls Tryd.prog 36 #[.pointer (some ⟨b, 0, none⟩), .int .i64 M] w fun e w' => e = .returned (.int .i64 v) ∧ Below w.heap.size w w' := by
  have := reached_any b S M w HC HOK hne m0 m1
  rw [hv.out] at this
  exact this

/-- What Add answers. -/
def adE (S : Ck.Sh) (t m : Int) : Int := if tmB t = false then 15 else if m < 0 ∨ 10000000 < m then 9 else if m = 0 then 0 else if Ck.rch S (Ck.pas S t + m) ≤ 10000000 then 0 else 15
def adV (S : Ck.Sh) (t m : Int) : Int := if adE S t m = 0 then (if m = 0 then t else Ck.rch S (Ck.pas S t + m)) else 0
theorem ad_time {S : Ck.Sh} {t m : Int} (h : ¬ (0 ≤ t ∧ t ≤ 10000000)) : adV S t m = 0 ∧ adE S t m = 15 := by
  have e : adE S t m = 15 := by unfold adE tmB; rw [if_pos (decide_eq_false h)]
  exact ⟨by unfold adV; rw [e]; rfl, e⟩
theorem ad_range {S : Ck.Sh} {t m : Int} (h : 0 ≤ t ∧ t ≤ 10000000) (hm : m < 0 ∨ 10000000 < m) : adV S t m = 0 ∧ adE S t m = 9 := by
  have e : adE S t m = 9 := by unfold adE tmB; rw [decide_eq_true h, if_neg (by simp), if_pos hm]
  exact ⟨by unfold adV; rw [e]; rfl, e⟩
theorem ad_zero {S : Ck.Sh} {t : Int} (h : 0 ≤ t ∧ t ≤ 10000000) : adV S t 0 = t ∧ adE S t 0 = 0 := by
  have e : adE S t 0 = 0 := by unfold adE tmB; rw [decide_eq_true h, if_neg (by simp), if_neg (by omega), if_pos rfl]
  exact ⟨by unfold adV; rw [e]; rfl, e⟩
theorem ad_ok {S : Ck.Sh} {t m : Int} (h : 0 ≤ t ∧ t ≤ 10000000) (hm : ¬ (m < 0 ∨ 10000000 < m)) (h0 : m ≠ 0) (hr : Ck.rch S (Ck.pas S t + m) ≤ 10000000) : adV S t m = Ck.rch S (Ck.pas S t + m) ∧ adE S t m = 0 := by
  have e : adE S t m = 0 := by unfold adE tmB; rw [decide_eq_true h, if_neg (by simp), if_neg hm, if_neg h0, if_pos hr]
  exact ⟨by unfold adV; rw [e, if_pos rfl, if_neg h0], e⟩
theorem ad_late {S : Ck.Sh} {t m : Int} (h : 0 ≤ t ∧ t ≤ 10000000) (hm : ¬ (m < 0 ∨ 10000000 < m)) (h0 : m ≠ 0) (hr : ¬ Ck.rch S (Ck.pas S t + m) ≤ 10000000) : adV S t m = 0 ∧ adE S t m = 15 := by
  have e : adE S t m = 15 := by unfold adE tmB; rw [decide_eq_true h, if_neg (by simp), if_neg hm, if_neg h0, if_neg hr]
  exact ⟨by unfold adV; rw [e]; rfl, e⟩
set_option maxHeartbeats 2000000 in
theorem add_any (b : Nat) (S : Ck.Sh) (t m : Int) (w : World) (HC : Hid (Cal w b S)) (HOK : Hid (Ck.Ok 0 S)) (hne : S ≠ []) :
    Calls Tryd.prog 24 #[.pointer (some ⟨b, 0, none⟩), .int .i64 t, .int .i64 m] w fun e w' => e = .returned (.tuple #[.int .i64 (adV S t m), .int .i64 (adE S t m)]) ∧ Below w.heap.size w w' := by
  by_cases ht : 0 ≤ t ∧ t ≤ 10000000
  · by_cases hm : m < 0 ∨ 10000000 < m
    · have hE := Lib.hid (ad_range (S := S) ht hm)
      by_cases hm1 : m < 0
      · clear hm
        go_enter Tryd.func24, Tryd.ntmps24
        go_wp2_with fail
        (with_reducible refine (tm_yes _ ht _).mono ?_)
        rintro e w1 ⟨rfl, rfl⟩
        go_wp2_with fail
        go_ret2
        exact ⟨ret_ii hE.out.1.symm hE.out.2.symm, Below.refl _ _⟩
      · have hm2 : 10000000 < m := by omega
        clear hm
        go_enter Tryd.func24, Tryd.ntmps24
        go_wp2_with fail
        (with_reducible refine (tm_yes _ ht _).mono ?_)
        rintro e w1 ⟨rfl, rfl⟩
        go_wp2_with fail
        go_ret2
        exact ⟨ret_ii hE.out.1.symm hE.out.2.symm, Below.refl _ _⟩
    · by_cases h0 : m = 0
      · subst h0
        have hE := Lib.hid (ad_zero (S := S) ht)
        clear hm
        go_enter Tryd.func24, Tryd.ntmps24
        go_wp2_with fail
        (with_reducible refine (tm_yes _ ht _).mono ?_)
        rintro e w1 ⟨rfl, rfl⟩
        go_wp2_with fail
        go_ret2
        exact ⟨ret_ii hE.out.1.symm hE.out.2.symm, Below.refl _ _⟩
      · have h1 : (m == 0) = false := by simpa using h0
        have p1 := Ck.pas_range HOK.out ht.1 ht.2
        have hr0 := (Ck.rch_facts hne HOK.out (M := Ck.pas S t + m) (by omega)).2.2.2
        have hm1 : 0 ≤ m := by omega
        have hm2 : m ≤ 10000000 := by omega
        by_cases hr : Ck.rch S (Ck.pas S t + m) ≤ 10000000
        · have hE := Lib.hid (ad_ok ht hm h0 hr)
          obtain ⟨p, hp⟩ : ∃ p, Ck.pas S t = p := ⟨_, rfl⟩
          obtain ⟨r, hrr⟩ : ∃ p, Ck.rch S (Ck.pas S t + m) = p := ⟨_, rfl⟩
          rw [hrr] at hr hr0 hE
          rw [hp] at hrr p1
          have HP := Lib.hid hp; have HR := Lib.hid hrr
          have hrt : 0 ≤ r ∧ r ≤ 10000000 := by omega
          have hp2 : 1 ≤ p + m := by omega
          clear hp hrr hm h0 hr hr0
          go_enter Tryd.func24, Tryd.ntmps24
          go_wp2_with fail
          (with_reducible refine (tm_yes _ ht _).mono ?_)
          rintro e w1 ⟨rfl, rfl⟩
          go_wp2_with fail
          (with_reducible refine (passed_eq _ _ _ _ HP _ HC HOK ht.1 ht.2).mono ?_)
          rintro e w1 ⟨rfl, hb⟩
          have HC1 := Lib.hid (HC.out.below hb)
          have HB1 := Lib.hid hb
          clear hb
          go_wp2_with fail
          (with_reducible refine (reached_eq _ _ _ _ HR _ HC1 HOK hne (by omega) (by omega)).mono ?_)
          rintro e w2 ⟨rfl, hb⟩
          have HB2 := Lib.hid (below_old HB1.out hb)
          clear hb
          go_wp2_with fail
          (with_reducible refine (tm_yes _ hrt _).mono ?_)
          rintro e w1 ⟨rfl, rfl⟩
          go_wp2_with fail
          go_ret2
          exact ⟨ret_ii hE.out.1.symm hE.out.2.symm, HB2.out⟩
        · have hE := Lib.hid (ad_late ht hm h0 hr)
          obtain ⟨p, hp⟩ : ∃ p, Ck.pas S t = p := ⟨_, rfl⟩
          obtain ⟨r, hrr⟩ : ∃ p, Ck.rch S (Ck.pas S t + m) = p := ⟨_, rfl⟩
          rw [hrr] at hr hr0
          rw [hp] at hrr p1
          have HP := Lib.hid hp; have HR := Lib.hid hrr
          have hrt : ¬ (0 ≤ r ∧ r ≤ 10000000) := by omega
          have hp2 : 1 ≤ p + m := by omega
          clear hp hrr hm h0 hr hr0
          go_enter Tryd.func24, Tryd.ntmps24
          go_wp2_with fail
          (with_reducible refine (tm_yes _ ht _).mono ?_)
          rintro e w1 ⟨rfl, rfl⟩
          go_wp2_with fail
          (with_reducible refine (passed_eq _ _ _ _ HP _ HC HOK ht.1 ht.2).mono ?_)
          rintro e w1 ⟨rfl, hb⟩
          have HC1 := Lib.hid (HC.out.below hb)
          have HB1 := Lib.hid hb
          clear hb
          go_wp2_with fail
          (with_reducible refine (reached_eq _ _ _ _ HR _ HC1 HOK hne (by omega) (by omega)).mono ?_)
          rintro e w2 ⟨rfl, hb⟩
          have HB2 := Lib.hid (below_old HB1.out hb)
          clear hb
          go_wp2_with fail
          (with_reducible refine (tm_no _ hrt _).mono ?_)
          rintro e w1 ⟨rfl, rfl⟩
          go_wp2_with fail
          go_ret2
          exact ⟨ret_ii hE.out.1.symm hE.out.2.symm, HB2.out⟩
  · have hE := Lib.hid (ad_time (S := S) (m := m) ht)
    go_enter Tryd.func24, Tryd.ntmps24
    go_wp2_with fail
    (with_reducible refine (tm_no _ ht _).mono ?_)
    rintro e w1 ⟨rfl, rfl⟩
    go_wp2_with fail
    go_ret2
    exact ⟨ret_ii hE.out.1.symm hE.out.2.symm, Below.refl _ _⟩

/-- What Next answers. -/
def nxE (S : Ck.Sh) (t : Int) : Int := if tmB t = true ∧ Ck.nxt S t ≤ 10000000 then 0 else 15
def nxV (S : Ck.Sh) (t : Int) : Int := if nxE S t = 0 then Ck.nxt S t else 0
theorem nx_ok {S : Ck.Sh} {t : Int} (h : 0 ≤ t ∧ t ≤ 10000000) (hn : Ck.nxt S t ≤ 10000000) : nxV S t = Ck.nxt S t ∧ nxE S t = 0 := by
  have e : nxE S t = 0 := by unfold nxE tmB; rw [if_pos ⟨decide_eq_true h, hn⟩]
  exact ⟨by unfold nxV; rw [if_pos e], e⟩
theorem nx_no {S : Ck.Sh} {t : Int} (h : ¬ ((0 ≤ t ∧ t ≤ 10000000) ∧ Ck.nxt S t ≤ 10000000)) : nxV S t = 0 ∧ nxE S t = 15 := by
  have e : nxE S t = 15 := by unfold nxE tmB; rw [if_neg (fun g => h ⟨by simpa using g.1, g.2⟩)]
  exact ⟨by unfold nxV; rw [e]; rfl, e⟩
theorem hd_zero {S : Ck.Sh} (h : 0 < S.length) : Ck.hd S = S[0].1 := by
  cases S with
  | nil => simp at h
  | cons s r => rfl
set_option maxHeartbeats 2000000 in
theorem next_any (b : Nat) (S : Ck.Sh) (t : Int) (w : World) (HC : Hid (Cal w b S)) (HOK : Hid (Ck.Ok 0 S)) (hne : S ≠ []) :
    Calls Tryd.prog 18 #[.pointer (some ⟨b, 0, none⟩), .int .i64 t] w fun e w' => e = .returned (.tuple #[.int .i64 (nxV S t), .int .i64 (nxE S t)]) ∧ Below w.heap.size w w' := by
  have hl := HC.out.len
  have hl2 : (S.length : Int) ≤ 21 := by omega
  by_cases ht : 0 ≤ t ∧ t ≤ 10000000
  · have hpos : 0 < S.length := List.length_pos_iff.2 hne
    obtain ⟨c0, _⟩ := HC.out.at_ (Below.refl _ _) 0 hpos
    obtain ⟨x0, x1, x2⟩ := sh_range HOK.out 0 hpos
    obtain ⟨N, hN⟩ : ∃ N, Ck.nxt S t = N := ⟨_, rfl⟩
    have hge := (Ck.nxt_facts hne HOK.out t).1
    rw [hN] at hge
    have hdef : t - t % (10080 : Int) + Ck.nxm ((10080 : Int) + S[0].1) S (t % (10080 : Int)) = N := by rw [← hN, ← hd_zero hpos]; rfl
    have HN := Lib.hid hN
    generalize S[0].1 = a at *
    obtain ⟨m, hm⟩ : ∃ m, t % 10080 = m := ⟨_, rfl⟩
    have hm0 : 0 ≤ m ∧ m < 10080 ∧ m ≤ t := by omega
    rw [hm] at hdef
    have HDF := Lib.hid hdef
    have t0 := ht.1
    have t1 := ht.2
    clear hN hdef hne
    simp only [Nat.zero_mul] at c0
    go_enter Tryd.func18, Tryd.ntmps18
    go_wp2_with fail
    (with_reducible refine (tm_yes _ ht _).mono ?_)
    rintro e w1 ⟨rfl, rfl⟩
    go_wp2_with fail
    (with_reducible refine (list_any _ _ _ HC).mono ?_)
    rintro e w1 ⟨rfl, n, rfl⟩
    go_wp2_with fail
    clear c0
    go_loopw [7, 31] (fun s i wr => ∃ k : Nat, i = .int .i64 k ∧ k ≤ S.length ∧ s = .int .i64 (t - m + 10080 + a) ∧ Hid (t - m + Ck.nxm (10080 + a) (S.drop k) m = N) ∧ Below w.heap.size w wr) (fun _ i _ => S.length - (intOf i).toNat)
    case atStart => exact ⟨0, rfl, by omega, rfl, by simpa using HDF, below_drewN (Below.refl _ _) n⟩
    case round =>
      obtain ⟨k, rfl, hk, rfl, hR, hB⟩ := hrel
      clear hm
      by_cases hlt : k < S.length
      · obtain ⟨c0, c1⟩ := HC.out.at_ hB k hlt
        obtain ⟨r0, r1, r2⟩ := sh_range HOK.out k hlt
        have zk : (k : Int) < (S.length : Int) := by omega
        have hbw : b < wr.heap.size := Nat.lt_of_lt_of_le HC.out.lt hB.size
        have hszw := hB.size
        have hne : b ≠ wr.heap.size := by omega
        have hdr := drop_at hlt
        by_cases g : m < S[k].2
        · have hres : Hid (max t (t - m + S[k].1) = N) := by show _ = _; rw [← hR.out, hdr, Ck.nxm, if_pos g]; omega
          clear hdr
          generalize S[k].1 = x at *
          generalize S[k].2 = y at *
          have hgo : t < t - m + y := by omega
          have hBa := Lib.hid (hB.alloc hszw (.cells #[.int .i64 x, .int .i64 y] 47))
          by_cases hmx : t < t - m + x
          · have HM : Hid (Ck.nxt S t = t - m + x) := by show _ = _; rw [HN.out, ← hres.out]; omega
            by_cases hr : (t - m + x) ≤ 10000000
            · have hE := Lib.hid (nx_ok (S := S) ht (by rw [HM.out]; exact hr))
              have hrt : 0 ≤ (t - m + x) ∧ (t - m + x) ≤ 10000000 := by omega
              rw [HM.out] at hE
              clear hr
              go_wp2_with fail
              (with_reducible refine (tm_yes _ hrt _).mono ?_)
              rintro e w1 ⟨rfl, rfl⟩
              go_wp2_with fail
              go_ret2
              exact ⟨ret_ii hE.out.1.symm hE.out.2.symm, hBa.out⟩
            · have hE := Lib.hid (nx_no (S := S) (t := t) (fun g => hr (by rw [← HM.out]; exact g.2)))
              have hrt : ¬ (0 ≤ (t - m + x) ∧ (t - m + x) ≤ 10000000) := by omega
              clear hr
              go_wp2_with fail
              (with_reducible refine (tm_no _ hrt _).mono ?_)
              rintro e w1 ⟨rfl, rfl⟩
              go_wp2_with fail
              go_ret2
              exact ⟨ret_ii hE.out.1.symm hE.out.2.symm, hBa.out⟩
          · have HM : Hid (Ck.nxt S t = t) := by show _ = _; rw [HN.out, ← hres.out]; omega
            have hE := Lib.hid (nx_ok (S := S) ht (by rw [HM.out]; exact t1))
            rw [HM.out] at hE
            go_wp2_with fail
            (with_reducible refine (tm_yes _ ht _).mono ?_)
            rintro e w1 ⟨rfl, rfl⟩
            go_wp2_with fail
            go_ret2
            exact ⟨ret_ii hE.out.1.symm hE.out.2.symm, hBa.out⟩
        · have hnx : Hid (t - m + Ck.nxm (10080 + a) (S.drop (k + 1)) m = N) := by
            show _ = _
            have := hR.out
            rw [hdr, Ck.nxm, if_neg g] at this
            exact this
          clear hdr
          generalize S[k].1 = x at *
          generalize S[k].2 = y at *
          have hgo : ¬ t < t - m + y := by omega
          go_wp2_with fail
          go_roundw
          case rel => exact ⟨k + 1, by go_num, by omega, rfl, hnx, hB.alloc hszw _⟩
          case measure => simp [intOf]; omega
      · have he : S.drop k = [] := List.drop_of_length_le (by omega)
        have hres : Hid (t - m + 10080 + a = N) := by
          show _ = _
          have := hR.out
          rw [he] at this
          have h2 : Ck.nxm (10080 + a) [] m = 10080 + a := rfl
          omega
        have HM : Hid (Ck.nxt S t = t - m + 10080 + a) := by show _ = _; rw [HN.out, ← hres.out]
        by_cases hr : (t - m + 10080 + a) ≤ 10000000
        · have hE := Lib.hid (nx_ok (S := S) ht (by rw [HM.out]; exact hr))
          have hrt : 0 ≤ (t - m + 10080 + a) ∧ (t - m + 10080 + a) ≤ 10000000 := by omega
          rw [HM.out] at hE
          clear hr
          go_wp2_with fail
          (with_reducible refine (tm_yes _ hrt _).mono ?_)
          rintro e w1 ⟨rfl, rfl⟩
          go_wp2_with fail
          go_ret2
          exact ⟨ret_ii hE.out.1.symm hE.out.2.symm, hB⟩
        · have hE := Lib.hid (nx_no (S := S) (t := t) (fun g => hr (by rw [← HM.out]; exact g.2)))
          have hrt : ¬ (0 ≤ (t - m + 10080 + a) ∧ (t - m + 10080 + a) ≤ 10000000) := by omega
          clear hr
          go_wp2_with fail
          (with_reducible refine (tm_no _ hrt _).mono ?_)
          rintro e w1 ⟨rfl, rfl⟩
          go_wp2_with fail
          go_ret2
          exact ⟨ret_ii hE.out.1.symm hE.out.2.symm, hB⟩
  · have hE := Lib.hid (nx_no (S := S) (t := t) (fun g => ht g.1))
    go_enter Tryd.func18, Tryd.ntmps18
    go_wp2_with fail
    (with_reducible refine (tm_no _ ht _).mono ?_)
    rintro e w1 ⟨rfl, rfl⟩
    go_wp2_with fail
    go_ret2
    exact ⟨ret_ii hE.out.1.symm hE.out.2.symm, Below.refl _ _⟩
end Go.Proofs.YtieafjbngealoaaDoor
