/- law07: the walks of ClockNexts and ClockInverts. -/
import Derived.Test.YtieafjbngealoaaDoorYD
namespace Go.Proofs.YtieafjbngealoaaDoor
open Go.RowKit
set_option linter.unusedVariables false
theorem op_yes {S : Ck.Sh} {t : Int} (h : 0 ≤ t ∧ t ≤ 10000000) (ho : Ck.op S t = true) : opB S t = true := by
  unfold opB tmB
  rw [decide_eq_true h, ho]
  rfl
theorem op_no {S : Ck.Sh} {t : Int} (ho : Ck.op S t = false) : opB S t = false := by
  unfold opB
  rw [ho, Bool.and_false]
set_option maxHeartbeats 2000000 in
theorem clockNexts_walk (A : Option Addr) (c : Nat) (S : Ck.Sh) (t : Int) (w : World) (HA : Hid (SlA w A S)) (ht : TabOk w) : Calls Tryd.prog 10 #[.slice A S.length c, .int .i64 t] w (LawR w) := by
  have HTAB := Lib.hid ht
  clear ht
  by_cases hc : Ck.chk S = 0
  rotate_left
  · have HB := Lib.hid (Below.refl w.heap.size w)
    go_enter Tryd.func10, Tryd.ntmps10
    go_wp2_with fail
    (with_reducible refine (made_no _ _ _ _ HA (Lib.hid hc)).mono ?_)
    rintro e u1 ⟨rfl, hb⟩
    have HB := Lib.hid (below_old HB.out hb)
    clear hb
    go_wp2_with fail
    (with_reducible refine (awake_any _ (Lib.hid (HTAB.out.below HB.out))).mono ?_)
    rintro e uz ⟨rfl, hb⟩
    have HB := Lib.hid (below_old HB.out hb)
    clear hb
    go_wp2_with fail
    go_ret
    exact ⟨rfl, HB.out⟩
  have HX : Hid (Ck.chk S = 0) := hc
  have HOK := Lib.hid (Ck.chk_ok hc).2.2
  have hne := Lib.hid (Ck.chk_ok hc).1
  have HB := Lib.hid (Below.refl w.heap.size w)
  clear hc
  by_cases htm : 0 ≤ t ∧ t ≤ 10000000
  rotate_left
  · go_enter Tryd.func10, Tryd.ntmps10
    go_wp2_with fail
    (with_reducible refine (made_yes _ _ _ _ (Lib.hid (HA.out.below HB.out)) HX).mono ?_)
    rintro e um ⟨⟨b, rfl, HC⟩, hb⟩
    have HB := Lib.hid (below_old HB.out hb)
    clear hb
    go_wp2_with fail
    (with_reducible refine (ltm_no _ htm _).mono ?_)
    rintro e w1 ⟨rfl, rfl⟩
    go_wp2_with fail
    (with_reducible refine (awake_any _ (Lib.hid (HTAB.out.below HB.out))).mono ?_)
    rintro e uz ⟨rfl, hb⟩
    have HB := Lib.hid (below_old HB.out hb)
    clear hb
    go_wp2_with fail
    go_ret
    exact ⟨rfl, HB.out⟩
  obtain ⟨n1, n2, n3⟩ := Ck.nxt_facts hne.out HOK.out t
  by_cases hn : Ck.nxt S t ≤ 10000000
  · obtain ⟨e1, e2⟩ := nx_ok htm hn
    have o1 := op_yes (S := S) ⟨by omega, hn⟩ n2
    have w1 : wrV S t (Ck.nxt S t) = 0 := by
      rw [wr_val htm ⟨by omega, hn⟩ n1, Ck.pas_same HOK.out n1 n3]
      omega
    generalize Ck.nxt S t = v at *
    have E1 := Lib.hid e1; have E2 := Lib.hid e2; have O1 := Lib.hid o1; have W1 := Lib.hid w1
    clear e1 e2 o1 w1 n2 n3
    go_enter Tryd.func10, Tryd.ntmps10
    go_wp2_with fail
    (with_reducible refine (made_yes _ _ _ _ (Lib.hid (HA.out.below HB.out)) HX).mono ?_)
    rintro e um ⟨⟨b, rfl, HC⟩, hb⟩
    have HB := Lib.hid (below_old HB.out hb)
    clear hb
    go_wp2_with fail
    (with_reducible refine (ltm_yes _ htm _).mono ?_)
    rintro e w1 ⟨rfl, rfl⟩
    go_wp2_with fail
    (with_reducible refine (next_eq _ _ _ _ _ E1 E2 _ HC HOK hne.out).mono ?_)
    rintro e u2 ⟨rfl, hb⟩
    have HB := Lib.hid (below_old HB.out hb)
    have HC := Lib.hid (HC.out.below hb)
    clear hb
    go_wp2_with fail
    (with_reducible refine (open_eq _ _ _ _ O1 _ HC HOK).mono ?_)
    rintro e u3 ⟨rfl, hb⟩
    have HB := Lib.hid (below_old HB.out hb)
    have HC := Lib.hid (HC.out.below hb)
    clear hb
    go_wp2_with fail
    (with_reducible refine (work_eq _ _ _ _ _ W1 _ HC HOK).mono ?_)
    rintro e u4 ⟨rfl, hb⟩
    have HB := Lib.hid (below_old HB.out hb)
    have HC := Lib.hid (HC.out.below hb)
    clear hb
    go_wp2_with fail
    (with_reducible refine (awake_any _ (Lib.hid (HTAB.out.below HB.out))).mono ?_)
    rintro e uz ⟨rfl, hb⟩
    have HB := Lib.hid (below_old HB.out hb)
    clear hb
    go_wp2_with fail
    go_ret
    exact ⟨rfl, HB.out⟩
  · obtain ⟨e1, e2⟩ := nx_no (S := S) (t := t) (fun g => hn g.2)
    have o1 : opB S 10000000 = false := op_no (n3 _ htm.2 (by omega))
    have w1 : wrV S t 10000000 = 0 := by
      rw [wr_val htm ⟨by omega, by omega⟩ htm.2, Ck.pas_same HOK.out htm.2 (fun x h1 h2 => n3 x h1 (by omega))]
      omega
    have E1 := Lib.hid e1; have E2 := Lib.hid e2; have O1 := Lib.hid o1; have W1 := Lib.hid w1
    clear e1 e2 o1 w1 n1 n2 n3 hn
    go_enter Tryd.func10, Tryd.ntmps10
    go_wp2_with fail
    (with_reducible refine (made_yes _ _ _ _ (Lib.hid (HA.out.below HB.out)) HX).mono ?_)
    rintro e um ⟨⟨b, rfl, HC⟩, hb⟩
    have HB := Lib.hid (below_old HB.out hb)
    clear hb
    go_wp2_with fail
    (with_reducible refine (ltm_yes _ htm _).mono ?_)
    rintro e w1 ⟨rfl, rfl⟩
    go_wp2_with fail
    (with_reducible refine (next_eq _ _ _ _ _ E1 E2 _ HC HOK hne.out).mono ?_)
    rintro e u2 ⟨rfl, hb⟩
    have HB := Lib.hid (below_old HB.out hb)
    have HC := Lib.hid (HC.out.below hb)
    clear hb
    go_wp2_with fail
    (with_reducible refine (work_eq _ _ _ _ _ W1 _ HC HOK).mono ?_)
    rintro e u4 ⟨rfl, hb⟩
    have HB := Lib.hid (below_old HB.out hb)
    have HC := Lib.hid (HC.out.below hb)
    clear hb
    go_wp2_with fail
    (with_reducible refine (open_eq _ _ _ _ O1 _ HC HOK).mono ?_)
    rintro e u3 ⟨rfl, hb⟩
    have HB := Lib.hid (below_old HB.out hb)
    have HC := Lib.hid (HC.out.below hb)
    clear hb
    go_wp2_with fail
    (with_reducible refine (awake_any _ (Lib.hid (HTAB.out.below HB.out))).mono ?_)
    rintro e uz ⟨rfl, hb⟩
    have HB := Lib.hid (below_old HB.out hb)
    clear hb
    go_wp2_with fail
    go_ret
    exact ⟨rfl, HB.out⟩
set_option maxHeartbeats 4000000 in
theorem clockInverts_walk (A : Option Addr) (c : Nat) (S : Ck.Sh) (t m : Int) (w : World) (HA : Hid (SlA w A S)) (ht : TabOk w) : Calls Tryd.prog 9 #[.slice A S.length c, .int .i64 t, .int .i64 m] w (LawR w) := by
  have HTAB := Lib.hid ht
  clear ht
  by_cases hc : Ck.chk S = 0
  rotate_left
  · have HB := Lib.hid (Below.refl w.heap.size w)
    go_enter Tryd.func9, Tryd.ntmps9
    go_wp2_with fail
    (with_reducible refine (made_no _ _ _ _ HA (Lib.hid hc)).mono ?_)
    rintro e u1 ⟨rfl, hb⟩
    have HB := Lib.hid (below_old HB.out hb)
    clear hb
    go_wp2_with fail
    (with_reducible refine (awake_any _ (Lib.hid (HTAB.out.below HB.out))).mono ?_)
    rintro e uz ⟨rfl, hb⟩
    have HB := Lib.hid (below_old HB.out hb)
    clear hb
    go_wp2_with fail
    go_ret
    exact ⟨rfl, HB.out⟩
  have HX : Hid (Ck.chk S = 0) := hc
  have HOK := Lib.hid (Ck.chk_ok hc).2.2
  have hne := Lib.hid (Ck.chk_ok hc).1
  have HB := Lib.hid (Below.refl w.heap.size w)
  clear hc
  by_cases htm : 0 ≤ t ∧ t ≤ 10000000
  rotate_left
  · go_enter Tryd.func9, Tryd.ntmps9
    go_wp2_with fail
    (with_reducible refine (made_yes _ _ _ _ (Lib.hid (HA.out.below HB.out)) HX).mono ?_)
    rintro e um ⟨⟨b, rfl, HC⟩, hb⟩
    have HB := Lib.hid (below_old HB.out hb)
    clear hb
    go_wp2_with fail
    (with_reducible refine (ltm_no _ htm _).mono ?_)
    rintro e w1 ⟨rfl, rfl⟩
    go_wp2_with fail
    (with_reducible refine (awake_any _ (Lib.hid (HTAB.out.below HB.out))).mono ?_)
    rintro e uz ⟨rfl, hb⟩
    have HB := Lib.hid (below_old HB.out hb)
    clear hb
    go_wp2_with fail
    go_ret
    exact ⟨rfl, HB.out⟩
  by_cases hm0 : m < 0
  · go_enter Tryd.func9, Tryd.ntmps9
    go_wp2_with fail
    (with_reducible refine (made_yes _ _ _ _ (Lib.hid (HA.out.below HB.out)) HX).mono ?_)
    rintro e um ⟨⟨b, rfl, HC⟩, hb⟩
    have HB := Lib.hid (below_old HB.out hb)
    clear hb
    go_wp2_with fail
    (with_reducible refine (ltm_yes _ htm _).mono ?_)
    rintro e w1 ⟨rfl, rfl⟩
    go_wp2_with fail
    (with_reducible refine (awake_any _ (Lib.hid (HTAB.out.below HB.out))).mono ?_)
    rintro e uz ⟨rfl, hb⟩
    have HB := Lib.hid (below_old HB.out hb)
    clear hb
    go_wp2_with fail
    go_ret
    exact ⟨rfl, HB.out⟩
  by_cases hm1 : 10000000 < m
  · go_enter Tryd.func9, Tryd.ntmps9
    go_wp2_with fail
    (with_reducible refine (made_yes _ _ _ _ (Lib.hid (HA.out.below HB.out)) HX).mono ?_)
    rintro e um ⟨⟨b, rfl, HC⟩, hb⟩
    have HB := Lib.hid (below_old HB.out hb)
    clear hb
    go_wp2_with fail
    (with_reducible refine (ltm_yes _ htm _).mono ?_)
    rintro e w1 ⟨rfl, rfl⟩
    go_wp2_with fail
    (with_reducible refine (awake_any _ (Lib.hid (HTAB.out.below HB.out))).mono ?_)
    rintro e uz ⟨rfl, hb⟩
    have HB := Lib.hid (below_old HB.out hb)
    clear hb
    go_wp2_with fail
    go_ret
    exact ⟨rfl, HB.out⟩
  have had := ad_of (S := S) htm (m := m) (by omega)
  by_cases ha : adT S t m ≤ 10000000
  · obtain ⟨e1, e2⟩ := had.1 ha
    by_cases hz : m = 0
    · subst hz
      have e0 : adT S t 0 = t := by unfold adT; rw [if_pos rfl]
      rw [e0] at e1
      have w1 : wrV S t t = 0 := by rw [wr_val htm htm (by omega)]; omega
      have E1 := Lib.hid e1; have E2 := Lib.hid e2; have W1 := Lib.hid w1
      clear e1 e2 w1 e0 had ha hm0 hm1
      go_enter Tryd.func9, Tryd.ntmps9
      go_wp2_with fail
      (with_reducible refine (made_yes _ _ _ _ (Lib.hid (HA.out.below HB.out)) HX).mono ?_)
      rintro e um ⟨⟨b, rfl, HC⟩, hb⟩
      have HB := Lib.hid (below_old HB.out hb)
      clear hb
      go_wp2_with fail
      (with_reducible refine (ltm_yes _ htm _).mono ?_)
      rintro e w1 ⟨rfl, rfl⟩
      go_wp2_with fail
      (with_reducible refine (add_eq _ _ _ _ _ _ E1 E2 _ HC HOK hne.out).mono ?_)
      rintro e u2 ⟨rfl, hb⟩
      have HB := Lib.hid (below_old HB.out hb)
      have HC := Lib.hid (HC.out.below hb)
      clear hb
      go_wp2_with fail
      (with_reducible refine (ltm_yes _ htm _).mono ?_)
      rintro e w1 ⟨rfl, rfl⟩
      go_wp2_with fail
      (with_reducible refine (work_eq _ _ _ _ _ W1 _ HC HOK).mono ?_)
      rintro e u3 ⟨rfl, hb⟩
      have HB := Lib.hid (below_old HB.out hb)
      have HC := Lib.hid (HC.out.below hb)
      clear hb
      go_wp2_with fail
      (with_reducible refine (awake_any _ (Lib.hid (HTAB.out.below HB.out))).mono ?_)
      rintro e uz ⟨rfl, hb⟩
      have HB := Lib.hid (below_old HB.out hb)
      clear hb
      go_wp2_with fail
      go_ret
      exact ⟨rfl, HB.out⟩
    · have e0 : adT S t m = Ck.rch S (Ck.pas S t + m) := by unfold adT; rw [if_neg hz]
      have hp := Ck.pas_range HOK.out htm.1 htm.2
      obtain ⟨f1, f2, f3, f4⟩ := Ck.rch_facts hne.out HOK.out (M := Ck.pas S t + m) (by omega)
      have hlt : t < adT S t m := by
        rw [e0]
        rcases Int.lt_or_le t (Ck.rch S (Ck.pas S t + m)) with g | g
        · exact g
        · have := (Ck.rch_least hne.out HOK.out (M := Ck.pas S t + m) (t := t) (by omega)).2 g
          omega
      rw [← e0] at f1 f2 f3 f4
      have ht2 : 0 ≤ adT S t m ∧ adT S t m ≤ 10000000 := by omega
      have w1 : wrV S t (adT S t m) = m := by rw [wr_val htm ht2 (by omega), f1]; omega
      have w2 : wrV S t (adT S t m - 1) = m - 1 := by rw [wr_val htm ⟨by omega, by omega⟩ (by omega), f3]; omega
      have o1 := op_yes (S := S) (t := adT S t m - 1) ⟨by omega, by omega⟩ f2
      generalize adT S t m = v at *
      have hz1 : (m == 0) = false := by simpa using hz
      have E1 := Lib.hid e1; have E2 := Lib.hid e2; have W1 := Lib.hid w1; have W2 := Lib.hid w2; have O1 := Lib.hid o1
      clear e1 e2 w1 w2 o1 e0 had f1 f2 f3 hp f4 hz
      go_enter Tryd.func9, Tryd.ntmps9
      go_wp2_with fail
      (with_reducible refine (made_yes _ _ _ _ (Lib.hid (HA.out.below HB.out)) HX).mono ?_)
      rintro e um ⟨⟨b, rfl, HC⟩, hb⟩
      have HB := Lib.hid (below_old HB.out hb)
      clear hb
      go_wp2_with fail
      (with_reducible refine (ltm_yes _ htm _).mono ?_)
      rintro e w1 ⟨rfl, rfl⟩
      go_wp2_with fail
      (with_reducible refine (add_eq _ _ _ _ _ _ E1 E2 _ HC HOK hne.out).mono ?_)
      rintro e u2 ⟨rfl, hb⟩
      have HB := Lib.hid (below_old HB.out hb)
      have HC := Lib.hid (HC.out.below hb)
      clear hb
      go_wp2_with fail
      (with_reducible refine (ltm_yes _ ht2 _).mono ?_)
      rintro e w1 ⟨rfl, rfl⟩
      go_wp2_with fail
      (with_reducible refine (work_eq _ _ _ _ _ W1 _ HC HOK).mono ?_)
      rintro e u3 ⟨rfl, hb⟩
      have HB := Lib.hid (below_old HB.out hb)
      have HC := Lib.hid (HC.out.below hb)
      clear hb
      go_wp2_with fail
      (with_reducible refine (open_eq _ _ _ _ O1 _ HC HOK).mono ?_)
      rintro e u4 ⟨rfl, hb⟩
      have HB := Lib.hid (below_old HB.out hb)
      have HC := Lib.hid (HC.out.below hb)
      clear hb
      go_wp2_with fail
      (with_reducible refine (work_eq _ _ _ _ _ W2 _ HC HOK).mono ?_)
      rintro e u5 ⟨rfl, hb⟩
      have HB := Lib.hid (below_old HB.out hb)
      have HC := Lib.hid (HC.out.below hb)
      clear hb
      go_wp2_with fail
      (with_reducible refine (awake_any _ (Lib.hid (HTAB.out.below HB.out))).mono ?_)
      rintro e uz ⟨rfl, hb⟩
      have HB := Lib.hid (below_old HB.out hb)
      clear hb
      go_wp2_with fail
      go_ret
      exact ⟨rfl, HB.out⟩
  · obtain ⟨e1, e2⟩ := had.2 ha
    have h1 := adT_least hne.out HOK.out htm.1 htm.2 (m := m) (u := 10000000) (by omega) htm.2
    have w1 : wrV S t 10000000 < m := by
      rw [wr_val htm ⟨by omega, by omega⟩ htm.2]
      rcases Int.lt_or_le (Ck.pas S 10000000 - Ck.pas S t) m with g | g
      · exact g
      · exact absurd (h1.1 g) ha
    obtain ⟨v, hv⟩ : ∃ v, wrV S t 10000000 = v := ⟨_, rfl⟩
    rw [hv] at w1
    have E1 := Lib.hid e1; have E2 := Lib.hid e2; have W1 := Lib.hid hv
    clear e1 e2 hv h1 had ha
    go_enter Tryd.func9, Tryd.ntmps9
    go_wp2_with fail
    (with_reducible refine (made_yes _ _ _ _ (Lib.hid (HA.out.below HB.out)) HX).mono ?_)
    rintro e um ⟨⟨b, rfl, HC⟩, hb⟩
    have HB := Lib.hid (below_old HB.out hb)
    clear hb
    go_wp2_with fail
    (with_reducible refine (ltm_yes _ htm _).mono ?_)
    rintro e w1 ⟨rfl, rfl⟩
    go_wp2_with fail
    (with_reducible refine (add_eq _ _ _ _ _ _ E1 E2 _ HC HOK hne.out).mono ?_)
    rintro e u2 ⟨rfl, hb⟩
    have HB := Lib.hid (below_old HB.out hb)
    have HC := Lib.hid (HC.out.below hb)
    clear hb
    go_wp2_with fail
    (with_reducible refine (work_eq _ _ _ _ _ W1 _ HC HOK).mono ?_)
    rintro e u3 ⟨rfl, hb⟩
    have HB := Lib.hid (below_old HB.out hb)
    have HC := Lib.hid (HC.out.below hb)
    clear hb
    go_wp2_with fail
    (with_reducible refine (awake_any _ (Lib.hid (HTAB.out.below HB.out))).mono ?_)
    rintro e uz ⟨rfl, hb⟩
    have HB := Lib.hid (below_old HB.out hb)
    clear hb
    go_wp2_with fail
    go_ret
    exact ⟨rfl, HB.out⟩
end Go.Proofs.YtieafjbngealoaaDoor
