/- law07: the walk of ClockJoins. -/
import Derived.Test.YtieafjbngealoaaDoorYF
import Derived.BigQuiet
namespace Go.Proofs.YtieafjbngealoaaDoor
open Go.RowKit
set_option linter.unusedVariables false
structure Bx (w u : World) (x y z : Int) : Prop where
  c0 : u.cell? ⟨w.heap.size, 0, none⟩ = some (.int .i64 x)
  c1 : u.cell? ⟨w.heap.size, 1, none⟩ = some (.int .i64 y)
  c2 : u.cell? ⟨w.heap.size, 2, none⟩ = some (.int .i64 z)
  lt : w.heap.size < u.heap.size
  bel : Below w.heap.size w u
theorem Bx.next {w u u' : World} {x y z : Int} (h : Bx w u x y z) (hb : Below u.heap.size u u') : Bx w u' x y z :=
  ⟨(hb.cell (p := ⟨w.heap.size, 0, none⟩) h.lt).trans h.c0, (hb.cell (p := ⟨w.heap.size, 1, none⟩) h.lt).trans h.c1, (hb.cell (p := ⟨w.heap.size, 2, none⟩) h.lt).trans h.c2, Nat.lt_of_lt_of_le h.lt hb.size, below_old h.bel hb⟩
theorem Bx.new (w : World) (x y z : Int) : Bx w (w.alloc (.cells #[.int .i64 x, .int .i64 y, .int .i64 z] 45)) x y z := by
  have hB := Blk.new w 45 #[.int .i64 x, .int .i64 y, .int .i64 z]
  exact ⟨hB.cell 0, hB.cell 1, hB.cell 2, hB.lt, (Below.refl _ _).alloc (Nat.le_refl _) _⟩
theorem wr_range {S : Ck.Sh} (h : Ck.Ok 0 S) {x y : Int} (hx : 0 ≤ x ∧ x ≤ 10000000) (hy : 0 ≤ y ∧ y ≤ 10000000) (hxy : x ≤ y) : 0 ≤ wrV S x y ∧ wrV S x y ≤ 10010080 := by
  have h1 := Ck.pas_mono h hxy
  have h2 := Ck.pas_range h hx.1 hx.2
  have h3 := Ck.pas_range h hy.1 hy.2
  rw [wr_val hx hy hxy]
  omega
set_option maxRecDepth 100000 in
set_option maxHeartbeats 8000000 in
theorem clockJoins_walk (A : Option Addr) (c : Nat) (S : Ck.Sh) (x y z : Int) (wx' : (Lit.int .i64 x).wf = true) (wy : (Lit.int .i64 y).wf = true) (wz : (Lit.int .i64 z).wf = true) (w : World) (HA : Hid (SlA w A S)) (ht : TabOk w) : Calls Tryd.prog 8 #[.slice A S.length c, .agg #[.int .i64 x, .int .i64 y, .int .i64 z]] w (LawR w) := by
  have HTAB := Lib.hid ht
  have HBX := Lib.hid (Bx.new w x y z)
  clear ht wx' wy wz
  by_cases hc : Ck.chk S = 0
  rotate_left
  · go_enter Tryd.func8, Tryd.ntmps8
    go_wp2_with fail
    (with_reducible refine (made_no _ _ _ _ (Lib.hid (HA.out.below HBX.out.bel)) (Lib.hid hc)).mono ?_)
    rintro e u1 ⟨rfl, hb⟩
    have HBX := Lib.hid (HBX.out.next hb)
    clear hb
    go_wp2_with fail
    (with_reducible refine (awake_any _ (Lib.hid (HTAB.out.below HBX.out.bel))).mono ?_)
    rintro e uz ⟨rfl, hb⟩
    have HBX := Lib.hid (HBX.out.next hb)
    clear hb
    go_wp2_with fail
    go_ret
    exact ⟨rfl, HBX.out.bel⟩
  have HX : Hid (Ck.chk S = 0) := hc
  have HOK := Lib.hid (Ck.chk_ok hc).2.2
  have hl21 := (Ck.chk_ok hc).2.1
  have hl : (S.length : Int) ≤ 1000 := by omega
  clear hc
  go_enter Tryd.func8, Tryd.ntmps8
  go_wp2_with fail
  (with_reducible refine (made_yes _ _ _ _ (Lib.hid (HA.out.below HBX.out.bel)) HX).mono ?_)
  rintro e um ⟨⟨b, rfl, HC⟩, hb⟩
  have HBX := Lib.hid (HBX.out.next hb)
  clear hb
  go_wp2_with fail
  have HAu := Lib.hid (HA.out.below HBX.out.bel)
  go_loopw [7, 8] (fun s i wr => ∃ k : Nat, i = .int .i64 k ∧ k ≤ S.length ∧ s = .int .i64 (Ck.wk (S.take k)) ∧ ∃ n, wr = um.drewN n) (fun _ i _ => S.length - (intOf i).toNat)
  case atStart => exact ⟨0, rfl, by omega, by simp [Ck.wk], 0, rfl⟩
  case round =>
    obtain ⟨k, rfl, hk, rfl, n, rfl⟩ := hrel
    have hw1 := wk_take k HOK.out
    by_cases hlt : k < S.length
    · obtain ⟨b', off, rfl, hbl, hcc⟩ := (HAu.out.drew n) (by omega)
      obtain ⟨d0, d1⟩ := (HAu.out (by omega)).elim (fun b2 h => by
        obtain ⟨off2, e, _, hcc2⟩ := h
        cases e
        exact hcc2 k hlt)
      clear hcc
      obtain ⟨r0, r1, r2⟩ := sh_range HOK.out k hlt
      have zk : (k : Int) < (S.length : Int) := by omega
      have hst := Lib.hid (wk_snoc S k hlt)
      have hw2 := wk_take (k + 1) HOK.out
      rw [hst.out] at hw2
      generalize S[k].1 = sx at *
      generalize S[k].2 = sy at *
      generalize Ck.wk (S.take k) = v' at *
      go_wp2_with fail
      go_quiet (fail)
      go_wp2_with fail
      go_roundw
      case rel => exact ⟨k + 1, by go_num, by omega, by rw [hst.out]; go_num, _, rfl⟩
      case measure => simp [intOf]; omega
    · have he : S.take k = S := List.take_of_length_le (by omega)
      rw [he]
      have hwk := wk_take S.length HOK.out
      rw [List.take_length] at hwk
      have HBX := Lib.hid (HBX.out.next (below_drewN (Below.refl _ _) n))
      have HC := Lib.hid (HC.out.below (below_drewN (Below.refl _ _) n))
      generalize um.drewN n = u2 at *
      obtain ⟨v, hv⟩ : ∃ v, Ck.wk S = v := ⟨_, rfl⟩
      rw [hv] at hwk
      rw [hv]
      have HV := Lib.hid hv
      clear hv he hw1
      go_wp2_with fail
      by_cases htx : 0 ≤ x ∧ x ≤ 10000000
      rotate_left
      · have hc0 : ∀ u, (wx u2 u).cell? ⟨w.heap.size, 0, none⟩ = some (.int .i64 x) := fun u => (HBX.out.next (wx_below u2 u)).c0
        have hcx : ∀ u, Hid (Cal (wx u2 u) b S) := fun u => HC.out.below (wx_below u2 u)
        refine wp_region_grows (by kernel_rfl) (by kernel_rfl) ?_
        repeat (go_big_quiet_step ((go_at_call 30; (with_reducible exact calls_grows (calls_same (ltm_no _ htx _))))))
        refine wpQuiet_nil ?_
        rintro _ ⟨u, rfl⟩
        have HBX := Lib.hid (HBX.out.next (wx_below u2 u))
        have HC := Lib.hid (HC.out.below (wx_below u2 u))
        clear hc0 hcx
        generalize wx u2 u = u3 at *
        have j0 := HBX.out.c0; have j1 := HBX.out.c1; have j2 := HBX.out.c2
        go_wp2_with fail
        (with_reducible refine (ltm_no _ htx _).mono ?_)
        rintro e w1 ⟨rfl, rfl⟩
        go_wp2_with fail
        (with_reducible refine (awake_any _ (Lib.hid (HTAB.out.below HBX.out.bel))).mono ?_)
        rintro e uz ⟨rfl, hb⟩
        have HBX := Lib.hid (HBX.out.next hb)
        clear hb
        go_wp2_with fail
        go_ret
        exact ⟨rfl, HBX.out.bel⟩
      by_cases hx9 : x ≤ 9989920
      · have dx : decide (x ≤ 9989920) = true := decide_eq_true hx9
        have kx : IntKind.i64.wrap (x + 10080) = x + 10080 := by simp only [IntKind.wrap_i64]; omega
        have w1 : wrV S x (x + 10080) = v := by
          rw [wr_val htx ⟨by omega, by omega⟩ (by omega), (Ck.pas_week HOK.out x).1, HV.out]
          omega
        obtain ⟨o, ho⟩ : ∃ o, opB S x = o := ⟨_, rfl⟩
        have ho2 : opB S (x + 10080) = o := by
          rw [← ho]
          unfold opB tmB
          rw [(Ck.pas_week HOK.out x).2, decide_eq_true htx, decide_eq_true (show 0 ≤ x + 10080 ∧ x + 10080 ≤ 10000000 by omega)]
        have W1 := Lib.hid w1; have O1 := Lib.hid ho; have O2 := Lib.hid ho2
        clear w1 ho ho2
        have hc0 : ∀ u, (wx u2 u).cell? ⟨w.heap.size, 0, none⟩ = some (.int .i64 x) := fun u => (HBX.out.next (wx_below u2 u)).c0
        have hcx : ∀ u, Hid (Cal (wx u2 u) b S) := fun u => HC.out.below (wx_below u2 u)
        refine wp_region_grows (by kernel_rfl) (by kernel_rfl) ?_
        repeat (go_big_quiet_step ((first | (go_at_call 30; (with_reducible exact calls_grows (calls_same (ltm_yes _ htx _)))) | (go_at_call 22; (with_reducible exact calls_grows (work_eq _ _ _ _ _ W1 _ (hcx _) HOK))) | (go_at_call 20; (first | (with_reducible exact calls_grows (open_eq _ _ _ _ O1 _ (hcx _) HOK)) | (with_reducible exact calls_grows (open_eq _ _ _ _ O2 _ (hcx _) HOK)))))))
        refine wpQuiet_nil ?_
        rintro _ ⟨u, rfl⟩
        have HBX := Lib.hid (HBX.out.next (wx_below u2 u))
        have HC := Lib.hid (HC.out.below (wx_below u2 u))
        clear hc0 hcx
        generalize wx u2 u = u3 at *
        have j0 := HBX.out.c0; have j1 := HBX.out.c1; have j2 := HBX.out.c2
        go_wp2_with fail
        by_cases htz : 0 ≤ z ∧ z ≤ 10000000
        rotate_left
        · (with_reducible refine (ltm_yes _ htx _).mono ?_)
          rintro e w1 ⟨rfl, rfl⟩
          go_wp2_with fail
          (with_reducible refine (ltm_no _ htz _).mono ?_)
          rintro e w1 ⟨rfl, rfl⟩
          go_wp2_with fail
          (with_reducible refine (awake_any _ (Lib.hid (HTAB.out.below HBX.out.bel))).mono ?_)
          rintro e uz ⟨rfl, hb⟩
          have HBX := Lib.hid (HBX.out.next hb)
          clear hb
          go_wp2_with fail
          go_ret
          exact ⟨rfl, HBX.out.bel⟩
        by_cases hxy : y < x
        · (with_reducible refine (ltm_yes _ htx _).mono ?_)
          rintro e w1 ⟨rfl, rfl⟩
          go_wp2_with fail
          (with_reducible refine (ltm_yes _ htz _).mono ?_)
          rintro e w1 ⟨rfl, rfl⟩
          go_wp2_with fail
          (with_reducible refine (awake_any _ (Lib.hid (HTAB.out.below HBX.out.bel))).mono ?_)
          rintro e uz ⟨rfl, hb⟩
          have HBX := Lib.hid (HBX.out.next hb)
          clear hb
          go_wp2_with fail
          go_ret
          exact ⟨rfl, HBX.out.bel⟩
        by_cases hyz : z < y
        · (with_reducible refine (ltm_yes _ htx _).mono ?_)
          rintro e w1 ⟨rfl, rfl⟩
          go_wp2_with fail
          (with_reducible refine (ltm_yes _ htz _).mono ?_)
          rintro e w1 ⟨rfl, rfl⟩
          go_wp2_with fail
          (with_reducible refine (awake_any _ (Lib.hid (HTAB.out.below HBX.out.bel))).mono ?_)
          rintro e uz ⟨rfl, hb⟩
          have HBX := Lib.hid (HBX.out.next hb)
          clear hb
          go_wp2_with fail
          go_ret
          exact ⟨rfl, HBX.out.bel⟩
        have hty : 0 ≤ y ∧ y ≤ 10000000 := by omega
        have a1 := wr_range HOK.out htx hty (by omega)
        have a2 := wr_range HOK.out hty htz (by omega)
        have a3 : wrV S x z = wrV S x y + wrV S y z := by
          rw [wr_val htx htz (by omega), wr_val htx hty (by omega), wr_val hty htz (by omega)]
          omega
        obtain ⟨p, hp⟩ : ∃ p, wrV S x y = p := ⟨_, rfl⟩
        obtain ⟨q, hq⟩ : ∃ p, wrV S y z = p := ⟨_, rfl⟩
        rw [hp] at a1 a3
        rw [hq] at a2 a3
        have Wp := Lib.hid hp; have Wq := Lib.hid hq; have Wr := Lib.hid a3
        have kpq : IntKind.i64.wrap (p + q) = p + q := by simp only [IntKind.wrap_i64]; omega
        clear hp hq a3
        (with_reducible refine (ltm_yes _ htx _).mono ?_)
        rintro e w1 ⟨rfl, rfl⟩
        go_wp2_with fail
        (with_reducible refine (ltm_yes _ htz _).mono ?_)
        rintro e w1 ⟨rfl, rfl⟩
        go_wp2_with fail
        have hc0 : ∀ u, (wx u3 u).cell? ⟨w.heap.size, 0, none⟩ = some (.int .i64 x) := fun u => (HBX.out.next (wx_below u3 u)).c0
        have hc1 : ∀ u, (wx u3 u).cell? ⟨w.heap.size, 1, none⟩ = some (.int .i64 y) := fun u => (HBX.out.next (wx_below u3 u)).c1
        have hc2 : ∀ u, (wx u3 u).cell? ⟨w.heap.size, 2, none⟩ = some (.int .i64 z) := fun u => (HBX.out.next (wx_below u3 u)).c2
        have hcx : ∀ u, Hid (Cal (wx u3 u) b S) := fun u => HC.out.below (wx_below u3 u)
        have htx' : ∀ u, Hid (TabOk (wx u3 u)) := fun u => HTAB.out.below (HBX.out.next (wx_below u3 u)).bel
        refine wp_region_grows (by kernel_rfl) (by kernel_rfl) ?_
        repeat (go_big_quiet_step ((first | (go_at_call 22; (first | (with_reducible exact calls_grows (work_eq _ _ x y _ Wp _ (hcx _) HOK)) | (with_reducible exact calls_grows (work_eq _ _ y z _ Wq _ (hcx _) HOK)) | (with_reducible exact calls_grows (work_eq _ _ x z _ Wr _ (hcx _) HOK)))) | (go_at_call 14; (with_reducible exact calls_grows (awake_any _ (htx' _)))))))
        refine wpQuiet_nil ?_
        rintro _ ⟨u, rfl⟩
        go_wp2_with fail
        go_ret
        exact ⟨rfl, (HBX.out.next (wx_below u3 u)).bel⟩
      · have dx : decide (x ≤ 9989920) = false := decide_eq_false hx9
        have hc0 : ∀ u, (wx u2 u).cell? ⟨w.heap.size, 0, none⟩ = some (.int .i64 x) := fun u => (HBX.out.next (wx_below u2 u)).c0
        have hcx : ∀ u, Hid (Cal (wx u2 u) b S) := fun u => HC.out.below (wx_below u2 u)
        refine wp_region_grows (by kernel_rfl) (by kernel_rfl) ?_
        repeat (go_big_quiet_step ((go_at_call 30; (with_reducible exact calls_grows (calls_same (ltm_yes _ htx _))))))
        refine wpQuiet_nil ?_
        rintro _ ⟨u, rfl⟩
        have HBX := Lib.hid (HBX.out.next (wx_below u2 u))
        have HC := Lib.hid (HC.out.below (wx_below u2 u))
        clear hc0 hcx
        generalize wx u2 u = u3 at *
        have j0 := HBX.out.c0; have j1 := HBX.out.c1; have j2 := HBX.out.c2
        go_wp2_with fail
        by_cases htz : 0 ≤ z ∧ z ≤ 10000000
        rotate_left
        · (with_reducible refine (ltm_yes _ htx _).mono ?_)
          rintro e w1 ⟨rfl, rfl⟩
          go_wp2_with fail
          (with_reducible refine (ltm_no _ htz _).mono ?_)
          rintro e w1 ⟨rfl, rfl⟩
          go_wp2_with fail
          (with_reducible refine (awake_any _ (Lib.hid (HTAB.out.below HBX.out.bel))).mono ?_)
          rintro e uz ⟨rfl, hb⟩
          have HBX := Lib.hid (HBX.out.next hb)
          clear hb
          go_wp2_with fail
          go_ret
          exact ⟨rfl, HBX.out.bel⟩
        by_cases hxy : y < x
        · (with_reducible refine (ltm_yes _ htx _).mono ?_)
          rintro e w1 ⟨rfl, rfl⟩
          go_wp2_with fail
          (with_reducible refine (ltm_yes _ htz _).mono ?_)
          rintro e w1 ⟨rfl, rfl⟩
          go_wp2_with fail
          (with_reducible refine (awake_any _ (Lib.hid (HTAB.out.below HBX.out.bel))).mono ?_)
          rintro e uz ⟨rfl, hb⟩
          have HBX := Lib.hid (HBX.out.next hb)
          clear hb
          go_wp2_with fail
          go_ret
          exact ⟨rfl, HBX.out.bel⟩
        by_cases hyz : z < y
        · (with_reducible refine (ltm_yes _ htx _).mono ?_)
          rintro e w1 ⟨rfl, rfl⟩
          go_wp2_with fail
          (with_reducible refine (ltm_yes _ htz _).mono ?_)
          rintro e w1 ⟨rfl, rfl⟩
          go_wp2_with fail
          (with_reducible refine (awake_any _ (Lib.hid (HTAB.out.below HBX.out.bel))).mono ?_)
          rintro e uz ⟨rfl, hb⟩
          have HBX := Lib.hid (HBX.out.next hb)
          clear hb
          go_wp2_with fail
          go_ret
          exact ⟨rfl, HBX.out.bel⟩
        have hty : 0 ≤ y ∧ y ≤ 10000000 := by omega
        have a1 := wr_range HOK.out htx hty (by omega)
        have a2 := wr_range HOK.out hty htz (by omega)
        have a3 : wrV S x z = wrV S x y + wrV S y z := by
          rw [wr_val htx htz (by omega), wr_val htx hty (by omega), wr_val hty htz (by omega)]
          omega
        obtain ⟨p, hp⟩ : ∃ p, wrV S x y = p := ⟨_, rfl⟩
        obtain ⟨q, hq⟩ : ∃ p, wrV S y z = p := ⟨_, rfl⟩
        rw [hp] at a1 a3
        rw [hq] at a2 a3
        have Wp := Lib.hid hp; have Wq := Lib.hid hq; have Wr := Lib.hid a3
        have kpq : IntKind.i64.wrap (p + q) = p + q := by simp only [IntKind.wrap_i64]; omega
        clear hp hq a3
        (with_reducible refine (ltm_yes _ htx _).mono ?_)
        rintro e w1 ⟨rfl, rfl⟩
        go_wp2_with fail
        (with_reducible refine (ltm_yes _ htz _).mono ?_)
        rintro e w1 ⟨rfl, rfl⟩
        go_wp2_with fail
        have hc0 : ∀ u, (wx u3 u).cell? ⟨w.heap.size, 0, none⟩ = some (.int .i64 x) := fun u => (HBX.out.next (wx_below u3 u)).c0
        have hc1 : ∀ u, (wx u3 u).cell? ⟨w.heap.size, 1, none⟩ = some (.int .i64 y) := fun u => (HBX.out.next (wx_below u3 u)).c1
        have hc2 : ∀ u, (wx u3 u).cell? ⟨w.heap.size, 2, none⟩ = some (.int .i64 z) := fun u => (HBX.out.next (wx_below u3 u)).c2
        have hcx : ∀ u, Hid (Cal (wx u3 u) b S) := fun u => HC.out.below (wx_below u3 u)
        have htx' : ∀ u, Hid (TabOk (wx u3 u)) := fun u => HTAB.out.below (HBX.out.next (wx_below u3 u)).bel
        refine wp_region_grows (by kernel_rfl) (by kernel_rfl) ?_
        repeat (go_big_quiet_step ((first | (go_at_call 22; (first | (with_reducible exact calls_grows (work_eq _ _ x y _ Wp _ (hcx _) HOK)) | (with_reducible exact calls_grows (work_eq _ _ y z _ Wq _ (hcx _) HOK)) | (with_reducible exact calls_grows (work_eq _ _ x z _ Wr _ (hcx _) HOK)))) | (go_at_call 14; (with_reducible exact calls_grows (awake_any _ (htx' _)))))))
        refine wpQuiet_nil ?_
        rintro _ ⟨u, rfl⟩
        go_wp2_with fail
        go_ret
        exact ⟨rfl, (HBX.out.next (wx_below u3 u)).bel⟩
end Go.Proofs.YtieafjbngealoaaDoor
