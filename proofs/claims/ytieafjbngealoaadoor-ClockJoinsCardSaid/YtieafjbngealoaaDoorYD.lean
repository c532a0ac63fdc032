/- law07: the walks of ClockNil, ClockNew, ClockWorks, ClockOpens, ClockAdds. -/
import Derived.Test.YtieafjbngealoaaDoorYC
namespace Go.Proofs.YtieafjbngealoaaDoor
open Go.RowKit
set_option linter.unusedVariables false
def LawR (w : World) (e : Ending) (w' : World) : Prop := e = .returned (.bool true) ∧ Below w.heap.size w w'

theorem nil_next (t : Int) (w : World) : Calls Tryd.prog 18 #[.pointer none, .int .i64 t] w fun e w' => e = .returned (.tuple #[.int .i64 0, .int .i64 1]) ∧ w = w' := by
  go_enter Tryd.func18, Tryd.ntmps18
  go_wp2_with fail
  go_ret2
  exact ⟨rfl, rfl⟩
theorem nil_add (t m : Int) (w : World) : Calls Tryd.prog 24 #[.pointer none, .int .i64 t, .int .i64 m] w fun e w' => e = .returned (.tuple #[.int .i64 0, .int .i64 1]) ∧ w = w' := by
  go_enter Tryd.func24, Tryd.ntmps24
  go_wp2_with fail
  go_ret2
  exact ⟨rfl, rfl⟩
theorem nil_open (t : Int) (w : World) : Calls Tryd.prog 20 #[.pointer none, .int .i64 t] w fun e w' => e = .returned (.bool false) ∧ w = w' := by
  go_enter Tryd.func20, Tryd.ntmps20
  go_wp2_with fail
  go_ret
  exact ⟨rfl, rfl⟩
theorem nil_work (t m : Int) (w : World) : Calls Tryd.prog 22 #[.pointer none, .int .i64 t, .int .i64 m] w fun e w' => e = .returned (.int .i64 0) ∧ w = w' := by
  go_enter Tryd.func22, Tryd.ntmps22
  go_wp2_with fail
  go_ret
  exact ⟨rfl, rfl⟩
theorem clockNil_walk (a b : Int) (w : World) (ht : TabOk w) : Calls Tryd.prog 12 #[.int .i64 a, .int .i64 b] w (LawR w) := by
  have HTAB := Lib.hid ht
  clear ht
  go_enter Tryd.func12, Tryd.ntmps12
  go_wp2_with fail
  (with_reducible refine (nil_next _ _).mono ?_)
  rintro e w1 ⟨rfl, rfl⟩
  go_wp2_with fail
  (with_reducible refine (nil_add _ _ _).mono ?_)
  rintro e w1 ⟨rfl, rfl⟩
  go_wp2_with fail
  (with_reducible refine (nil_open _ _).mono ?_)
  rintro e w1 ⟨rfl, rfl⟩
  go_wp2_with fail
  (with_reducible refine (nil_work _ _ _).mono ?_)
  rintro e w1 ⟨rfl, rfl⟩
  go_wp2_with fail
  (with_reducible refine (awake_any _ HTAB).mono ?_)
  rintro e u1 ⟨rfl, hb⟩
  have HB1 := Lib.hid hb
  clear hb
  go_wp2_with fail
  go_ret
  exact ⟨rfl, HB1.out⟩

theorem rcheck_eq (A : Option Addr) (c : Nat) (S : Ck.Sh) (x : Int) (hx : Hid (Ck.chk S = x)) (w : World) (HA : Hid (SlA w A S)) (hl : (S.length : Int) ≤ 1000) :
    Calls Tryd.prog 16 #[.slice A S.length c] w fun e w' => e = .returned (.int .i64 x) ∧ Below w.heap.size w w' :=
  (rcheck07_any A c S w HA hl).mono fun e w' h => ⟨by rw [h.1, hx.out], h.2⟩
theorem rnext_eq (A : Option Addr) (c : Nat) (S : Ck.Sh) (t v x : Int) (hv : Hid (nxV S t = v)) (hx : Hid (nxE S t = x)) (w : World) (HA : Hid (SlA w A S)) (HOK : Hid (Ck.Ok 0 S)) (hl : (S.length : Int) ≤ 1000) (hne : S ≠ []) :
    Calls Tryd.prog 19 #[.slice A S.length c, .int .i64 t] w fun e w' => e = .returned (.tuple #[.int .i64 v, .int .i64 x]) ∧ w = w' :=
  (rnext_any A c S t w HA HOK hl hne).mono fun e w' h => ⟨by rw [h.1, hv.out, hx.out], h.2⟩
theorem radd_eq (A : Option Addr) (c : Nat) (S : Ck.Sh) (t m v x : Int) (hv : Hid (adV S t m = v)) (hx : Hid (adE S t m = x)) (w : World) (HA : Hid (SlA w A S)) (HOK : Hid (Ck.Ok 0 S)) (hl : (S.length : Int) ≤ 1000) (hne : S ≠ []) :
    Calls Tryd.prog 25 #[.slice A S.length c, .int .i64 t, .int .i64 m] w fun e w' => e = .returned (.tuple #[.int .i64 v, .int .i64 x]) ∧ Below w.heap.size w w' :=
  (radd_any A c S t m w HA HOK hl hne).mono fun e w' h => ⟨by rw [h.1, hv.out, hx.out], h.2⟩

set_option maxHeartbeats 2000000 in
theorem clockNew_walk (A : Option Addr) (c : Nat) (S : Ck.Sh) (w : World) (HA : Hid (SlA w A S)) (ht : TabOk w) : Calls Tryd.prog 3 #[.slice A S.length c] w (LawR w) := by
  have HTAB := Lib.hid ht
  clear ht
  by_cases h40 : S.length ≤ 40
  rotate_left
  · have HF : Hid (decide (S.length ≤ 40) = false) := decide_eq_false h40
    have HB := Lib.hid (Below.refl w.heap.size w)
    clear h40
    go_enter Tryd.func3, Tryd.ntmps3
    go_wp2_with fail
    (with_reducible refine (few_any _ _ _ _ HF _).mono ?_)
    rintro e w1 ⟨rfl, rfl⟩
    go_wp2_with fail
    (with_reducible refine (awake_any _ (Lib.hid (HTAB.out.below HB.out))).mono ?_)
    rintro e uz ⟨rfl, hb⟩
    have HB := Lib.hid (below_old HB.out hb)
    clear hb
    go_wp2_with fail
    go_ret
    exact ⟨rfl, HB.out⟩
  have hl : (S.length : Int) ≤ 1000 := by omega
  have HF : Hid (decide (S.length ≤ 40) = true) := decide_eq_true h40
  clear h40
  by_cases hc : Ck.chk S = 0
  · have HX : Hid (Ck.chk S = 0) := hc
    have HOK := Lib.hid (Ck.chk_ok hc).2.2
    have hne := Lib.hid (Ck.chk_ok hc).1
    have HB := Lib.hid (Below.refl w.heap.size w)
    clear hc
    go_enter Tryd.func3, Tryd.ntmps3
    go_wp2_with fail
    (with_reducible refine (few_any _ _ _ _ HF _).mono ?_)
    rintro e w1 ⟨rfl, rfl⟩
    go_wp2_with fail
    (with_reducible refine (new_yes _ _ _ _ HA hl HX).mono ?_)
    rintro e um ⟨⟨b, rfl, HC⟩, hb⟩
    have HB := Lib.hid (below_old HB.out hb)
    clear hb
    go_wp2_with fail
    (with_reducible refine (rcheck_eq _ _ _ _ HX _ (Lib.hid (HA.out.below HB.out)) hl).mono ?_)
    rintro e u1 ⟨rfl, hb⟩
    have HB := Lib.hid (below_old HB.out hb)
    clear hb
    go_wp2_with fail
    (with_reducible refine (awake_any _ (Lib.hid (HTAB.out.below HB.out))).mono ?_)
    rintro e uz ⟨rfl, hb⟩
    have HB := Lib.hid (below_old HB.out hb)
    clear hb
    go_wp2_with fail
    go_ret
    exact ⟨rfl, HB.out⟩
  · obtain ⟨x, HX⟩ : ∃ x, Hid (Ck.chk S = x) := ⟨_, rfl⟩
    have hx0 : x ≠ 0 := by rw [← HX.out]; exact hc
    have hx1 : (x == 0) = false := by simpa using hx0
    have HB := Lib.hid (Below.refl w.heap.size w)
    clear hc
    go_enter Tryd.func3, Tryd.ntmps3
    go_wp2_with fail
    (with_reducible refine (few_any _ _ _ _ HF _).mono ?_)
    rintro e w1 ⟨rfl, rfl⟩
    go_wp2_with fail
    (with_reducible refine (new_no _ _ _ _ _ HA hl HX hx0).mono ?_)
    rintro e um ⟨rfl, hb⟩
    have HB := Lib.hid (below_old HB.out hb)
    clear hb
    go_wp2_with fail
    (with_reducible refine (rcheck_eq _ _ _ _ HX _ (Lib.hid (HA.out.below HB.out)) hl).mono ?_)
    rintro e u1 ⟨rfl, hb⟩
    have HB := Lib.hid (below_old HB.out hb)
    clear hb
    go_wp2_with fail
    (with_reducible refine (awake_any _ (Lib.hid (HTAB.out.below HB.out))).mono ?_)
    rintro e uz ⟨rfl, hb⟩
    have HB := Lib.hid (below_old HB.out hb)
    clear hb
    go_wp2_with fail
    go_ret
    exact ⟨rfl, HB.out⟩
set_option maxHeartbeats 2000000 in
theorem clockWorks_walk (A : Option Addr) (c : Nat) (S : Ck.Sh) (x y : Int) (w : World) (HA : Hid (SlA w A S)) (ht : TabOk w) : Calls Tryd.prog 5 #[.slice A S.length c, .int .i64 x, .int .i64 y] w (LawR w) := by
  obtain ⟨v, hv⟩ : ∃ v, Hid (wrV S x y = v) := ⟨_, rfl⟩
  have HTAB := Lib.hid ht
  clear ht
  by_cases h40 : S.length ≤ 40
  rotate_left
  · have HF : Hid (decide (S.length ≤ 40) = false) := decide_eq_false h40
    have HB := Lib.hid (Below.refl w.heap.size w)
    clear h40
    go_enter Tryd.func5, Tryd.ntmps5
    go_wp2_with fail
    (with_reducible refine (few_any _ _ _ _ HF _).mono ?_)
    rintro e w1 ⟨rfl, rfl⟩
    go_wp2_with fail
    (with_reducible refine (awake_any _ (Lib.hid (HTAB.out.below HB.out))).mono ?_)
    rintro e uz ⟨rfl, hb⟩
    have HB := Lib.hid (below_old HB.out hb)
    clear hb
    go_wp2_with fail
    go_ret
    exact ⟨rfl, HB.out⟩
  have hl : (S.length : Int) ≤ 1000 := by omega
  have HF : Hid (decide (S.length ≤ 40) = true) := decide_eq_true h40
  clear h40
  by_cases hc : Ck.chk S = 0
  rotate_left
  · obtain ⟨x, HX⟩ : ∃ x, Hid (Ck.chk S = x) := ⟨_, rfl⟩
    have hx0 : (x != 0) = true := by rw [← HX.out]; simpa using hc
    have HB := Lib.hid (Below.refl w.heap.size w)
    clear hc
    go_enter Tryd.func5, Tryd.ntmps5
    go_wp2_with fail
    (with_reducible refine (few_any _ _ _ _ HF _).mono ?_)
    rintro e w1 ⟨rfl, rfl⟩
    go_wp2_with fail
    (with_reducible refine (rcheck_eq _ _ _ _ HX _ HA hl).mono ?_)
    rintro e u1 ⟨rfl, hb⟩
    have HB := Lib.hid (below_old HB.out hb)
    clear hb
    go_wp2_with fail
    (with_reducible refine (awake_any _ (Lib.hid (HTAB.out.below HB.out))).mono ?_)
    rintro e uz ⟨rfl, hb⟩
    have HB := Lib.hid (below_old HB.out hb)
    clear hb
    go_wp2_with fail
    go_ret
    exact ⟨rfl, HB.out⟩
  have HX : Hid (Ck.chk S = 0) := hc
  have HOK := Lib.hid (Ck.chk_ok hc).2.2
  have hne := Lib.hid (Ck.chk_ok hc).1
  have HB := Lib.hid (Below.refl w.heap.size w)
  clear hc
  go_enter Tryd.func5, Tryd.ntmps5
  go_wp2_with fail
  (with_reducible refine (few_any _ _ _ _ HF _).mono ?_)
  rintro e w1 ⟨rfl, rfl⟩
  go_wp2_with fail
  (with_reducible refine (rcheck_eq _ _ _ _ HX _ HA hl).mono ?_)
  rintro e u1 ⟨rfl, hb⟩
  have HB := Lib.hid (below_old HB.out hb)
  clear hb
  go_wp2_with fail
  (with_reducible refine (made_yes _ _ _ _ (Lib.hid (HA.out.below HB.out)) HX).mono ?_)
  rintro e um ⟨⟨b, rfl, HC⟩, hb⟩
  have HB := Lib.hid (below_old HB.out hb)
  clear hb
  go_wp2_with fail
  (with_reducible refine (work_eq _ _ _ _ _ hv _ HC HOK).mono ?_)
  rintro e u2 ⟨rfl, hb⟩
  have HB := Lib.hid (below_old HB.out hb)
  have HC := Lib.hid (HC.out.below hb)
  clear hb
  go_wp2_with fail
  (with_reducible refine (rwork_eq _ _ _ _ _ _ hv _ (Lib.hid (HA.out.below HB.out)) HOK hl).mono ?_)
  rintro e u3 ⟨rfl, hb⟩
  have HB := Lib.hid (below_old HB.out hb)
  clear hb
  go_wp2_with fail
  (with_reducible refine (awake_any _ (Lib.hid (HTAB.out.below HB.out))).mono ?_)
  rintro e uz ⟨rfl, hb⟩
  have HB := Lib.hid (below_old HB.out hb)
  clear hb
  go_wp2_with fail
  go_ret
  exact ⟨rfl, HB.out⟩
set_option maxHeartbeats 2000000 in
theorem clockOpens_walk (A : Option Addr) (c : Nat) (S : Ck.Sh) (t : Int) (w : World) (HA : Hid (SlA w A S)) (ht : TabOk w) : Calls Tryd.prog 4 #[.slice A S.length c, .int .i64 t] w (LawR w) := by
  obtain ⟨v, hv⟩ : ∃ v, Hid (nxV S t = v) := ⟨_, rfl⟩
  obtain ⟨y, hy⟩ : ∃ v, Hid (nxE S t = v) := ⟨_, rfl⟩
  obtain ⟨o, ho⟩ : ∃ v, Hid (opB S t = v) := ⟨_, rfl⟩
  have HTAB := Lib.hid ht
  clear ht
  by_cases h40 : S.length ≤ 40
  rotate_left
  · have HF : Hid (decide (S.length ≤ 40) = false) := decide_eq_false h40
    have HB := Lib.hid (Below.refl w.heap.size w)
    clear h40
    go_enter Tryd.func4, Tryd.ntmps4
    go_wp2_with fail
    (with_reducible refine (few_any _ _ _ _ HF _).mono ?_)
    rintro e w1 ⟨rfl, rfl⟩
    go_wp2_with fail
    (with_reducible refine (awake_any _ (Lib.hid (HTAB.out.below HB.out))).mono ?_)
    rintro e uz ⟨rfl, hb⟩
    have HB := Lib.hid (below_old HB.out hb)
    clear hb
    go_wp2_with fail
    go_ret
    exact ⟨rfl, HB.out⟩
  have hl : (S.length : Int) ≤ 1000 := by omega
  have HF : Hid (decide (S.length ≤ 40) = true) := decide_eq_true h40
  clear h40
  by_cases hc : Ck.chk S = 0
  rotate_left
  · obtain ⟨x, HX⟩ : ∃ x, Hid (Ck.chk S = x) := ⟨_, rfl⟩
    have hx0 : (x != 0) = true := by rw [← HX.out]; simpa using hc
    have HB := Lib.hid (Below.refl w.heap.size w)
    clear hc
    go_enter Tryd.func4, Tryd.ntmps4
    go_wp2_with fail
    (with_reducible refine (few_any _ _ _ _ HF _).mono ?_)
    rintro e w1 ⟨rfl, rfl⟩
    go_wp2_with fail
    (with_reducible refine (rcheck_eq _ _ _ _ HX _ HA hl).mono ?_)
    rintro e u1 ⟨rfl, hb⟩
    have HB := Lib.hid (below_old HB.out hb)
    clear hb
    go_wp2_with fail
    (with_reducible refine (awake_any _ (Lib.hid (HTAB.out.below HB.out))).mono ?_)
    rintro e uz ⟨rfl, hb⟩
    have HB := Lib.hid (below_old HB.out hb)
    clear hb
    go_wp2_with fail
    go_ret
    exact ⟨rfl, HB.out⟩
  have HX : Hid (Ck.chk S = 0) := hc
  have HOK := Lib.hid (Ck.chk_ok hc).2.2
  have hne := Lib.hid (Ck.chk_ok hc).1
  have HB := Lib.hid (Below.refl w.heap.size w)
  clear hc
  go_enter Tryd.func4, Tryd.ntmps4
  go_wp2_with fail
  (with_reducible refine (few_any _ _ _ _ HF _).mono ?_)
  rintro e w1 ⟨rfl, rfl⟩
  go_wp2_with fail
  (with_reducible refine (rcheck_eq _ _ _ _ HX _ HA hl).mono ?_)
  rintro e u1 ⟨rfl, hb⟩
  have HB := Lib.hid (below_old HB.out hb)
  clear hb
  go_wp2_with fail
  (with_reducible refine (made_yes _ _ _ _ (Lib.hid (HA.out.below HB.out)) HX).mono ?_)
  rintro e um ⟨⟨b, rfl, HC⟩, hb⟩
  have HB := Lib.hid (below_old HB.out hb)
  clear hb
  go_wp2_with fail
  (with_reducible refine (next_eq _ _ _ _ _ hv hy _ HC HOK hne.out).mono ?_)
  rintro e u2 ⟨rfl, hb⟩
  have HB := Lib.hid (below_old HB.out hb)
  have HC := Lib.hid (HC.out.below hb)
  clear hb
  go_wp2_with fail
  (with_reducible refine (rnext_eq _ _ _ _ _ _ hv hy _ (Lib.hid (HA.out.below HB.out)) HOK hl hne.out).mono ?_)
  rintro e w1 ⟨rfl, rfl⟩
  go_wp2_with fail
  (with_reducible refine (open_eq _ _ _ _ ho _ HC HOK).mono ?_)
  rintro e u3 ⟨rfl, hb⟩
  have HB := Lib.hid (below_old HB.out hb)
  have HC := Lib.hid (HC.out.below hb)
  clear hb
  go_wp2_with fail
  (with_reducible refine (ropen_eq _ _ _ _ _ ho _ (Lib.hid (HA.out.below HB.out)) hl).mono ?_)
  rintro e w1 ⟨rfl, rfl⟩
  go_wp2_with fail
  (with_reducible refine (awake_any _ (Lib.hid (HTAB.out.below HB.out))).mono ?_)
  rintro e uz ⟨rfl, hb⟩
  have HB := Lib.hid (below_old HB.out hb)
  clear hb
  go_wp2_with fail
  go_ret
  exact ⟨rfl, HB.out⟩
set_option maxHeartbeats 2000000 in
theorem clockAdds_walk (A : Option Addr) (c : Nat) (S : Ck.Sh) (t m : Int) (w : World) (HA : Hid (SlA w A S)) (ht : TabOk w) : Calls Tryd.prog 6 #[.slice A S.length c, .int .i64 t, .int .i64 m] w (LawR w) := by
  obtain ⟨v, hv⟩ : ∃ v, Hid (adV S t m = v) := ⟨_, rfl⟩
  obtain ⟨y, hy⟩ : ∃ v, Hid (adE S t m = v) := ⟨_, rfl⟩
  have HTAB := Lib.hid ht
  clear ht
  by_cases h40 : S.length ≤ 40
  rotate_left
  · have HF : Hid (decide (S.length ≤ 40) = false) := decide_eq_false h40
    have HB := Lib.hid (Below.refl w.heap.size w)
    clear h40
    go_enter Tryd.func6, Tryd.ntmps6
    go_wp2_with fail
    (with_reducible refine (few_any _ _ _ _ HF _).mono ?_)
    rintro e w1 ⟨rfl, rfl⟩
    go_wp2_with fail
    (with_reducible refine (awake_any _ (Lib.hid (HTAB.out.below HB.out))).mono ?_)
    rintro e uz ⟨rfl, hb⟩
    have HB := Lib.hid (below_old HB.out hb)
    clear hb
    go_wp2_with fail
    go_ret
    exact ⟨rfl, HB.out⟩
  have hl : (S.length : Int) ≤ 1000 := by omega
  have HF : Hid (decide (S.length ≤ 40) = true) := decide_eq_true h40
  clear h40
  by_cases hc : Ck.chk S = 0
  rotate_left
  · obtain ⟨x, HX⟩ : ∃ x, Hid (Ck.chk S = x) := ⟨_, rfl⟩
    have hx0 : (x != 0) = true := by rw [← HX.out]; simpa using hc
    have HB := Lib.hid (Below.refl w.heap.size w)
    clear hc
    go_enter Tryd.func6, Tryd.ntmps6
    go_wp2_with fail
    (with_reducible refine (few_any _ _ _ _ HF _).mono ?_)
    rintro e w1 ⟨rfl, rfl⟩
    go_wp2_with fail
    (with_reducible refine (rcheck_eq _ _ _ _ HX _ HA hl).mono ?_)
    rintro e u1 ⟨rfl, hb⟩
    have HB := Lib.hid (below_old HB.out hb)
    clear hb
    go_wp2_with fail
    (with_reducible refine (awake_any _ (Lib.hid (HTAB.out.below HB.out))).mono ?_)
    rintro e uz ⟨rfl, hb⟩
    have HB := Lib.hid (below_old HB.out hb)
    clear hb
    go_wp2_with fail
    go_ret
    exact ⟨rfl, HB.out⟩
  have HX : Hid (Ck.chk S = 0) := hc
  have HOK := Lib.hid (Ck.chk_ok hc).2.2
  have hne := Lib.hid (Ck.chk_ok hc).1
  have HB := Lib.hid (Below.refl w.heap.size w)
  clear hc
  go_enter Tryd.func6, Tryd.ntmps6
  go_wp2_with fail
  (with_reducible refine (few_any _ _ _ _ HF _).mono ?_)
  rintro e w1 ⟨rfl, rfl⟩
  go_wp2_with fail
  (with_reducible refine (rcheck_eq _ _ _ _ HX _ HA hl).mono ?_)
  rintro e u1 ⟨rfl, hb⟩
  have HB := Lib.hid (below_old HB.out hb)
  clear hb
  go_wp2_with fail
  (with_reducible refine (made_yes _ _ _ _ (Lib.hid (HA.out.below HB.out)) HX).mono ?_)
  rintro e um ⟨⟨b, rfl, HC⟩, hb⟩
  have HB := Lib.hid (below_old HB.out hb)
  clear hb
  go_wp2_with fail
  (with_reducible refine (add_eq _ _ _ _ _ _ hv hy _ HC HOK hne.out).mono ?_)
  rintro e u2 ⟨rfl, hb⟩
  have HB := Lib.hid (below_old HB.out hb)
  have HC := Lib.hid (HC.out.below hb)
  clear hb
  go_wp2_with fail
  (with_reducible refine (radd_eq _ _ _ _ _ _ _ hv hy _ (Lib.hid (HA.out.below HB.out)) HOK hl hne.out).mono ?_)
  rintro e u3 ⟨rfl, hb⟩
  have HB := Lib.hid (below_old HB.out hb)
  clear hb
  go_wp2_with fail
  (with_reducible refine (awake_any _ (Lib.hid (HTAB.out.below HB.out))).mono ?_)
  rintro e uz ⟨rfl, hb⟩
  have HB := Lib.hid (below_old HB.out hb)
  clear hb
  go_wp2_with fail
  go_ret
  exact ⟨rfl, HB.out⟩
end Go.Proofs.YtieafjbngealoaaDoor
