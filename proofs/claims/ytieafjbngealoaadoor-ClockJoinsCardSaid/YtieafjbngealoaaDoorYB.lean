/- Package clock: Parse. -/
import Derived.Test.YtieafjbngealoaaDoorYA
import Derived.Shelf.Strings.Cut
namespace Go.Proofs.YtieafjbngealoaaDoor
open Go.RowKit
set_option linter.unusedVariables false

theorem trim_d (L : List UInt8) (b : Bool) (hb : decide (L.head? = some 100) = b) : Lib.trimPrefix L [100] = (if b then L.tail else L) ∧ Lib.hasPrefix L [100] = b := by
  subst hb
  cases L with
  | nil => exact ⟨by simp [Lib.trimPrefix, Lib.hasPrefix, List.isPrefixOf], by simp [Lib.hasPrefix, List.isPrefixOf]⟩
  | cons x L =>
    by_cases h : x = 100
    · subst h
      exact ⟨by simp [Lib.trimPrefix, Lib.hasPrefix, List.isPrefixOf], by simp [Lib.hasPrefix, List.isPrefixOf]⟩
    · have h2 : ¬ (100 : UInt8) = x := fun e => h e.symm
      exact ⟨by simp [Lib.trimPrefix, Lib.hasPrefix, List.isPrefixOf, h, h2], by simp [Lib.hasPrefix, List.isPrefixOf, h, h2]⟩
theorem cut_d (s t : ByteArray) (b : Bool) (hb : Hid (decide (s.data.toList.head? = some 100) = b)) (ht : Hid (t.data.toList = if b then s.data.toList.tail else s.data.toList)) (w : World) :
    Calls Tryd.prog 37 #[.string s, .string ⟨#[100]⟩] w fun e w' => e = .returned (.tuple #[.string t, .bool b]) ∧ w = w' := by
  refine (Tryd.strings_CutPrefix s ⟨#[100]⟩ w).mono fun e w' ⟨he, hw⟩ => ⟨?_, hw.symm⟩
  have e1 : (⟨#[100]⟩ : ByteArray).data.toList = [100] := rfl
  obtain ⟨h1, h2⟩ := trim_d s.data.toList b hb.out
  rw [he, e1, h1, h2, ← ht.out, ← ba_eta]

theorem bt_cut (s : ByteArray) (a b j : Nat) (h : a + j < b) (hb : b ≤ s.size) : bt (s.extract a b) j = bt s (a + j) := by
  unfold bt
  rw [cut_list]
  simp only [List.getD_eq_getElem?_getD, List.getElem?_drop, List.getElem?_take]
  rw [if_pos h]
theorem pr_eq (a b l : Nat) : prB (a : Int) (b : Int) (l : Int) = (Ck.isP a b && decide (Ck.pv a b < l)) := by
  unfold prB Ck.isP Ck.pv
  by_cases h : 48 ≤ a ∧ a ≤ 57 ∧ 48 ≤ b ∧ b ≤ 57
  · rw [decide_eq_true h, decide_eq_true (show 48 ≤ (a : Int) ∧ (a : Int) ≤ 57 ∧ 48 ≤ (b : Int) ∧ (b : Int) ≤ 57 by omega), Bool.true_and, Bool.true_and]
    by_cases g : 10 * (a - 48) + (b - 48) < l
    · rw [decide_eq_true g]; exact decide_eq_true (by omega)
    · rw [decide_eq_false g]; exact decide_eq_false (by omega)
  · rw [decide_eq_false h, decide_eq_false (show ¬ (48 ≤ (a : Int) ∧ (a : Int) ≤ 57 ∧ 48 ≤ (b : Int) ∧ (b : Int) ≤ 57) by omega), Bool.false_and, Bool.false_and]
theorem dy_none : Ck.dyB [] = false := by rfl
theorem gt_bt (T : ByteArray) (x : UInt8) (j : Nat) : ((Ck.gt (x :: T.data.toList) (j + 1) : Nat) : Int) = bt T j := by
  unfold Ck.gt bt
  rw [List.getD_cons_succ]
/-- The form of a text that starts with d, in its bytes. -/
theorem pc_char {L : List UInt8} {T : ByteArray} {e : Nat} (hL : L = 100 :: T.data.toList) (he : T.size = e + 6) :
    Ck.pcB L = (decide (bt T e = 32) && decide (bt T (e + 3) = 58) && Ck.dyB (T.extract 0 e).data.toList && prB (bt T (e + 1)) (bt T (e + 2)) 24 && prB (bt T (e + 4)) (bt T (e + 5)) 60) := by
  have hl : L.length = e + 7 := by rw [hL, List.length_cons, list_len, he]
  have hd : Ck.dyL L = (T.extract 0 e).data.toList := by
    unfold Ck.dyL
    rw [hl, cut_list, show e + 7 - 6 = e + 1 by omega, hL, List.take_succ_cons]
    rfl
  have g0 : Ck.gt L 0 = 100 := by rw [hL]; rfl
  unfold Ck.pcB
  rw [hd, hl, show e + 7 - 6 = e + 1 by omega, show e + 7 - 3 = e + 4 by omega, show e + 7 - 5 = e + 2 by omega, show e + 7 - 4 = e + 3 by omega, show e + 7 - 2 = e + 5 by omega, show e + 7 - 1 = e + 6 by omega, g0]
  rw [hL]
  rw [← gt_bt T 100 e, ← gt_bt T 100 (e + 1), ← gt_bt T 100 (e + 2), ← gt_bt T 100 (e + 3), ← gt_bt T 100 (e + 4), ← gt_bt T 100 (e + 5)]
  have p1 := pr_eq (Ck.gt (100 :: T.data.toList) (e + 1 + 1)) (Ck.gt (100 :: T.data.toList) (e + 2 + 1)) 24
  have p2 := pr_eq (Ck.gt (100 :: T.data.toList) (e + 4 + 1)) (Ck.gt (100 :: T.data.toList) (e + 5 + 1)) 60
  rw [show ((24 : Nat) : Int) = 24 from rfl] at p1
  rw [show ((60 : Nat) : Int) = 60 from rfl] at p2
  rw [p1, p2]
  generalize Ck.gt (100 :: T.data.toList) (e + 1) = x
  generalize Ck.gt (100 :: T.data.toList) (e + 3 + 1) = y
  rw [show decide ((x : Int) = 32) = decide (x = 32) by by_cases h : x = 32 <;> simp [h] <;> omega, show decide ((y : Int) = 58) = decide (y = 58) by by_cases h : y = 58 <;> simp [h] <;> omega]
  by_cases h1 : 1 ≤ e
  · rw [decide_eq_true (show 8 ≤ e + 7 by omega), Bool.true_and]
    simp
  · have : e = 0 := by omega
    subst this
    have : (T.extract 0 0).data.toList = [] := by rw [cut_list]; rfl
    rw [this, dy_none]
    simp
theorem pc_num {L : List UInt8} {T : ByteArray} {e : Nat} (hL : L = 100 :: T.data.toList) (he : T.size = e + 6) (h : Ck.pcB L = true) :
    (Ck.pcN L : Int) = (Un.valL (T.extract 0 e).data.toList : Int) * 1440 + (10 * (bt T (e + 1) - 48) + (bt T (e + 2) - 48)) * 60 + (10 * (bt T (e + 4) - 48) + (bt T (e + 5) - 48)) := by
  rw [pc_char hL he] at h
  simp only [Bool.and_eq_true, decide_eq_true_eq] at h
  obtain ⟨⟨⟨⟨_, _⟩, _⟩, h1⟩, h2⟩ := h
  simp only [prB, Bool.and_eq_true, decide_eq_true_eq] at h1 h2
  have hl : L.length = e + 7 := by rw [hL, List.length_cons, list_len, he]
  have hd : Ck.dyL L = (T.extract 0 e).data.toList := by
    unfold Ck.dyL
    rw [hl, cut_list, show e + 7 - 6 = e + 1 by omega, hL, List.take_succ_cons]
    rfl
  unfold Ck.pcN
  rw [hd, hl, show e + 7 - 5 = e + 2 by omega, show e + 7 - 4 = e + 3 by omega, show e + 7 - 2 = e + 5 by omega, show e + 7 - 1 = e + 6 by omega]
  have g1 := gt_bt T 100 (e + 1)
  have g2 := gt_bt T 100 (e + 2)
  have g4 := gt_bt T 100 (e + 4)
  have g5 := gt_bt T 100 (e + 5)
  rw [← hL] at g1 g2 g4 g5
  rw [show e + 1 + 1 = e + 2 by omega] at g1
  rw [show e + 2 + 1 = e + 3 by omega] at g2
  rw [show e + 4 + 1 = e + 5 by omega] at g4
  rw [show e + 5 + 1 = e + 6 by omega] at g5
  unfold Ck.pv
  generalize bt T (e + 1) = a at *
  generalize bt T (e + 2) = b at *
  generalize bt T (e + 4) = c at *
  generalize bt T (e + 5) = d at *
  omega

def PcR (s : ByteArray) (w : World) (e : Ending) (w' : World) : Prop := e = .returned (.tuple #[.int .i64 (Ck.pcV s.data.toList), .int .i64 (Ck.pcE s.data.toList)]) ∧ Below w.heap.size w w'
theorem PcR.no {s : ByteArray} {w w' : World} (h : Ck.pcB s.data.toList = false) (hb : Below w.heap.size w w') : PcR s w (.returned (.tuple #[.int .i64 0, .int .i64 5])) w' := by
  have e : Ck.pcE s.data.toList = 5 := by unfold Ck.pcE; rw [if_pos h]
  refine ⟨?_, hb⟩
  unfold Ck.pcV
  rw [e]
  rfl
theorem PcR.late {s : ByteArray} {w w' : World} {n : Int} (h : Ck.pcB s.data.toList = true) (hn : (Ck.pcN s.data.toList : Int) = n) (h1 : ¬ (0 ≤ n ∧ n ≤ 10000000)) (hb : Below w.heap.size w w') : PcR s w (.returned (.tuple #[.int .i64 0, .int .i64 15])) w' := by
  have e : Ck.pcE s.data.toList = 15 := by unfold Ck.pcE; rw [if_neg (by rw [h]; simp), if_pos (by omega)]
  refine ⟨?_, hb⟩
  unfold Ck.pcV
  rw [e]
  rfl
theorem PcR.yes {s : ByteArray} {w w' : World} {n : Int} (h : Ck.pcB s.data.toList = true) (hn : (Ck.pcN s.data.toList : Int) = n) (h1 : 0 ≤ n ∧ n ≤ 10000000) (hb : Below w.heap.size w w') : PcR s w (.returned (.tuple #[.int .i64 n, .int .i64 0])) w' := by
  have e : Ck.pcE s.data.toList = 0 := by unfold Ck.pcE; rw [if_neg (by rw [h]; simp), if_neg (by omega)]
  refine ⟨?_, hb⟩
  unfold Ck.pcV
  rw [e, if_pos rfl, hn]
theorem number_eq (s : ByteArray) (v : Int) (b : Bool) (w : World) (hs : (s.size : Int) ≤ 9223372036854775807) (hb : Hid (Ck.dyB s.data.toList = b)) (hv : Hid (nmV s.data.toList = v)) : Calls Tryd.prog 38 #[.string s] w fun e w' => e = .returned (.tuple #[.int .i64 v, .bool b]) ∧ Below w.heap.size w w' :=
  (number_any s w hs).mono fun e w' ⟨h, h2⟩ => ⟨by rw [h, hb.out, hv.out], h2⟩
theorem pair_no (s : ByteArray) (l : Int) (w : World) (hs : s.size = 2) (hb : Hid (prB (bt s 0) (bt s 1) l = false)) : Calls Tryd.prog 39 #[.string s, .int .i64 l] w fun e w' => (∃ v : Int, e = .returned (.tuple #[.int .i64 v, .bool false])) ∧ Below w.heap.size w w' :=
  (pair_any s l w hs).mono fun e w' ⟨h, h2⟩ => by
    rcases h with ⟨h, _⟩ | ⟨_, h⟩
    · rw [hb.out] at h; cases h
    · exact ⟨h, h2⟩
theorem pair_yes (s : ByteArray) (l v : Int) (w : World) (hs : s.size = 2) (hb : Hid (prB (bt s 0) (bt s 1) l = true)) (hv : Hid (10 * (bt s 0 - 48) + (bt s 1 - 48) = v)) : Calls Tryd.prog 39 #[.string s, .int .i64 l] w fun e w' => e = .returned (.tuple #[.int .i64 v, .bool true]) ∧ Below w.heap.size w w' :=
  (pair_any s l w hs).mono fun e w' ⟨h, h2⟩ => by
    rcases h with ⟨_, h⟩ | ⟨h, _⟩
    · exact ⟨by rw [h, hv.out], h2⟩
    · rw [hb.out] at h; cases h
theorem cut_size (s : ByteArray) (a b : Nat) (hb : b ≤ s.size) : (s.extract a b).size = b - a := by
  rw [← list_len, cut_list, List.length_drop, List.length_take, list_len]
  omega
set_option maxRecDepth 100000 in
set_option maxHeartbeats 8000000 in
theorem parse_any (s : ByteArray) (w : World) (hs : (s.size : Int) ≤ 9223372036854775807) : Calls Tryd.prog 26 #[.string s] w (PcR s w) := by
  by_cases hh : s.data.toList.head? = some 100
  · obtain ⟨T, hT⟩ : ∃ T : ByteArray, T.data.toList = s.data.toList.tail := ⟨⟨s.data.toList.tail.toArray⟩, rfl⟩
    have HB : Hid (decide (s.data.toList.head? = some 100) = true) := decide_eq_true hh
    have HT : Hid (T.data.toList = if true then s.data.toList.tail else s.data.toList) := hT
    have hL : s.data.toList = 100 :: T.data.toList := by
      rw [hT]
      cases q : s.data.toList with
      | nil => rw [q] at hh; cases hh
      | cons x l => rw [q] at hh; simp at hh; rw [hh]; rfl
    have hTs : (T.size : Int) ≤ 9223372036854775800 ∨ (T.size : Int) ≤ 9223372036854775807 := by
      right
      have := congrArg List.length hL
      rw [list_len, List.length_cons, list_len] at this
      omega
    have hTs : (T.size : Int) ≤ 9223372036854775807 := by omega
    have HL := Lib.hid hL
    by_cases h6 : T.size < 6
    · have hno : Hid (Ck.pcB s.data.toList = false) := by
        show _ = _
        unfold Ck.pcB
        rw [decide_eq_false, Bool.false_and, Bool.false_and, Bool.false_and, Bool.false_and, Bool.false_and, Bool.false_and]
        rw [HL.out, List.length_cons, list_len]
        omega
      have h6' : (T.size : Int) < 6 := by omega
      clear hL hT hh
      go_enter Tryd.func26, Tryd.ntmps26
      go_wp2_with fail
      (with_reducible refine (cut_d _ _ _ HB HT _).mono ?_)
      rintro e w1 ⟨rfl, rfl⟩
      go_wp2_with fail
      go_ret2
      exact PcR.no hno.out (Below.refl _ _)
    · obtain ⟨e, he⟩ : ∃ e : Nat, T.size = e + 6 := ⟨T.size - 6, by omega⟩
      have hcz : (T.size : Int) - 6 = (e : Int) := by omega
      have hce : (T.size : Int) = (e : Int) + 6 := by omega
      have HE := Lib.hid he
      have z1 : e < T.size := by omega
      have z2 : e + 3 < T.size := by omega
      have hg0 := bt_get T e z1
      have hg3 := bt_get T (e + 3) z2
      have hr0 := bt_range T e
      have hr3 := bt_range T (e + 3)
      have hch := Lib.hid (pc_char hL he)
      have hnm := Lib.hid (fun h => pc_num hL he h)
      clear hL hT hh h6
      have z3 : (e : Int) < (T.size : Int) := by omega
      have z4 : (e : Int) + 3 < (T.size : Int) := by omega
      clear he
      obtain ⟨x, hx⟩ : ∃ x, bt T e = x := ⟨_, rfl⟩
      obtain ⟨y, hy⟩ : ∃ x, bt T (e + 3) = x := ⟨_, rfl⟩
      rw [hx] at hg0 hr0
      rw [hy] at hg3 hr3
      have HX := Lib.hid hx
      have HY := Lib.hid hy
      clear hx hy
      by_cases q0 : x = 32
      · have q0' : (x != 32) = false := by simp [q0]
        by_cases q3 : y = 58
        · have q3' : (y != 58) = false := by simp [q3]
          have hch2 : Hid (Ck.pcB s.data.toList = (Ck.dyB (T.extract 0 e).data.toList && prB (bt T (e + 1)) (bt T (e + 2)) 24 && prB (bt T (e + 4)) (bt T (e + 5)) 60)) := by
            show _ = _
            rw [hch.out, HX.out, HY.out, decide_eq_true q0, decide_eq_true q3]
            simp
          clear hch HX HY
          have l1 : ((T.extract 0 e).size : Int) ≤ 9223372036854775807 := by rw [cut_size _ _ _ (by omega)]; omega
          have l2 : (T.extract (e + 1) (e + 3)).size = 2 := by rw [cut_size _ _ _ (by omega)]; omega
          have l3 : (T.extract (e + 4) T.size).size = 2 := by rw [cut_size _ _ _ (by omega)]; have := HE.out; omega
          have b20 : bt (T.extract (e + 1) (e + 3)) 0 = bt T (e + 1) := bt_cut _ _ _ _ (by omega) (by omega)
          have b21 : bt (T.extract (e + 1) (e + 3)) 1 = bt T (e + 2) := bt_cut _ _ _ _ (by omega) (by omega)
          have b30 : bt (T.extract (e + 4) T.size) 0 = bt T (e + 4) := bt_cut _ _ _ _ (by have := HE.out; omega) (by omega)
          have b31 : bt (T.extract (e + 4) T.size) 1 = bt T (e + 5) := bt_cut _ _ _ _ (by have := HE.out; omega) (by omega)
          obtain ⟨D, hD⟩ : ∃ D, T.extract 0 e = D := ⟨_, rfl⟩
          obtain ⟨X, hX⟩ : ∃ D, T.extract (e + 1) (e + 3) = D := ⟨_, rfl⟩
          obtain ⟨Y, hY⟩ : ∃ D, T.extract (e + 4) T.size = D := ⟨_, rfl⟩
          rw [hD] at l1 hch2 hnm
          rw [hX] at l2 b20 b21
          rw [hY] at l3 b30 b31
          rw [← b20, ← b21, ← b30, ← b31] at hch2 hnm
          clear b20 b21 b30 b31
          obtain ⟨b, hb⟩ : ∃ b, Ck.dyB D.data.toList = b := ⟨_, rfl⟩
          obtain ⟨v, hv⟩ : ∃ b, nmV D.data.toList = b := ⟨_, rfl⟩
          have HDB := Lib.hid hb
          have HDV := Lib.hid hv
          cases b with
          | false =>
            have hno : Hid (Ck.pcB s.data.toList = false) := by
              show _ = _
              rw [hch2.out, hb]
              simp
            clear hb hv
            go_enter Tryd.func26, Tryd.ntmps26
            go_wp2_with fail
            (with_reducible refine (cut_d _ _ _ HB HT _).mono ?_)
            rintro e w1 ⟨rfl, rfl⟩
            go_wp2_with fail
            (with_reducible refine (number_eq D _ _ _ l1 HDB HDV).mono ?_)
            rintro e w1 ⟨rfl, hb⟩
            have HB1 := Lib.hid hb
            clear hb
            go_wp2_with fail
            go_ret2
            exact PcR.no hno.out (HB1.out)
          | true =>
            have hvv : v = (Un.valL D.data.toList : Int) := by rw [← hv]; unfold nmV; rw [hb]; rfl
            have hv0 : 0 ≤ v := by omega
            have hv1 : v ≤ 1099511627776 := by
              unfold Ck.dyB at hb
              simp only [Bool.and_eq_true, decide_eq_true_eq] at hb
              omega
            rw [hb, Bool.true_and] at hch2
            rw [← hvv] at hnm
            clear hb hv hvv
            cases hp : prB (bt X 0) (bt X 1) 24 with
            | false =>
              have HP := Lib.hid hp
              have hno : Hid (Ck.pcB s.data.toList = false) := by
                show _ = _
                rw [hch2.out, hp]
                simp
              clear hp
              go_enter Tryd.func26, Tryd.ntmps26
              go_wp2_with fail
              (with_reducible refine (cut_d _ _ _ HB HT _).mono ?_)
              rintro e w1 ⟨rfl, rfl⟩
              go_wp2_with fail
              (with_reducible refine (number_eq D _ _ _ l1 HDB HDV).mono ?_)
              rintro e w1 ⟨rfl, hb⟩
              have HB1 := Lib.hid hb
              clear hb
              go_wp2_with fail
              (with_reducible refine (pair_no X _ _ l2 HP).mono ?_)
              rintro e w2 ⟨⟨v2, rfl⟩, hb⟩
              have HB2 := Lib.hid hb
              clear hb
              go_wp2_with fail
              go_ret2
              exact PcR.no hno.out (below_old HB1.out HB2.out)
            | true =>
              obtain ⟨h, hh⟩ : ∃ h, 10 * (bt X 0 - 48) + (bt X 1 - 48) = h := ⟨_, rfl⟩
              have h01 : 0 ≤ h ∧ h < 24 := by
                unfold prB at hp
                simp only [Bool.and_eq_true, decide_eq_true_eq] at hp
                omega
              have HP := Lib.hid hp
              have HH := Lib.hid hh
              rw [hp, Bool.true_and] at hch2
              rw [hh] at hnm
              clear hp hh
              cases hp : prB (bt Y 0) (bt Y 1) 60 with
              | false =>
                have HQ := Lib.hid hp
                have hno : Hid (Ck.pcB s.data.toList = false) := by
                  show _ = _
                  rw [hch2.out, hp]
                clear hp
                go_enter Tryd.func26, Tryd.ntmps26
                go_wp2_with fail
                (with_reducible refine (cut_d _ _ _ HB HT _).mono ?_)
                rintro e w1 ⟨rfl, rfl⟩
                go_wp2_with fail
                (with_reducible refine (number_eq D _ _ _ l1 HDB HDV).mono ?_)
                rintro e w1 ⟨rfl, hb⟩
                have HB1 := Lib.hid hb
                clear hb
                go_wp2_with fail
                (with_reducible refine (pair_yes X _ _ _ l2 HP HH).mono ?_)
                rintro e w2 ⟨rfl, hb⟩
                have HB2 := Lib.hid hb
                clear hb
                go_wp2_with fail
                (with_reducible refine (pair_no Y _ _ l3 HQ).mono ?_)
                rintro e w3 ⟨⟨v2, rfl⟩, hb⟩
                have HB3 := Lib.hid hb
                clear hb
                go_wp2_with fail
                go_ret2
                exact PcR.no hno.out (below_old (below_old HB1.out HB2.out) HB3.out)
              | true =>
                obtain ⟨m, hh⟩ : ∃ h, 10 * (bt Y 0 - 48) + (bt Y 1 - 48) = h := ⟨_, rfl⟩
                have m01 : 0 ≤ m ∧ m < 60 := by
                  unfold prB at hp
                  simp only [Bool.and_eq_true, decide_eq_true_eq] at hp
                  omega
                have HQ := Lib.hid hp
                have HM := Lib.hid hh
                rw [hp] at hch2
                rw [hh] at hnm
                have HN := Lib.hid (hnm.out hch2.out)
                clear hp hh hnm
                by_cases ht : 0 ≤ v * 1440 + h * 60 + m ∧ v * 1440 + h * 60 + m ≤ 10000000
                · go_enter Tryd.func26, Tryd.ntmps26
                  go_wp2_with fail
                  (with_reducible refine (cut_d _ _ _ HB HT _).mono ?_)
                  rintro e w1 ⟨rfl, rfl⟩
                  go_wp2_with fail
                  (with_reducible refine (number_eq D _ _ _ l1 HDB HDV).mono ?_)
                  rintro e w1 ⟨rfl, hb⟩
                  have HB1 := Lib.hid hb
                  clear hb
                  go_wp2_with fail
                  (with_reducible refine (pair_yes X _ _ _ l2 HP HH).mono ?_)
                  rintro e w2 ⟨rfl, hb⟩
                  have HB2 := Lib.hid hb
                  clear hb
                  go_wp2_with fail
                  (with_reducible refine (pair_yes Y _ _ _ l3 HQ HM).mono ?_)
                  rintro e w3 ⟨rfl, hb⟩
                  have HB3 := Lib.hid hb
                  clear hb
                  go_wp2_with fail
                  (with_reducible refine (tm_yes _ ht _).mono ?_)
                  rintro e w1 ⟨rfl, rfl⟩
                  go_wp2_with fail
                  go_ret2
                  exact PcR.yes hch2.out HN.out ht (below_old (below_old HB1.out HB2.out) HB3.out)
                · go_enter Tryd.func26, Tryd.ntmps26
                  go_wp2_with fail
                  (with_reducible refine (cut_d _ _ _ HB HT _).mono ?_)
                  rintro e w1 ⟨rfl, rfl⟩
                  go_wp2_with fail
                  (with_reducible refine (number_eq D _ _ _ l1 HDB HDV).mono ?_)
                  rintro e w1 ⟨rfl, hb⟩
                  have HB1 := Lib.hid hb
                  clear hb
                  go_wp2_with fail
                  (with_reducible refine (pair_yes X _ _ _ l2 HP HH).mono ?_)
                  rintro e w2 ⟨rfl, hb⟩
                  have HB2 := Lib.hid hb
                  clear hb
                  go_wp2_with fail
                  (with_reducible refine (pair_yes Y _ _ _ l3 HQ HM).mono ?_)
                  rintro e w3 ⟨rfl, hb⟩
                  have HB3 := Lib.hid hb
                  clear hb
                  go_wp2_with fail
                  (with_reducible refine (tm_no _ ht _).mono ?_)
                  rintro e w1 ⟨rfl, rfl⟩
                  go_wp2_with fail
                  go_ret2
                  exact PcR.late hch2.out HN.out ht (below_old (below_old HB1.out HB2.out) HB3.out)
        · have q3' : (y != 58) = true := by simp [q3]
          have hno : Hid (Ck.pcB s.data.toList = false) := by
            show _ = _
            rw [hch.out, HY.out, decide_eq_false q3]
            simp
          go_enter Tryd.func26, Tryd.ntmps26
          go_wp2_with fail
          (with_reducible refine (cut_d _ _ _ HB HT _).mono ?_)
          rintro e w1 ⟨rfl, rfl⟩
          go_wp2_with fail
          go_ret2
          exact PcR.no hno.out (Below.refl _ _)
      · have q0' : (x != 32) = true := by simp [q0]
        have hno : Hid (Ck.pcB s.data.toList = false) := by
          show _ = _
          rw [hch.out, HX.out, decide_eq_false q0]
          simp
        go_enter Tryd.func26, Tryd.ntmps26
        go_wp2_with fail
        (with_reducible refine (cut_d _ _ _ HB HT _).mono ?_)
        rintro e w1 ⟨rfl, rfl⟩
        go_wp2_with fail
        go_ret2
        exact PcR.no hno.out (Below.refl _ _)
  · have HB : Hid (decide (s.data.toList.head? = some 100) = false) := decide_eq_false hh
    have HT : Hid (s.data.toList = if false = true then s.data.toList.tail else s.data.toList) := rfl
    have hno : Hid (Ck.pcB s.data.toList = false) := by
      show _ = _
      have : decide (Ck.gt s.data.toList 0 = 100) = false := by
        refine decide_eq_false fun g => hh ?_
        cases q : s.data.toList with
        | nil => rw [q] at g; cases g
        | cons x l =>
          rw [q] at g
          have : x.toNat = 100 := g
          have : x = 100 := UInt8.toNat_inj.1 (by rw [this]; rfl)
          rw [this]
          rfl
      unfold Ck.pcB
      rw [this]
      simp
    clear hh
    go_enter Tryd.func26, Tryd.ntmps26
    go_wp2_with fail
    (with_reducible refine (cut_d _ _ _ HB HT _).mono ?_)
    rintro e w1 ⟨rfl, rfl⟩
    go_wp2_with fail
    go_ret2
    exact PcR.no hno.out (Below.refl _ _)
end Go.Proofs.YtieafjbngealoaaDoor
