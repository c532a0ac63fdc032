/- The reference of event: Check. -/
import Derived.Test.YtcefmnkfkpoccaaDoorGJ
namespace Go.Proofs.YtcefmnkfkpoccaaDoor
open Go.RowKit
set_option linter.unusedVariables false
open Wi Evn
set_option maxRecDepth 100000 in
set_option maxHeartbeats 8000000 in
theorem rcheck_any (e : Ev) (A : Option Addr) (c : Nat) (HO : Hid (EvOk e)) (x : Int) (hx : Hid (chk e = x)) (w : World) (HS : Hid (SlR w A (i64c e.nn))) :
    Calls Tryd.prog 12 #[agE e A c] w fun r w' => r = .returned (.int .i64 x) ∧ Below w.heap.size w w' := by
  obtain ⟨i1, i2, i3, i4, i5, i6, -⟩ := HO.out
  have h' := hx.out
  have HBX0 : Hid (EBox (w.alloc (.cells #[.int .i64 e.ki, .int .i64 e.ti, .string e.it, .string e.of_, .slice A e.nn.length c, .string e.tx] 24)) w.heap.size e A c) := Blk.new _ _ _
  have HAL := Lib.hid ((Below.refl w.heap.size w).alloc (Nat.le_refl _) (.cells #[.int .i64 e.ki, .int .i64 e.ti, .string e.it, .string e.of_, .slice A e.nn.length c, .string e.tx] 24))
  by_cases hk : 1 ≤ e.ki ∧ e.ki ≤ 14
  · rw [chk_F hk] at h'
    unfold chF at h'
    have HX := Lib.hid h'
    have HKK := Lib.hid hk
    obtain ⟨k1, k2⟩ := hk
    obtain ⟨tb, htb⟩ : ∃ tb, decide (0 ≤ e.ti ∧ e.ti ≤ 10000000) = tb := ⟨_, rfl⟩
    have HTB := Lib.hid htb
    have HC := Lib.hid (rcodes_any e.ki HKK.out)
    obtain ⟨a, ha⟩ : ∃ a, kIt e.ki = a := ⟨_, rfl⟩
    obtain ⟨b, hb⟩ : ∃ b, kOf e.ki = b := ⟨_, rfl⟩
    obtain ⟨sh, hsh⟩ : ∃ sh, shpB e.ki e.nn = sh := ⟨_, rfl⟩
    have HSH := Lib.hid hsh
    obtain ⟨y1, hy1⟩ : ∃ y, namB e.it a = y := ⟨_, rfl⟩
    obtain ⟨y2, hy2⟩ : ∃ y, namB e.of_ b = y := ⟨_, rfl⟩
    rw [ha, hb] at HC
    rw [ha, hb, hsh, hy1, hy2] at HX
    have HY1 := Lib.hid hy1; have HY2 := Lib.hid hy2
    clear h' hx ha hb hsh hy1 hy2 htb
    go_enter Tryd.func12, Tryd.ntmps12
    go_wp2_with fail
    generalize w.alloc (.cells #[.int .i64 e.ki, .int .i64 e.ti, .string e.it, .string e.of_, .slice A e.nn.length c, .string e.tx] 24) = w0 at *
    (with_reducible refine (ristime_any e.ti tb HTB _).mono ?_)
    rintro r w1 ⟨rfl, hw⟩
    subst hw
    obtain ⟨x0, x1, x2, x3, x4, x5⟩ := HBX0.out.cells
    cases tb with
    | false =>
      have e15 : 15 = x := by
        have := HX.out
        rw [if_neg (by have := HTB.out; simpa using this)] at this
        exact this
      subst e15
      go_wp2_with fail
      go_ret
      exact ⟨rfl, HAL.out⟩
    | true =>
      rw [if_pos (by have := HTB.out; simpa using this)] at HX
      go_wp2_with fail
      (with_reducible refine (HC.out _).mono ?_)
      rintro r w2 ⟨rfl, hw⟩
      subst hw
      go_wp2_with fail
      (with_reducible refine (rnamed_any e.it (by omega) a y1 HY1 _).mono ?_)
      rintro r w3 ⟨rfl, hb⟩
      have HB3 := Lib.hid (below_old HAL.out hb)
      have HBX3 : Hid (EBox w3 w.heap.size e A c) := Blk.below HBX0.out hb
      clear hb HBX0 x0 x1 x2 x3 x4 x5
      obtain ⟨x0, x1, x2, x3, x4, x5⟩ := HBX3.out.cells
      cases y1 with
      | false =>
        have e6 : 6 = x := by have := HX.out; simpa using this
        subst e6
        go_wp2_with fail
        go_ret
        exact ⟨rfl, HB3.out⟩
      | true =>
        go_wp2_with fail
        (with_reducible refine (rnamed_any e.of_ (by omega) b y2 HY2 _).mono ?_)
        rintro r w4 ⟨rfl, hb⟩
        have HB4 := Lib.hid (below_old HB3.out hb)
        have HBX4 : Hid (EBox w4 w.heap.size e A c) := Blk.below HBX3.out hb
        clear hb HB3 HBX3 x0 x1 x2 x3 x4 x5
        obtain ⟨x0, x1, x2, x3, x4, x5⟩ := HBX4.out.cells
        cases y2 with
        | false =>
          have e6 : 6 = x := by have := HX.out; simpa using this
          subst e6
          go_wp2_with fail
          go_ret
          exact ⟨rfl, HB4.out⟩
        | true =>
          rw [if_pos (show (true && true) = true from rfl)] at HX
          by_cases hl : e.nn.length ≤ 600
          · have z1 : ¬ (600 : Int) < (e.nn.length : Int) := by omega
            by_cases hl2 : e.tx.size ≤ 16384
            · have z2 : ¬ (16384 : Int) < (e.tx.size : Int) := by omega
              rw [if_pos ⟨hl, hl2⟩] at HX
              clear hl hl2
              go_wp2_with fail
              go_loopw [5] (fun i wr => ∃ (k : Nat), i = .int .i64 k ∧ k ≤ e.nn.length ∧ Hid (∀ j (hj : j < e.nn.length), j < k → okN e.nn[j]) ∧ wr = w4) (fun i _ => e.nn.length - (intOf i).toNat)
              case atStart => exact ⟨0, rfl, by omega, fun j _ h => by omega, rfl⟩
              case round =>
                obtain ⟨k, rfl, hk, HK, hw⟩ := hrel
                subst wr
                by_cases hkl : k < e.nn.length
                · obtain ⟨m, hm⟩ : ∃ m, e.nn[k] = m := ⟨_, rfl⟩
                  obtain ⟨bb, off, hA, hbl, c0⟩ := int_cells (HS.out.below HB4.out) hkl hm
                  subst hA
                  have zk : (k : Int) < (e.nn.length : Int) := by omega
                  by_cases hok : okN m
                  · have HK2 : Hid (∀ j (hj : j < e.nn.length), j < k + 1 → okN e.nn[j]) := fun j hj hlt => by
                      rcases Nat.lt_or_ge j k with q | q
                      · exact HK.out j hj q
                      · have : j = k := by omega
                        subst this
                        rw [hm]
                        exact hok
                    obtain ⟨o1, o2⟩ := hok
                    clear hm
                    go_wp2_with fail
                    go_roundw
                    case rel => exact ⟨k + 1, by go_num, by omega, HK2, trivial⟩
                    case measure => simp [intOf]; omega
                  · have hn := numB_no hkl (by rw [hm]; exact hok)
                    have e9 : 9 = x := by have := HX.out; rw [hn] at this; simpa using this
                    subst e9
                    clear hm hn
                    by_cases o1 : -1099511627776 ≤ m
                    · have o2 : ¬ m ≤ 1099511627776 := fun g => hok ⟨o1, g⟩
                      clear hok
                      go_wp2_with fail
                      go_ret
                      exact ⟨rfl, HB4.out⟩
                    · clear hok
                      go_wp2_with fail
                      go_ret
                      exact ⟨rfl, HB4.out⟩
                · have hn := numB_yes (l := e.nn) (fun j hj => HK.out j hj (by omega))
                  rw [hn, if_pos rfl] at HX
                  have zk : (e.nn.length : Int) ≤ (k : Int) := by omega
                  clear hn HK
                  go_wp2_with fail
                  (with_reducible refine (rshaped_any e A c HO HKK.out sh HSH _ (Lib.hid (HS.out.below HB4.out))).mono ?_)
                  rintro r w5 ⟨rfl, hw5⟩
                  have HB5 := Lib.hid (below_old HB4.out hw5)
                  clear hw5
                  cases sh with
                  | true =>
                    have e0 : 0 = x := by have := HX.out; simpa using this
                    subst e0
                    go_wp2_with fail
                    go_ret
                    exact ⟨rfl, HB5.out⟩
                  | false =>
                    have e0 : 19 = x := by have := HX.out; simpa using this
                    subst e0
                    go_wp2_with fail
                    go_ret
                    exact ⟨rfl, HB5.out⟩
            · rw [if_neg (fun g => hl2 g.2)] at HX
              have e4 := HX.out
              subst e4
              have z2 : (16384 : Int) < (e.tx.size : Int) := by omega
              clear hl hl2
              go_wp2_with fail
              go_ret
              exact ⟨rfl, HB4.out⟩
          · rw [if_neg (fun g => hl g.1)] at HX
            have e4 := HX.out
            subst e4
            have z1 : (600 : Int) < (e.nn.length : Int) := by omega
            clear hl
            go_wp2_with fail
            go_ret
            exact ⟨rfl, HB4.out⟩
  · rw [chk, if_neg hk] at h'
    subst h'
    by_cases k1 : 1 ≤ e.ki
    · have k2 : ¬ e.ki ≤ 14 := fun g => hk ⟨k1, g⟩
      clear hk
      go_enter Tryd.func12, Tryd.ntmps12
      go_wp2_with fail
      go_ret
      exact ⟨rfl, HAL.out⟩
    · clear hk
      go_enter Tryd.func12, Tryd.ntmps12
      go_wp2_with fail
      go_ret
      exact ⟨rfl, HAL.out⟩
end Go.Proofs.YtcefmnkfkpoccaaDoor
