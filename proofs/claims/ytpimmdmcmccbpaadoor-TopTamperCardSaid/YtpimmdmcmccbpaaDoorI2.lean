/- The reference's IsName; Letter of both. -/
import Derived.Test.YtpimmdmcmccbpaaDoorI1
namespace Go.Proofs.YtpimmdmcmccbpaaDoor
open Go.RowKit
set_option linter.unusedVariables false

set_option maxHeartbeats 2000000 in
theorem risName_any (s : ByteArray) (hsz : (s.size : Int) ≤ 9223372036854775807) (w : World) :
    Calls Tryd.prog 66 #[.string s] w fun e w' => e = .returned (.bool (nameB s)) ∧ w = w' := by
  by_cases h1 : (1 : Int) ≤ (s.size : Int)
  · by_cases h2 : (s.size : Int) ≤ 16
    · go_enter Tryd.func66, Tryd.ntmps66
      go_wp2_with fail
      go_loop [3] (fun i => ∃ k : Nat, i = .int .i64 k ∧ k ≤ s.size ∧ Hid (∀ j, j < k → nameAt s j)) (fun i => s.size - (intOf i).toNat)
      case atStart => exact ⟨0, rfl, by omega, fun j hj => by omega⟩
      case round =>
        obtain ⟨k, rfl, hk2, hall⟩ := hrel
        by_cases hlt : k < s.size
        · have hg := bt_get s k hlt
          have hr := bt_range s k
          obtain ⟨d, hd⟩ : ∃ d, bt s k = d := ⟨_, rfl⟩
          rw [hd] at hg hr
          have HD := Lib.hid hd
          clear hd
          have zk : (k : Int) < (s.size : Int) := by omega
          by_cases q0 : 97 ≤ d
          · by_cases q1 : d ≤ 122
            · have hn : Hid (∀ j, j < k + 1 → nameAt s j) := fun j hj => by
                rcases Nat.lt_or_ge j k with h | h
                · exact hall.out j h
                · obtain rfl : j = k := by omega
                  unfold nameAt; rw [HD.out]; left; omega
              go_wp2_with (first | (go_at_call 76; (with_reducible refine (rdigit_yes _ (by assumption) _).mono ?_); rintro e w' ⟨rfl, rfl⟩) | (go_at_call 76; (with_reducible refine (rdigit_no _ (by assumption) _).mono ?_); rintro e w' ⟨rfl, rfl⟩))
              go_round
              case rel => exact ⟨k + 1, by go_num, by omega, hn⟩
              case measure => simp [intOf]; omega
            · by_cases hk0 : ((k : Int) == 0) = true
              · have hb : Hid (nameB s = false) := name_bad hlt (by
                  unfold nameAt; rw [HD.out]
                  have : (k : Int) = 0 := by simpa using hk0
                  omega)
                go_wp2_with (first | (go_at_call 76; (with_reducible refine (rdigit_yes _ (by assumption) _).mono ?_); rintro e w' ⟨rfl, rfl⟩) | (go_at_call 76; (with_reducible refine (rdigit_no _ (by assumption) _).mono ?_); rintro e w' ⟨rfl, rfl⟩))
                go_ret
                exact ⟨ret_bool hb.out.symm, rfl⟩
              · have hk1 : ((k : Int) == 0) = false := by simpa using hk0
                have hk3 : k ≠ 0 := by simpa using hk0
                have HK3 := Lib.hid hk3
                clear hk0 hk3
                have q3 : ¬ (48 ≤ d ∧ d ≤ 57) := by omega
                have q5 : (d != 95) = true := by simp; omega
                have hb : Hid (nameB s = false) := name_bad hlt (by unfold nameAt; rw [HD.out]; omega)
                go_wp2_with (first | (go_at_call 76; (with_reducible refine (rdigit_yes _ (by assumption) _).mono ?_); rintro e w' ⟨rfl, rfl⟩) | (go_at_call 76; (with_reducible refine (rdigit_no _ (by assumption) _).mono ?_); rintro e w' ⟨rfl, rfl⟩))
                go_ret
                exact ⟨ret_bool hb.out.symm, rfl⟩
          · by_cases hk0 : ((k : Int) == 0) = true
            · have hb : Hid (nameB s = false) := name_bad hlt (by
                unfold nameAt; rw [HD.out]
                have : (k : Int) = 0 := by simpa using hk0
                omega)
              go_wp2_with (first | (go_at_call 76; (with_reducible refine (rdigit_yes _ (by assumption) _).mono ?_); rintro e w' ⟨rfl, rfl⟩) | (go_at_call 76; (with_reducible refine (rdigit_no _ (by assumption) _).mono ?_); rintro e w' ⟨rfl, rfl⟩))
              go_ret
              exact ⟨ret_bool hb.out.symm, rfl⟩
            · have hk1 : ((k : Int) == 0) = false := by simpa using hk0
              have hk3 : k ≠ 0 := by simpa using hk0
              have HK3 := Lib.hid hk3
              clear hk0 hk3
              by_cases q3 : d = 95
              · have q5 : (d != 95) = false := by simp [q3]
                have hn : Hid (∀ j, j < k + 1 → nameAt s j) := fun j hj => by
                  rcases Nat.lt_or_ge j k with h | h
                  · exact hall.out j h
                  · obtain rfl : j = k := by omega
                    unfold nameAt; rw [HD.out]; right; exact ⟨HK3.out, .inr q3⟩
                have Q3 := Lib.hid q3
                clear q3
                go_wp2_with (first | (go_at_call 76; (with_reducible refine (rdigit_yes _ (by assumption) _).mono ?_); rintro e w' ⟨rfl, rfl⟩) | (go_at_call 76; (with_reducible refine (rdigit_no _ (by assumption) _).mono ?_); rintro e w' ⟨rfl, rfl⟩))
                go_round
                case rel => exact ⟨k + 1, by go_num, by omega, hn⟩
                case measure => simp [intOf]; omega
              · have q5 : (d != 95) = true := by simpa using q3
                by_cases q4 : 48 ≤ d ∧ d ≤ 57
                · have hn : Hid (∀ j, j < k + 1 → nameAt s j) := fun j hj => by
                    rcases Nat.lt_or_ge j k with h | h
                    · exact hall.out j h
                    · obtain rfl : j = k := by omega
                      unfold nameAt; rw [HD.out]; right; exact ⟨HK3.out, .inl q4⟩
                  clear q3
                  go_wp2_with (first | (go_at_call 76; (with_reducible refine (rdigit_yes _ (by assumption) _).mono ?_); rintro e w' ⟨rfl, rfl⟩) | (go_at_call 76; (with_reducible refine (rdigit_no _ (by assumption) _).mono ?_); rintro e w' ⟨rfl, rfl⟩))
                  go_round
                  case rel => exact ⟨k + 1, by go_num, by omega, hn⟩
                  case measure => simp [intOf]; omega
                · have hb : Hid (nameB s = false) := name_bad hlt (by unfold nameAt; rw [HD.out]; omega)
                  clear q3
                  go_wp2_with (first | (go_at_call 76; (with_reducible refine (rdigit_yes _ (by assumption) _).mono ?_); rintro e w' ⟨rfl, rfl⟩) | (go_at_call 76; (with_reducible refine (rdigit_no _ (by assumption) _).mono ?_); rintro e w' ⟨rfl, rfl⟩))
                  go_ret
                  exact ⟨ret_bool hb.out.symm, rfl⟩
        · have hb : Hid (nameB s = true) := name_yes (by omega) (by omega) (fun j hj => hall.out j (by omega))
          go_wp2_with fail
          go_ret
          exact ⟨ret_bool hb.out.symm, rfl⟩
    · have hb : Hid (nameB s = false) := name_no (by omega)
      go_enter Tryd.func66, Tryd.ntmps66
      go_wp2_with fail
      go_ret
      exact ⟨ret_bool hb.out.symm, rfl⟩
  · have hb : Hid (nameB s = false) := name_no (by omega)
    go_enter Tryd.func66, Tryd.ntmps66
    go_wp2_with fail
    go_ret
    exact ⟨ret_bool hb.out.symm, rfl⟩

/-! ### Letter -/
/-- The weighted sum of the first k bytes, modulo 23. -/
def letN (s : ByteArray) : Nat → Int
  | 0 => 0
  | k + 1 => (letN s k + ((k : Int) + 1) * bt s k) % 23
theorem letN_range (s : ByteArray) (k : Nat) : 0 ≤ letN s k ∧ letN s k ≤ 22 := by
  cases k with
  | zero => simp [letN]
  | succ k => simp only [letN]; omega
theorem letN_ref (m b : Int) (k : Nat) : (m + ((k : Int) + 1) % 23 * b) % 23 = (m + ((k : Int) + 1) * b) % 23 := by
  rw [Int.add_emod, Int.mul_emod, Int.emod_emod_of_dvd _ (by omega), ← Int.mul_emod, ← Int.add_emod]

theorem mulB' {a b : Int} (m n : Int) (ha : 0 ≤ a ∧ a ≤ m) (hb : 0 ≤ b ∧ b ≤ n) : 0 ≤ a * b ∧ a * b ≤ m * n :=
  ⟨Int.mul_nonneg ha.1 hb.1, Int.mul_le_mul ha.2 hb.2 hb.1 (by omega)⟩
set_option maxHeartbeats 2000000 in
theorem letter_any (s : ByteArray) (hsz : (s.size : Int) ≤ 1000000) (w : World) :
    Calls Tryd.prog 69 #[.string s] w fun e w' => e = .returned (.int .u8 (65 + letN s s.size)) ∧ w = w' := by
  go_enter Tryd.func69, Tryd.ntmps69
  go_wp2_with fail
  go_loop [3, 4] (fun m i => ∃ k : Nat, i = .int .i64 k ∧ k ≤ s.size ∧ m = .int .i64 (letN s k)) (fun _ i => s.size - (intOf i).toNat)
  case atStart => exact ⟨0, rfl, by omega, rfl⟩
  case round =>
    obtain ⟨k, rfl, hk, rfl⟩ := hrel
    have hlr := letN_range s k
    by_cases hlt : k < s.size
    · have hg := bt_get s k hlt
      have hr := bt_range s k
      have hnx : letN s (k + 1) = (letN s k + ((k : Int) + 1) * bt s k) % 23 := rfl
      have hrf := letN_ref (letN s k) (bt s k) k
      rw [← hnx] at hrf
      obtain ⟨d, hd⟩ : ∃ d, bt s k = d := ⟨_, rfl⟩
      obtain ⟨m, hm⟩ : ∃ m, letN s k = m := ⟨_, rfl⟩
      rw [hd, hm] at hnx hrf
      rw [hd] at hg hr
      rw [hm] at hlr
      rw [hm]
      have HX := Lib.hid hnx; have HF := Lib.hid hrf
      clear hd hm hnx hrf
      have zk : (k : Int) < (s.size : Int) := by omega
      obtain ⟨q, hq⟩ : ∃ q, ((k : Int) + 1) * d = q := ⟨_, rfl⟩
      have hq1 : 0 ≤ q ∧ q ≤ 1000000 * 255 := by rw [← hq]; exact mulB' 1000000 255 (by omega) (by omega)
      have HQ := Lib.hid hq
      go_wp2_with fail
      go_round
      case rel => exact ⟨k + 1, by go_num, by omega, by rw [HX.out, HQ.out]⟩
      case measure => simp [intOf]; omega
    · obtain rfl : k = s.size := by omega
      obtain ⟨m, hm⟩ : ∃ m, letN s s.size = m := ⟨_, rfl⟩
      have HM := Lib.hid hm
      rw [hm] at hlr ⊢
      clear hm
      go_wp2_with fail
      go_ret
      exact ⟨ret_int' (by rw [HM.out]), rfl⟩
set_option maxHeartbeats 2000000 in
theorem rletter_any (s : ByteArray) (hsz : (s.size : Int) ≤ 1000000) (w : World) :
    Calls Tryd.prog 77 #[.string s] w fun e w' => e = .returned (.int .u8 (65 + letN s s.size)) ∧ w = w' := by
  go_enter Tryd.func77, Tryd.ntmps77
  go_wp2_with fail
  go_loop [3, 4] (fun m i => ∃ k : Nat, i = .int .i64 k ∧ k ≤ s.size ∧ m = .int .i64 (letN s k)) (fun _ i => s.size - (intOf i).toNat)
  case atStart => exact ⟨0, rfl, by omega, rfl⟩
  case round =>
    obtain ⟨k, rfl, hk, rfl⟩ := hrel
    have hlr := letN_range s k
    by_cases hlt : k < s.size
    · have hg := bt_get s k hlt
      have hr := bt_range s k
      have hnx : letN s (k + 1) = (letN s k + ((k : Int) + 1) * bt s k) % 23 := rfl
      have hrf := letN_ref (letN s k) (bt s k) k
      rw [← hnx] at hrf
      obtain ⟨d, hd⟩ : ∃ d, bt s k = d := ⟨_, rfl⟩
      obtain ⟨m, hm⟩ : ∃ m, letN s k = m := ⟨_, rfl⟩
      rw [hd, hm] at hnx hrf
      rw [hd] at hg hr
      rw [hm] at hlr
      rw [hm]
      have HX := Lib.hid hnx; have HF := Lib.hid hrf
      clear hd hm hnx hrf
      have zk : (k : Int) < (s.size : Int) := by omega
      obtain ⟨q, hq⟩ : ∃ q, ((k : Int) + 1) % 23 * d = q := ⟨_, rfl⟩
      have hq1 : 0 ≤ q ∧ q ≤ 1000000 * 255 := by rw [← hq]; exact mulB' 1000000 255 (by omega) (by omega)
      have HQ := Lib.hid hq
      go_wp2_with fail
      go_round
      case rel => exact ⟨k + 1, by go_num, by omega, by rw [← HF.out, HQ.out]⟩
      case measure => simp [intOf]; omega
    · obtain rfl : k = s.size := by omega
      obtain ⟨m, hm⟩ : ∃ m, letN s s.size = m := ⟨_, rfl⟩
      have HM := Lib.hid hm
      rw [hm] at hlr ⊢
      clear hm
      go_wp2_with fail
      go_ret
      exact ⟨ret_int' (by rw [HM.out]), rfl⟩
end Go.Proofs.YtpimmdmcmccbpaaDoor
