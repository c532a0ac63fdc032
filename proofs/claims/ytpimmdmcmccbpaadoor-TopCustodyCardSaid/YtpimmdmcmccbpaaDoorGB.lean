/- Package ident and its reference: contracts of IsName and Letter. -/
import Derived.Test.YtpimmdmcmccbpaaDoorGA
import Derived.Lib.Strings
namespace Go.Proofs.YtpimmdmcmccbpaaDoor
open Go.RowKit
set_option linter.unusedVariables false

theorem ret_int' {k : IntKind} {a b : Int} (h : a = b) : Ending.returned (.int k a) = .returned (.int k b) := by rw [h]

/-- The byte number j of a string, as a number; 0 behind its end. -/
def bt (s : ByteArray) (j : Nat) : Int := ((s.data.toList.getD j 0).toNat : Int)
theorem bt_get (s : ByteArray) (k : Nat) (h : k < s.size) : ((s[k]'h).toNat : Int) = bt s k := by
  have h' : k < s.data.size := h
  simp only [bt]
  congr 2
  show s.data[k] = _
  simp only [List.getD_eq_getElem?_getD, Array.getElem?_toList]
  rw [Array.getElem?_eq_getElem h']
  rfl
theorem bt_range (s : ByteArray) (j : Nat) : 0 ≤ bt s j ∧ bt s j ≤ 255 := by
  unfold bt
  have := (s.data.toList.getD j 0).toNat_lt
  omega

def smallB (c : Int) : Bool := decide (97 ≤ c ∧ c ≤ 122)
theorem small_yes (c : Int) (h : 97 ≤ c ∧ c ≤ 122) (w : World) : Calls Tryd.prog 60 #[.int .u8 c] w fun e w' => e = .returned (.bool true) ∧ w = w' := by
  go_enter Tryd.func60, Tryd.ntmps60
  go_wp2
  go_ret
  exact ⟨rfl, rfl⟩
theorem small_no (c : Int) (h : ¬ (97 ≤ c ∧ c ≤ 122)) (w : World) : Calls Tryd.prog 60 #[.int .u8 c] w fun e w' => e = .returned (.bool false) ∧ w = w' := by
  by_cases h1 : 97 ≤ c
  · have h2 : ¬ c ≤ 122 := by omega
    clear h
    go_enter Tryd.func60, Tryd.ntmps60
    go_wp2
    go_ret
    exact ⟨rfl, rfl⟩
  · clear h
    go_enter Tryd.func60, Tryd.ntmps60
    go_wp2
    go_ret
    exact ⟨rfl, rfl⟩
def digitB (c : Int) : Bool := decide (48 ≤ c ∧ c ≤ 57)
theorem digit_yes (c : Int) (h : 48 ≤ c ∧ c ≤ 57) (w : World) : Calls Tryd.prog 61 #[.int .u8 c] w fun e w' => e = .returned (.bool true) ∧ w = w' := by
  go_enter Tryd.func61, Tryd.ntmps61
  go_wp2
  go_ret
  exact ⟨rfl, rfl⟩
theorem digit_no (c : Int) (h : ¬ (48 ≤ c ∧ c ≤ 57)) (w : World) : Calls Tryd.prog 61 #[.int .u8 c] w fun e w' => e = .returned (.bool false) ∧ w = w' := by
  by_cases h1 : 48 ≤ c
  · have h2 : ¬ c ≤ 57 := by omega
    clear h
    go_enter Tryd.func61, Tryd.ntmps61
    go_wp2
    go_ret
    exact ⟨rfl, rfl⟩
  · clear h
    go_enter Tryd.func61, Tryd.ntmps61
    go_wp2
    go_ret
    exact ⟨rfl, rfl⟩
def capB (c : Int) : Bool := decide (65 ≤ c ∧ c ≤ 90)
theorem cap_yes (c : Int) (h : 65 ≤ c ∧ c ≤ 90) (w : World) : Calls Tryd.prog 78 #[.int .u8 c] w fun e w' => e = .returned (.bool true) ∧ w = w' := by
  go_enter Tryd.func78, Tryd.ntmps78
  go_wp2
  go_ret
  exact ⟨rfl, rfl⟩
theorem cap_no (c : Int) (h : ¬ (65 ≤ c ∧ c ≤ 90)) (w : World) : Calls Tryd.prog 78 #[.int .u8 c] w fun e w' => e = .returned (.bool false) ∧ w = w' := by
  by_cases h1 : 65 ≤ c
  · have h2 : ¬ c ≤ 90 := by omega
    clear h
    go_enter Tryd.func78, Tryd.ntmps78
    go_wp2
    go_ret
    exact ⟨rfl, rfl⟩
  · clear h
    go_enter Tryd.func78, Tryd.ntmps78
    go_wp2
    go_ret
    exact ⟨rfl, rfl⟩
def rdigitB (c : Int) : Bool := decide (48 ≤ c ∧ c ≤ 57)
theorem rdigit_yes (c : Int) (h : 48 ≤ c ∧ c ≤ 57) (w : World) : Calls Tryd.prog 76 #[.int .u8 c] w fun e w' => e = .returned (.bool true) ∧ w = w' := by
  go_enter Tryd.func76, Tryd.ntmps76
  go_wp2
  go_ret
  exact ⟨rfl, rfl⟩
theorem rdigit_no (c : Int) (h : ¬ (48 ≤ c ∧ c ≤ 57)) (w : World) : Calls Tryd.prog 76 #[.int .u8 c] w fun e w' => e = .returned (.bool false) ∧ w = w' := by
  by_cases h1 : 48 ≤ c
  · have h2 : ¬ c ≤ 57 := by omega
    clear h
    go_enter Tryd.func76, Tryd.ntmps76
    go_wp2
    go_ret
    exact ⟨rfl, rfl⟩
  · clear h
    go_enter Tryd.func76, Tryd.ntmps76
    go_wp2
    go_ret
    exact ⟨rfl, rfl⟩
def rcapB (c : Int) : Bool := decide (65 ≤ c ∧ c ≤ 90)
theorem rcap_yes (c : Int) (h : 65 ≤ c ∧ c ≤ 90) (w : World) : Calls Tryd.prog 75 #[.int .u8 c] w fun e w' => e = .returned (.bool true) ∧ w = w' := by
  go_enter Tryd.func75, Tryd.ntmps75
  go_wp2
  go_ret
  exact ⟨rfl, rfl⟩
theorem rcap_no (c : Int) (h : ¬ (65 ≤ c ∧ c ≤ 90)) (w : World) : Calls Tryd.prog 75 #[.int .u8 c] w fun e w' => e = .returned (.bool false) ∧ w = w' := by
  by_cases h1 : 65 ≤ c
  · have h2 : ¬ c ≤ 90 := by omega
    clear h
    go_enter Tryd.func75, Tryd.ntmps75
    go_wp2
    go_ret
    exact ⟨rfl, rfl⟩
  · clear h
    go_enter Tryd.func75, Tryd.ntmps75
    go_wp2
    go_ret
    exact ⟨rfl, rfl⟩

/-! ### Names -/
def nameAt (s : ByteArray) (j : Nat) : Prop := (97 ≤ bt s j ∧ bt s j ≤ 122) ∨ (j ≠ 0 ∧ ((48 ≤ bt s j ∧ bt s j ≤ 57) ∨ bt s j = 95))
instance (s : ByteArray) (j : Nat) : Decidable (nameAt s j) := by unfold nameAt; infer_instance
def nameB (s : ByteArray) : Bool := decide (1 ≤ s.size ∧ s.size ≤ 16) && (List.range s.size).all fun j => decide (nameAt s j)
theorem name_yes {s : ByteArray} (h1 : 1 ≤ s.size) (h2 : s.size ≤ 16) (h : ∀ j, j < s.size → nameAt s j) : nameB s = true := by
  simp only [nameB, Bool.and_eq_true, decide_eq_true_eq, List.all_eq_true, List.mem_range]
  exact ⟨⟨h1, h2⟩, h⟩
theorem name_no {s : ByteArray} (h : ¬ (1 ≤ s.size ∧ s.size ≤ 16)) : nameB s = false := by
  simp only [nameB, Bool.and_eq_false_iff, decide_eq_false_iff_not]
  exact .inl h
theorem name_bad {s : ByteArray} {j : Nat} (hj : j < s.size) (h : ¬ nameAt s j) : nameB s = false := by
  rw [← Bool.not_eq_true]
  simp only [nameB, Bool.and_eq_true, decide_eq_true_eq, List.all_eq_true, List.mem_range]
  exact fun hh => h (hh.2 j hj)

theorem name_first {s : ByteArray} (h : nameAt s 0) : ∀ j, j < 1 → nameAt s j := fun j hj => by
  have : j = 0 := by omega
  rw [this]; exact h

set_option maxHeartbeats 2000000 in
theorem isName_any (s : ByteArray) (hsz : (s.size : Int) ≤ 9223372036854775807) (w : World) :
    Calls Tryd.prog 48 #[.string s] w fun e w' => e = .returned (.bool (nameB s)) ∧ w = w' := by
  by_cases h1 : (1 : Int) ≤ (s.size : Int)
  · by_cases h2 : (s.size : Int) ≤ 16
    · have hg := bt_get s 0 (by omega)
      have hr := bt_range s 0
      obtain ⟨c, hc⟩ : ∃ c, bt s 0 = c := ⟨_, rfl⟩
      rw [hc] at hg hr
      have HC := Lib.hid hc
      clear hc
      have z0 : (0 : Int) < (s.size : Int) := by omega
      by_cases h3 : 97 ≤ c ∧ c ≤ 122
      · have hn0 : Hid (nameAt s 0) := by show nameAt s 0; left; rw [HC.out]; exact h3
        go_enter Tryd.func48, Tryd.ntmps48
        go_wp2_with (
          first | (go_at_call 60; (with_reducible refine (small_yes _ (by assumption) _).mono ?_); rintro e w' ⟨rfl, rfl⟩) | (go_at_call 60; (with_reducible refine (small_no _ (by assumption) _).mono ?_); rintro e w' ⟨rfl, rfl⟩) | (go_at_call 61; (with_reducible refine (digit_yes _ (by assumption) _).mono ?_); rintro e w' ⟨rfl, rfl⟩) | (go_at_call 61; (with_reducible refine (digit_no _ (by assumption) _).mono ?_); rintro e w' ⟨rfl, rfl⟩)
          )
        go_loop [3] (fun i => ∃ k : Nat, i = .int .i64 k ∧ 1 ≤ k ∧ k ≤ s.size ∧ Hid (∀ j, j < k → nameAt s j)) (fun i => s.size - (intOf i).toNat)
        case atStart => exact ⟨1, rfl, by omega, by omega, name_first hn0.out⟩
        case round =>
          obtain ⟨k, rfl, hk1, hk2, hall⟩ := hrel
          clear h3 hg hr
          by_cases hlt : k < s.size
          · have hg := bt_get s k hlt
            have hr := bt_range s k
            obtain ⟨d, hd⟩ : ∃ d, bt s k = d := ⟨_, rfl⟩
            rw [hd] at hg hr
            have HD := Lib.hid hd
            clear hd
            have zk : (k : Int) < (s.size : Int) := by omega
            by_cases q1 : 97 ≤ d ∧ d ≤ 122
            · have hn : Hid (∀ j, j < k + 1 → nameAt s j) := fun j hj => by
                rcases Nat.lt_or_ge j k with h | h
                · exact hall.out j h
                · obtain rfl : j = k := by omega
                  left; rw [HD.out]; exact q1
              go_wp2_with (
                first | (go_at_call 60; (with_reducible refine (small_yes _ (by assumption) _).mono ?_); rintro e w' ⟨rfl, rfl⟩) | (go_at_call 60; (with_reducible refine (small_no _ (by assumption) _).mono ?_); rintro e w' ⟨rfl, rfl⟩) | (go_at_call 61; (with_reducible refine (digit_yes _ (by assumption) _).mono ?_); rintro e w' ⟨rfl, rfl⟩) | (go_at_call 61; (with_reducible refine (digit_no _ (by assumption) _).mono ?_); rintro e w' ⟨rfl, rfl⟩)
                )
              go_round
              case rel => exact ⟨k + 1, by go_num, by omega, by omega, hn⟩
              case measure => simp [intOf]; omega
            · by_cases q2 : 48 ≤ d ∧ d ≤ 57
              · have hn : Hid (∀ j, j < k + 1 → nameAt s j) := fun j hj => by
                  rcases Nat.lt_or_ge j k with h | h
                  · exact hall.out j h
                  · obtain rfl : j = k := by omega
                    right; rw [HD.out]; exact ⟨by omega, .inl q2⟩
                go_wp2_with (
                  first | (go_at_call 60; (with_reducible refine (small_yes _ (by assumption) _).mono ?_); rintro e w' ⟨rfl, rfl⟩) | (go_at_call 60; (with_reducible refine (small_no _ (by assumption) _).mono ?_); rintro e w' ⟨rfl, rfl⟩) | (go_at_call 61; (with_reducible refine (digit_yes _ (by assumption) _).mono ?_); rintro e w' ⟨rfl, rfl⟩) | (go_at_call 61; (with_reducible refine (digit_no _ (by assumption) _).mono ?_); rintro e w' ⟨rfl, rfl⟩)
                  )
                go_round
                case rel => exact ⟨k + 1, by go_num, by omega, by omega, hn⟩
                case measure => simp [intOf]; omega
              · by_cases q3 : (d == 95) = true
                · have q3' : d = 95 := by simpa using q3
                  have hn : Hid (∀ j, j < k + 1 → nameAt s j) := fun j hj => by
                    rcases Nat.lt_or_ge j k with h | h
                    · exact hall.out j h
                    · obtain rfl : j = k := by omega
                      right; rw [HD.out]; exact ⟨by omega, .inr q3'⟩
                  have q4 : (d != 95) = false := by simp [q3']
                  clear q3'
                  go_wp2_with (
                    first | (go_at_call 60; (with_reducible refine (small_yes _ (by assumption) _).mono ?_); rintro e w' ⟨rfl, rfl⟩) | (go_at_call 60; (with_reducible refine (small_no _ (by assumption) _).mono ?_); rintro e w' ⟨rfl, rfl⟩) | (go_at_call 61; (with_reducible refine (digit_yes _ (by assumption) _).mono ?_); rintro e w' ⟨rfl, rfl⟩) | (go_at_call 61; (with_reducible refine (digit_no _ (by assumption) _).mono ?_); rintro e w' ⟨rfl, rfl⟩)
                    )
                  go_round
                  case rel => exact ⟨k + 1, by go_num, by omega, by omega, hn⟩
                  case measure => simp [intOf]; omega
                · have hb : Hid (nameB s = false) := name_bad hlt (by
                    unfold nameAt; rw [HD.out]
                    have : d ≠ 95 := by simpa using q3
                    omega)
                  have q4 : (d != 95) = true := by simpa using q3
                  go_wp2_with (
                    first | (go_at_call 60; (with_reducible refine (small_yes _ (by assumption) _).mono ?_); rintro e w' ⟨rfl, rfl⟩) | (go_at_call 60; (with_reducible refine (small_no _ (by assumption) _).mono ?_); rintro e w' ⟨rfl, rfl⟩) | (go_at_call 61; (with_reducible refine (digit_yes _ (by assumption) _).mono ?_); rintro e w' ⟨rfl, rfl⟩) | (go_at_call 61; (with_reducible refine (digit_no _ (by assumption) _).mono ?_); rintro e w' ⟨rfl, rfl⟩)
                    )
                  go_ret
                  exact ⟨ret_bool hb.out.symm, rfl⟩
          · have hb : Hid (nameB s = true) := name_yes (by omega) (by omega) (fun j hj => hall.out j (by omega))
            go_wp2_with fail
            go_ret
            exact ⟨ret_bool hb.out.symm, rfl⟩
      · have hb : Hid (nameB s = false) := name_bad (j := 0) (by omega) (by unfold nameAt; rw [HC.out]; omega)
        go_enter Tryd.func48, Tryd.ntmps48
        go_wp2_with (
          first | (go_at_call 60; (with_reducible refine (small_yes _ (by assumption) _).mono ?_); rintro e w' ⟨rfl, rfl⟩) | (go_at_call 60; (with_reducible refine (small_no _ (by assumption) _).mono ?_); rintro e w' ⟨rfl, rfl⟩) | (go_at_call 61; (with_reducible refine (digit_yes _ (by assumption) _).mono ?_); rintro e w' ⟨rfl, rfl⟩) | (go_at_call 61; (with_reducible refine (digit_no _ (by assumption) _).mono ?_); rintro e w' ⟨rfl, rfl⟩)
          )
        go_ret
        exact ⟨ret_bool hb.out.symm, rfl⟩
    · have hb : Hid (nameB s = false) := name_no (by omega)
      go_enter Tryd.func48, Tryd.ntmps48
      go_wp2_with fail
      go_ret
      exact ⟨ret_bool hb.out.symm, rfl⟩
  · have hb : Hid (nameB s = false) := name_no (by omega)
    go_enter Tryd.func48, Tryd.ntmps48
    go_wp2_with fail
    go_ret
    exact ⟨ret_bool hb.out.symm, rfl⟩
end Go.Proofs.YtpimmdmcmccbpaaDoor

namespace Go.Proofs.YtpimmdmcmccbpaaDoor
open Go.RowKit
set_option linter.unusedVariables false

set_option maxHeartbeats 2000000 in
theorem risName_any (s : ByteArray) (hsz : (s.size : Int) ≤ 9223372036854775807) (w : World) :
    Calls Tryd.prog 66 #[.string s] w fun e w' => e = .returned (.bool (nameB s)) ∧ w = w' := by
  by_cases h1 : (1 : Int) ≤ (s.size : Int)
  · by_cases h2 : (s.size : Int) ≤ 16
    · go_enter Tryd.func66, Tryd.ntmps66
      go_wp2_with fail
      go_loop [3] (fun i => ∃ k : Nat, i = .int .i64 k ∧ k ≤ s.size ∧ Hid (∀ j, j < k → nameAt s j)) (fun i => s.size - (intOf i).toNat)
      case atStart => exact ⟨0, rfl, by omega, fun j hj => by omega⟩
      case round =>
        obtain ⟨k, rfl, hk2, hall⟩ := hrel
        by_cases hlt : k < s.size
        · have hg := bt_get s k hlt
          have hr := bt_range s k
          obtain ⟨d, hd⟩ : ∃ d, bt s k = d := ⟨_, rfl⟩
          rw [hd] at hg hr
          have HD := Lib.hid hd
          clear hd
          have zk : (k : Int) < (s.size : Int) := by omega
          by_cases q0 : 97 ≤ d
          · by_cases q1 : d ≤ 122
            · have hn : Hid (∀ j, j < k + 1 → nameAt s j) := fun j hj => by
                rcases Nat.lt_or_ge j k with h | h
                · exact hall.out j h
                · obtain rfl : j = k := by omega
                  unfold nameAt; rw [HD.out]; left; omega
              go_wp2_with (first | (go_at_call 76; (with_reducible refine (rdigit_yes _ (by assumption) _).mono ?_); rintro e w' ⟨rfl, rfl⟩) | (go_at_call 76; (with_reducible refine (rdigit_no _ (by assumption) _).mono ?_); rintro e w' ⟨rfl, rfl⟩))
              go_round
              case rel => exact ⟨k + 1, by go_num, by omega, hn⟩
              case measure => simp [intOf]; omega
            · by_cases hk0 : ((k : Int) == 0) = true
              · have hb : Hid (nameB s = false) := name_bad hlt (by
                  unfold nameAt; rw [HD.out]
                  have : (k : Int) = 0 := by simpa using hk0
                  omega)
                go_wp2_with (first | (go_at_call 76; (with_reducible refine (rdigit_yes _ (by assumption) _).mono ?_); rintro e w' ⟨rfl, rfl⟩) | (go_at_call 76; (with_reducible refine (rdigit_no _ (by assumption) _).mono ?_); rintro e w' ⟨rfl, rfl⟩))
                go_ret
                exact ⟨ret_bool hb.out.symm, rfl⟩
              · have hk1 : ((k : Int) == 0) = false := by simpa using hk0
                have hk3 : k ≠ 0 := by simpa using hk0
                have HK3 := Lib.hid hk3
                clear hk0 hk3
                have q3 : ¬ (48 ≤ d ∧ d ≤ 57) := by omega
                have q5 : (d != 95) = true := by simp; omega
                have hb : Hid (nameB s = false) := name_bad hlt (by unfold nameAt; rw [HD.out]; omega)
                go_wp2_with (first | (go_at_call 76; (with_reducible refine (rdigit_yes _ (by assumption) _).mono ?_); rintro e w' ⟨rfl, rfl⟩) | (go_at_call 76; (with_reducible refine (rdigit_no _ (by assumption) _).mono ?_); rintro e w' ⟨rfl, rfl⟩))
                go_ret
                exact ⟨ret_bool hb.out.symm, rfl⟩
          · by_cases hk0 : ((k : Int) == 0) = true
            · have hb : Hid (nameB s = false) := name_bad hlt (by
                unfold nameAt; rw [HD.out]
                have : (k : Int) = 0 := by simpa using hk0
                omega)
              go_wp2_with (first | (go_at_call 76; (with_reducible refine (rdigit_yes _ (by assumption) _).mono ?_); rintro e w' ⟨rfl, rfl⟩) | (go_at_call 76; (with_reducible refine (rdigit_no _ (by assumption) _).mono ?_); rintro e w' ⟨rfl, rfl⟩))
              go_ret
              exact ⟨ret_bool hb.out.symm, rfl⟩
            · have hk1 : ((k : Int) == 0) = false := by simpa using hk0
              have hk3 : k ≠ 0 := by simpa using hk0
              have HK3 := Lib.hid hk3
              clear hk0 hk3
              by_cases q3 : d = 95
              · have q5 : (d != 95) = false := by simp [q3]
                have hn : Hid (∀ j, j < k + 1 → nameAt s j) := fun j hj => by
                  rcases Nat.lt_or_ge j k with h | h
                  · exact hall.out j h
                  · obtain rfl : j = k := by omega
                    unfold nameAt; rw [HD.out]; right; exact ⟨HK3.out, .inr q3⟩
                have Q3 := Lib.hid q3
                clear q3
                go_wp2_with (first | (go_at_call 76; (with_reducible refine (rdigit_yes _ (by assumption) _).mono ?_); rintro e w' ⟨rfl, rfl⟩) | (go_at_call 76; (with_reducible refine (rdigit_no _ (by assumption) _).mono ?_); rintro e w' ⟨rfl, rfl⟩))
                go_round
                case rel => exact ⟨k + 1, by go_num, by omega, hn⟩
                case measure => simp [intOf]; omega
              · have q5 : (d != 95) = true := by simpa using q3
                by_cases q4 : 48 ≤ d ∧ d ≤ 57
                · have hn : Hid (∀ j, j < k + 1 → nameAt s j) := fun j hj => by
                    rcases Nat.lt_or_ge j k with h | h
                    · exact hall.out j h
                    · obtain rfl : j = k := by omega
                      unfold nameAt; rw [HD.out]; right; exact ⟨HK3.out, .inl q4⟩
                  clear q3
                  go_wp2_with (first | (go_at_call 76; (with_reducible refine (rdigit_yes _ (by assumption) _).mono ?_); rintro e w' ⟨rfl, rfl⟩) | (go_at_call 76; (with_reducible refine (rdigit_no _ (by assumption) _).mono ?_); rintro e w' ⟨rfl, rfl⟩))
                  go_round
                  case rel => exact ⟨k + 1, by go_num, by omega, hn⟩
                  case measure => simp [intOf]; omega
                · have hb : Hid (nameB s = false) := name_bad hlt (by unfold nameAt; rw [HD.out]; omega)
                  clear q3
                  go_wp2_with (first | (go_at_call 76; (with_reducible refine (rdigit_yes _ (by assumption) _).mono ?_); rintro e w' ⟨rfl, rfl⟩) | (go_at_call 76; (with_reducible refine (rdigit_no _ (by assumption) _).mono ?_); rintro e w' ⟨rfl, rfl⟩))
                  go_ret
                  exact ⟨ret_bool hb.out.symm, rfl⟩
        · have hb : Hid (nameB s = true) := name_yes (by omega) (by omega) (fun j hj => hall.out j (by omega))
          go_wp2_with fail
          go_ret
          exact ⟨ret_bool hb.out.symm, rfl⟩
    · have hb : Hid (nameB s = false) := name_no (by omega)
      go_enter Tryd.func66, Tryd.ntmps66
      go_wp2_with fail
      go_ret
      exact ⟨ret_bool hb.out.symm, rfl⟩
  · have hb : Hid (nameB s = false) := name_no (by omega)
    go_enter Tryd.func66, Tryd.ntmps66
    go_wp2_with fail
    go_ret
    exact ⟨ret_bool hb.out.symm, rfl⟩

/-! ### Letter -/
/-- The weighted sum of the first k bytes, modulo 23. -/
def letN (s : ByteArray) : Nat → Int
  | 0 => 0
  | k + 1 => (letN s k + ((k : Int) + 1) * bt s k) % 23
theorem letN_range (s : ByteArray) (k : Nat) : 0 ≤ letN s k ∧ letN s k ≤ 22 := by
  cases k with
  | zero => simp [letN]
  | succ k => simp only [letN]; omega
theorem letN_ref (m b : Int) (k : Nat) : (m + ((k : Int) + 1) % 23 * b) % 23 = (m + ((k : Int) + 1) * b) % 23 := by
  rw [Int.add_emod, Int.mul_emod, Int.emod_emod_of_dvd _ (by omega), ← Int.mul_emod, ← Int.add_emod]

theorem mulB' {a b : Int} (m n : Int) (ha : 0 ≤ a ∧ a ≤ m) (hb : 0 ≤ b ∧ b ≤ n) : 0 ≤ a * b ∧ a * b ≤ m * n :=
  ⟨Int.mul_nonneg ha.1 hb.1, Int.mul_le_mul ha.2 hb.2 hb.1 (by omega)⟩
set_option maxHeartbeats 2000000 in
theorem letter_any (s : ByteArray) (hsz : (s.size : Int) ≤ 1000000) (w : World) :
    Calls Tryd.prog 69 #[.string s] w fun e w' => e = .returned (.int .u8 (65 + letN s s.size)) ∧ w = w' := by
  go_enter Tryd.func69, Tryd.ntmps69
  go_wp2_with fail
  go_loop [3, 4] (fun m i => ∃ k : Nat, i = .int .i64 k ∧ k ≤ s.size ∧ m = .int .i64 (letN s k)) (fun _ i => s.size - (intOf i).toNat)
  case atStart => exact ⟨0, rfl, by omega, rfl⟩
  case round =>
    obtain ⟨k, rfl, hk, rfl⟩ := hrel
    have hlr := letN_range s k
    by_cases hlt : k < s.size
    · have hg := bt_get s k hlt
      have hr := bt_range s k
      have hnx : letN s (k + 1) = (letN s k + ((k : Int) + 1) * bt s k) % 23 := rfl
      have hrf := letN_ref (letN s k) (bt s k) k
      rw [← hnx] at hrf
      obtain ⟨d, hd⟩ : ∃ d, bt s k = d := ⟨_, rfl⟩
      obtain ⟨m, hm⟩ : ∃ m, letN s k = m := ⟨_, rfl⟩
      rw [hd, hm] at hnx hrf
      rw [hd] at hg hr
      rw [hm] at hlr
      rw [hm]
      have HX := Lib.hid hnx; have HF := Lib.hid hrf
      clear hd hm hnx hrf
      have zk : (k : Int) < (s.size : Int) := by omega
      obtain ⟨q, hq⟩ : ∃ q, ((k : Int) + 1) * d = q := ⟨_, rfl⟩
      have hq1 : 0 ≤ q ∧ q ≤ 1000000 * 255 := by rw [← hq]; exact mulB' 1000000 255 (by omega) (by omega)
      have HQ := Lib.hid hq
      go_wp2_with fail
      go_round
      case rel => exact ⟨k + 1, by go_num, by omega, by rw [HX.out, HQ.out]⟩
      case measure => simp [intOf]; omega
    · obtain rfl : k = s.size := by omega
      obtain ⟨m, hm⟩ : ∃ m, letN s s.size = m := ⟨_, rfl⟩
      have HM := Lib.hid hm
      rw [hm] at hlr ⊢
      clear hm
      go_wp2_with fail
      go_ret
      exact ⟨ret_int' (by rw [HM.out]), rfl⟩
set_option maxHeartbeats 2000000 in
theorem rletter_any (s : ByteArray) (hsz : (s.size : Int) ≤ 1000000) (w : World) :
    Calls Tryd.prog 77 #[.string s] w fun e w' => e = .returned (.int .u8 (65 + letN s s.size)) ∧ w = w' := by
  go_enter Tryd.func77, Tryd.ntmps77
  go_wp2_with fail
  go_loop [3, 4] (fun m i => ∃ k : Nat, i = .int .i64 k ∧ k ≤ s.size ∧ m = .int .i64 (letN s k)) (fun _ i => s.size - (intOf i).toNat)
  case atStart => exact ⟨0, rfl, by omega, rfl⟩
  case round =>
    obtain ⟨k, rfl, hk, rfl⟩ := hrel
    have hlr := letN_range s k
    by_cases hlt : k < s.size
    · have hg := bt_get s k hlt
      have hr := bt_range s k
      have hnx : letN s (k + 1) = (letN s k + ((k : Int) + 1) * bt s k) % 23 := rfl
      have hrf := letN_ref (letN s k) (bt s k) k
      rw [← hnx] at hrf
      obtain ⟨d, hd⟩ : ∃ d, bt s k = d := ⟨_, rfl⟩
      obtain ⟨m, hm⟩ : ∃ m, letN s k = m := ⟨_, rfl⟩
      rw [hd, hm] at hnx hrf
      rw [hd] at hg hr
      rw [hm] at hlr
      rw [hm]
      have HX := Lib.hid hnx; have HF := Lib.hid hrf
      clear hd hm hnx hrf
      have zk : (k : Int) < (s.size : Int) := by omega
      obtain ⟨q, hq⟩ : ∃ q, ((k : Int) + 1) % 23 * d = q := ⟨_, rfl⟩
      have hq1 : 0 ≤ q ∧ q ≤ 1000000 * 255 := by rw [← hq]; exact mulB' 1000000 255 (by omega) (by omega)
      have HQ := Lib.hid hq
      go_wp2_with fail
      go_round
      case rel => exact ⟨k + 1, by go_num, by omega, by rw [← HF.out, HQ.out]⟩
      case measure => simp [intOf]; omega
    · obtain rfl : k = s.size := by omega
      obtain ⟨m, hm⟩ : ∃ m, letN s s.size = m := ⟨_, rfl⟩
      have HM := Lib.hid hm
      rw [hm] at hlr ⊢
      clear hm
      go_wp2_with fail
      go_ret
      exact ⟨ret_int' (by rw [HM.out]), rfl⟩
end Go.Proofs.YtpimmdmcmccbpaaDoor

namespace Go.Proofs.YtpimmdmcmccbpaaDoor
open Go.RowKit
set_option linter.unusedVariables false

def digAt (s : ByteArray) (j : Nat) : Prop := 48 ≤ bt s j ∧ bt s j ≤ 57
instance (s : ByteArray) (j : Nat) : Decidable (digAt s j) := by unfold digAt; infer_instance
def digsB (s : ByteArray) : Bool := (List.range 6).all fun j => decide (digAt s (j + 1))
/-- The number of the first k digits, from the byte 1 on. -/
def numN (s : ByteArray) : Nat → Int
  | 0 => 0
  | k + 1 => numN s k * 10 + (bt s (k + 1) - 48)
def spE (s : ByteArray) : Int :=
  if s.size = 8 then (if 65 ≤ bt s 0 ∧ bt s 0 ≤ 90 then (if digsB s then (if 65 + letN s 7 = bt s 7 then 0 else 16) else 5) else 10) else 3
def spK (s : ByteArray) : Int := if spE s = 0 then bt s 0 else 0
def spN (s : ByteArray) : Int := if spE s = 0 then numN s 6 else 0

theorem digs_yes {s : ByteArray} (h : ∀ j, 1 ≤ j → j < 7 → digAt s j) : digsB s = true := by
  simp only [digsB, List.all_eq_true, List.mem_range, decide_eq_true_eq]
  exact fun j hj => h (j + 1) (by omega) (by omega)
theorem digs_no {s : ByteArray} {j : Nat} (h1 : 1 ≤ j) (h2 : j < 7) (h : ¬ digAt s j) : digsB s = false := by
  rw [← Bool.not_eq_true]
  simp only [digsB, List.all_eq_true, List.mem_range, decide_eq_true_eq]
  exact fun hh => h (by have := hh (j - 1) (by omega); rwa [show j - 1 + 1 = j by omega] at this)
theorem sp_short {s : ByteArray} (h : s.size ≠ 8) : spK s = 0 ∧ spN s = 0 ∧ spE s = 3 := by simp [spK, spN, spE, h]
theorem sp_kind {s : ByteArray} (h : s.size = 8) (hc : ¬ (65 ≤ bt s 0 ∧ bt s 0 ≤ 90)) : spK s = 0 ∧ spN s = 0 ∧ spE s = 10 := by
  have e : spE s = 10 := by rw [spE, if_pos h, if_neg hc]
  simp [spK, spN, e]
theorem sp_syntax {s : ByteArray} (h : s.size = 8) (hc : 65 ≤ bt s 0 ∧ bt s 0 ≤ 90) (hd : digsB s = false) : spK s = 0 ∧ spN s = 0 ∧ spE s = 5 := by
  have e : spE s = 5 := by rw [spE, if_pos h, if_pos hc, hd]; rfl
  simp [spK, spN, e]
theorem sp_sum {s : ByteArray} (h : s.size = 8) (hc : 65 ≤ bt s 0 ∧ bt s 0 ≤ 90) (hd : digsB s = true) (hl : ¬ 65 + letN s 7 = bt s 7) : spK s = 0 ∧ spN s = 0 ∧ spE s = 16 := by
  have e : spE s = 16 := by rw [spE, if_pos h, if_pos hc, hd, if_neg hl]; rfl
  simp [spK, spN, e]
theorem sp_ok {s : ByteArray} (h : s.size = 8) (hc : 65 ≤ bt s 0 ∧ bt s 0 ≤ 90) (hd : digsB s = true) (hl : 65 + letN s 7 = bt s 7) : spK s = bt s 0 ∧ spN s = numN s 6 ∧ spE s = 0 := by
  have e : spE s = 0 := by rw [spE, if_pos h, if_pos hc, hd, if_pos hl]; rfl
  simp [spK, spN, e]

theorem numN_range (s : ByteArray) : ∀ k, (∀ j, 1 ≤ j → j ≤ k → digAt s j) → 0 ≤ numN s k ∧ numN s k < 10 ^ k := by
  intro k
  induction k with
  | zero => intro _; simp [numN]
  | succ k ih =>
    intro h
    have h1 := ih (fun j a b => h j a (by omega))
    have h2 := h (k + 1) (by omega) (by omega)
    unfold digAt at h2
    simp only [numN]
    rw [Int.pow_succ]
    omega

theorem bt_extract (s : ByteArray) (n j : Nat) (hj : j < n) (hn : n ≤ s.size) : bt (s.extract 0 n) j = bt s j := by
  simp only [bt, Lib.extract_data]
  congr 2
  simp [List.getD_eq_getElem?_getD]
  rw [List.getElem?_take_of_lt (by omega), Array.getElem?_toList]
theorem letN_extract (s : ByteArray) (n : Nat) (hn : n ≤ s.size) : ∀ k, k ≤ n → letN (s.extract 0 n) k = letN s k := by
  intro k
  induction k with
  | zero => intro _; rfl
  | succ k ih => intro h; simp only [letN]; rw [ih (by omega), bt_extract s n k (by omega) hn]

theorem ret_knE {k l m : IntKind} {a b c d x y : Int} (h : a = b) (h' : c = d) (h2 : x = y) : Ending.returned (.tuple #[.int k a, .int l c, .int m x]) = .returned (.tuple #[.int k b, .int l d, .int m y]) := by rw [h, h', h2]

theorem letter_7 (s : ByteArray) (l : Int) (h8 : Hid (s.size = 8)) (hl : Hid (letN s 7 = l)) (w : World) : Calls Tryd.prog 69 #[.string (s.extract 0 7)] w fun e w' => e = .returned (.int .u8 (65 + l)) ∧ w' = w := by
  have h7 : (s.extract 0 7).size = 7 := by have := h8.out; simp; omega
  refine (letter_any (s.extract 0 7) (by rw [h7]; omega) w).mono fun e w' h => ?_
  rw [h7, letN_extract s 7 (by have := h8.out; omega) 7 (Nat.le_refl _), hl.out] at h
  exact ⟨h.1, h.2.symm⟩
theorem rletter_7 (s : ByteArray) (l : Int) (h8 : Hid (s.size = 8)) (hl : Hid (letN s 7 = l)) (w : World) : Calls Tryd.prog 77 #[.string (s.extract 0 7)] w fun e w' => e = .returned (.int .u8 (65 + l)) ∧ w' = w := by
  have h7 : (s.extract 0 7).size = 7 := by have := h8.out; simp; omega
  refine (rletter_any (s.extract 0 7) (by rw [h7]; omega) w).mono fun e w' h => ?_
  rw [h7, letN_extract s 7 (by have := h8.out; omega) 7 (Nat.le_refl _), hl.out] at h
  exact ⟨h.1, h.2.symm⟩

set_option maxHeartbeats 2000000 in
theorem rsplit02 (s : ByteArray) (hsz : (s.size : Int) ≤ 9223372036854775807) (w : World) :
    Calls Tryd.prog 65 #[.string s] w fun e w' => e = .returned (.tuple #[.int .u8 (spK s), .int .i64 (spN s), .int .i64 (spE s)]) ∧ ∃ n, w' = w.drewN n := by
  by_cases h8 : (s.size : Int) = 8
  · have h8n : s.size = 8 := by omega
    have b8 : ((s.size : Int) != 8) = false := by simp [h8]
    have H8 := Lib.hid h8n
    have z0 : (0 : Int) < (s.size : Int) := by omega
    have z7 : (7 : Int) < (s.size : Int) := by omega
    have z7' : (7 : Int) ≤ (s.size : Int) := by omega
    have n0 : 0 < s.size := by omega
    have n7 : 7 < s.size := by omega
    have hg0 := bt_get s 0 n0
    have hg7 := bt_get s 7 n7
    have hr0 := bt_range s 0
    have hr7 := bt_range s 7
    clear h8 h8n
    obtain ⟨c, hc⟩ : ∃ c, bt s 0 = c := ⟨_, rfl⟩
    obtain ⟨d, hd⟩ : ∃ d, bt s 7 = d := ⟨_, rfl⟩
    have HC := Lib.hid hc; have HD := Lib.hid hd
    rw [hc] at hg0 hr0
    rw [hd] at hg7 hr7
    clear hc hd
    by_cases hcap : 65 ≤ c ∧ c ≤ 90
    · go_enter Tryd.func65, Tryd.ntmps65
      go_wp2_with (go_at_call 75; (with_reducible refine (rcap_yes _ hcap _).mono ?_); rintro e w' ⟨rfl, rfl⟩)
      go_loop [5, 6] (fun m i => ∃ k : Nat, i = .int .i64 ((k : Int) + 1) ∧ k ≤ 6 ∧ m = .int .i64 (numN s k) ∧ Hid (∀ j, 1 ≤ j → j ≤ k → digAt s j)) (fun _ i => 7 - (intOf i).toNat)
      case atStart => exact ⟨0, rfl, by omega, rfl, fun j a b => by omega⟩
      case round =>
        obtain ⟨k, rfl, hk, rfl, hall⟩ := hrel
        have hnr := numN_range s k hall.out
        have hpw : (numN s k) ≤ 1000000 := by
          have h1 : 10 ^ k ≤ 10 ^ 6 := Nat.pow_le_pow_right (by omega) hk
          have h2 : (10 : Int) ^ k = ((10 ^ k : Nat) : Int) := by simp
          omega
        have hn0 := hnr.1
        clear hnr
        by_cases hlt : k < 6
        · have nk : k + 1 < s.size := by have := H8.out; omega
          have hg := bt_get s (k + 1) nk
          have hr := bt_range s (k + 1)
          have hnx : numN s (k + 1) = numN s k * 10 + (bt s (k + 1) - 48) := rfl
          obtain ⟨b, hb⟩ : ∃ b, bt s (k + 1) = b := ⟨_, rfl⟩
          obtain ⟨m, hm⟩ : ∃ m, numN s k = m := ⟨_, rfl⟩
          rw [hb] at hg hr hnx
          rw [hm] at hnx hpw hn0 ⊢
          have HB := Lib.hid hb; have HX := Lib.hid hnx
          clear hb hm hnx
          have zk : (k : Int) + 1 < (s.size : Int) := by omega
          by_cases hdg : 48 ≤ b ∧ b ≤ 57
          · have hn : Hid (∀ j, 1 ≤ j → j ≤ k + 1 → digAt s j) := fun j a c => by
              rcases Nat.lt_or_ge j (k + 1) with h | h
              · exact hall.out j a (by omega)
              · obtain rfl : j = k + 1 := by omega
                unfold digAt; rw [HB.out]; exact hdg
            go_wp2_with (go_at_call 76; (with_reducible refine (rdigit_yes _ hdg _).mono ?_); rintro e w' ⟨rfl, rfl⟩)
            go_round
            case rel => exact ⟨k + 1, by go_num, by omega, by rw [HX.out]; go_num, hn⟩
            case measure => simp [intOf]; omega
          · have hv := Lib.hid (sp_syntax H8.out (by rw [HC.out]; exact hcap) (digs_no (j := k + 1) (by omega) (by omega) (by unfold digAt; rw [HB.out]; exact hdg)))
            go_wp2_with (go_at_call 76; (with_reducible refine (rdigit_no _ hdg _).mono ?_); rintro e w' ⟨rfl, rfl⟩)
            go_ret3
            exact ⟨ret_knE hv.out.1.symm hv.out.2.1.symm hv.out.2.2.symm, 0, rfl⟩
        · obtain rfl : k = 6 := by omega
          have hds := Lib.hid (digs_yes (s := s) (fun j a b => hall.out j a (by omega)))
          obtain ⟨m, hm⟩ : ∃ m, numN s 6 = m := ⟨_, rfl⟩
          have HM := Lib.hid hm
          rw [hm] at hpw hn0 ⊢
          clear hm hall hlt
          have hlr := letN_range s 7
          obtain ⟨l, hl⟩ : ∃ l, letN s 7 = l := ⟨_, rfl⟩
          have HL := Lib.hid hl
          rw [hl] at hlr
          clear hl
          by_cases hs : (d == 65 + l) = true
          · have hs' : 65 + l = d := (beq_iff_eq.1 hs).symm
            have hv := Lib.hid (sp_ok H8.out (by rw [HC.out]; exact hcap) hds.out (by rw [HL.out, HD.out]; exact hs'))
            rw [HC.out, HM.out] at hv
            have hs2 : (d != 65 + l) = false := by simp [hs']
            clear hs'
            go_wp2_with fail
            go_quiet ((go_at_call 77; (with_reducible exact Calls.quiet_of_same (rletter_7 s l H8 HL _))))
            go_wp2_with fail
            go_ret3
            exact ⟨ret_knE hv.out.1.symm hv.out.2.1.symm hv.out.2.2.symm, _, rfl⟩
          · have hs' : ¬ 65 + l = d := fun h => hs (by simp [h])
            have hv := Lib.hid (sp_sum H8.out (by rw [HC.out]; exact hcap) hds.out (by rw [HL.out, HD.out]; exact hs'))
            have hs2 : (d != 65 + l) = true := by simpa using hs
            clear hs'
            go_wp2_with fail
            go_quiet ((go_at_call 77; (with_reducible exact Calls.quiet_of_same (rletter_7 s l H8 HL _))))
            go_wp2_with fail
            go_ret3
            exact ⟨ret_knE hv.out.1.symm hv.out.2.1.symm hv.out.2.2.symm, _, rfl⟩
    · have hv := Lib.hid (sp_kind H8.out (by rw [HC.out]; exact hcap))
      go_enter Tryd.func65, Tryd.ntmps65
      go_wp2_with (go_at_call 75; (with_reducible refine (rcap_no _ hcap _).mono ?_); rintro e w' ⟨rfl, rfl⟩)
      go_ret3
      exact ⟨ret_knE hv.out.1.symm hv.out.2.1.symm hv.out.2.2.symm, 0, rfl⟩
  · have hv := Lib.hid (sp_short (s := s) (by omega))
    have b8 : ((s.size : Int) != 8) = true := by simpa using h8
    clear h8
    go_enter Tryd.func65, Tryd.ntmps65
    go_wp2_with fail
    go_ret3
    exact ⟨ret_knE hv.out.1.symm hv.out.2.1.symm hv.out.2.2.symm, 0, rfl⟩
end Go.Proofs.YtpimmdmcmccbpaaDoor
