/- Package ident and its reference: contracts of IsName and Letter. -/
import Derived.Test.YtpimmdmcmccbpaaDoorK
namespace Go.Proofs.YtpimmdmcmccbpaaDoor
open Go.RowKit
set_option linter.unusedVariables false

theorem ret_int' {k : IntKind} {a b : Int} (h : a = b) : Ending.returned (.int k a) = .returned (.int k b) := by rw [h]

/-- The byte number j of a string, as a number; 0 behind its end. -/
def bt (s : ByteArray) (j : Nat) : Int := ((s.data.toList.getD j 0).toNat : Int)
theorem bt_get (s : ByteArray) (k : Nat) (h : k < s.size) : ((s[k]'h).toNat : Int) = bt s k := by
  have h' : k < s.data.size := h
  simp only [bt]
  congr 2
  show s.data[k] = _
  simp only [List.getD_eq_getElem?_getD, Array.getElem?_toList]
  rw [Array.getElem?_eq_getElem h']
  rfl
theorem bt_range (s : ByteArray) (j : Nat) : 0 ≤ bt s j ∧ bt s j ≤ 255 := by
  unfold bt
  have := (s.data.toList.getD j 0).toNat_lt
  omega

def smallB (c : Int) : Bool := decide (97 ≤ c ∧ c ≤ 122)
theorem small_yes (c : Int) (h : 97 ≤ c ∧ c ≤ 122) (w : World) : Calls Tryd.prog 60 #[.int .u8 c] w fun e w' => e = .returned (.bool true) ∧ w = w' := by
  go_enter Tryd.func60, Tryd.ntmps60
  go_wp2
  go_ret
  exact ⟨rfl, rfl⟩
theorem small_no (c : Int) (h : ¬ (97 ≤ c ∧ c ≤ 122)) (w : World) : Calls Tryd.prog 60 #[.int .u8 c] w fun e w' => e = .returned (.bool false) ∧ w = w' := by
  by_cases h1 : 97 ≤ c
  · have h2 : ¬ c ≤ 122 := by omega
    clear h
    go_enter Tryd.func60, Tryd.ntmps60
    go_wp2
    go_ret
    exact ⟨rfl, rfl⟩
  · clear h
    go_enter Tryd.func60, Tryd.ntmps60
    go_wp2
    go_ret
    exact ⟨rfl, rfl⟩
def digitB (c : Int) : Bool := decide (48 ≤ c ∧ c ≤ 57)
theorem digit_yes (c : Int) (h : 48 ≤ c ∧ c ≤ 57) (w : World) : Calls Tryd.prog 61 #[.int .u8 c] w fun e w' => e = .returned (.bool true) ∧ w = w' := by
  go_enter Tryd.func61, Tryd.ntmps61
  go_wp2
  go_ret
  exact ⟨rfl, rfl⟩
theorem digit_no (c : Int) (h : ¬ (48 ≤ c ∧ c ≤ 57)) (w : World) : Calls Tryd.prog 61 #[.int .u8 c] w fun e w' => e = .returned (.bool false) ∧ w = w' := by
  by_cases h1 : 48 ≤ c
  · have h2 : ¬ c ≤ 57 := by omega
    clear h
    go_enter Tryd.func61, Tryd.ntmps61
    go_wp2
    go_ret
    exact ⟨rfl, rfl⟩
  · clear h
    go_enter Tryd.func61, Tryd.ntmps61
    go_wp2
    go_ret
    exact ⟨rfl, rfl⟩
def capB (c : Int) : Bool := decide (65 ≤ c ∧ c ≤ 90)
theorem cap_yes (c : Int) (h : 65 ≤ c ∧ c ≤ 90) (w : World) : Calls Tryd.prog 78 #[.int .u8 c] w fun e w' => e = .returned (.bool true) ∧ w = w' := by
  go_enter Tryd.func78, Tryd.ntmps78
  go_wp2
  go_ret
  exact ⟨rfl, rfl⟩
theorem cap_no (c : Int) (h : ¬ (65 ≤ c ∧ c ≤ 90)) (w : World) : Calls Tryd.prog 78 #[.int .u8 c] w fun e w' => e = .returned (.bool false) ∧ w = w' := by
  by_cases h1 : 65 ≤ c
  · have h2 : ¬ c ≤ 90 := by omega
    clear h
    go_enter Tryd.func78, Tryd.ntmps78
    go_wp2
    go_ret
    exact ⟨rfl, rfl⟩
  · clear h
    go_enter Tryd.func78, Tryd.ntmps78
    go_wp2
    go_ret
    exact ⟨rfl, rfl⟩
def rdigitB (c : Int) : Bool := decide (48 ≤ c ∧ c ≤ 57)
theorem rdigit_yes (c : Int) (h : 48 ≤ c ∧ c ≤ 57) (w : World) : Calls Tryd.prog 76 #[.int .u8 c] w fun e w' => e = .returned (.bool true) ∧ w = w' := by
  go_enter Tryd.func76, Tryd.ntmps76
  go_wp2
  go_ret
  exact ⟨rfl, rfl⟩
theorem rdigit_no (c : Int) (h : ¬ (48 ≤ c ∧ c ≤ 57)) (w : World) : Calls Tryd.prog 76 #[.int .u8 c] w fun e w' => e = .returned (.bool false) ∧ w = w' := by
  by_cases h1 : 48 ≤ c
  · have h2 : ¬ c ≤ 57 := by omega
    clear h
    go_enter Tryd.func76, Tryd.ntmps76
    go_wp2
    go_ret
    exact ⟨rfl, rfl⟩
  · clear h
    go_enter Tryd.func76, Tryd.ntmps76
    go_wp2
    go_ret
    exact ⟨rfl, rfl⟩
def rcapB (c : Int) : Bool := decide (65 ≤ c ∧ c ≤ 90)
theorem rcap_yes (c : Int) (h : 65 ≤ c ∧ c ≤ 90) (w : World) : Calls Tryd.prog 75 #[.int .u8 c] w fun e w' => e = .returned (.bool true) ∧ w = w' := by
  go_enter Tryd.func75, Tryd.ntmps75
  go_wp2
  go_ret
  exact ⟨rfl, rfl⟩
theorem rcap_no (c : Int) (h : ¬ (65 ≤ c ∧ c ≤ 90)) (w : World) : Calls Tryd.prog 75 #[.int .u8 c] w fun e w' => e = .returned (.bool false) ∧ w = w' := by
  by_cases h1 : 65 ≤ c
  · have h2 : ¬ c ≤ 90 := by omega
    clear h
    go_enter Tryd.func75, Tryd.ntmps75
    go_wp2
    go_ret
    exact ⟨rfl, rfl⟩
  · clear h
    go_enter Tryd.func75, Tryd.ntmps75
    go_wp2
    go_ret
    exact ⟨rfl, rfl⟩

/-! ### Names -/
def nameAt (s : ByteArray) (j : Nat) : Prop := (97 ≤ bt s j ∧ bt s j ≤ 122) ∨ (j ≠ 0 ∧ ((48 ≤ bt s j ∧ bt s j ≤ 57) ∨ bt s j = 95))
instance (s : ByteArray) (j : Nat) : Decidable (nameAt s j) := by unfold nameAt; infer_instance
def nameB (s : ByteArray) : Bool := decide (1 ≤ s.size ∧ s.size ≤ 16) && (List.range s.size).all fun j => decide (nameAt s j)
theorem name_yes {s : ByteArray} (h1 : 1 ≤ s.size) (h2 : s.size ≤ 16) (h : ∀ j, j < s.size → nameAt s j) : nameB s = true := by
  simp only [nameB, Bool.and_eq_true, decide_eq_true_eq, List.all_eq_true, List.mem_range]
  exact ⟨⟨h1, h2⟩, h⟩
theorem name_no {s : ByteArray} (h : ¬ (1 ≤ s.size ∧ s.size ≤ 16)) : nameB s = false := by
  simp only [nameB, Bool.and_eq_false_iff, decide_eq_false_iff_not]
  exact .inl h
theorem name_bad {s : ByteArray} {j : Nat} (hj : j < s.size) (h : ¬ nameAt s j) : nameB s = false := by
  rw [← Bool.not_eq_true]
  simp only [nameB, Bool.and_eq_true, decide_eq_true_eq, List.all_eq_true, List.mem_range]
  exact fun hh => h (hh.2 j hj)

theorem name_first {s : ByteArray} (h : nameAt s 0) : ∀ j, j < 1 → nameAt s j := fun j hj => by
  have : j = 0 := by omega
  rw [this]; exact h

set_option maxHeartbeats 2000000 in
theorem isName_any (s : ByteArray) (hsz : (s.size : Int) ≤ 9223372036854775807) (w : World) :
    Calls Tryd.prog 48 #[.string s] w fun e w' => e = .returned (.bool (nameB s)) ∧ w = w' := by
  by_cases h1 : (1 : Int) ≤ (s.size : Int)
  · by_cases h2 : (s.size : Int) ≤ 16
    · have hg := bt_get s 0 (by omega)
      have hr := bt_range s 0
      obtain ⟨c, hc⟩ : ∃ c, bt s 0 = c := ⟨_, rfl⟩
      rw [hc] at hg hr
      have HC := Lib.hid hc
      clear hc
      have z0 : (0 : Int) < (s.size : Int) := by omega
      by_cases h3 : 97 ≤ c ∧ c ≤ 122
      · have hn0 : Hid (nameAt s 0) := by show nameAt s 0; left; rw [HC.out]; exact h3
        go_enter Tryd.func48, Tryd.ntmps48
        go_wp2_with (
          first | (go_at_call 60; (with_reducible refine (small_yes _ (by assumption) _).mono ?_); rintro e w' ⟨rfl, rfl⟩) | (go_at_call 60; (with_reducible refine (small_no _ (by assumption) _).mono ?_); rintro e w' ⟨rfl, rfl⟩) | (go_at_call 61; (with_reducible refine (digit_yes _ (by assumption) _).mono ?_); rintro e w' ⟨rfl, rfl⟩) | (go_at_call 61; (with_reducible refine (digit_no _ (by assumption) _).mono ?_); rintro e w' ⟨rfl, rfl⟩)
          )
        go_loop [3] (fun i => ∃ k : Nat, i = .int .i64 k ∧ 1 ≤ k ∧ k ≤ s.size ∧ Hid (∀ j, j < k → nameAt s j)) (fun i => s.size - (intOf i).toNat)
        case atStart => exact ⟨1, rfl, by omega, by omega, name_first hn0.out⟩
        case round =>
          obtain ⟨k, rfl, hk1, hk2, hall⟩ := hrel
          clear h3 hg hr
          by_cases hlt : k < s.size
          · have hg := bt_get s k hlt
            have hr := bt_range s k
            obtain ⟨d, hd⟩ : ∃ d, bt s k = d := ⟨_, rfl⟩
            rw [hd] at hg hr
            have HD := Lib.hid hd
            clear hd
            have zk : (k : Int) < (s.size : Int) := by omega
            by_cases q1 : 97 ≤ d ∧ d ≤ 122
            · have hn : Hid (∀ j, j < k + 1 → nameAt s j) := fun j hj => by
                rcases Nat.lt_or_ge j k with h | h
                · exact hall.out j h
                · obtain rfl : j = k := by omega
                  left; rw [HD.out]; exact q1
              go_wp2_with (
                first | (go_at_call 60; (with_reducible refine (small_yes _ (by assumption) _).mono ?_); rintro e w' ⟨rfl, rfl⟩) | (go_at_call 60; (with_reducible refine (small_no _ (by assumption) _).mono ?_); rintro e w' ⟨rfl, rfl⟩) | (go_at_call 61; (with_reducible refine (digit_yes _ (by assumption) _).mono ?_); rintro e w' ⟨rfl, rfl⟩) | (go_at_call 61; (with_reducible refine (digit_no _ (by assumption) _).mono ?_); rintro e w' ⟨rfl, rfl⟩)
                )
              go_round
              case rel => exact ⟨k + 1, by go_num, by omega, by omega, hn⟩
              case measure => simp [intOf]; omega
            · by_cases q2 : 48 ≤ d ∧ d ≤ 57
              · have hn : Hid (∀ j, j < k + 1 → nameAt s j) := fun j hj => by
                  rcases Nat.lt_or_ge j k with h | h
                  · exact hall.out j h
                  · obtain rfl : j = k := by omega
                    right; rw [HD.out]; exact ⟨by omega, .inl q2⟩
                go_wp2_with (
                  first | (go_at_call 60; (with_reducible refine (small_yes _ (by assumption) _).mono ?_); rintro e w' ⟨rfl, rfl⟩) | (go_at_call 60; (with_reducible refine (small_no _ (by assumption) _).mono ?_); rintro e w' ⟨rfl, rfl⟩) | (go_at_call 61; (with_reducible refine (digit_yes _ (by assumption) _).mono ?_); rintro e w' ⟨rfl, rfl⟩) | (go_at_call 61; (with_reducible refine (digit_no _ (by assumption) _).mono ?_); rintro e w' ⟨rfl, rfl⟩)
                  )
                go_round
                case rel => exact ⟨k + 1, by go_num, by omega, by omega, hn⟩
                case measure => simp [intOf]; omega
              · by_cases q3 : (d == 95) = true
                · have q3' : d = 95 := by simpa using q3
                  have hn : Hid (∀ j, j < k + 1 → nameAt s j) := fun j hj => by
                    rcases Nat.lt_or_ge j k with h | h
                    · exact hall.out j h
                    · obtain rfl : j = k := by omega
                      right; rw [HD.out]; exact ⟨by omega, .inr q3'⟩
                  have q4 : (d != 95) = false := by simp [q3']
                  clear q3'
                  go_wp2_with (
                    first | (go_at_call 60; (with_reducible refine (small_yes _ (by assumption) _).mono ?_); rintro e w' ⟨rfl, rfl⟩) | (go_at_call 60; (with_reducible refine (small_no _ (by assumption) _).mono ?_); rintro e w' ⟨rfl, rfl⟩) | (go_at_call 61; (with_reducible refine (digit_yes _ (by assumption) _).mono ?_); rintro e w' ⟨rfl, rfl⟩) | (go_at_call 61; (with_reducible refine (digit_no _ (by assumption) _).mono ?_); rintro e w' ⟨rfl, rfl⟩)
                    )
                  go_round
                  case rel => exact ⟨k + 1, by go_num, by omega, by omega, hn⟩
                  case measure => simp [intOf]; omega
                · have hb : Hid (nameB s = false) := name_bad hlt (by
                    unfold nameAt; rw [HD.out]
                    have : d ≠ 95 := by simpa using q3
                    omega)
                  have q4 : (d != 95) = true := by simpa using q3
                  go_wp2_with (
                    first | (go_at_call 60; (with_reducible refine (small_yes _ (by assumption) _).mono ?_); rintro e w' ⟨rfl, rfl⟩) | (go_at_call 60; (with_reducible refine (small_no _ (by assumption) _).mono ?_); rintro e w' ⟨rfl, rfl⟩) | (go_at_call 61; (with_reducible refine (digit_yes _ (by assumption) _).mono ?_); rintro e w' ⟨rfl, rfl⟩) | (go_at_call 61; (with_reducible refine (digit_no _ (by assumption) _).mono ?_); rintro e w' ⟨rfl, rfl⟩)
                    )
                  go_ret
                  exact ⟨ret_bool hb.out.symm, rfl⟩
          · have hb : Hid (nameB s = true) := name_yes (by omega) (by omega) (fun j hj => hall.out j (by omega))
            go_wp2_with fail
            go_ret
            exact ⟨ret_bool hb.out.symm, rfl⟩
      · have hb : Hid (nameB s = false) := name_bad (j := 0) (by omega) (by unfold nameAt; rw [HC.out]; omega)
        go_enter Tryd.func48, Tryd.ntmps48
        go_wp2_with (
          first | (go_at_call 60; (with_reducible refine (small_yes _ (by assumption) _).mono ?_); rintro e w' ⟨rfl, rfl⟩) | (go_at_call 60; (with_reducible refine (small_no _ (by assumption) _).mono ?_); rintro e w' ⟨rfl, rfl⟩) | (go_at_call 61; (with_reducible refine (digit_yes _ (by assumption) _).mono ?_); rintro e w' ⟨rfl, rfl⟩) | (go_at_call 61; (with_reducible refine (digit_no _ (by assumption) _).mono ?_); rintro e w' ⟨rfl, rfl⟩)
          )
        go_ret
        exact ⟨ret_bool hb.out.symm, rfl⟩
    · have hb : Hid (nameB s = false) := name_no (by omega)
      go_enter Tryd.func48, Tryd.ntmps48
      go_wp2_with fail
      go_ret
      exact ⟨ret_bool hb.out.symm, rfl⟩
  · have hb : Hid (nameB s = false) := name_no (by omega)
    go_enter Tryd.func48, Tryd.ntmps48
    go_wp2_with fail
    go_ret
    exact ⟨ret_bool hb.out.symm, rfl⟩
end Go.Proofs.YtpimmdmcmccbpaaDoor
