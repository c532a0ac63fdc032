/- Package ident and its reference: contracts of IsName and Letter. -/
import Derived.Test.YtcefmnkfkpoccaaDoorK
import Derived.Lib.Strings
import Derived.Laws.EntriesVeiled
namespace Go.Proofs.YtcefmnkfkpoccaaDoor
open Go.RowKit
set_option linter.unusedVariables false

theorem ret_int' {k : IntKind} {a b : Int} (h : a = b) : Ending.returned (.int k a) = .returned (.int k b) := by rw [h]

/-- The byte number j of a string, as a number; 0 behind its end. -/
def bt (s : ByteArray) (j : Nat) : Int := ((s.data.toList.getD j 0).toNat : Int)
theorem bt_get (s : ByteArray) (k : Nat) (h : k < s.size) : ((s[k]'h).toNat : Int) = bt s k := by
  have h' : k < s.data.size := h
  simp only [bt]
  congr 2
  show s.data[k] = _
  simp only [List.getD_eq_getElem?_getD, Array.getElem?_toList]
  rw [Array.getElem?_eq_getElem h']
  rfl
theorem bt_range (s : ByteArray) (j : Nat) : 0 ≤ bt s j ∧ bt s j ≤ 255 := by
  unfold bt
  have := (s.data.toList.getD j 0).toNat_lt
  omega

def smallB (c : Int) : Bool := decide (97 ≤ c ∧ c ≤ 122)
def digitB (c : Int) : Bool := decide (48 ≤ c ∧ c ≤ 57)
theorem digit_yes (c : Int) (h : 48 ≤ c ∧ c ≤ 57) (w : World) : Calls Tryd.prog 98 #[.int .u8 c] w fun e w' => e = .returned (.bool true) ∧ w = w' := by
  go_enter Tryd.func98, Tryd.ntmps98
  go_wp2
  go_ret
  exact ⟨rfl, rfl⟩
theorem digit_no (c : Int) (h : ¬ (48 ≤ c ∧ c ≤ 57)) (w : World) : Calls Tryd.prog 98 #[.int .u8 c] w fun e w' => e = .returned (.bool false) ∧ w = w' := by
  by_cases h1 : 48 ≤ c
  · have h2 : ¬ c ≤ 57 := by omega
    clear h
    go_enter Tryd.func98, Tryd.ntmps98
    go_wp2
    go_ret
    exact ⟨rfl, rfl⟩
  · clear h
    go_enter Tryd.func98, Tryd.ntmps98
    go_wp2
    go_ret
    exact ⟨rfl, rfl⟩
def capB (c : Int) : Bool := decide (65 ≤ c ∧ c ≤ 90)
theorem cap_yes (c : Int) (h : 65 ≤ c ∧ c ≤ 90) (w : World) : Calls Tryd.prog 97 #[.int .u8 c] w fun e w' => e = .returned (.bool true) ∧ w = w' := by
  go_enter Tryd.func97, Tryd.ntmps97
  go_wp2
  go_ret
  exact ⟨rfl, rfl⟩
theorem cap_no (c : Int) (h : ¬ (65 ≤ c ∧ c ≤ 90)) (w : World) : Calls Tryd.prog 97 #[.int .u8 c] w fun e w' => e = .returned (.bool false) ∧ w = w' := by
  by_cases h1 : 65 ≤ c
  · have h2 : ¬ c ≤ 90 := by omega
    clear h
    go_enter Tryd.func97, Tryd.ntmps97
    go_wp2
    go_ret
    exact ⟨rfl, rfl⟩
  · clear h
    go_enter Tryd.func97, Tryd.ntmps97
    go_wp2
    go_ret
    exact ⟨rfl, rfl⟩
def rdigitB (c : Int) : Bool := decide (48 ≤ c ∧ c ≤ 57)
theorem rdigit_yes (c : Int) (h : 48 ≤ c ∧ c ≤ 57) (w : World) : Calls Tryd.prog 90 #[.int .u8 c] w fun e w' => e = .returned (.bool true) ∧ w = w' := by
  go_enter Tryd.func90, Tryd.ntmps90
  go_wp2
  go_ret
  exact ⟨rfl, rfl⟩
theorem rdigit_no (c : Int) (h : ¬ (48 ≤ c ∧ c ≤ 57)) (w : World) : Calls Tryd.prog 90 #[.int .u8 c] w fun e w' => e = .returned (.bool false) ∧ w = w' := by
  by_cases h1 : 48 ≤ c
  · have h2 : ¬ c ≤ 57 := by omega
    clear h
    go_enter Tryd.func90, Tryd.ntmps90
    go_wp2
    go_ret
    exact ⟨rfl, rfl⟩
  · clear h
    go_enter Tryd.func90, Tryd.ntmps90
    go_wp2
    go_ret
    exact ⟨rfl, rfl⟩
def rcapB (c : Int) : Bool := decide (65 ≤ c ∧ c ≤ 90)
theorem rcap_yes (c : Int) (h : 65 ≤ c ∧ c ≤ 90) (w : World) : Calls Tryd.prog 51 #[.int .u8 c] w fun e w' => e = .returned (.bool true) ∧ w = w' := by
  go_enter Tryd.func51, Tryd.ntmps51
  go_wp2
  go_ret
  exact ⟨rfl, rfl⟩
theorem rcap_no (c : Int) (h : ¬ (65 ≤ c ∧ c ≤ 90)) (w : World) : Calls Tryd.prog 51 #[.int .u8 c] w fun e w' => e = .returned (.bool false) ∧ w = w' := by
  by_cases h1 : 65 ≤ c
  · have h2 : ¬ c ≤ 90 := by omega
    clear h
    go_enter Tryd.func51, Tryd.ntmps51
    go_wp2
    go_ret
    exact ⟨rfl, rfl⟩
  · clear h
    go_enter Tryd.func51, Tryd.ntmps51
    go_wp2
    go_ret
    exact ⟨rfl, rfl⟩

/-! ### Names -/
def nameAt (s : ByteArray) (j : Nat) : Prop := (97 ≤ bt s j ∧ bt s j ≤ 122) ∨ (j ≠ 0 ∧ ((48 ≤ bt s j ∧ bt s j ≤ 57) ∨ bt s j = 95))
instance (s : ByteArray) (j : Nat) : Decidable (nameAt s j) := by unfold nameAt; infer_instance
def nameB (s : ByteArray) : Bool := decide (1 ≤ s.size ∧ s.size ≤ 16) && (List.range s.size).all fun j => decide (nameAt s j)
theorem name_yes {s : ByteArray} (h1 : 1 ≤ s.size) (h2 : s.size ≤ 16) (h : ∀ j, j < s.size → nameAt s j) : nameB s = true := by
  simp only [nameB, Bool.and_eq_true, decide_eq_true_eq, List.all_eq_true, List.mem_range]
  exact ⟨⟨h1, h2⟩, h⟩
theorem name_no {s : ByteArray} (h : ¬ (1 ≤ s.size ∧ s.size ≤ 16)) : nameB s = false := by
  simp only [nameB, Bool.and_eq_false_iff, decide_eq_false_iff_not]
  exact .inl h
theorem name_bad {s : ByteArray} {j : Nat} (hj : j < s.size) (h : ¬ nameAt s j) : nameB s = false := by
  rw [← Bool.not_eq_true]
  simp only [nameB, Bool.and_eq_true, decide_eq_true_eq, List.all_eq_true, List.mem_range]
  exact fun hh => h (hh.2 j hj)

theorem name_first {s : ByteArray} (h : nameAt s 0) : ∀ j, j < 1 → nameAt s j := fun j hj => by
  have : j = 0 := by omega
  rw [this]; exact h

end Go.Proofs.YtcefmnkfkpoccaaDoor

namespace Go.Proofs.YtcefmnkfkpoccaaDoor
open Go.RowKit
set_option linter.unusedVariables false

/-! ### Letter -/
/-- The weighted sum of the first k bytes, modulo 23. -/
def letN (s : ByteArray) : Nat → Int
  | 0 => 0
  | k + 1 => (letN s k + ((k : Int) + 1) * bt s k) % 23
theorem letN_range (s : ByteArray) (k : Nat) : 0 ≤ letN s k ∧ letN s k ≤ 22 := by
  cases k with
  | zero => simp [letN]
  | succ k => simp only [letN]; omega
theorem letN_ref (m b : Int) (k : Nat) : (m + ((k : Int) + 1) % 23 * b) % 23 = (m + ((k : Int) + 1) * b) % 23 := by
  rw [Int.add_emod, Int.mul_emod, Int.emod_emod_of_dvd _ (by omega), ← Int.mul_emod, ← Int.add_emod]

theorem mulB' {a b : Int} (m n : Int) (ha : 0 ≤ a ∧ a ≤ m) (hb : 0 ≤ b ∧ b ≤ n) : 0 ≤ a * b ∧ a * b ≤ m * n :=
  ⟨Int.mul_nonneg ha.1 hb.1, Int.mul_le_mul ha.2 hb.2 hb.1 (by omega)⟩
set_option maxHeartbeats 2000000 in
theorem letter_any (s : ByteArray) (hsz : (s.size : Int) ≤ 1000000) (w : World) :
    Calls Tryd.prog 89 #[.string s] w fun e w' => e = .returned (.int .u8 (65 + letN s s.size)) ∧ w = w' := by
  go_enter Tryd.func89, Tryd.ntmps89
  go_wp2_with fail
  go_loop [3, 4] (fun m i => ∃ k : Nat, i = .int .i64 k ∧ k ≤ s.size ∧ m = .int .i64 (letN s k)) (fun _ i => s.size - (intOf i).toNat)
  case atStart => exact ⟨0, rfl, by omega, rfl⟩
  case round =>
    obtain ⟨k, rfl, hk, rfl⟩ := hrel
    have hlr := letN_range s k
    by_cases hlt : k < s.size
    · have hg := bt_get s k hlt
      have hr := bt_range s k
      have hnx : letN s (k + 1) = (letN s k + ((k : Int) + 1) * bt s k) % 23 := rfl
      have hrf := letN_ref (letN s k) (bt s k) k
      rw [← hnx] at hrf
      obtain ⟨d, hd⟩ : ∃ d, bt s k = d := ⟨_, rfl⟩
      obtain ⟨m, hm⟩ : ∃ m, letN s k = m := ⟨_, rfl⟩
      rw [hd, hm] at hnx hrf
      rw [hd] at hg hr
      rw [hm] at hlr
      rw [hm]
      have HX := Lib.hid hnx; have HF := Lib.hid hrf
      clear hd hm hnx hrf
      have zk : (k : Int) < (s.size : Int) := by omega
      obtain ⟨q, hq⟩ : ∃ q, ((k : Int) + 1) * d = q := ⟨_, rfl⟩
      have hq1 : 0 ≤ q ∧ q ≤ 1000000 * 255 := by rw [← hq]; exact mulB' 1000000 255 (by omega) (by omega)
      have HQ := Lib.hid hq
      go_wp2_with fail
      go_round
      case rel => exact ⟨k + 1, by go_num, by omega, by rw [HX.out, HQ.out]⟩
      case measure => simp [intOf]; omega
    · obtain rfl : k = s.size := by omega
      obtain ⟨m, hm⟩ : ∃ m, letN s s.size = m := ⟨_, rfl⟩
      have HM := Lib.hid hm
      rw [hm] at hlr ⊢
      clear hm
      go_wp2_with fail
      go_ret
      exact ⟨ret_int' (by rw [HM.out]), rfl⟩
set_option maxHeartbeats 2000000 in
theorem rletter_any (s : ByteArray) (hsz : (s.size : Int) ≤ 1000000) (w : World) :
    Calls Tryd.prog 52 #[.string s] w fun e w' => e = .returned (.int .u8 (65 + letN s s.size)) ∧ w = w' := by
  go_enter Tryd.func52, Tryd.ntmps52
  go_wp2_with fail
  go_loop [3, 4] (fun m i => ∃ k : Nat, i = .int .i64 k ∧ k ≤ s.size ∧ m = .int .i64 (letN s k)) (fun _ i => s.size - (intOf i).toNat)
  case atStart => exact ⟨0, rfl, by omega, rfl⟩
  case round =>
    obtain ⟨k, rfl, hk, rfl⟩ := hrel
    have hlr := letN_range s k
    by_cases hlt : k < s.size
    · have hg := bt_get s k hlt
      have hr := bt_range s k
      have hnx : letN s (k + 1) = (letN s k + ((k : Int) + 1) * bt s k) % 23 := rfl
      have hrf := letN_ref (letN s k) (bt s k) k
      rw [← hnx] at hrf
      obtain ⟨d, hd⟩ : ∃ d, bt s k = d := ⟨_, rfl⟩
      obtain ⟨m, hm⟩ : ∃ m, letN s k = m := ⟨_, rfl⟩
      rw [hd, hm] at hnx hrf
      rw [hd] at hg hr
      rw [hm] at hlr
      rw [hm]
      have HX := Lib.hid hnx; have HF := Lib.hid hrf
      clear hd hm hnx hrf
      have zk : (k : Int) < (s.size : Int) := by omega
      obtain ⟨q, hq⟩ : ∃ q, ((k : Int) + 1) % 23 * d = q := ⟨_, rfl⟩
      have hq1 : 0 ≤ q ∧ q ≤ 1000000 * 255 := by rw [← hq]; exact mulB' 1000000 255 (by omega) (by omega)
      have HQ := Lib.hid hq
      go_wp2_with fail
      go_round
      case rel => exact ⟨k + 1, by go_num, by omega, by rw [← HF.out, HQ.out]⟩
      case measure => simp [intOf]; omega
    · obtain rfl : k = s.size := by omega
      obtain ⟨m, hm⟩ : ∃ m, letN s s.size = m := ⟨_, rfl⟩
      have HM := Lib.hid hm
      rw [hm] at hlr ⊢
      clear hm
      go_wp2_with fail
      go_ret
      exact ⟨ret_int' (by rw [HM.out]), rfl⟩
end Go.Proofs.YtcefmnkfkpoccaaDoor

namespace Go.Proofs.YtcefmnkfkpoccaaDoor
open Go.RowKit
set_option linter.unusedVariables false

def digAt (s : ByteArray) (j : Nat) : Prop := 48 ≤ bt s j ∧ bt s j ≤ 57
instance (s : ByteArray) (j : Nat) : Decidable (digAt s j) := by unfold digAt; infer_instance
def digsB (s : ByteArray) : Bool := (List.range 6).all fun j => decide (digAt s (j + 1))
/-- The number of the first k digits, from the byte 1 on. -/
def numN (s : ByteArray) : Nat → Int
  | 0 => 0
  | k + 1 => numN s k * 10 + (bt s (k + 1) - 48)
def spE (s : ByteArray) : Int :=
  if s.size = 8 then (if 65 ≤ bt s 0 ∧ bt s 0 ≤ 90 then (if digsB s then (if 65 + letN s 7 = bt s 7 then 0 else 16) else 5) else 10) else 3
def spK (s : ByteArray) : Int := if spE s = 0 then bt s 0 else 0
def spN (s : ByteArray) : Int := if spE s = 0 then numN s 6 else 0

theorem digs_yes {s : ByteArray} (h : ∀ j, 1 ≤ j → j < 7 → digAt s j) : digsB s = true := by
  simp only [digsB, List.all_eq_true, List.mem_range, decide_eq_true_eq]
  exact fun j hj => h (j + 1) (by omega) (by omega)
theorem digs_no {s : ByteArray} {j : Nat} (h1 : 1 ≤ j) (h2 : j < 7) (h : ¬ digAt s j) : digsB s = false := by
  rw [← Bool.not_eq_true]
  simp only [digsB, List.all_eq_true, List.mem_range, decide_eq_true_eq]
  exact fun hh => h (by have := hh (j - 1) (by omega); rwa [show j - 1 + 1 = j by omega] at this)
theorem sp_short {s : ByteArray} (h : s.size ≠ 8) : spK s = 0 ∧ spN s = 0 ∧ spE s = 3 := by simp [spK, spN, spE, h]
theorem sp_kind {s : ByteArray} (h : s.size = 8) (hc : ¬ (65 ≤ bt s 0 ∧ bt s 0 ≤ 90)) : spK s = 0 ∧ spN s = 0 ∧ spE s = 10 := by
  have e : spE s = 10 := by rw [spE, if_pos h, if_neg hc]
  simp [spK, spN, e]
theorem sp_syntax {s : ByteArray} (h : s.size = 8) (hc : 65 ≤ bt s 0 ∧ bt s 0 ≤ 90) (hd : digsB s = false) : spK s = 0 ∧ spN s = 0 ∧ spE s = 5 := by
  have e : spE s = 5 := by rw [spE, if_pos h, if_pos hc, hd]; rfl
  simp [spK, spN, e]
theorem sp_sum {s : ByteArray} (h : s.size = 8) (hc : 65 ≤ bt s 0 ∧ bt s 0 ≤ 90) (hd : digsB s = true) (hl : ¬ 65 + letN s 7 = bt s 7) : spK s = 0 ∧ spN s = 0 ∧ spE s = 16 := by
  have e : spE s = 16 := by rw [spE, if_pos h, if_pos hc, hd, if_neg hl]; rfl
  simp [spK, spN, e]
theorem sp_ok {s : ByteArray} (h : s.size = 8) (hc : 65 ≤ bt s 0 ∧ bt s 0 ≤ 90) (hd : digsB s = true) (hl : 65 + letN s 7 = bt s 7) : spK s = bt s 0 ∧ spN s = numN s 6 ∧ spE s = 0 := by
  have e : spE s = 0 := by rw [spE, if_pos h, if_pos hc, hd, if_pos hl]; rfl
  simp [spK, spN, e]

theorem numN_range (s : ByteArray) : ∀ k, (∀ j, 1 ≤ j → j ≤ k → digAt s j) → 0 ≤ numN s k ∧ numN s k < 10 ^ k := by
  intro k
  induction k with
  | zero => intro _; simp [numN]
  | succ k ih =>
    intro h
    have h1 := ih (fun j a b => h j a (by omega))
    have h2 := h (k + 1) (by omega) (by omega)
    unfold digAt at h2
    simp only [numN]
    rw [Int.pow_succ]
    omega

theorem bt_extract (s : ByteArray) (n j : Nat) (hj : j < n) (hn : n ≤ s.size) : bt (s.extract 0 n) j = bt s j := by
  simp only [bt, Lib.extract_data]
  congr 2
  simp [List.getD_eq_getElem?_getD]
  rw [List.getElem?_take_of_lt (by omega), Array.getElem?_toList]
theorem letN_extract (s : ByteArray) (n : Nat) (hn : n ≤ s.size) : ∀ k, k ≤ n → letN (s.extract 0 n) k = letN s k := by
  intro k
  induction k with
  | zero => intro _; rfl
  | succ k ih => intro h; simp only [letN]; rw [ih (by omega), bt_extract s n k (by omega) hn]

theorem ret_knE {k l m : IntKind} {a b c d x y : Int} (h : a = b) (h' : c = d) (h2 : x = y) : Ending.returned (.tuple #[.int k a, .int l c, .int m x]) = .returned (.tuple #[.int k b, .int l d, .int m y]) := by rw [h, h', h2]

theorem letter_7 (s : ByteArray) (l : Int) (h8 : Hid (s.size = 8)) (hl : Hid (letN s 7 = l)) (w : World) : Calls Tryd.prog 89 #[.string (s.extract 0 7)] w fun e w' => e = .returned (.int .u8 (65 + l)) ∧ w' = w := by
  have h7 : (s.extract 0 7).size = 7 := by have := h8.out; simp; omega
  refine (letter_any (s.extract 0 7) (by rw [h7]; omega) w).mono fun e w' h => ?_
  rw [h7, letN_extract s 7 (by have := h8.out; omega) 7 (Nat.le_refl _), hl.out] at h
  exact ⟨h.1, h.2.symm⟩
theorem rletter_7 (s : ByteArray) (l : Int) (h8 : Hid (s.size = 8)) (hl : Hid (letN s 7 = l)) (w : World) : Calls Tryd.prog 52 #[.string (s.extract 0 7)] w fun e w' => e = .returned (.int .u8 (65 + l)) ∧ w' = w := by
  have h7 : (s.extract 0 7).size = 7 := by have := h8.out; simp; omega
  refine (rletter_any (s.extract 0 7) (by rw [h7]; omega) w).mono fun e w' h => ?_
  rw [h7, letN_extract s 7 (by have := h8.out; omega) 7 (Nat.le_refl _), hl.out] at h
  exact ⟨h.1, h.2.symm⟩

set_option maxHeartbeats 2000000 in
theorem rsplit02 (s : ByteArray) (hsz : (s.size : Int) ≤ 9223372036854775807) (w : World) :
    Calls Tryd.prog 79 #[.string s] w fun e w' => e = .returned (.tuple #[.int .u8 (spK s), .int .i64 (spN s), .int .i64 (spE s)]) ∧ ∃ n, w' = w.drewN n := by
  by_cases h8 : (s.size : Int) = 8
  · have h8n : s.size = 8 := by omega
    have b8 : ((s.size : Int) != 8) = false := by simp [h8]
    have H8 := Lib.hid h8n
    have z0 : (0 : Int) < (s.size : Int) := by omega
    have z7 : (7 : Int) < (s.size : Int) := by omega
    have z7' : (7 : Int) ≤ (s.size : Int) := by omega
    have n0 : 0 < s.size := by omega
    have n7 : 7 < s.size := by omega
    have hg0 := bt_get s 0 n0
    have hg7 := bt_get s 7 n7
    have hr0 := bt_range s 0
    have hr7 := bt_range s 7
    clear h8 h8n
    obtain ⟨c, hc⟩ : ∃ c, bt s 0 = c := ⟨_, rfl⟩
    obtain ⟨d, hd⟩ : ∃ d, bt s 7 = d := ⟨_, rfl⟩
    have HC := Lib.hid hc; have HD := Lib.hid hd
    rw [hc] at hg0 hr0
    rw [hd] at hg7 hr7
    clear hc hd
    by_cases hcap : 65 ≤ c ∧ c ≤ 90
    · go_enter Tryd.func79, Tryd.ntmps79
      go_wp2_with (go_at_call 51; (with_reducible refine (rcap_yes _ hcap _).mono ?_); rintro e w' ⟨rfl, rfl⟩)
      go_loop [5, 6] (fun m i => ∃ k : Nat, i = .int .i64 ((k : Int) + 1) ∧ k ≤ 6 ∧ m = .int .i64 (numN s k) ∧ Hid (∀ j, 1 ≤ j → j ≤ k → digAt s j)) (fun _ i => 7 - (intOf i).toNat)
      case atStart => exact ⟨0, rfl, by omega, rfl, fun j a b => by omega⟩
      case round =>
        obtain ⟨k, rfl, hk, rfl, hall⟩ := hrel
        have hnr := numN_range s k hall.out
        have hpw : (numN s k) ≤ 1000000 := by
          have h1 : 10 ^ k ≤ 10 ^ 6 := Nat.pow_le_pow_right (by omega) hk
          have h2 : (10 : Int) ^ k = ((10 ^ k : Nat) : Int) := by simp
          omega
        have hn0 := hnr.1
        clear hnr
        by_cases hlt : k < 6
        · have nk : k + 1 < s.size := by have := H8.out; omega
          have hg := bt_get s (k + 1) nk
          have hr := bt_range s (k + 1)
          have hnx : numN s (k + 1) = numN s k * 10 + (bt s (k + 1) - 48) := rfl
          obtain ⟨b, hb⟩ : ∃ b, bt s (k + 1) = b := ⟨_, rfl⟩
          obtain ⟨m, hm⟩ : ∃ m, numN s k = m := ⟨_, rfl⟩
          rw [hb] at hg hr hnx
          rw [hm] at hnx hpw hn0 ⊢
          have HB := Lib.hid hb; have HX := Lib.hid hnx
          clear hb hm hnx
          have zk : (k : Int) + 1 < (s.size : Int) := by omega
          by_cases hdg : 48 ≤ b ∧ b ≤ 57
          · have hn : Hid (∀ j, 1 ≤ j → j ≤ k + 1 → digAt s j) := fun j a c => by
              rcases Nat.lt_or_ge j (k + 1) with h | h
              · exact hall.out j a (by omega)
              · obtain rfl : j = k + 1 := by omega
                unfold digAt; rw [HB.out]; exact hdg
            go_wp2_with (go_at_call 90; (with_reducible refine (rdigit_yes _ hdg _).mono ?_); rintro e w' ⟨rfl, rfl⟩)
            go_round
            case rel => exact ⟨k + 1, by go_num, by omega, by rw [HX.out]; go_num, hn⟩
            case measure => simp [intOf]; omega
          · have hv := Lib.hid (sp_syntax H8.out (by rw [HC.out]; exact hcap) (digs_no (j := k + 1) (by omega) (by omega) (by unfold digAt; rw [HB.out]; exact hdg)))
            go_wp2_with (go_at_call 90; (with_reducible refine (rdigit_no _ hdg _).mono ?_); rintro e w' ⟨rfl, rfl⟩)
            go_ret3
            exact ⟨ret_knE hv.out.1.symm hv.out.2.1.symm hv.out.2.2.symm, 0, rfl⟩
        · obtain rfl : k = 6 := by omega
          have hds := Lib.hid (digs_yes (s := s) (fun j a b => hall.out j a (by omega)))
          obtain ⟨m, hm⟩ : ∃ m, numN s 6 = m := ⟨_, rfl⟩
          have HM := Lib.hid hm
          rw [hm] at hpw hn0 ⊢
          clear hm hall hlt
          have hlr := letN_range s 7
          obtain ⟨l, hl⟩ : ∃ l, letN s 7 = l := ⟨_, rfl⟩
          have HL := Lib.hid hl
          rw [hl] at hlr
          clear hl
          by_cases hs : (d == 65 + l) = true
          · have hs' : 65 + l = d := (beq_iff_eq.1 hs).symm
            have hv := Lib.hid (sp_ok H8.out (by rw [HC.out]; exact hcap) hds.out (by rw [HL.out, HD.out]; exact hs'))
            rw [HC.out, HM.out] at hv
            have hs2 : (d != 65 + l) = false := by simp [hs']
            clear hs'
            go_wp2_with fail
            go_quiet ((go_at_call 52; (with_reducible exact Calls.quiet_of_same (rletter_7 s l H8 HL _))))
            go_wp2_with fail
            go_ret3
            exact ⟨ret_knE hv.out.1.symm hv.out.2.1.symm hv.out.2.2.symm, _, rfl⟩
          · have hs' : ¬ 65 + l = d := fun h => hs (by simp [h])
            have hv := Lib.hid (sp_sum H8.out (by rw [HC.out]; exact hcap) hds.out (by rw [HL.out, HD.out]; exact hs'))
            have hs2 : (d != 65 + l) = true := by simpa using hs
            clear hs'
            go_wp2_with fail
            go_quiet ((go_at_call 52; (with_reducible exact Calls.quiet_of_same (rletter_7 s l H8 HL _))))
            go_wp2_with fail
            go_ret3
            exact ⟨ret_knE hv.out.1.symm hv.out.2.1.symm hv.out.2.2.symm, _, rfl⟩
    · have hv := Lib.hid (sp_kind H8.out (by rw [HC.out]; exact hcap))
      go_enter Tryd.func79, Tryd.ntmps79
      go_wp2_with (go_at_call 51; (with_reducible refine (rcap_no _ hcap _).mono ?_); rintro e w' ⟨rfl, rfl⟩)
      go_ret3
      exact ⟨ret_knE hv.out.1.symm hv.out.2.1.symm hv.out.2.2.symm, 0, rfl⟩
  · have hv := Lib.hid (sp_short (s := s) (by omega))
    have b8 : ((s.size : Int) != 8) = true := by simpa using h8
    clear h8
    go_enter Tryd.func79, Tryd.ntmps79
    go_wp2_with fail
    go_ret3
    exact ⟨ret_knE hv.out.1.symm hv.out.2.1.symm hv.out.2.2.symm, 0, rfl⟩
end Go.Proofs.YtcefmnkfkpoccaaDoor

namespace Go.Proofs.YtcefmnkfkpoccaaDoor
open Go.RowKit
set_option linter.unusedVariables false

/-- The parts of a code lie in the block behind w's, in wr. -/
def PartsIn (w wr : World) : Prop :=
  (wr.cell? ⟨w.heap.size, 0, none⟩ = some (.int .i64 0) ∧ wr.cell? ⟨w.heap.size, 1, none⟩ = some (.int .i64 1) ∧ wr.cell? ⟨w.heap.size, 2, none⟩ = some (.func (.func 97) #[] #[]) ∧ wr.cell? ⟨w.heap.size, 3, none⟩ = some (.int .i64 10) ∧
    wr.cell? ⟨w.heap.size, 4, none⟩ = some (.int .i64 1) ∧ wr.cell? ⟨w.heap.size, 5, none⟩ = some (.int .i64 7) ∧ wr.cell? ⟨w.heap.size, 6, none⟩ = some (.func (.func 98) #[] #[]) ∧ wr.cell? ⟨w.heap.size, 7, none⟩ = some (.int .i64 5)) ∧
  w.heap.size < wr.heap.size ∧ Below w.heap.size w wr
theorem PartsIn.next {w wr w2 : World} (h : PartsIn w wr) (hb : Below wr.heap.size wr w2) : PartsIn w w2 := by
  obtain ⟨⟨a0, a1, a2, a3, a4, a5, a6, a7⟩, hs, hB⟩ := h
  have e : ∀ o, w2.cell? ⟨w.heap.size, o, none⟩ = wr.cell? ⟨w.heap.size, o, none⟩ := fun o => hb.cell (by show w.heap.size < _; omega)
  exact ⟨⟨by rw [e]; exact a0, by rw [e]; exact a1, by rw [e]; exact a2, by rw [e]; exact a3, by rw [e]; exact a4, by rw [e]; exact a5, by rw [e]; exact a6, by rw [e]; exact a7⟩, Nat.lt_of_lt_of_le hs hb.size, below_old hB hb⟩
/-- .. and one part lies in a box. -/
def PartBox (w wr : World) (b : Nat) (x0 x1 x2 x3 : Value) : Prop :=
  PartsIn w wr ∧ (wr.cell? ⟨b, 0, none⟩ = some x0 ∧ wr.cell? ⟨b, 1, none⟩ = some x1 ∧ wr.cell? ⟨b, 2, none⟩ = some x2 ∧ wr.cell? ⟨b, 3, none⟩ = some x3) ∧ b < wr.heap.size
theorem PartBox.next {w wr w2 : World} {b : Nat} {x0 x1 x2 x3 : Value} (h : PartBox w wr b x0 x1 x2 x3) (hb : Below wr.heap.size wr w2) : PartBox w w2 b x0 x1 x2 x3 := by
  obtain ⟨hp, ⟨a0, a1, a2, a3⟩, hs⟩ := h
  have e : ∀ o, w2.cell? ⟨b, o, none⟩ = wr.cell? ⟨b, o, none⟩ := fun o => hb.cell (by show b < _; omega)
  exact ⟨hp.next hb, ⟨by rw [e]; exact a0, by rw [e]; exact a1, by rw [e]; exact a2, by rw [e]; exact a3⟩, Nat.lt_of_lt_of_le hs hb.size⟩
theorem PartBox.made {w wr : World} (h : PartsIn w wr) (x0 x1 x2 x3 : Value) (t : TypeId) : PartBox w (wr.alloc (.cells #[x0, x1, x2, x3] t)) wr.heap.size x0 x1 x2 x3 := by
  refine ⟨h.next ((Below.refl _ _).alloc (Nat.le_refl _) _), ⟨?_, ?_, ?_, ?_⟩, by simp⟩ <;> simp [go_sem]

set_option maxHeartbeats 2000000 in
theorem parts_any (w : World) : Calls Tryd.prog 88 #[] w fun e w' => e = .returned (.slice (some ⟨w.heap.size, 0, none⟩) 2 2) ∧ PartsIn w w' := by
  have hp : PartsIn w (w.alloc (.cells #[.int .i64 0, .int .i64 1, .func (.func 97) #[] #[], .int .i64 10, .int .i64 1, .int .i64 7, .func (.func 98) #[] #[], .int .i64 5] 115)) := by
    refine ⟨⟨?_, ?_, ?_, ?_, ?_, ?_, ?_, ?_⟩, by simp, (Below.refl _ _).alloc (Nat.le_refl _) _⟩ <;> simp [go_sem]
  have HP := Lib.hid hp
  clear hp
  go_enter Tryd.func88, Tryd.ntmps88
  go_wp2_with fail
  go_ret
  exact ⟨rfl, HP.out⟩

theorem digs_at {s : ByteArray} (h : digsB s = true) {j : Nat} (h1 : 1 ≤ j) (h2 : j ≤ 6) : digAt s j := by
  simp only [digsB, List.all_eq_true, List.mem_range, decide_eq_true_eq] at h
  have := h (j - 1) (by omega)
  rwa [show j - 1 + 1 = j by omega] at this

theorem quiet_left {P : Program} {f : FuncId} {args : Array Value} {w : World} {n : Nat} {v : Value}
    (h : Calls P f args (w.drewN n) fun e w' => e = .returned v ∧ w.drewN n = w') : Calls P f args (w.drewN n) fun e w'' => e = .returned v ∧ ∃ m, w'' = w.drewN m :=
  h.mono fun _ _ ⟨he, hm⟩ => ⟨he, n, hm.symm⟩

set_option maxRecDepth 100000 in
set_option maxHeartbeats 4000000 in
theorem split02 (s : ByteArray) (hsz : (s.size : Int) ≤ 9223372036854775807) (w : World) :
    Calls Tryd.prog 78 #[.string s] w fun e w' => e = .returned (.tuple #[.int .u8 (spK s), .int .i64 (spN s), .int .i64 (spE s)]) ∧ Below w.heap.size w w' := by
  by_cases h8 : (s.size : Int) = 8
  · have h8n : s.size = 8 := by omega
    have b8 : ((s.size : Int) != 8) = false := by simp [h8]
    have H8 := Lib.hid h8n
    have z0 : (0 : Int) < (s.size : Int) := by omega
    have z7 : (7 : Int) < (s.size : Int) := by omega
    have z7' : (7 : Int) ≤ (s.size : Int) := by omega
    have n0 : 0 < s.size := by omega
    have n7 : 7 < s.size := by omega
    have hg0 := bt_get s 0 n0
    have hg7 := bt_get s 7 n7
    have hr0 := bt_range s 0
    have hr7 := bt_range s 7
    clear h8 h8n
    obtain ⟨c, hc⟩ : ∃ c, bt s 0 = c := ⟨_, rfl⟩
    obtain ⟨d, hd⟩ : ∃ d, bt s 7 = d := ⟨_, rfl⟩
    have HC := Lib.hid hc; have HD := Lib.hid hd
    rw [hc] at hg0 hr0
    rw [hd] at hg7 hr7
    clear hc hd
    go_enter Tryd.func78, Tryd.ntmps78
    go_wp2_with fail
    (with_reducible refine (parts_any _).mono ?_)
    rintro e w1 ⟨rfl, hp⟩
    have HP := Lib.hid hp
    clear hp
    go_wp2_with fail
    go_loopw [15] (fun i wr => ∃ k : Nat, i = .int .i64 k ∧ k ≤ 2 ∧ Hid (PartsIn w wr) ∧ Hid (1 ≤ k → 65 ≤ c ∧ c ≤ 90) ∧ Hid (2 ≤ k → digsB s = true)) (fun i _ => 2 - (intOf i).toNat)
    case atStart => exact ⟨0, rfl, by omega, HP, fun h => by omega, fun h => by omega⟩
    case round =>
      obtain ⟨k, rfl, hk, hpi, hp1, hp2⟩ := hrel
      obtain ⟨⟨a0, a1, a2, a3, a4, a5, a6, a7⟩, hs, hB⟩ := hpi.out
      have hk3 : k = 0 ∨ k = 1 ∨ k = 2 := by omega
      rcases hk3 with rfl | rfl | rfl
      · rw [show ((0 : Nat) : Int) = 0 from rfl]
        clear hp1 hp2 hk
        have HBX := Lib.hid (PartBox.made hpi.out (.int .i64 0) (.int .i64 1) (.func (.func 97) #[] #[]) (.int .i64 10) 115)
        go_wp2_with fail
        generalize wr.alloc (.cells #[.int .i64 0, .int .i64 1, .func (.func 97) #[] #[], .int .i64 10] 115) = w2 at *
        generalize wr.heap.size = b6 at *
        clear a0 a1 a2 a3 a4 a5 a6 a7 hs hB hpi
        go_loopw [7] (fun i wr => ∃ j : Nat, i = .int .i64 j ∧ j ≤ 1 ∧ Hid (PartBox w wr b6 (.int .i64 0) (.int .i64 1) (.func (.func 97) #[] #[]) (.int .i64 10)) ∧ Hid (1 ≤ j → 65 ≤ c ∧ c ≤ 90)) (fun i _ => 1 - (intOf i).toNat)
        case atStart => exact ⟨0, rfl, by omega, HBX, fun h => by omega⟩
        case round =>
          obtain ⟨j, rfl, hj, hBox, hp1⟩ := hrel
          obtain ⟨⟨⟨a0, a1, a2, a3, a4, a5, a6, a7⟩, hs, hB⟩, ⟨d0, d1, d2, d3⟩, hs2⟩ := hBox.out
          have HBox := hBox
          clear hBox
          have hj2 : j = 0 ∨ j = 1 := by omega
          rcases hj2 with rfl | rfl
          · rw [show ((0 : Nat) : Int) = 0 from rfl]
            clear hp1 hj
            by_cases hcap : 65 ≤ c ∧ c ≤ 90
            · go_wp2_with fail
              go_quiet ((go_at_call 97; (with_reducible exact quiet_left (cap_yes _ hcap _))))
              go_wp2_with fail
              go_roundw
              case rel => exact ⟨1, rfl, by omega, Lib.hid (HBox.out.next (below_drewN (Below.refl _ _) _)), fun _ => hcap⟩
              case measure => simp [intOf]
            · have hv := Lib.hid (sp_kind H8.out (by rw [HC.out]; exact hcap))
              go_wp2_with fail
              go_quiet ((go_at_call 97; (with_reducible exact quiet_left (cap_no _ hcap _))))
              go_wp2_with fail
              go_quiet (fail)
              go_wp2_with fail
              go_ret3
              exact ⟨ret_knE hv.out.1.symm hv.out.2.1.symm hv.out.2.2.symm, below_drewN (below_drewN hB _) _⟩
          · rw [show ((1 : Nat) : Int) = 1 from rfl]
            go_wp2_with fail
            go_roundw
            case rel => exact ⟨1, rfl, by omega, Lib.hid HBox.out.1, fun _ => hp1.out (by omega), fun h => by omega⟩
            case measure => simp [intOf]
      · rw [show ((1 : Nat) : Int) = 1 from rfl]
        have hcap : 65 ≤ c ∧ c ≤ 90 := hp1.out (by omega)
        clear hp1 hp2 hk
        have HBX := Lib.hid (PartBox.made hpi.out (.int .i64 1) (.int .i64 7) (.func (.func 98) #[] #[]) (.int .i64 5) 115)
        go_wp2_with fail
        generalize wr.alloc (.cells #[.int .i64 1, .int .i64 7, .func (.func 98) #[] #[], .int .i64 5] 115) = w2 at *
        generalize wr.heap.size = b6 at *
        clear a0 a1 a2 a3 a4 a5 a6 a7 hs hB hpi
        go_loopw [7] (fun i wr => ∃ j : Nat, i = .int .i64 ((j : Int) + 1) ∧ j ≤ 6 ∧ Hid (PartBox w wr b6 (.int .i64 1) (.int .i64 7) (.func (.func 98) #[] #[]) (.int .i64 5)) ∧ Hid (∀ x, 1 ≤ x → x ≤ j → digAt s x)) (fun i _ => 7 - (intOf i).toNat)
        case atStart => exact ⟨0, rfl, by omega, HBX, fun x a b => by omega⟩
        case round =>
          obtain ⟨j, rfl, hj, hBox, hall⟩ := hrel
          obtain ⟨⟨⟨a0, a1, a2, a3, a4, a5, a6, a7⟩, hs, hB⟩, ⟨d0, d1, d2, d3⟩, hs2⟩ := hBox.out
          have HBox := hBox
          clear hBox
          by_cases hlt : j < 6
          · have nk : j + 1 < s.size := by have := H8.out; omega
            have hg := bt_get s (j + 1) nk
            have hr := bt_range s (j + 1)
            obtain ⟨b, hb⟩ : ∃ b, bt s (j + 1) = b := ⟨_, rfl⟩
            rw [hb] at hg hr
            have HB := Lib.hid hb
            clear hb
            have zk : (j : Int) + 1 < (s.size : Int) := by omega
            have zk0 : 0 ≤ (j : Int) + 1 := by omega
            have zkn : ((j : Int) + 1).toNat = j + 1 := by omega
            by_cases hdg : 48 ≤ b ∧ b ≤ 57
            · have hn : Hid (∀ x, 1 ≤ x → x ≤ j + 1 → digAt s x) := fun x a c => by
                rcases Nat.lt_or_ge x (j + 1) with h | h
                · exact hall.out x a (by omega)
                · obtain rfl : x = j + 1 := by omega
                  unfold digAt; rw [HB.out]; exact hdg
              go_wp2_with fail
              go_quiet ((go_at_call 98; (with_reducible exact quiet_left (digit_yes _ hdg _))))
              clear zkn
              go_wp2_with fail
              go_roundw
              case rel => exact ⟨j + 1, by go_num, by omega, Lib.hid (HBox.out.next (below_drewN (Below.refl _ _) _)), hn⟩
              case measure => simp [intOf]; omega
            · have hv := Lib.hid (sp_syntax H8.out (by rw [HC.out]; exact hcap) (digs_no (j := j + 1) (by omega) (by omega) (by unfold digAt; rw [HB.out]; exact hdg)))
              go_wp2_with fail
              go_quiet ((go_at_call 98; (with_reducible exact quiet_left (digit_no _ hdg _))))
              clear zkn
              go_wp2_with fail
              go_quiet (fail)
              go_wp2_with fail
              go_ret3
              exact ⟨ret_knE hv.out.1.symm hv.out.2.1.symm hv.out.2.2.symm, below_drewN (below_drewN hB _) _⟩
          · have hds := Lib.hid (digs_yes (s := s) (fun x a b => hall.out x a (by omega)))
            go_wp2_with fail
            go_roundw
            case rel => exact ⟨2, rfl, by omega, Lib.hid HBox.out.1, fun _ => hcap, fun _ => hds.out⟩
            case measure => simp [intOf]
      · rw [show ((2 : Nat) : Int) = 2 from rfl]
        have hcap : 65 ≤ c ∧ c ≤ 90 := hp1.out (by omega)
        have hds := Lib.hid (hp2.out (by omega))
        clear hp1 hp2 hk a0 a1 a2 a3 a4 a5 a6 a7
        have hlr := letN_range s 7
        obtain ⟨l, hl⟩ : ∃ l, letN s 7 = l := ⟨_, rfl⟩
        have HL := Lib.hid hl
        rw [hl] at hlr
        clear hl
        by_cases hsu : 65 + l = d
        · have hv := Lib.hid (sp_ok H8.out (by rw [HC.out]; exact hcap) hds.out (by rw [HL.out, HD.out]; exact hsu))
          rw [HC.out] at hv
          have hs2 : (65 + l != d) = false := by simp [hsu]
          have HSU := Lib.hid hsu
          clear hsu
          go_wp2_with fail
          go_quiet ((go_at_call 89; (with_reducible exact Calls.quiet_of_same (letter_7 s l H8 HL _))))
          go_wp2_with fail
          go_loop [8, 9] (fun m i => ∃ k : Nat, i = .int .i64 ((k : Int) + 1) ∧ k ≤ 6 ∧ m = .int .i64 (numN s k)) (fun _ i => 7 - (intOf i).toNat)
          case atStart => exact ⟨0, rfl, by omega, rfl⟩
          case round =>
            obtain ⟨k, rfl, hk, rfl⟩ := hrel
            have hdall : ∀ j, 1 ≤ j → j ≤ k → digAt s j := fun j a b => digs_at hds.out a (by omega)
            have hnr := numN_range s k hdall
            have hpw : (numN s k) ≤ 1000000 := by
              have h1 : 10 ^ k ≤ 10 ^ 6 := Nat.pow_le_pow_right (by omega) hk
              have h2 : (10 : Int) ^ k = ((10 ^ k : Nat) : Int) := by simp
              omega
            have hn0 := hnr.1
            clear hnr hdall
            by_cases hlt : k < 6
            · have nk : k + 1 < s.size := by have := H8.out; omega
              have hg := bt_get s (k + 1) nk
              have hr : 48 ≤ bt s (k + 1) ∧ bt s (k + 1) ≤ 57 := digs_at hds.out (by omega) (by omega)
              have hnx : numN s (k + 1) = numN s k * 10 + (bt s (k + 1) - 48) := rfl
              obtain ⟨b, hb⟩ : ∃ b, bt s (k + 1) = b := ⟨_, rfl⟩
              obtain ⟨m, hm⟩ : ∃ m, numN s k = m := ⟨_, rfl⟩
              rw [hb] at hg hr hnx
              rw [hm] at hnx hpw hn0 ⊢
              have HX := Lib.hid hnx
              clear hb hm hnx
              have zk : (k : Int) + 1 < (s.size : Int) := by omega
              go_wp2_with fail
              go_round
              case rel => exact ⟨k + 1, by go_num, by omega, by rw [HX.out]⟩
              case measure => simp [intOf]; omega
            · obtain rfl : k = 6 := by omega
              obtain ⟨m, hm⟩ : ∃ m, numN s 6 = m := ⟨_, rfl⟩
              rw [hm] at hv hpw hn0 ⊢
              clear hm
              go_wp2_with fail
              go_ret3
              exact ⟨ret_knE hv.out.1.symm hv.out.2.1.symm hv.out.2.2.symm, below_drewN hB _⟩
        · have hv := Lib.hid (sp_sum H8.out (by rw [HC.out]; exact hcap) hds.out (by rw [HL.out, HD.out]; exact hsu))
          have hs2 : (65 + l != d) = true := by simpa using hsu
          clear hsu
          go_wp2_with fail
          go_quiet ((go_at_call 89; (with_reducible exact Calls.quiet_of_same (letter_7 s l H8 HL _))))
          go_wp2_with fail
          go_ret3
          exact ⟨ret_knE hv.out.1.symm hv.out.2.1.symm hv.out.2.2.symm, below_drewN hB _⟩
  · have hv := Lib.hid (sp_short (s := s) (by omega))
    have b8 : ((s.size : Int) != 8) = true := by simpa using h8
    clear h8
    go_enter Tryd.func78, Tryd.ntmps78
    go_wp2_with fail
    go_ret3
    exact ⟨ret_knE hv.out.1.symm hv.out.2.1.symm hv.out.2.2.symm, Below.refl _ _⟩
end Go.Proofs.YtcefmnkfkpoccaaDoor

namespace Go.Proofs.YtcefmnkfkpoccaaDoor
open Go.RowKit
set_option linter.unusedVariables false

def isB (s : ByteArray) (c : Int) : Bool := decide (spE s = 0) && decide (spK s = c)

theorem rsplit02B (s : ByteArray) (hsz : (s.size : Int) ≤ 9223372036854775807) (w : World) :
    Calls Tryd.prog 79 #[.string s] w fun e w' => e = .returned (.tuple #[.int .u8 (spK s), .int .i64 (spN s), .int .i64 (spE s)]) ∧ Below w.heap.size w w' := calls_drew (rsplit02 s hsz w)
set_option maxHeartbeats 2000000 in
theorem is_any (s : ByteArray) (hsz : (s.size : Int) ≤ 9223372036854775807) (c : Int) (w : World) :
    Calls Tryd.prog 53 #[.string s, .int .u8 c] w fun e w' => e = .returned (.bool (isB s c)) ∧ Below w.heap.size w w' := by
  have hsp := split02 s hsz
  have hB : Hid (isB s c = (decide (spE s = 0) && decide (spK s = c))) := rfl
  obtain ⟨k, hk⟩ : ∃ k, spK s = k := ⟨_, rfl⟩
  obtain ⟨x, hx⟩ : ∃ x, spE s = x := ⟨_, rfl⟩
  obtain ⟨n, hn⟩ : ∃ n, spN s = n := ⟨_, rfl⟩
  rw [hk, hx] at hB
  rw [hk, hx, hn] at hsp
  have HS := Lib.hid hsp
  clear hk hx hn hsp
  by_cases h0 : x = 0
  · subst h0
    by_cases h1 : k = c
    · subst h1
      go_enter Tryd.func53, Tryd.ntmps53
      go_wp2_with fail
      (with_reducible refine (HS.out _).mono ?_)
      rintro e w1 ⟨rfl, hb⟩
      skip
      go_wp2_with fail
      go_ret
      exact ⟨ret_bool (by rw [hB.out]; simp), hb⟩
    · have h2 : (k == c) = false := by simpa using h1
      go_enter Tryd.func53, Tryd.ntmps53
      go_wp2_with fail
      (with_reducible refine (HS.out _).mono ?_)
      rintro e w1 ⟨rfl, hb⟩
      skip
      go_wp2_with fail
      go_ret
      exact ⟨ret_bool (by rw [hB.out]; simp [h1]), hb⟩
  · have h2 : (x == 0) = false := by simpa using h0
    go_enter Tryd.func53, Tryd.ntmps53
    go_wp2_with fail
    (with_reducible refine (HS.out _).mono ?_)
    rintro e w1 ⟨rfl, hb⟩
    skip
    go_wp2_with fail
    go_ret
    exact ⟨ret_bool (by rw [hB.out]; simp [h0]), hb⟩

end Go.Proofs.YtcefmnkfkpoccaaDoor
