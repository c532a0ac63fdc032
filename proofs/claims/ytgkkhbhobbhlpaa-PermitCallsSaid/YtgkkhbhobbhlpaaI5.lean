/- Is of ident and of its reference. -/
import Derived.Test.YtgkkhbhobbhlpaaI4
namespace Go.Proofs.Ytgkkhbhobbhlpaa
open Go.RowKit
set_option linter.unusedVariables false

def isB (s : ByteArray) (c : Int) : Bool := decide (spE s = 0) && decide (spK s = c)

theorem rsplit02B (s : ByteArray) (hsz : (s.size : Int) ≤ 9223372036854775807) (w : World) :
    Calls Try.prog 54 #[.string s] w fun e w' => e = .returned (.tuple #[.int .u8 (spK s), .int .i64 (spN s), .int .i64 (spE s)]) ∧ Below w.heap.size w w' := calls_drew (rsplit02 s hsz w)
set_option maxHeartbeats 2000000 in
theorem is_any (s : ByteArray) (hsz : (s.size : Int) ≤ 9223372036854775807) (c : Int) (w : World) :
    Calls Try.prog 46 #[.string s, .int .u8 c] w fun e w' => e = .returned (.bool (isB s c)) ∧ Below w.heap.size w w' := by
  have hsp := split02 s hsz
  have hB : Hid (isB s c = (decide (spE s = 0) && decide (spK s = c))) := rfl
  obtain ⟨k, hk⟩ : ∃ k, spK s = k := ⟨_, rfl⟩
  obtain ⟨x, hx⟩ : ∃ x, spE s = x := ⟨_, rfl⟩
  obtain ⟨n, hn⟩ : ∃ n, spN s = n := ⟨_, rfl⟩
  rw [hk, hx] at hB
  rw [hk, hx, hn] at hsp
  have HS := Lib.hid hsp
  clear hk hx hn hsp
  by_cases h0 : x = 0
  · subst h0
    by_cases h1 : k = c
    · subst h1
      go_enter Try.func46, Try.ntmps46
      go_wp2_with fail
      (with_reducible refine (HS.out _).mono ?_)
      rintro e w1 ⟨rfl, hb⟩
      skip
      go_wp2_with fail
      go_ret
      exact ⟨ret_bool (by rw [hB.out]; simp), hb⟩
    · have h2 : (k == c) = false := by simpa using h1
      go_enter Try.func46, Try.ntmps46
      go_wp2_with fail
      (with_reducible refine (HS.out _).mono ?_)
      rintro e w1 ⟨rfl, hb⟩
      skip
      go_wp2_with fail
      go_ret
      exact ⟨ret_bool (by rw [hB.out]; simp [h1]), hb⟩
  · have h2 : (x == 0) = false := by simpa using h0
    go_enter Try.func46, Try.ntmps46
    go_wp2_with fail
    (with_reducible refine (HS.out _).mono ?_)
    rintro e w1 ⟨rfl, hb⟩
    skip
    go_wp2_with fail
    go_ret
    exact ⟨ret_bool (by rw [hB.out]; simp [h0]), hb⟩

set_option maxHeartbeats 2000000 in
theorem ris_any (s : ByteArray) (hsz : (s.size : Int) ≤ 9223372036854775807) (c : Int) (w : World) :
    Calls Try.prog 43 #[.string s, .int .u8 c] w fun e w' => e = .returned (.bool (isB s c)) ∧ Below w.heap.size w w' := by
  have hsp := rsplit02B s hsz
  have hB : Hid (isB s c = (decide (spE s = 0) && decide (spK s = c))) := rfl
  obtain ⟨k, hk⟩ : ∃ k, spK s = k := ⟨_, rfl⟩
  obtain ⟨x, hx⟩ : ∃ x, spE s = x := ⟨_, rfl⟩
  obtain ⟨n, hn⟩ : ∃ n, spN s = n := ⟨_, rfl⟩
  rw [hk, hx] at hB
  rw [hk, hx, hn] at hsp
  have HS := Lib.hid hsp
  clear hk hx hn hsp
  by_cases h0 : x = 0
  · subst h0
    by_cases h1 : k = c
    · subst h1
      go_enter Try.func43, Try.ntmps43
      go_wp2_with fail
      (with_reducible refine (HS.out _).mono ?_)
      rintro e w1 ⟨rfl, hb⟩
      skip
      go_wp2_with fail
      go_ret
      exact ⟨ret_bool (by rw [hB.out]; simp), hb⟩
    · have h2 : (k == c) = false := by simpa using h1
      go_enter Try.func43, Try.ntmps43
      go_wp2_with fail
      (with_reducible refine (HS.out _).mono ?_)
      rintro e w1 ⟨rfl, hb⟩
      skip
      go_wp2_with fail
      go_ret
      exact ⟨ret_bool (by rw [hB.out]; simp [h1]), hb⟩
  · have h2 : (x == 0) = false := by simpa using h0
    go_enter Try.func43, Try.ntmps43
    go_wp2_with fail
    (with_reducible refine (HS.out _).mono ?_)
    rintro e w1 ⟨rfl, hb⟩
    skip
    go_wp2_with fail
    go_ret
    exact ⟨ret_bool (by rw [hB.out]; simp [h0]), hb⟩
end Go.Proofs.Ytgkkhbhobbhlpaa
