/- Is of ident's reference. -/
import Derived.Test.YtcefmnkfkpoccaaDoorMA
namespace Go.Proofs.YtcefmnkfkpoccaaDoor
open Go.RowKit
set_option linter.unusedVariables false
set_option maxHeartbeats 2000000 in
theorem ris_any (s : ByteArray) (hsz : (s.size : Int) ≤ 9223372036854775807) (c : Int) (w : World) :
    Calls Tryd.prog 54 #[.string s, .int .u8 c] w fun e w' => e = .returned (.bool (isB s c)) ∧ Below w.heap.size w w' := by
  have hsp := rsplit02B s hsz
  have hB : Hid (isB s c = (decide (spE s = 0) && decide (spK s = c))) := rfl
  obtain ⟨k, hk⟩ : ∃ k, spK s = k := ⟨_, rfl⟩
  obtain ⟨x, hx⟩ : ∃ x, spE s = x := ⟨_, rfl⟩
  obtain ⟨n, hn⟩ : ∃ n, spN s = n := ⟨_, rfl⟩
  rw [hk, hx] at hB
  rw [hk, hx, hn] at hsp
  have HS := Lib.hid hsp
  clear hk hx hn hsp
  by_cases h0 : x = 0
  · subst h0
    by_cases h1 : k = c
    · subst h1
      go_enter Tryd.func54, Tryd.ntmps54
      go_wp2_with fail
      (with_reducible refine (HS.out _).mono ?_)
      rintro e w1 ⟨rfl, hb⟩
      skip
      go_wp2_with fail
      go_ret
      exact ⟨ret_bool (by rw [hB.out]; simp), hb⟩
    · have h2 : (k == c) = false := by simpa using h1
      go_enter Tryd.func54, Tryd.ntmps54
      go_wp2_with fail
      (with_reducible refine (HS.out _).mono ?_)
      rintro e w1 ⟨rfl, hb⟩
      skip
      go_wp2_with fail
      go_ret
      exact ⟨ret_bool (by rw [hB.out]; simp [h1]), hb⟩
  · have h2 : (x == 0) = false := by simpa using h0
    go_enter Tryd.func54, Tryd.ntmps54
    go_wp2_with fail
    (with_reducible refine (HS.out _).mono ?_)
    rintro e w1 ⟨rfl, hb⟩
    skip
    go_wp2_with fail
    go_ret
    exact ⟨ret_bool (by rw [hB.out]; simp [h0]), hb⟩
end Go.Proofs.YtcefmnkfkpoccaaDoor
