/- Next of ident and of its reference; law02.awake. -/
import Derived.Test.YtlhjneeccjkaoaaDoorC3
import Derived.Test.YtlhjneeccjkaoaaDoorI5
namespace Go.Proofs.YtlhjneeccjkaoaaDoor
open Go.RowKit
set_option linter.unusedVariables false

theorem digs_each {s : ByteArray} (h : digsB s = true) : ∀ j, 1 ≤ j → j ≤ 6 → digAt s j := by
  intro j h1 h2
  simp only [digsB, List.all_eq_true, List.mem_range, decide_eq_true_eq] at h
  have := h (j - 1) (by omega)
  rwa [show j - 1 + 1 = j by omega] at this
theorem spE_zero {s : ByteArray} (h : spE s = 0) : s.size = 8 ∧ (65 ≤ bt s 0 ∧ bt s 0 ≤ 90) ∧ digsB s = true ∧ 65 + letN s 7 = bt s 7 := by
  by_cases h8 : s.size = 8
  · by_cases hc : 65 ≤ bt s 0 ∧ bt s 0 ≤ 90
    · cases hd : digsB s with
      | false => rw [(sp_syntax h8 hc hd).2.2] at h; cases h
      | true =>
        by_cases hl : 65 + letN s 7 = bt s 7
        · exact ⟨h8, hc, rfl, hl⟩
        · rw [(sp_sum h8 hc hd hl).2.2] at h; cases h
    · rw [(sp_kind h8 hc).2.2] at h; cases h
  · rw [(sp_short h8).2.2] at h; cases h
theorem sp_range (s : ByteArray) : 0 ≤ spN s ∧ spN s ≤ 999999 := by
  by_cases h : spE s = 0
  · obtain ⟨h8, hc, hd, hl⟩ := spE_zero h
    have := numN_range s 6 (digs_each hd)
    rw [(sp_ok h8 hc hd hl).2.1]
    omega
  · simp [spN, h]

def nxT (s : ByteArray) : ByteArray := if spE s = 0 then codT (spK s) (spN s + 1) else ⟨#[]⟩
def nxB (s : ByteArray) : Int := if spE s = 0 then codB (spK s) (spN s + 1) else spE s

set_option maxHeartbeats 2000000 in
theorem next_any (s : ByteArray) (hsz : (s.size : Int) ≤ 9223372036854775807) (w : World) (ht : TabOk w) :
    Calls Tryd.prog 22 #[.string s] w fun e w' => e = .returned (.tuple #[.string (nxT s), .int .i64 (nxB s)]) ∧ Below w.heap.size w w' := by
  have hsp := split02 s hsz
  have hr := sp_range s
  have hT : Hid (nxT s = if spE s = 0 then codT (spK s) (spN s + 1) else ⟨#[]⟩) := rfl
  have hB : Hid (nxB s = if spE s = 0 then codB (spK s) (spN s + 1) else spE s) := rfl
  obtain ⟨k, hk⟩ : ∃ k, spK s = k := ⟨_, rfl⟩
  obtain ⟨x, hx⟩ : ∃ x, spE s = x := ⟨_, rfl⟩
  obtain ⟨n, hn⟩ : ∃ n, spN s = n := ⟨_, rfl⟩
  rw [hk, hx, hn] at hsp hT hB
  rw [hn] at hr
  have HS := Lib.hid hsp
  have HT := Lib.hid ht
  clear hk hx hn hsp ht
  by_cases h0 : x = 0
  · subst h0
    go_enter Tryd.func22, Tryd.ntmps22
    go_wp2_with fail
    (with_reducible refine (HS.out _).mono ?_)
    rintro e w1 ⟨rfl, hb⟩
    have HB1 := Lib.hid hb
    clear hb
    go_wp2_with fail
    (with_reducible refine (code_any _ _ _ (HT.out.below HB1.out)).mono ?_)
    rintro e w2 ⟨rfl, hb⟩
    have HB2 := Lib.hid hb
    clear hb
    go_wp2_with fail
    go_ret2
    exact ⟨ret_sE (by rw [hT.out]; simp) (by rw [hB.out]; simp), below_old HB1.out HB2.out⟩
  · have h2 : (x != 0) = true := by simpa using h0
    go_enter Tryd.func22, Tryd.ntmps22
    go_wp2_with fail
    (with_reducible refine (HS.out _).mono ?_)
    rintro e w1 ⟨rfl, hb⟩
    go_wp2_with fail
    go_ret2
    exact ⟨ret_sE (by rw [hT.out, if_neg h0]) (by rw [hB.out, if_neg h0]), hb⟩
set_option maxHeartbeats 2000000 in
theorem rnext_any (s : ByteArray) (hsz : (s.size : Int) ≤ 9223372036854775807) (w : World) (ht : TabOk w) :
    Calls Tryd.prog 23 #[.string s] w fun e w' => e = .returned (.tuple #[.string (nxT s), .int .i64 (nxB s)]) ∧ Below w.heap.size w w' := by
  have hsp := rsplit02B s hsz
  have hr := sp_range s
  have hT : Hid (nxT s = if spE s = 0 then codT (spK s) (spN s + 1) else ⟨#[]⟩) := rfl
  have hB : Hid (nxB s = if spE s = 0 then codB (spK s) (spN s + 1) else spE s) := rfl
  obtain ⟨k, hk⟩ : ∃ k, spK s = k := ⟨_, rfl⟩
  obtain ⟨x, hx⟩ : ∃ x, spE s = x := ⟨_, rfl⟩
  obtain ⟨n, hn⟩ : ∃ n, spN s = n := ⟨_, rfl⟩
  rw [hk, hx, hn] at hsp hT hB
  rw [hn] at hr
  have HS := Lib.hid hsp
  have HT := Lib.hid ht
  clear hk hx hn hsp ht
  by_cases h0 : x = 0
  · subst h0
    go_enter Tryd.func23, Tryd.ntmps23
    go_wp2_with fail
    (with_reducible refine (HS.out _).mono ?_)
    rintro e w1 ⟨rfl, hb⟩
    have HB1 := Lib.hid hb
    clear hb
    go_wp2_with fail
    (with_reducible refine (rcode_any _ _ _).mono ?_)
    rintro e w2 ⟨rfl, hb⟩
    have HB2 := Lib.hid hb
    clear hb
    go_wp2_with fail
    go_ret2
    exact ⟨ret_sE (by rw [hT.out]; simp) (by rw [hB.out]; simp), below_old HB1.out HB2.out⟩
  · have h2 : (x != 0) = true := by simpa using h0
    go_enter Tryd.func23, Tryd.ntmps23
    go_wp2_with fail
    (with_reducible refine (HS.out _).mono ?_)
    rintro e w1 ⟨rfl, hb⟩
    go_wp2_with fail
    go_ret2
    exact ⟨ret_sE (by rw [hT.out, if_neg h0]) (by rw [hB.out, if_neg h0]), hb⟩

theorem aw1 : codT 66 42 = ⟨#[66, 48, 48, 48, 48, 52, 50, 85]⟩ ∧ codB 66 42 = 0 := by decide +kernel
theorem aw2 : nxT ⟨#[66, 48, 48, 48, 48, 52, 50, 85]⟩ = ⟨#[66, 48, 48, 48, 48, 52, 51, 69]⟩ ∧ nxB ⟨#[66, 48, 48, 48, 48, 52, 50, 85]⟩ = 0 := by decide +kernel
theorem aw3 : spK ⟨#[66, 48, 48, 48, 48, 52, 50, 85]⟩ = 66 ∧ spN ⟨#[66, 48, 48, 48, 48, 52, 50, 85]⟩ = 42 ∧ spE ⟨#[66, 48, 48, 48, 48, 52, 50, 85]⟩ = 0 := by decide +kernel
theorem aw4 : spK ⟨#[66, 48, 48, 48, 48, 52, 50, 86]⟩ = 0 ∧ spN ⟨#[66, 48, 48, 48, 48, 52, 50, 86]⟩ = 0 ∧ spE ⟨#[66, 48, 48, 48, 48, 52, 50, 86]⟩ = 16 := by decide +kernel
theorem aw5 : letN ⟨#[]⟩ (ByteArray.size ⟨#[]⟩) = 0 := by decide +kernel
theorem aw6 : nameB ⟨#[115, 112, 114, 117, 99, 101, 95, 50]⟩ = true := by decide +kernel
theorem aw7 : nameB ⟨#[50, 120]⟩ = false := by decide +kernel
theorem aw8 : isB ⟨#[66, 48, 48, 48, 48, 52, 50, 85]⟩ 66 = true := by decide +kernel

set_option maxRecDepth 100000 in
set_option maxHeartbeats 4000000 in
theorem awake02 (w : World) (ht : TabOk w) : Calls Tryd.prog 11 #[] w fun e w' => e = .returned (.bool true) ∧ Below w.heap.size w w' := by
  have HT := Lib.hid ht
  have c1 := fun W hT => code_any 66 42 W hT
  rw [aw1.1, aw1.2] at c1
  have c2 := fun W hT => next_any ⟨#[66, 48, 48, 48, 48, 52, 50, 85]⟩ (by decide) W hT
  rw [aw2.1, aw2.2] at c2
  have c3 := fun W => split02 ⟨#[66, 48, 48, 48, 48, 52, 50, 85]⟩ (by decide) W
  rw [aw3.1, aw3.2.1, aw3.2.2] at c3
  have c4 := fun W => split02 ⟨#[66, 48, 48, 48, 48, 52, 50, 86]⟩ (by decide) W
  rw [aw4.1, aw4.2.1, aw4.2.2] at c4
  have c5 := fun W => letter_any ⟨#[]⟩ (by decide) W
  rw [aw5] at c5
  have c6 := fun W => isName_any ⟨#[115, 112, 114, 117, 99, 101, 95, 50]⟩ (by decide) W
  rw [aw6] at c6
  have c7 := fun W => isName_any ⟨#[50, 120]⟩ (by decide) W
  rw [aw7] at c7
  have c8 := fun W => is_any ⟨#[66, 48, 48, 48, 48, 52, 50, 85]⟩ (by decide) 66 W
  rw [aw8] at c8
  have C1 := Lib.hid c1; have C2 := Lib.hid c2; have C3 := Lib.hid c3; have C4 := Lib.hid c4; have C5 := Lib.hid c5; have C6 := Lib.hid c6; have C7 := Lib.hid c7; have C8 := Lib.hid c8
  clear c1 c2 c3 c4 c5 c6 c7 c8 ht
  go_enter Tryd.func11, Tryd.ntmps11
  go_wp2_with fail
  (with_reducible refine (C1.out _ HT.out).mono ?_)
  rintro e w1 ⟨rfl, hb⟩
  have B1 := Lib.hid hb; clear hb
  go_wp2_with fail
  (with_reducible refine (C2.out _ (HT.out.below B1.out)).mono ?_)
  rintro e w2 ⟨rfl, hb⟩
  have B2 := Lib.hid (below_old B1.out hb); clear hb
  go_wp2_with fail
  (with_reducible refine (C3.out _).mono ?_)
  rintro e w3 ⟨rfl, hb⟩
  have B3 := Lib.hid (below_old B2.out hb); clear hb
  go_wp2_with fail
  (with_reducible refine (C4.out _).mono ?_)
  rintro e w4 ⟨rfl, hb⟩
  have B4 := Lib.hid (below_old B3.out hb); clear hb
  go_wp2_with fail
  (with_reducible refine (C5.out _).mono ?_)
  rintro e w5 ⟨rfl, rfl⟩
  go_wp2_with fail
  (with_reducible refine (C6.out _).mono ?_)
  rintro e w5 ⟨rfl, rfl⟩
  go_wp2_with fail
  (with_reducible refine (C7.out _).mono ?_)
  rintro e w5 ⟨rfl, rfl⟩
  go_wp2_with fail
  (with_reducible refine (C8.out _).mono ?_)
  rintro e w6 ⟨rfl, hb⟩
  have B6 := Lib.hid (below_old B4.out hb); clear hb
  go_wp2_with fail
  go_ret
  exact ⟨rfl, B6.out⟩
end Go.Proofs.YtlhjneeccjkaoaaDoor
