/- IdentBack: the walk. -/
import Derived.Test.YtlhjneeccjkaoaaDoorC6
namespace Go.Proofs.YtlhjneeccjkaoaaDoor
open Go.RowKit
set_option linter.unusedVariables false

theorem isB_yes {s : ByteArray} {c : Int} (h : spE s = 0) (h' : spK s = c) : isB s c = true := by simp [isB, h, h']
theorem isB_no {s : ByteArray} {c : Int} (h : ¬ spE s = 0) : isB s c = false := by simp [isB, h]
theorem sp_none {s : ByteArray} (h : ¬ spE s = 0) : spK s = 0 ∧ spN s = 0 := by simp [spK, spN, h]


set_option maxRecDepth 100000 in
set_option maxHeartbeats 4000000 in
theorem identBack_walk (k n : Int) (s : ByteArray) (w : World) (ht : TabOk w) : Calls Tryd.prog 8 #[.int .u8 k, .int .i64 n, .string s] w fun e w' => e = .returned (.bool true) ∧ Below w.heap.size w w' := by
  by_cases hlen : (2000 : Int) < (s.size : Int)
  · have HT := Lib.hid ht; clear ht
    go_enter Tryd.func8, Tryd.ntmps8
    go_wp2_with fail
    (with_reducible refine (awake02 _ (HT.out)).mono ?_)
    rintro e wz ⟨rfl, hb⟩
    have BZ := Lib.hid hb; clear hb
    go_wp2_with fail
    go_ret
    exact ⟨rfl, BZ.out⟩
  · have HT := Lib.hid ht; clear ht
    by_cases hc : codB k n = 0
    · have hkn : (65 ≤ k ∧ k ≤ 90) ∧ (0 ≤ n ∧ n ≤ 999999) := by
        by_cases hk : 65 ≤ k ∧ k ≤ 90
        · by_cases hn : 0 ≤ n ∧ n ≤ 999999
          · exact ⟨hk, hn⟩
          · rw [(cod_range hk hn).2] at hc; cases hc
        · rw [(cod_kind hk).2] at hc; cases hc
      have D1 := fun W hT => code_any k n W hT
      rw [hc, (cod_ok hkn.1 hkn.2).1] at D1
      obtain ⟨q1, q2, q3, q4⟩ := code_split hkn.1 hkn.2
      have D2 := fun W => split02 (codeS k n) (by omega) W
      rw [q2, q3, q4] at D2
      have D3 := fun W => is_any (codeS k n) (by omega) k W
      rw [isB_yes q4 q2] at D3
      have E1 := Lib.hid D1; have E2 := Lib.hid D2; have E3 := Lib.hid D3
      have q8 : ((codeS k n).size : Int) = 8 := by omega
      clear D1 D2 D3 q1 q2 q3 q4 hc hkn
      generalize codeS k n = t at *
      by_cases h0 : spE s = 0
      · obtain ⟨g1, g2, g3⟩ := split_code h0
        obtain ⟨r1, r2⟩ := sp_range s
        have C4 := fun W hT => code_any (spK s) (spN s) W hT
        rw [(cod_ok ⟨g1, g2⟩ ⟨r1, r2⟩).1, (cod_ok ⟨g1, g2⟩ ⟨r1, r2⟩).2, g3] at C4
        have C5 := fun W => is_any s (by omega) (spK s) W
        rw [isB_yes h0 rfl] at C5
        have C3 := fun W => split02 s (by omega) W
        rw [h0] at C3
        have H3 := Lib.hid C3; have H4 := Lib.hid C4; have H5 := Lib.hid C5
        clear C3 C4 C5 h0 g3
        generalize spK s = x1 at *
        generalize spN s = x2 at *
        (go_enter Tryd.func8, Tryd.ntmps8; go_wp2_with fail; (with_reducible refine (E1.out _ HT.out).mono ?_); rintro e w1 ⟨rfl, hb⟩; have B1 := Lib.hid hb; clear hb; go_wp2_with fail; (with_reducible refine (E2.out _).mono ?_); rintro e w2 ⟨rfl, hb⟩; have B2 := Lib.hid (below_old B1.out hb); clear hb; go_wp2_with fail; (with_reducible refine (E3.out _).mono ?_); rintro e w3 ⟨rfl, hb⟩; have B3 := Lib.hid (below_old B2.out hb); clear hb; go_wp2_with fail)
        (with_reducible refine (H3.out _).mono ?_)
        rintro e w4 ⟨rfl, hb⟩
        have B4 := Lib.hid (below_old B3.out hb); clear hb
        go_wp2_with fail
        (with_reducible refine (H4.out _ (HT.out.below B4.out)).mono ?_)
        rintro e w5 ⟨rfl, hb⟩
        have B5 := Lib.hid (below_old B4.out hb); clear hb
        go_wp2_with fail
        (with_reducible refine (H5.out _).mono ?_)
        rintro e w6 ⟨rfl, hb⟩
        have B6 := Lib.hid (below_old B5.out hb); clear hb
        go_wp2_with fail
        (with_reducible refine (awake02 _ (HT.out.below B6.out)).mono ?_)
        rintro e wz ⟨rfl, hb⟩
        have BZ := Lib.hid hb; clear hb
        go_wp2_with fail
        go_ret
        exact ⟨rfl, below_old B6.out BZ.out⟩
      · have C3 := fun W => split02 s (by omega) W
        rw [(sp_none h0).1, (sp_none h0).2] at C3
        have C4 := fun W => is_any s (by omega) k W
        rw [isB_no h0] at C4
        have H3 := Lib.hid C3; have H4 := Lib.hid C4
        clear C3 C4
        generalize spE s = x3 at *
        have hx : (x3 != 0) = true := by simpa using h0
        (go_enter Tryd.func8, Tryd.ntmps8; go_wp2_with fail; (with_reducible refine (E1.out _ HT.out).mono ?_); rintro e w1 ⟨rfl, hb⟩; have B1 := Lib.hid hb; clear hb; go_wp2_with fail; (with_reducible refine (E2.out _).mono ?_); rintro e w2 ⟨rfl, hb⟩; have B2 := Lib.hid (below_old B1.out hb); clear hb; go_wp2_with fail; (with_reducible refine (E3.out _).mono ?_); rintro e w3 ⟨rfl, hb⟩; have B3 := Lib.hid (below_old B2.out hb); clear hb; go_wp2_with fail)
        (with_reducible refine (H3.out _).mono ?_)
        rintro e w4 ⟨rfl, hb⟩
        have B4 := Lib.hid (below_old B3.out hb); clear hb
        go_wp2_with fail
        (with_reducible refine (H4.out _).mono ?_)
        rintro e w5 ⟨rfl, hb⟩
        have B5 := Lib.hid (below_old B4.out hb); clear hb
        go_wp2_with fail
        (with_reducible refine (awake02 _ (HT.out.below B5.out)).mono ?_)
        rintro e wz ⟨rfl, hb⟩
        have BZ := Lib.hid hb; clear hb
        go_wp2_with fail
        go_ret
        exact ⟨rfl, below_old B5.out BZ.out⟩
    · have E1 := Lib.hid (fun W hT => code_any k n W hT)
      generalize codT k n = t at *
      generalize codB k n = x at *
      have hx0 : (x == 0) = false := by simpa using hc
      by_cases h0 : spE s = 0
      · obtain ⟨g1, g2, g3⟩ := split_code h0
        obtain ⟨r1, r2⟩ := sp_range s
        have C4 := fun W hT => code_any (spK s) (spN s) W hT
        rw [(cod_ok ⟨g1, g2⟩ ⟨r1, r2⟩).1, (cod_ok ⟨g1, g2⟩ ⟨r1, r2⟩).2, g3] at C4
        have C5 := fun W => is_any s (by omega) (spK s) W
        rw [isB_yes h0 rfl] at C5
        have C3 := fun W => split02 s (by omega) W
        rw [h0] at C3
        have H3 := Lib.hid C3; have H4 := Lib.hid C4; have H5 := Lib.hid C5
        clear C3 C4 C5 h0 g3
        generalize spK s = x1 at *
        generalize spN s = x2 at *
        (go_enter Tryd.func8, Tryd.ntmps8; go_wp2_with fail; (with_reducible refine (E1.out _ HT.out).mono ?_); rintro e w1 ⟨rfl, hb⟩; have B1 := Lib.hid hb; clear hb; go_wp2_with fail)
        (with_reducible refine (H3.out _).mono ?_)
        rintro e w4 ⟨rfl, hb⟩
        have B4 := Lib.hid (below_old B1.out hb); clear hb
        go_wp2_with fail
        (with_reducible refine (H4.out _ (HT.out.below B4.out)).mono ?_)
        rintro e w5 ⟨rfl, hb⟩
        have B5 := Lib.hid (below_old B4.out hb); clear hb
        go_wp2_with fail
        (with_reducible refine (H5.out _).mono ?_)
        rintro e w6 ⟨rfl, hb⟩
        have B6 := Lib.hid (below_old B5.out hb); clear hb
        go_wp2_with fail
        (with_reducible refine (awake02 _ (HT.out.below B6.out)).mono ?_)
        rintro e wz ⟨rfl, hb⟩
        have BZ := Lib.hid hb; clear hb
        go_wp2_with fail
        go_ret
        exact ⟨rfl, below_old B6.out BZ.out⟩
      · have C3 := fun W => split02 s (by omega) W
        rw [(sp_none h0).1, (sp_none h0).2] at C3
        have C4 := fun W => is_any s (by omega) k W
        rw [isB_no h0] at C4
        have H3 := Lib.hid C3; have H4 := Lib.hid C4
        clear C3 C4
        generalize spE s = x3 at *
        have hx : (x3 != 0) = true := by simpa using h0
        (go_enter Tryd.func8, Tryd.ntmps8; go_wp2_with fail; (with_reducible refine (E1.out _ HT.out).mono ?_); rintro e w1 ⟨rfl, hb⟩; have B1 := Lib.hid hb; clear hb; go_wp2_with fail)
        (with_reducible refine (H3.out _).mono ?_)
        rintro e w4 ⟨rfl, hb⟩
        have B4 := Lib.hid (below_old B1.out hb); clear hb
        go_wp2_with fail
        (with_reducible refine (H4.out _).mono ?_)
        rintro e w5 ⟨rfl, hb⟩
        have B5 := Lib.hid (below_old B4.out hb); clear hb
        go_wp2_with fail
        (with_reducible refine (awake02 _ (HT.out.below B5.out)).mono ?_)
        rintro e wz ⟨rfl, hb⟩
        have BZ := Lib.hid hb; clear hb
        go_wp2_with fail
        go_ret
        exact ⟨rfl, below_old B5.out BZ.out⟩
end Go.Proofs.YtlhjneeccjkaoaaDoor
