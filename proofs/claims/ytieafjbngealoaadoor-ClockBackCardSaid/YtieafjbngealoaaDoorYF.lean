/- law07: the walk of ClockBack. -/
import Derived.Test.YtieafjbngealoaaDoorYE
namespace Go.Proofs.YtieafjbngealoaaDoor
open Go.RowKit
set_option linter.unusedVariables false
theorem fm_len (t : Int) : (Ck.fmT t).length ≤ 100 := by
  unfold Ck.fmT
  split
  · rename_i h
    unfold Ck.fmN Ck.two
    have := Lib.nDigits_le20 (t.toNat / 1440) (by omega)
    simp only [List.length_cons, List.length_append, List.length_nil, Lib.decDigits_length]
    omega
  · simp
theorem pc_nil : Ck.pcV [] = 0 ∧ Ck.pcE [] = 5 := by decide +kernel
set_option maxHeartbeats 4000000 in
theorem clockBack_walk (t : Int) (s : ByteArray) (wt : (Lit.int .i64 t).wf = true) (hs9 : (s.size : Int) ≤ 9223372036854775807) (w : World) (ht : TabOk w) : Calls Tryd.prog 11 #[.int .i64 t, .string s] w (LawR w) := by
  have HTAB := Lib.hid ht
  have HB := Lib.hid (Below.refl w.heap.size w)
  clear ht wt
  by_cases h100 : (100 : Int) < (s.size : Int)
  · go_enter Tryd.func11, Tryd.ntmps11
    go_wp2_with fail
    (with_reducible refine (awake_any _ (Lib.hid (HTAB.out.below HB.out))).mono ?_)
    rintro e uz ⟨rfl, hb⟩
    have HB := Lib.hid (below_old HB.out hb)
    clear hb
    go_wp2_with fail
    go_ret
    exact ⟨rfl, HB.out⟩
  by_cases htm : 0 ≤ t ∧ t ≤ 10000000
  · obtain ⟨T, hT⟩ : ∃ T : ByteArray, Ck.fmT t = T.data.toList := ⟨⟨(Ck.fmT t).toArray⟩, rfl⟩
    obtain ⟨p1, p2⟩ := Ck.pc_fm htm.1 htm.2
    have hTs : (T.size : Int) ≤ 9223372036854775807 := by
      have := fm_len t
      rw [hT, list_len] at this
      omega
    rw [hT] at p1 p2
    have HT := Lib.hid hT; have V1 := Lib.hid p2; have X1 := Lib.hid p1
    clear hT p1 p2
    by_cases hx : Ck.pcE s.data.toList = 0
    · obtain ⟨g1, g2, g3⟩ := Ck.fm_pc hx
      obtain ⟨n, hn⟩ : ∃ n, Ck.pcV s.data.toList = n := ⟨_, rfl⟩
      rw [hn] at g1 g2 g3
      have htn : 0 ≤ n ∧ n ≤ 10000000 := ⟨g1, g2⟩
      have PV := Lib.hid hn; have PE := Lib.hid hx; have FMS := Lib.hid g3
      clear hn hx g3
      go_enter Tryd.func11, Tryd.ntmps11
      go_wp2_with fail
      (with_reducible refine (format_eq _ T HT _ (Lib.hid (HTAB.out.below HB.out))).mono ?_)
      rintro e u1 ⟨rfl, hb⟩
      have HB := Lib.hid (below_old HB.out hb)
      clear hb
      go_wp2_with fail
      (with_reducible refine (parse_eq T _ _ V1 X1 _ hTs).mono ?_)
      rintro e u2 ⟨rfl, hb⟩
      have HB := Lib.hid (below_old HB.out hb)
      clear hb
      go_wp2_with fail
      (with_reducible refine (ltm_yes _ htm _).mono ?_)
      rintro e w1 ⟨rfl, rfl⟩
      go_wp2_with fail
      (with_reducible refine (ltm_yes _ htm _).mono ?_)
      rintro e w1 ⟨rfl, rfl⟩
      go_wp2_with fail
      (with_reducible refine (parse_eq s _ _ PV PE _ hs9).mono ?_)
      rintro e u4 ⟨rfl, hb⟩
      have HB := Lib.hid (below_old HB.out hb)
      clear hb
      go_wp2_with fail
      (with_reducible refine (ltm_yes _ htn _).mono ?_)
      rintro e w1 ⟨rfl, rfl⟩
      go_wp2_with fail
      (with_reducible refine (format_eq _ s FMS _ (Lib.hid (HTAB.out.below HB.out))).mono ?_)
      rintro e u5 ⟨rfl, hb⟩
      have HB := Lib.hid (below_old HB.out hb)
      clear hb
      go_wp2_with fail
      (with_reducible refine (awake_any _ (Lib.hid (HTAB.out.below HB.out))).mono ?_)
      rintro e uz ⟨rfl, hb⟩
      have HB := Lib.hid (below_old HB.out hb)
      clear hb
      go_wp2_with fail
      go_ret
      exact ⟨rfl, HB.out⟩
    · obtain ⟨x, hn⟩ : ∃ n, Ck.pcE s.data.toList = n := ⟨_, rfl⟩
      have hv : Ck.pcV s.data.toList = 0 := by unfold Ck.pcV; rw [if_neg hx]
      rw [hn] at hx
      have hx1 : (x != 0) = true := by simpa using hx
      have PV := Lib.hid hv; have PE := Lib.hid hn
      clear hn hv
      go_enter Tryd.func11, Tryd.ntmps11
      go_wp2_with fail
      (with_reducible refine (format_eq _ T HT _ (Lib.hid (HTAB.out.below HB.out))).mono ?_)
      rintro e u1 ⟨rfl, hb⟩
      have HB := Lib.hid (below_old HB.out hb)
      clear hb
      go_wp2_with fail
      (with_reducible refine (parse_eq T _ _ V1 X1 _ hTs).mono ?_)
      rintro e u2 ⟨rfl, hb⟩
      have HB := Lib.hid (below_old HB.out hb)
      clear hb
      go_wp2_with fail
      (with_reducible refine (ltm_yes _ htm _).mono ?_)
      rintro e w1 ⟨rfl, rfl⟩
      go_wp2_with fail
      (with_reducible refine (ltm_yes _ htm _).mono ?_)
      rintro e w1 ⟨rfl, rfl⟩
      go_wp2_with fail
      (with_reducible refine (parse_eq s _ _ PV PE _ hs9).mono ?_)
      rintro e u4 ⟨rfl, hb⟩
      have HB := Lib.hid (below_old HB.out hb)
      clear hb
      go_wp2_with fail
      (with_reducible refine (awake_any _ (Lib.hid (HTAB.out.below HB.out))).mono ?_)
      rintro e uz ⟨rfl, hb⟩
      have HB := Lib.hid (below_old HB.out hb)
      clear hb
      go_wp2_with fail
      go_ret
      exact ⟨rfl, HB.out⟩
  · have HT : Hid (Ck.fmT t = (⟨#[]⟩ : ByteArray).data.toList) := by show _ = _; unfold Ck.fmT; rw [if_neg htm]
    have V1 : Hid (Ck.pcV (⟨#[]⟩ : ByteArray).data.toList = 0) := pc_nil.1
    have X1 : Hid (Ck.pcE (⟨#[]⟩ : ByteArray).data.toList = 5) := pc_nil.2
    have hTs : (((⟨#[]⟩ : ByteArray).size : Nat) : Int) ≤ 9223372036854775807 := by decide
    by_cases hx : Ck.pcE s.data.toList = 0
    · obtain ⟨g1, g2, g3⟩ := Ck.fm_pc hx
      obtain ⟨n, hn⟩ : ∃ n, Ck.pcV s.data.toList = n := ⟨_, rfl⟩
      rw [hn] at g1 g2 g3
      have htn : 0 ≤ n ∧ n ≤ 10000000 := ⟨g1, g2⟩
      have PV := Lib.hid hn; have PE := Lib.hid hx; have FMS := Lib.hid g3
      clear hn hx g3
      go_enter Tryd.func11, Tryd.ntmps11
      go_wp2_with fail
      (with_reducible refine (format_eq _ ⟨#[]⟩ HT _ (Lib.hid (HTAB.out.below HB.out))).mono ?_)
      rintro e u1 ⟨rfl, hb⟩
      have HB := Lib.hid (below_old HB.out hb)
      clear hb
      go_wp2_with fail
      (with_reducible refine (parse_eq ⟨#[]⟩ _ _ V1 X1 _ hTs).mono ?_)
      rintro e u2 ⟨rfl, hb⟩
      have HB := Lib.hid (below_old HB.out hb)
      clear hb
      go_wp2_with fail
      (with_reducible refine (ltm_no _ htm _).mono ?_)
      rintro e w1 ⟨rfl, rfl⟩
      go_wp2_with fail
      (with_reducible refine (ltm_no _ htm _).mono ?_)
      rintro e w1 ⟨rfl, rfl⟩
      go_wp2_with fail
      (with_reducible refine (format_eq _ ⟨#[]⟩ HT _ (Lib.hid (HTAB.out.below HB.out))).mono ?_)
      rintro e u3 ⟨rfl, hb⟩
      have HB := Lib.hid (below_old HB.out hb)
      clear hb
      go_wp2_with fail
      (with_reducible refine (parse_eq s _ _ PV PE _ hs9).mono ?_)
      rintro e u4 ⟨rfl, hb⟩
      have HB := Lib.hid (below_old HB.out hb)
      clear hb
      go_wp2_with fail
      (with_reducible refine (ltm_yes _ htn _).mono ?_)
      rintro e w1 ⟨rfl, rfl⟩
      go_wp2_with fail
      (with_reducible refine (format_eq _ s FMS _ (Lib.hid (HTAB.out.below HB.out))).mono ?_)
      rintro e u5 ⟨rfl, hb⟩
      have HB := Lib.hid (below_old HB.out hb)
      clear hb
      go_wp2_with fail
      (with_reducible refine (awake_any _ (Lib.hid (HTAB.out.below HB.out))).mono ?_)
      rintro e uz ⟨rfl, hb⟩
      have HB := Lib.hid (below_old HB.out hb)
      clear hb
      go_wp2_with fail
      go_ret
      exact ⟨rfl, HB.out⟩
    · obtain ⟨x, hn⟩ : ∃ n, Ck.pcE s.data.toList = n := ⟨_, rfl⟩
      have hv : Ck.pcV s.data.toList = 0 := by unfold Ck.pcV; rw [if_neg hx]
      rw [hn] at hx
      have hx1 : (x != 0) = true := by simpa using hx
      have PV := Lib.hid hv; have PE := Lib.hid hn
      clear hn hv
      go_enter Tryd.func11, Tryd.ntmps11
      go_wp2_with fail
      (with_reducible refine (format_eq _ ⟨#[]⟩ HT _ (Lib.hid (HTAB.out.below HB.out))).mono ?_)
      rintro e u1 ⟨rfl, hb⟩
      have HB := Lib.hid (below_old HB.out hb)
      clear hb
      go_wp2_with fail
      (with_reducible refine (parse_eq ⟨#[]⟩ _ _ V1 X1 _ hTs).mono ?_)
      rintro e u2 ⟨rfl, hb⟩
      have HB := Lib.hid (below_old HB.out hb)
      clear hb
      go_wp2_with fail
      (with_reducible refine (ltm_no _ htm _).mono ?_)
      rintro e w1 ⟨rfl, rfl⟩
      go_wp2_with fail
      (with_reducible refine (ltm_no _ htm _).mono ?_)
      rintro e w1 ⟨rfl, rfl⟩
      go_wp2_with fail
      (with_reducible refine (format_eq _ ⟨#[]⟩ HT _ (Lib.hid (HTAB.out.below HB.out))).mono ?_)
      rintro e u3 ⟨rfl, hb⟩
      have HB := Lib.hid (below_old HB.out hb)
      clear hb
      go_wp2_with fail
      (with_reducible refine (parse_eq s _ _ PV PE _ hs9).mono ?_)
      rintro e u4 ⟨rfl, hb⟩
      have HB := Lib.hid (below_old HB.out hb)
      clear hb
      go_wp2_with fail
      (with_reducible refine (awake_any _ (Lib.hid (HTAB.out.below HB.out))).mono ?_)
      rintro e uz ⟨rfl, hb⟩
      have HB := Lib.hid (below_old HB.out hb)
      clear hb
      go_wp2_with fail
      go_ret
      exact ⟨rfl, HB.out⟩
end Go.Proofs.YtieafjbngealoaaDoor
