/- The laws that compare ident with its reference: walks. -/
import Derived.Test.YtlhjneeccjkaoaaDoorC4
namespace Go.Proofs.YtlhjneeccjkaoaaDoor
open Go.RowKit
set_option linter.unusedVariables false

set_option maxHeartbeats 2000000 in
theorem identNames_walk (s : ByteArray) (w : World) (ht : TabOk w) : Calls Tryd.prog 3 #[.string s] w fun e w' => e = .returned (.bool true) ∧ Below w.heap.size w w' := by
  by_cases hlen : (2000 : Int) < (s.size : Int)
  · have HT := Lib.hid ht; clear ht
    go_enter Tryd.func3, Tryd.ntmps3
    go_wp2_with fail
    (with_reducible refine (awake02 _ (HT.out)).mono ?_)
    rintro e wz ⟨rfl, hb⟩
    have BZ := Lib.hid hb; clear hb
    go_wp2_with fail
    go_ret
    exact ⟨rfl, BZ.out⟩
  · have HT := Lib.hid ht; clear ht
    have C1 := Lib.hid (fun W => isName_any s (by omega) W)
    have C2 := Lib.hid (fun W => risName_any s (by omega) W)
    go_enter Tryd.func3, Tryd.ntmps3
    go_wp2_with fail
    (with_reducible refine (C1.out _).mono ?_)
    rintro e w1 ⟨rfl, rfl⟩
    go_wp2_with fail
    (with_reducible refine (C2.out _).mono ?_)
    rintro e w1 ⟨rfl, rfl⟩
    go_wp2_with fail
    (with_reducible refine (awake02 _ (HT.out)).mono ?_)
    rintro e wz ⟨rfl, hb⟩
    have BZ := Lib.hid hb; clear hb
    go_wp2_with fail
    go_ret
    exact ⟨rfl, BZ.out⟩
set_option maxHeartbeats 2000000 in
theorem identLetters_walk (s : ByteArray) (w : World) (ht : TabOk w) : Calls Tryd.prog 4 #[.string s] w fun e w' => e = .returned (.bool true) ∧ Below w.heap.size w w' := by
  by_cases hlen : (4000 : Int) < (s.size : Int)
  · have HT := Lib.hid ht; clear ht
    go_enter Tryd.func4, Tryd.ntmps4
    go_wp2_with fail
    (with_reducible refine (awake02 _ (HT.out)).mono ?_)
    rintro e wz ⟨rfl, hb⟩
    have BZ := Lib.hid hb; clear hb
    go_wp2_with fail
    go_ret
    exact ⟨rfl, BZ.out⟩
  · have HT := Lib.hid ht; clear ht
    have C1 := Lib.hid (fun W => letter_any s (by omega) W)
    have C2 := Lib.hid (fun W => rletter_any s (by omega) W)
    go_enter Tryd.func4, Tryd.ntmps4
    go_wp2_with fail
    (with_reducible refine (C1.out _).mono ?_)
    rintro e w1 ⟨rfl, rfl⟩
    go_wp2_with fail
    (with_reducible refine (C2.out _).mono ?_)
    rintro e w1 ⟨rfl, rfl⟩
    go_wp2_with fail
    (with_reducible refine (awake02 _ (HT.out)).mono ?_)
    rintro e wz ⟨rfl, hb⟩
    have BZ := Lib.hid hb; clear hb
    go_wp2_with fail
    go_ret
    exact ⟨rfl, BZ.out⟩

set_option maxHeartbeats 2000000 in
theorem identCodes_walk (k n : Int) (w : World) (ht : TabOk w) : Calls Tryd.prog 5 #[.int .u8 k, .int .i64 n] w fun e w' => e = .returned (.bool true) ∧ Below w.heap.size w w' := by
  have C1 := Lib.hid (fun W hT => code_any k n W hT)
  have C2 := Lib.hid (fun W => rcode_any k n W)
  have HT := Lib.hid ht; clear ht
  generalize codT k n = t at *
  generalize codB k n = x at *
  go_enter Tryd.func5, Tryd.ntmps5
  go_wp2_with fail
  (with_reducible refine (C1.out _ HT.out).mono ?_)
  rintro e w1 ⟨rfl, hb⟩
  have B1 := Lib.hid (hb); clear hb
  go_wp2_with fail
  (with_reducible refine (C2.out _).mono ?_)
  rintro e w2 ⟨rfl, hb⟩
  have B2 := Lib.hid (below_old B1.out hb); clear hb
  go_wp2_with fail
  (with_reducible refine (awake02 _ (HT.out.below B2.out)).mono ?_)
  rintro e wz ⟨rfl, hb⟩
  have BZ := Lib.hid hb; clear hb
  go_wp2_with fail
  go_ret
  exact ⟨rfl, below_old B2.out BZ.out⟩

set_option maxHeartbeats 2000000 in
theorem identNexts_walk (s : ByteArray) (w : World) (ht : TabOk w) : Calls Tryd.prog 7 #[.string s] w fun e w' => e = .returned (.bool true) ∧ Below w.heap.size w w' := by
  by_cases hlen : (2000 : Int) < (s.size : Int)
  · have HT := Lib.hid ht; clear ht
    go_enter Tryd.func7, Tryd.ntmps7
    go_wp2_with fail
    (with_reducible refine (awake02 _ (HT.out)).mono ?_)
    rintro e wz ⟨rfl, hb⟩
    have BZ := Lib.hid hb; clear hb
    go_wp2_with fail
    go_ret
    exact ⟨rfl, BZ.out⟩
  · have C1 := Lib.hid (fun W hT => next_any s (by omega) W hT)
    have C2 := Lib.hid (fun W hT => rnext_any s (by omega) W hT)
    have HT := Lib.hid ht; clear ht
    generalize nxT s = t at *
    generalize nxB s = x at *
    go_enter Tryd.func7, Tryd.ntmps7
    go_wp2_with fail
    (with_reducible refine (C1.out _ HT.out).mono ?_)
    rintro e w1 ⟨rfl, hb⟩
    have B1 := Lib.hid (hb); clear hb
    go_wp2_with fail
    (with_reducible refine (C2.out _ (HT.out.below B1.out)).mono ?_)
    rintro e w2 ⟨rfl, hb⟩
    have B2 := Lib.hid (below_old B1.out hb); clear hb
    go_wp2_with fail
    (with_reducible refine (awake02 _ (HT.out.below B2.out)).mono ?_)
    rintro e wz ⟨rfl, hb⟩
    have BZ := Lib.hid hb; clear hb
    go_wp2_with fail
    go_ret
    exact ⟨rfl, below_old B2.out BZ.out⟩

set_option maxHeartbeats 2000000 in
theorem identSplits_walk (s : ByteArray) (c : Int) (w : World) (ht : TabOk w) : Calls Tryd.prog 6 #[.string s, .int .u8 c] w fun e w' => e = .returned (.bool true) ∧ Below w.heap.size w w' := by
  by_cases hlen : (2000 : Int) < (s.size : Int)
  · have HT := Lib.hid ht; clear ht
    go_enter Tryd.func6, Tryd.ntmps6
    go_wp2_with fail
    (with_reducible refine (awake02 _ (HT.out)).mono ?_)
    rintro e wz ⟨rfl, hb⟩
    have BZ := Lib.hid hb; clear hb
    go_wp2_with fail
    go_ret
    exact ⟨rfl, BZ.out⟩
  · have C1 := Lib.hid (fun W => split02 s (by omega) W)
    have C2 := Lib.hid (fun W => rsplit02B s (by omega) W)
    have C3 := Lib.hid (fun W => is_any s (by omega) c W)
    have C4 := Lib.hid (fun W => ris_any s (by omega) c W)
    have HT := Lib.hid ht; clear ht
    generalize spK s = x1 at *
    generalize spN s = x2 at *
    generalize spE s = x3 at *
    generalize isB s c = x4 at *
    go_enter Tryd.func6, Tryd.ntmps6
    go_wp2_with fail
    (with_reducible refine (C1.out _).mono ?_)
    rintro e w1 ⟨rfl, hb⟩
    have B1 := Lib.hid (hb); clear hb
    go_wp2_with fail
    (with_reducible refine (C2.out _).mono ?_)
    rintro e w2 ⟨rfl, hb⟩
    have B2 := Lib.hid (below_old B1.out hb); clear hb
    go_wp2_with fail
    (with_reducible refine (C3.out _).mono ?_)
    rintro e w3 ⟨rfl, hb⟩
    have B3 := Lib.hid (below_old B2.out hb); clear hb
    go_wp2_with fail
    (with_reducible refine (C4.out _).mono ?_)
    rintro e w4 ⟨rfl, hb⟩
    have B4 := Lib.hid (below_old B3.out hb); clear hb
    go_wp2_with fail
    (with_reducible refine (awake02 _ (HT.out.below B4.out)).mono ?_)
    rintro e wz ⟨rfl, hb⟩
    have BZ := Lib.hid hb; clear hb
    go_wp2_with fail
    go_ret
    exact ⟨rfl, below_old B4.out BZ.out⟩
end Go.Proofs.YtlhjneeccjkaoaaDoor
