/- law58: EventDecodes. -/
import Derived.Test.YtcefmnkfkpoccaaDoorGY
import Derived.Test.YtcefmnkfkpoccaaDoorJ1
namespace Go.Proofs.YtcefmnkfkpoccaaDoor
open Go.RowKit
set_option linter.unusedVariables false
open Wi Evn
set_option maxRecDepth 100000 in
set_option maxHeartbeats 16000000 in
theorem eventDecodes_walk (s : ByteArray) (hl : (s.size : Int) ≤ 9223372036854775807) (w : World) (HT : Hid (TabOk w)) :
    Calls Tryd.prog 5 #[.string s] w fun r w' => r = .returned (.bool true) ∧ Below w.heap.size w w' := by
  by_cases hb : (20000 : Int) < (s.size : Int)
  · go_enter Tryd.func5, Tryd.ntmps5
    go_wp2_with fail
    (with_reducible refine (awake58 _ HT).mono ?_)
    rintro r w2 ⟨rfl, hb⟩
    have HB2 := Lib.hid hb
    clear hb
    go_wp2_with fail
    go_ret
    exact ⟨rfl, HB2.out⟩
  have hs : (s.size : Int) ≤ 1000000 := by omega
  obtain ⟨e, x, hd⟩ := dcA_ex s
  have HD := Lib.hid hd
  have HO := Lib.hid hd.ok
  clear hd
  have HAA : Hid (samB e e = true) := (samB_iff e e).2 rfl
  have qx : (x == x) = true := by simp
  go_enter Tryd.func5, Tryd.ntmps5
  go_wp2_with fail
  (with_reducible refine (decode_is s hs e x HD _).mono ?_)
  rintro r w1 hd
  obtain ⟨A, c, rfl, hR, hb1⟩ := dcr_open hd
  have hal := bel_al w1 (.cells #[.int .i64 e.ki, .int .i64 e.ti, .string e.it, .string e.of_, .slice A e.nn.length c, .string e.tx] 24)
  have HB1 := Lib.hid (below_old hb1 hal)
  have HX1 : Hid (EBox (w1.alloc (.cells #[.int .i64 e.ki, .int .i64 e.ti, .string e.it, .string e.of_, .slice A e.nn.length c, .string e.tx] 24)) w1.heap.size e A c) := Blk.new _ _ _
  have HS1 := Lib.hid (hR.below hal)
  clear hd hR hb1 hal
  go_wp2_with fail
  (with_reducible refine (rdecode_is s hs e x HD _).mono ?_)
  rintro r w2 hd
  obtain ⟨B, d, rfl, hR, hb2⟩ := dcr_open hd
  have hal := bel_al w2 (.cells #[.int .i64 e.ki, .int .i64 e.ti, .string e.it, .string e.of_, .slice B e.nn.length d, .string e.tx] 24)
  have HB2 := Lib.hid (below_old (below_old HB1.out hb2) hal)
  have HX2 := Lib.hid (ebox_fn (ebox_fn HX1.out hb2) hal)
  have HS2 := Lib.hid ((HS1.out.below hb2).below hal)
  have HR2 := Lib.hid (hR.below hal)
  have HT2 := Lib.hid (TabOk.below HT.out HB2.out)
  clear hd hR hb2 hal HB1 HX1 HS1
  obtain ⟨p0, p1, p2, p3, p4, p5⟩ := HX2.out.cells
  go_wp2_with fail
  (with_reducible refine (rsame_any e e A B c d true HAA HO HO _ HS2 HR2).mono ?_)
  rintro r w3 ⟨rfl, hb3⟩
  have HB3 := Lib.hid (below_old HB2.out hb3)
  have HX3 := Lib.hid (ebox_fn HX2.out hb3)
  have HS3 := Lib.hid (HS2.out.below hb3)
  have HT3 := Lib.hid (TabOk.below HT2.out hb3)
  clear hb3 HB2 HX2 HS2 HT2 HR2 p0 p1 p2 p3 p4 p5
  by_cases h0 : x = 0
  · subst h0
    have hk : chk e = 0 ∧ recS e = s := by
      rcases HD.out with ⟨_, a, b⟩ | ⟨a, _⟩
      · exact ⟨a, b⟩
      · omega
    have HK := Lib.hid hk.1
    have hE : encS e = s := (encS_ok hk.1).trans hk.2
    have HN1 : Hid (∀ w, Hid (SlR w A (i64c e.nn)) → Calls Tryd.prog 15 #[agE e A c] w fun r w' => r = .returned (.tuple #[.string s, .int .i64 0]) ∧ Below w.heap.size w w') := fun w h => by rw [← hE]; exact encode_any e A c HO 0 HK w h
    have qN := seq_t (rfl : s = s)
    clear hk hE
    obtain ⟨p0, p1, p2, p3, p4, p5⟩ := HX3.out.cells
    go_wp2_with fail
    (with_reducible refine (HN1.out _ HS3).mono ?_)
    rintro r w4 ⟨rfl, hb4⟩
    have HB4 := Lib.hid (below_old HB3.out hb4)
    have HT4 := Lib.hid (TabOk.below HT3.out hb4)
    clear hb4 p0 p1 p2 p3 p4 p5
    go_wp2_with fail
    (with_reducible refine (awake58 _ HT4).mono ?_)
    rintro r w5 ⟨rfl, hb5⟩
    have HB5 := Lib.hid (below_old HB4.out hb5)
    clear hb5
    go_wp2_with fail
    go_ret
    exact ⟨rfl, HB5.out⟩
  · have q : (x == 0) = false := by simpa using h0
    have q2 : (x != 0) = true := by simpa using h0
    clear h0
    go_wp2_with fail
    (with_reducible refine (awake58 _ HT3).mono ?_)
    rintro r w4 ⟨rfl, hb4⟩
    have HB4 := Lib.hid (below_old HB3.out hb4)
    clear hb4
    go_wp2_with fail
    go_ret
    exact ⟨rfl, HB4.out⟩
end Go.Proofs.YtcefmnkfkpoccaaDoor
