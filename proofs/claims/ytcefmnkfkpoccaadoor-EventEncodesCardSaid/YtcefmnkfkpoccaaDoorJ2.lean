/- law58: EventEncodes. -/
import Derived.Test.YtcefmnkfkpoccaaDoorGY
import Derived.Test.YtcefmnkfkpoccaaDoorJ1
namespace Go.Proofs.YtcefmnkfkpoccaaDoor
open Go.RowKit
set_option linter.unusedVariables false
open Wi Evn
set_option maxRecDepth 100000 in
set_option maxHeartbeats 16000000 in
theorem eventEncodes_walk (e : Ev) (A : Option Addr) (c : Nat) (HI : Hid (EvIn e)) (w : World) (HS : Hid (SlR w A (i64c e.nn))) (HT : Hid (TabOk w)) :
    Calls Tryd.prog 4 #[agE e A c] w fun r w' => r = .returned (.bool true) ∧ Below w.heap.size w w' := by
  have HW := Lib.hid (bel_al w (.cells #[.int .i64 e.ki, .int .i64 e.ti, .string e.it, .string e.of_, .slice A e.nn.length c, .string e.tx] 24))
  have HX : Hid (EBox (w.alloc (.cells #[.int .i64 e.ki, .int .i64 e.ti, .string e.it, .string e.of_, .slice A e.nn.length c, .string e.tx] 24)) w.heap.size e A c) := Blk.new _ _ _
  obtain ⟨f, hf⟩ : ∃ f, fewB e = f := ⟨_, rfl⟩
  have HF := Lib.hid hf
  clear hf
  go_enter Tryd.func4, Tryd.ntmps4
  go_wp2_with fail
  (with_reducible refine (few_any e A c HI.out.nl HI.out.it HI.out.of_ HI.out.tx f HF _).mono ?_)
  rintro r w1 ⟨rfl, hb⟩
  have HB1 := Lib.hid (below_old HW.out hb)
  have HX1 := Lib.hid (ebox_fn HX.out hb)
  clear hb HW HX
  have HS1 := Lib.hid (HS.out.below HB1.out)
  have HT1 := Lib.hid (TabOk.below HT.out HB1.out)
  cases f with
  | false =>
    go_wp2_with fail
    (with_reducible refine (awake58 _ HT1).mono ?_)
    rintro r w2 ⟨rfl, hb⟩
    have HB2 := Lib.hid (below_old HB1.out hb)
    clear hb
    go_wp2_with fail
    go_ret
    exact ⟨rfl, HB2.out⟩
  | true =>
    have HO := Lib.hid (HI.out.ok HF.out)
    obtain ⟨x, hx⟩ : ∃ x, chk e = x := ⟨_, rfl⟩
    have HK := Lib.hid hx
    clear hx
    obtain ⟨N, hN⟩ : ∃ N, encS e = N := ⟨_, rfl⟩
    have HN1 : Hid (∀ w, Hid (SlR w A (i64c e.nn)) → Calls Tryd.prog 15 #[agE e A c] w fun r w' => r = .returned (.tuple #[.string N, .int .i64 x]) ∧ Below w.heap.size w w') := fun w h => by rw [← hN]; exact encode_any e A c HO x HK w h
    have HN2 : Hid (∀ w, Hid (SlR w A (i64c e.nn)) → Calls Tryd.prog 16 #[agE e A c] w fun r w' => r = .returned (.tuple #[.string N, .int .i64 x]) ∧ Below w.heap.size w w') := fun w h => by rw [← hN]; exact rencode_any e A c HO x HK w h
    have HE := Lib.hid hN
    clear hN
    have qx : (x == x) = true := by simp
    have qN := seq_t (rfl : N = N)
    obtain ⟨p0, p1, p2, p3, p4, p5⟩ := HX1.out.cells
    go_wp2_with fail
    (with_reducible refine (HN1.out _ HS1).mono ?_)
    rintro r w2 ⟨rfl, hb⟩
    have HB2 := Lib.hid (below_old HB1.out hb)
    have HX2 := Lib.hid (ebox_fn HX1.out hb)
    have HS2 := Lib.hid (HS1.out.below hb)
    have HT2 := Lib.hid (TabOk.below HT1.out hb)
    clear hb HB1 HX1 HS1 HT1 p0 p1 p2 p3 p4 p5
    obtain ⟨p0, p1, p2, p3, p4, p5⟩ := HX2.out.cells
    go_wp2_with fail
    (with_reducible refine (HN2.out _ HS2).mono ?_)
    rintro r w3 ⟨rfl, hb⟩
    have HB3 := Lib.hid (below_old HB2.out hb)
    have HX3 := Lib.hid (ebox_fn HX2.out hb)
    have HS3 := Lib.hid (HS2.out.below hb)
    have HT3 := Lib.hid (TabOk.below HT2.out hb)
    clear hb HB2 HX2 HS2 HT2 p0 p1 p2 p3 p4 p5
    by_cases h0 : x = 0
    · subst h0
      have HD : Hid (DcA N e 0) := .inl ⟨rfl, HK.out, by rw [← HE.out]; exact (encS_ok HK.out).symm⟩
      have hs : (N.size : Int) ≤ 1000000 := by
        have h1 := rec_size (can_of HK.out)
        have h2 : recS e = N := by rw [← HE.out]; exact (encS_ok HK.out).symm
        rw [h2] at h1
        omega
      go_wp2_with fail
      (with_reducible refine (decode_is N hs e 0 HD _).mono ?_)
      rintro r w4 hd
      obtain ⟨B, d, rfl, hR, hb⟩ := dcr_open hd
      have HB4 := Lib.hid (below_old HB3.out hb)
      have HX4 := Lib.hid (ebox_fn HX3.out hb)
      have HS4 := Lib.hid (HS3.out.below hb)
      have HT4 := Lib.hid (TabOk.below HT3.out hb)
      clear hb HB3 HX3 HS3 HT3 hd
      have HB5 := Lib.hid (below_old HB4.out (bel_al w4 (.cells #[.int .i64 e.ki, .int .i64 e.ti, .string e.it, .string e.of_, .slice B e.nn.length d, .string e.tx] 24)))
      have HX5 := Lib.hid (ebox_fn HX4.out (bel_al w4 (.cells #[.int .i64 e.ki, .int .i64 e.ti, .string e.it, .string e.of_, .slice B e.nn.length d, .string e.tx] 24)))
      have HS5 := Lib.hid (HS4.out.below (bel_al w4 (.cells #[.int .i64 e.ki, .int .i64 e.ti, .string e.it, .string e.of_, .slice B e.nn.length d, .string e.tx] 24)))
      have HR5 := Lib.hid (hR.below (bel_al w4 (.cells #[.int .i64 e.ki, .int .i64 e.ti, .string e.it, .string e.of_, .slice B e.nn.length d, .string e.tx] 24)))
      have HT5 := Lib.hid (TabOk.below HT4.out (bel_al w4 (.cells #[.int .i64 e.ki, .int .i64 e.ti, .string e.it, .string e.of_, .slice B e.nn.length d, .string e.tx] 24)))
      have HAA : Hid (samB e e = true) := (samB_iff e e).2 rfl
      clear hR HB4 HX4 HS4 HT4
      obtain ⟨p0, p1, p2, p3, p4, p5⟩ := HX5.out.cells
      go_wp2_with fail
      (with_reducible refine (rsame_any e e B A d c true HAA HO HO _ HR5 HS5).mono ?_)
      rintro r w6 ⟨rfl, hb⟩
      have HB6 := Lib.hid (below_old HB5.out hb)
      have HT6 := Lib.hid (TabOk.below HT5.out hb)
      clear hb p0 p1 p2 p3 p4 p5
      go_wp2_with fail
      (with_reducible refine (awake58 _ HT6).mono ?_)
      rintro r w7 ⟨rfl, hb⟩
      have HB7 := Lib.hid (below_old HB6.out hb)
      clear hb
      go_wp2_with fail
      go_ret
      exact ⟨rfl, HB7.out⟩
    · have q : (x == 0) = false := by simpa using h0
      have q2 : (x != 0) = true := by simpa using h0
      clear h0
      go_wp2_with fail
      (with_reducible refine (awake58 _ HT3).mono ?_)
      rintro r w4 ⟨rfl, hb⟩
      have HB4 := Lib.hid (below_old HB3.out hb)
      clear hb
      go_wp2_with fail
      go_ret
      exact ⟨rfl, HB4.out⟩
end Go.Proofs.YtcefmnkfkpoccaaDoor
