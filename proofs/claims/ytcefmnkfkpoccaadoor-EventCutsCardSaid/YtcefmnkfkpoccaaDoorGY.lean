/- law58: EventChecks. -/
import Derived.Test.YtcefmnkfkpoccaaDoorMC
namespace Go.Proofs.YtcefmnkfkpoccaaDoor
open Go.RowKit
set_option linter.unusedVariables false
open Wi Evn
/-- The bounds that every event argument keeps. -/
structure EvIn (e : Ev) : Prop where
  ki : I64 e.ki
  ti : I64 e.ti
  it : (e.it.size : Int) ≤ 9223372036854775807
  of_ : (e.of_.size : Int) ≤ 9223372036854775807
  tx : (e.tx.size : Int) ≤ 9223372036854775807
  nl : (e.nn.length : Int) ≤ 9223372036854775807
  nn : ∀ x ∈ e.nn, I64 x
theorem EvIn.ok {e : Ev} (h : EvIn e) (hf : fewB e = true) : EvOk e := by
  have := fewB_iff.1 hf
  exact ⟨h.ki, h.ti, by omega, by omega, by omega, by omega, h.nn⟩
theorem ebox_fn {w : World} {e : Ev} {A : Option Addr} {c : Nat} {g : Nat} (h : EBox w g e A c) {w' : World} (hb : Below w.heap.size w w') : EBox w' g e A c := Blk.below h hb
set_option maxRecDepth 100000 in
set_option maxHeartbeats 16000000 in
theorem eventChecks_walk (e : Ev) (A : Option Addr) (c : Nat) (k : Int) (HI : Hid (EvIn e)) (w : World) (HS : Hid (SlR w A (i64c e.nn))) (HT : Hid (TabOk w)) :
    Calls Tryd.prog 3 #[agE e A c, .int .i64 k] w fun r w' => r = .returned (.bool true) ∧ Below w.heap.size w w' := by
  have HW := Lib.hid (bel_al w (.cells #[.int .i64 e.ki, .int .i64 e.ti, .string e.it, .string e.of_, .slice A e.nn.length c, .string e.tx] 24))
  have HX : Hid (EBox (w.alloc (.cells #[.int .i64 e.ki, .int .i64 e.ti, .string e.it, .string e.of_, .slice A e.nn.length c, .string e.tx] 24)) w.heap.size e A c) := Blk.new _ _ _
  obtain ⟨f, hf⟩ : ∃ f, fewB e = f := ⟨_, rfl⟩
  have HF := Lib.hid hf
  clear hf
  go_enter Tryd.func3, Tryd.ntmps3
  go_wp2_with fail
  (with_reducible refine (few_any e A c HI.out.nl HI.out.it HI.out.of_ HI.out.tx f HF _).mono ?_)
  rintro r w1 ⟨rfl, hb⟩
  have HB1 := Lib.hid (below_old HW.out hb)
  have HX1 := Lib.hid (ebox_fn HX.out hb)
  clear hb HW HX
  have HS1 := Lib.hid (HS.out.below HB1.out)
  have HT1 := Lib.hid (TabOk.below HT.out HB1.out)
  cases f with
  | false =>
    go_wp2_with fail
    (with_reducible refine (awake58 _ HT1).mono ?_)
    rintro r w2 ⟨rfl, hb⟩
    have HB2 := Lib.hid (below_old HB1.out hb)
    clear hb
    go_wp2_with fail
    go_ret
    exact ⟨rfl, HB2.out⟩
  | true =>
    have HO := Lib.hid (HI.out.ok HF.out)
    obtain ⟨x, hx⟩ : ∃ x, chk e = x := ⟨_, rfl⟩
    have HK := Lib.hid hx
    clear hx
    obtain ⟨N, hN⟩ : ∃ N, nmS k = N := ⟨_, rfl⟩
    have HN1 : Hid (∀ w, Calls Tryd.prog 13 #[.int .i64 k] w fun e w' => e = .returned (.string N) ∧ Below w.heap.size w w') := fun w => by rw [← hN]; exact name_any k w
    have HN2 : Hid (∀ w, Calls Tryd.prog 14 #[.int .i64 k] w fun e w' => e = .returned (.string N) ∧ Below w.heap.size w w') := fun w => by rw [← hN]; exact rname_any k w
    clear hN
    have qx : (x == x) = true := by simp
    have qN := seq_t (rfl : N = N)
    go_wp2_with fail
    have y0 := fun u => (ebox_fn HX1.out (wx_below w1 u)).cells
    refine wp_region_grows (by kernel_rfl) (by kernel_rfl) ?_
    repeat (go_big_quiet_step ((first
      | (go_at_call 11; (with_reducible exact calls_grows (check_any e A c HO x HK _ (Lib.hid (HS1.out.below (wx_below w1 _))))))
      | (go_at_call 12; (with_reducible exact calls_grows (rcheck_any e A c HO x HK _ (Lib.hid (HS1.out.below (wx_below w1 _))))))
      | (go_at_call 13; (with_reducible exact calls_grows (HN1.out _)))
      | (go_at_call 14; (with_reducible exact calls_grows (HN2.out _)))
      | (go_at_call 10; (with_reducible exact calls_grows (awake58 _ (Lib.hid (TabOk.below HT1.out (wx_below w1 _)))))))))
    refine wpQuiet_nil ?_
    rintro _ ⟨u, rfl⟩
    have HB2 := Lib.hid (below_old HB1.out (wx_below w1 u))
    clear y0
    generalize wx w1 u = w2 at *
    go_wp2_with fail
    go_ret
    exact ⟨rfl, HB2.out⟩
end Go.Proofs.YtcefmnkfkpoccaaDoor
