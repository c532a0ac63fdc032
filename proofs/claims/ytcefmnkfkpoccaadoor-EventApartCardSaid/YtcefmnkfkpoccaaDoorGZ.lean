/- law58: EventLines. -/
import Derived.Test.YtcefmnkfkpoccaaDoorGY
namespace Go.Proofs.YtcefmnkfkpoccaaDoor
open Go.RowKit
set_option linter.unusedVariables false
open Wi Evn
set_option maxRecDepth 100000 in
set_option maxHeartbeats 16000000 in
theorem eventLines_walk (a b : Ev) (A B : Option Addr) (c d : Nat) (HI : Hid (EvIn a)) (HJ : Hid (EvIn b)) (w : World) (HS : Hid (SlR w A (i64c a.nn))) (HR : Hid (SlR w B (i64c b.nn))) (HT : Hid (TabOk w)) :
    Calls Tryd.prog 6 #[agE a A c, agE b B d] w fun r w' => r = .returned (.bool true) ∧ Below w.heap.size w w' := by
  have HW := Lib.hid (two_bel w (.cells #[.int .i64 a.ki, .int .i64 a.ti, .string a.it, .string a.of_, .slice A a.nn.length c, .string a.tx] 24) (.cells #[.int .i64 b.ki, .int .i64 b.ti, .string b.it, .string b.of_, .slice B b.nn.length d, .string b.tx] 24))
  have HX : Hid (EBox ((w.alloc (.cells #[.int .i64 a.ki, .int .i64 a.ti, .string a.it, .string a.of_, .slice A a.nn.length c, .string a.tx] 24)).alloc (.cells #[.int .i64 b.ki, .int .i64 b.ti, .string b.it, .string b.of_, .slice B b.nn.length d, .string b.tx] 24)) w.heap.size a A c) := (Blk.new w _ _).below ((Below.refl _ _).alloc (Nat.le_refl _) _)
  have HY : Hid (EBox ((w.alloc (.cells #[.int .i64 a.ki, .int .i64 a.ti, .string a.it, .string a.of_, .slice A a.nn.length c, .string a.tx] 24)).alloc (.cells #[.int .i64 b.ki, .int .i64 b.ti, .string b.it, .string b.of_, .slice B b.nn.length d, .string b.tx] 24)) (w.heap.size + 1) b B d) := two_box w _ _
  obtain ⟨f, hf⟩ : ∃ f, fewB a = f := ⟨_, rfl⟩
  have HF := Lib.hid hf
  clear hf
  obtain ⟨g, hg⟩ : ∃ g, fewB b = g := ⟨_, rfl⟩
  have HG := Lib.hid hg
  clear hg
  go_enter Tryd.func6, Tryd.ntmps6
  obtain ⟨p0, p1, p2, p3, p4, p5⟩ := HX.out.cells
  go_wp2_with fail
  (with_reducible refine (few_any a A c HI.out.nl HI.out.it HI.out.of_ HI.out.tx f HF _).mono ?_)
  rintro r w1 ⟨rfl, hb⟩
  have HB1 := Lib.hid (below_old HW.out hb)
  have HX1 := Lib.hid (ebox_fn HX.out hb)
  have HY1 := Lib.hid (ebox_fn HY.out hb)
  clear hb HW HX HY p0 p1 p2 p3 p4 p5
  have HT1 := Lib.hid (TabOk.below HT.out HB1.out)
  cases f with
  | false =>
    go_wp2_with fail
    (with_reducible refine (awake58 _ HT1).mono ?_)
    rintro r w2 ⟨rfl, hb⟩
    have HB2 := Lib.hid (below_old HB1.out hb)
    clear hb
    go_wp2_with fail
    go_ret
    exact ⟨rfl, HB2.out⟩
  | true =>
    obtain ⟨p0, p1, p2, p3, p4, p5⟩ := HY1.out.cells
    go_wp2_with fail
    (with_reducible refine (few_any b B d HJ.out.nl HJ.out.it HJ.out.of_ HJ.out.tx g HG _).mono ?_)
    rintro r w2 ⟨rfl, hb⟩
    have HB2 := Lib.hid (below_old HB1.out hb)
    have HX2 := Lib.hid (ebox_fn HX1.out hb)
    have HY2 := Lib.hid (ebox_fn HY1.out hb)
    have HT2 := Lib.hid (TabOk.below HT1.out hb)
    clear hb HX1 HY1 HB1 HT1 p0 p1 p2 p3 p4 p5
    cases g with
    | false =>
      go_wp2_with fail
      (with_reducible refine (awake58 _ HT2).mono ?_)
      rintro r w3 ⟨rfl, hb⟩
      have HB3 := Lib.hid (below_old HB2.out hb)
      clear hb
      go_wp2_with fail
      go_ret
      exact ⟨rfl, HB3.out⟩
    | true =>
      have HO := Lib.hid (HI.out.ok HF.out)
      have HP := Lib.hid (HJ.out.ok HG.out)
      have HS2 := Lib.hid (HS.out.below HB2.out)
      have HR2 := Lib.hid (HR.out.below HB2.out)
      obtain ⟨x, hx⟩ : ∃ x, samB a b = x := ⟨_, rfl⟩
      have HK := Lib.hid hx
      clear hx
      have HAA : Hid (samB a a = true) := (samB_iff a a).2 rfl
      obtain ⟨N, hN⟩ : ∃ N, linS a = N := ⟨_, rfl⟩
      have HN1 : Hid (∀ w, Hid (SlR w A (i64c a.nn)) → Hid (TabOk w) → Calls Tryd.prog 20 #[agE a A c] w fun e w' => e = .returned (.string N) ∧ Below w.heap.size w w') := fun w h t => by rw [← hN]; exact line_any a A c HO w h t
      have HN2 : Hid (∀ w, Hid (SlR w A (i64c a.nn)) → Calls Tryd.prog 21 #[agE a A c] w fun e w' => e = .returned (.string N) ∧ Below w.heap.size w w') := fun w h => by rw [← hN]; exact rline_any a A c HO w h
      clear hN
      have qx : (x == x) = true := by simp
      have qN := seq_t (rfl : N = N)
      go_wp2_with fail
      have y0 := fun u => (ebox_fn HX2.out (wx_below w2 u)).cells
      have y1 := fun u => (ebox_fn HY2.out (wx_below w2 u)).cells
      refine wp_region_grows (by kernel_rfl) (by kernel_rfl) ?_
      repeat (go_big_quiet_step ((first
        | (go_at_call 20; (with_reducible exact calls_grows (HN1.out _ (Lib.hid (HS2.out.below (wx_below w2 _))) (Lib.hid (TabOk.below HT2.out (wx_below w2 _))))))
        | (go_at_call 21; (with_reducible exact calls_grows (HN2.out _ (Lib.hid (HS2.out.below (wx_below w2 _))))))
        | (go_at_call 22; (with_reducible exact calls_grows (same_any a b A B c d x HK HO HP _ (Lib.hid (HS2.out.below (wx_below w2 _))) (Lib.hid (HR2.out.below (wx_below w2 _))))))
        | (go_at_call 22; (with_reducible exact calls_grows (same_any a a A A c c true HAA HO HO _ (Lib.hid (HS2.out.below (wx_below w2 _))) (Lib.hid (HS2.out.below (wx_below w2 _))))))
        | (go_at_call 18; (with_reducible exact calls_grows (rsame_any a b A B c d x HK HO HP _ (Lib.hid (HS2.out.below (wx_below w2 _))) (Lib.hid (HR2.out.below (wx_below w2 _))))))
        | (go_at_call 10; (with_reducible exact calls_grows (awake58 _ (Lib.hid (TabOk.below HT2.out (wx_below w2 _)))))))))
      refine wpQuiet_nil ?_
      rintro _ ⟨u, rfl⟩
      have HB3 := Lib.hid (below_old HB2.out (wx_below w2 u))
      clear y0 y1
      generalize wx w2 u = w3 at *
      go_wp2_with fail
      go_ret
      exact ⟨rfl, HB3.out⟩
end Go.Proofs.YtcefmnkfkpoccaaDoor
