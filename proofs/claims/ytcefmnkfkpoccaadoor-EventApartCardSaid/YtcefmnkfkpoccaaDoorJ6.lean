/- law58: EventApart. -/
import Derived.Test.YtcefmnkfkpoccaaDoorGZ
import Derived.Test.YtcefmnkfkpoccaaDoorJ1
import Derived.Test.YtcefmnkfkpoccaaDoorJ4
namespace Go.Proofs.YtcefmnkfkpoccaaDoor
open Go.RowKit
set_option linter.unusedVariables false
open Wi Evn
theorem eq_bool {N M : ByteArray} {p : Prop} {z : Bool} (h : N = M ↔ p) (hz : z = true ↔ p) : (N.toList == M.toList) = z := by
  cases z with
  | true => exact seq_t (h.2 (hz.1 rfl))
  | false => exact seq_f fun e => by have := hz.2 (h.1 e); cases this
theorem byte_at {X : ByteArray} {n : Nat} {b : UInt8} (h : (bl X)[n]? = some b) (hn : n < X.size) : X[n]'hn = b := by
  obtain ⟨h1, h2⟩ := List.getElem?_eq_some_iff.1 h
  exact h2
theorem last_ten (l : List UInt8) : (lb (l ++ [10])).size = l.length + 1 ∧ (bl (lb (l ++ [10])))[l.length]? = some 10 := by
  refine ⟨by rw [lb_size]; simp, by rw [bl_lb]; simp⟩
set_option maxRecDepth 100000 in
set_option maxHeartbeats 16000000 in
theorem eventApart_walk (a b : Ev) (A B : Option Addr) (c d : Nat) (HI : Hid (EvIn a)) (HJ : Hid (EvIn b)) (w : World) (HS : Hid (SlR w A (i64c a.nn))) (HR : Hid (SlR w B (i64c b.nn))) (HT : Hid (TabOk w)) :
    Calls Tryd.prog 7 #[agE a A c, agE b B d] w fun r w' => r = .returned (.bool true) ∧ Below w.heap.size w w' := by
  have HW := Lib.hid (two_bel w (.cells #[.int .i64 a.ki, .int .i64 a.ti, .string a.it, .string a.of_, .slice A a.nn.length c, .string a.tx] 24) (.cells #[.int .i64 b.ki, .int .i64 b.ti, .string b.it, .string b.of_, .slice B b.nn.length d, .string b.tx] 24))
  have HX : Hid (EBox ((w.alloc (.cells #[.int .i64 a.ki, .int .i64 a.ti, .string a.it, .string a.of_, .slice A a.nn.length c, .string a.tx] 24)).alloc (.cells #[.int .i64 b.ki, .int .i64 b.ti, .string b.it, .string b.of_, .slice B b.nn.length d, .string b.tx] 24)) w.heap.size a A c) := (Blk.new w _ _).below ((Below.refl _ _).alloc (Nat.le_refl _) _)
  have HY : Hid (EBox ((w.alloc (.cells #[.int .i64 a.ki, .int .i64 a.ti, .string a.it, .string a.of_, .slice A a.nn.length c, .string a.tx] 24)).alloc (.cells #[.int .i64 b.ki, .int .i64 b.ti, .string b.it, .string b.of_, .slice B b.nn.length d, .string b.tx] 24)) (w.heap.size + 1) b B d) := two_box w _ _
  obtain ⟨f, hf⟩ : ∃ f, fewB a = f := ⟨_, rfl⟩
  have HF := Lib.hid hf
  clear hf
  obtain ⟨g, hg⟩ : ∃ g, fewB b = g := ⟨_, rfl⟩
  have HG := Lib.hid hg
  clear hg
  go_enter Tryd.func7, Tryd.ntmps7
  obtain ⟨p0, p1, p2, p3, p4, p5⟩ := HX.out.cells
  go_wp2_with fail
  (with_reducible refine (few_any a A c HI.out.nl HI.out.it HI.out.of_ HI.out.tx f HF _).mono ?_)
  rintro r w1 ⟨rfl, hb⟩
  have HB1 := Lib.hid (below_old HW.out hb)
  have HX1 := Lib.hid (ebox_fn HX.out hb)
  have HY1 := Lib.hid (ebox_fn HY.out hb)
  clear hb HW HX HY p0 p1 p2 p3 p4 p5
  have HT1 := Lib.hid (TabOk.below HT.out HB1.out)
  cases f with
  | false =>
    go_wp2_with fail
    (with_reducible refine (awake58 _ HT1).mono ?_)
    rintro r w2 ⟨rfl, hb⟩
    have HB2 := Lib.hid (below_old HB1.out hb)
    clear hb
    go_wp2_with fail
    go_ret
    exact ⟨rfl, HB2.out⟩
  | true =>
    obtain ⟨p0, p1, p2, p3, p4, p5⟩ := HY1.out.cells
    go_wp2_with fail
    (with_reducible refine (few_any b B d HJ.out.nl HJ.out.it HJ.out.of_ HJ.out.tx g HG _).mono ?_)
    rintro r w2 ⟨rfl, hb⟩
    have HB2 := Lib.hid (below_old HB1.out hb)
    have HX2 := Lib.hid (ebox_fn HX1.out hb)
    have HY2 := Lib.hid (ebox_fn HY1.out hb)
    have HT2 := Lib.hid (TabOk.below HT1.out hb)
    clear hb HX1 HY1 HB1 HT1 p0 p1 p2 p3 p4 p5
    cases g with
    | false =>
      go_wp2_with fail
      (with_reducible refine (awake58 _ HT2).mono ?_)
      rintro r w3 ⟨rfl, hb⟩
      have HB3 := Lib.hid (below_old HB2.out hb)
      clear hb
      go_wp2_with fail
      go_ret
      exact ⟨rfl, HB3.out⟩
    | true =>
      have HO := Lib.hid (HI.out.ok HF.out)
      have HP := Lib.hid (HJ.out.ok HG.out)
      have HS2 := Lib.hid (HS.out.below HB2.out)
      have HR2 := Lib.hid (HR.out.below HB2.out)
      clear HS HR HT HI HJ HF HG
      obtain ⟨x, hx⟩ : ∃ x, chk a = x := ⟨_, rfl⟩
      have HK := Lib.hid hx
      clear hx
      obtain ⟨y, hy⟩ : ∃ y, chk b = y := ⟨_, rfl⟩
      have HL := Lib.hid hy
      clear hy
      obtain ⟨p0, p1, p2, p3, p4, p5⟩ := HX2.out.cells
      go_wp2_with fail
      (with_reducible refine (check_any a A c HO x HK _ HS2).mono ?_)
      rintro r w3 ⟨rfl, hb⟩
      have HB3 := Lib.hid (below_old HB2.out hb)
      have HX3 := Lib.hid (ebox_fn HX2.out hb)
      have HY3 := Lib.hid (ebox_fn HY2.out hb)
      have HS3 := Lib.hid (HS2.out.below hb)
      have HR3 := Lib.hid (HR2.out.below hb)
      have HT3 := Lib.hid (TabOk.below HT2.out hb)
      clear hb HX2 HY2 HB2 HT2 HS2 HR2 p0 p1 p2 p3 p4 p5
      by_cases h0 : x = 0
      rotate_left
      · have q : (x == 0) = false := by simpa using h0
        have q2 : (x != 0) = true := by simpa using h0
        clear h0
        go_wp2_with fail
        (with_reducible refine (awake58 _ HT3).mono ?_)
        rintro r w4 ⟨rfl, hb⟩
        have HB4 := Lib.hid (below_old HB3.out hb)
        clear hb
        go_wp2_with fail
        go_ret
        exact ⟨rfl, HB4.out⟩
      subst h0
      obtain ⟨p0, p1, p2, p3, p4, p5⟩ := HY3.out.cells
      go_wp2_with fail
      (with_reducible refine (check_any b B d HP y HL _ HR3).mono ?_)
      rintro r w4 ⟨rfl, hb⟩
      have HB4 := Lib.hid (below_old HB3.out hb)
      have HX4 := Lib.hid (ebox_fn HX3.out hb)
      have HY4 := Lib.hid (ebox_fn HY3.out hb)
      have HS4 := Lib.hid (HS3.out.below hb)
      have HR4 := Lib.hid (HR3.out.below hb)
      have HT4 := Lib.hid (TabOk.below HT3.out hb)
      clear hb HX3 HY3 HB3 HT3 HS3 HR3 p0 p1 p2 p3 p4 p5
      by_cases h0 : y = 0
      rotate_left
      · have q : (y == 0) = false := by simpa using h0
        have q2 : (y != 0) = true := by simpa using h0
        clear h0
        go_wp2_with fail
        (with_reducible refine (awake58 _ HT4).mono ?_)
        rintro r w5 ⟨rfl, hb⟩
        have HB5 := Lib.hid (below_old HB4.out hb)
        clear hb
        go_wp2_with fail
        go_ret
        exact ⟨rfl, HB5.out⟩
      subst h0
      obtain ⟨z, hz⟩ : ∃ z, samB a b = z := ⟨_, rfl⟩
      have HZ := Lib.hid hz
      obtain ⟨N, hN⟩ : ∃ N, encS a = N := ⟨_, rfl⟩
      obtain ⟨M, hM⟩ : ∃ M, encS b = M := ⟨_, rfl⟩
      have qNM : (N.toList == M.toList) = z := by
        rw [← hN, ← hM]
        exact eq_bool (enc_iff HK.out HL.out) (by rw [← hz]; exact samB_iff a b)
      have HN1 : Hid (∀ w, Hid (SlR w A (i64c a.nn)) → Calls Tryd.prog 15 #[agE a A c] w fun r w' => r = .returned (.tuple #[.string N, .int .i64 0]) ∧ Below w.heap.size w w') := fun w h => by rw [← hN]; exact encode_any a A c HO 0 HK w h
      have HM1 : Hid (∀ w, Hid (SlR w B (i64c b.nn)) → Calls Tryd.prog 15 #[agE b B d] w fun r w' => r = .returned (.tuple #[.string M, .int .i64 0]) ∧ Below w.heap.size w w') := fun w h => by rw [← hM]; exact encode_any b B d HP 0 HL w h
      clear hN hM hz
      have qz : (z == z) = true := by simp
      have qz2 : (z != z) = false := by simp
      obtain ⟨p0, p1, p2, p3, p4, p5⟩ := HX4.out.cells
      go_wp2_with fail
      (with_reducible refine (HN1.out _ HS4).mono ?_)
      rintro r w5 ⟨rfl, hb⟩
      have HB5 := Lib.hid (below_old HB4.out hb)
      have HX5 := Lib.hid (ebox_fn HX4.out hb)
      have HY5 := Lib.hid (ebox_fn HY4.out hb)
      have HS5 := Lib.hid (HS4.out.below hb)
      have HR5 := Lib.hid (HR4.out.below hb)
      have HT5 := Lib.hid (TabOk.below HT4.out hb)
      clear hb HX4 HY4 HB4 HT4 HS4 HR4 p0 p1 p2 p3 p4 p5
      obtain ⟨p0, p1, p2, p3, p4, p5⟩ := HY5.out.cells
      go_wp2_with fail
      (with_reducible refine (HM1.out _ HR5).mono ?_)
      rintro r w6 ⟨rfl, hb⟩
      have HB6 := Lib.hid (below_old HB5.out hb)
      have HX6 := Lib.hid (ebox_fn HX5.out hb)
      have HY6 := Lib.hid (ebox_fn HY5.out hb)
      have HS6 := Lib.hid (HS5.out.below hb)
      have HR6 := Lib.hid (HR5.out.below hb)
      have HT6 := Lib.hid (TabOk.below HT5.out hb)
      clear hb HX5 HY5 HB5 HT5 HS5 HR5 p0 p1 p2 p3 p4 p5
      obtain ⟨p0, p1, p2, p3, p4, p5⟩ := HX6.out.cells
      obtain ⟨r0, r1, r2, r3, r4, r5⟩ := HY6.out.cells
      go_wp2_with fail
      (with_reducible refine (same_any a b A B c d z HZ HO HP _ HS6 HR6).mono ?_)
      rintro r w7 ⟨rfl, hb⟩
      have HB7 := Lib.hid (below_old HB6.out hb)
      have HX7 := Lib.hid (ebox_fn HX6.out hb)
      have HY7 := Lib.hid (ebox_fn HY6.out hb)
      have HS7 := Lib.hid (HS6.out.below hb)
      have HR7 := Lib.hid (HR6.out.below hb)
      have HT7 := Lib.hid (TabOk.below HT6.out hb)
      clear hb HX6 HY6 HB6 HT6 HS6 HR6 p0 p1 p2 p3 p4 p5 r0 r1 r2 r3 r4 r5
      obtain ⟨p0, p1, p2, p3, p4, p5⟩ := HX7.out.cells
      have HC7 : Hid (EBox (w7.alloc (.cells #[.int .i64 a.ki, .int .i64 a.ti, .string a.it, .string a.of_, .slice A a.nn.length c, .string a.tx] 24)) w7.heap.size a A c) := Blk.new _ _ _
      have HY8' := Lib.hid (ebox_fn HY7.out (bel_al w7 (.cells #[.int .i64 a.ki, .int .i64 a.ti, .string a.it, .string a.of_, .slice A a.nn.length c, .string a.tx] 24)))
      obtain ⟨r0, r1, r2, r3, r4, r5⟩ := HY8'.out.cells
      have f5 := Blk.frozen HC7.out 5
      have g5 := HC7.out.cells.2.2.2.2.2
      go_wp2_with fail
      clear HC7 HY8' r0 r1 r2 r3 r4 r5 f5 g5 p0 p1 p2 p3 p4 p5
      have HB8 := Lib.hid (below_old HB7.out (bel_al w7 (.cells #[.int .i64 a.ki, .int .i64 a.ti, .string a.it, .string a.of_, .slice A a.nn.length c, .string b.tx] 24)))
      have HX8 := Lib.hid (ebox_fn HX7.out (bel_al w7 (.cells #[.int .i64 a.ki, .int .i64 a.ti, .string a.it, .string a.of_, .slice A a.nn.length c, .string b.tx] 24)))
      have HY8 := Lib.hid (ebox_fn HY7.out (bel_al w7 (.cells #[.int .i64 a.ki, .int .i64 a.ti, .string a.it, .string a.of_, .slice A a.nn.length c, .string b.tx] 24)))
      have HC8 : Hid (EBox (w7.alloc (.cells #[.int .i64 a.ki, .int .i64 a.ti, .string a.it, .string a.of_, .slice A a.nn.length c, .string b.tx] 24)) w7.heap.size (wtx a b) A c) := Blk.new _ _ _
      have HS8 := Lib.hid (HS7.out.below (bel_al w7 (.cells #[.int .i64 a.ki, .int .i64 a.ti, .string a.it, .string a.of_, .slice A a.nn.length c, .string b.tx] 24)))
      have HR8 := Lib.hid (HR7.out.below (bel_al w7 (.cells #[.int .i64 a.ki, .int .i64 a.ti, .string a.it, .string a.of_, .slice A a.nn.length c, .string b.tx] 24)))
      have HT8 := Lib.hid (TabOk.below HT7.out (bel_al w7 (.cells #[.int .i64 a.ki, .int .i64 a.ti, .string a.it, .string a.of_, .slice A a.nn.length c, .string b.tx] 24)))
      clear HB7 HX7 HY7 HS7 HR7 HT7
      generalize w7.heap.size = g at *
      generalize w7.alloc (.cells #[.int .i64 a.ki, .int .i64 a.ti, .string a.it, .string a.of_, .slice A a.nn.length c, .string b.tx] 24) = w8 at *
      obtain ⟨u, hu⟩ : ∃ u, samB (wtx a b) b = u := ⟨_, rfl⟩
      have HU := Lib.hid hu
      have HV := Lib.hid (wtx_chk HK.out HL.out)
      have HVO := Lib.hid (can_ok (can_of HV.out))
      obtain ⟨l, hl⟩ := lin_end HK.out
      obtain ⟨X, hX⟩ : ∃ X, linS a = X := ⟨_, rfl⟩
      obtain ⟨Y, hY⟩ : ∃ Y, linS b = Y := ⟨_, rfl⟩
      have qXY : (X.toList == Y.toList) = u := by
        rw [← hX, ← hY]
        exact eq_bool (lin_iff HK.out HL.out) (by rw [← hu]; exact samB_iff _ b)
      have HX1 : Hid (∀ w, Hid (SlR w A (i64c a.nn)) → Hid (TabOk w) → Calls Tryd.prog 20 #[agE a A c] w fun e w' => e = .returned (.string X) ∧ Below w.heap.size w w') := fun w h t => by rw [← hX]; exact line_any a A c HO w h t
      have HY1 : Hid (∀ w, Hid (SlR w B (i64c b.nn)) → Hid (TabOk w) → Calls Tryd.prog 20 #[agE b B d] w fun e w' => e = .returned (.string Y) ∧ Below w.heap.size w w') := fun w h t => by rw [← hY]; exact line_any b B d HP w h t
      have HC1 : Hid (∀ w, Hid (SlR w A (i64c a.nn)) → Hid (TabOk w) → Calls Tryd.prog 20 #[.agg #[.int .i64 a.ki, .int .i64 a.ti, .string a.it, .string a.of_, .slice A a.nn.length c, .string b.tx]] w fun e w' => e = .returned (.string X) ∧ Below w.heap.size w w') := fun w h t => by rw [← hX, ← wtx_lin HK.out HL.out]; exact line_any (wtx a b) A c HVO w h t
      have HC2 : Hid (∀ w, Hid (SlR w A (i64c a.nn)) → Hid (SlR w B (i64c b.nn)) → Calls Tryd.prog 22 #[.agg #[.int .i64 a.ki, .int .i64 a.ti, .string a.it, .string a.of_, .slice A a.nn.length c, .string b.tx], agE b B d] w fun e w' => e = .returned (.bool u) ∧ Below w.heap.size w w') := fun w h t => same_any (wtx a b) b A B c d u HU HVO HP w h t
      have hlen : l.length ≤ 100000000 := by
        have h1 := wds_len HO.out a.nn.length
        have h2 := fm_len (t := a.ti)
        have h3 : lnT a = l ++ [10] := by
          have := (linS_ok HK.out).symm.trans hl
          rw [← bl_lb (lnT a), this]
        unfold lnT at h3
        have h4 := congrArg List.length h3
        simp only [List.length_append, List.length_cons, List.length_nil] at h4
        omega
      obtain ⟨hz1, hz2⟩ := last_ten l
      rw [← hl, hX] at hz1 hz2
      obtain ⟨n, hn⟩ : ∃ n, l.length = n := ⟨_, rfl⟩
      rw [hn] at hz1 hz2 hlen
      have HZ1 := Lib.hid hz1
      have HZ2 := Lib.hid hz2
      clear hu hl hX hY hn hz1 hz2
      have y0 := fun v => (ebox_fn HX8.out (wx_below w8 v)).cells
      have y1 := fun v => (ebox_fn HY8.out (wx_below w8 v)).cells
      refine wp_region_grows (by kernel_rfl) (by kernel_rfl) ?_
      repeat (go_big_quiet_step ((first
        | (go_at_call 20; (with_reducible exact calls_grows (HX1.out _ (Lib.hid (HS8.out.below (wx_below w8 _))) (Lib.hid (TabOk.below HT8.out (wx_below w8 _))))))
        | (go_at_call 20; (with_reducible exact calls_grows (HY1.out _ (Lib.hid (HR8.out.below (wx_below w8 _))) (Lib.hid (TabOk.below HT8.out (wx_below w8 _)))))))))
      refine wpQuiet_nil ?_
      rintro _ ⟨v, rfl⟩
      have HB9 := Lib.hid (below_old HB8.out (wx_below w8 v))
      have HY9 := Lib.hid (ebox_fn HY8.out (wx_below w8 v))
      have HC9 := Lib.hid (ebox_fn HC8.out (wx_below w8 v))
      have HS9 := Lib.hid (HS8.out.below (wx_below w8 v))
      have HR9 := Lib.hid (HR8.out.below (wx_below w8 v))
      have HT9 := Lib.hid (TabOk.below HT8.out (wx_below w8 v))
      clear y0 y1 HB8 HX8 HY8 HC8 HS8 HR8 HT8
      generalize wx w8 v = w9 at *
      obtain ⟨p0, p1, p2, p3, p4, p5⟩ : w9.cell? ⟨g, 0, none⟩ = some (.int .i64 a.ki) ∧ w9.cell? ⟨g, 1, none⟩ = some (.int .i64 a.ti) ∧ w9.cell? ⟨g, 2, none⟩ = some (.string a.it) ∧ w9.cell? ⟨g, 3, none⟩ = some (.string a.of_) ∧ w9.cell? ⟨g, 4, none⟩ = some (.slice A a.nn.length c) ∧ w9.cell? ⟨g, 5, none⟩ = some (.string b.tx) := HC9.out.cells
      have qX := seq_t (rfl : X = X)
      have qE : (X.toList == (⟨#[]⟩ : ByteArray).toList) = false := seq_f fun e => by
        have := HZ1.out
        rw [e] at this
        exact absurd this (by simp [ByteArray.size])
      have e0 : ¬ X.toList = [] := by simpa using qE
      have e2 : X.toList.isEmpty = false := by simpa using e0
      have qu : (u == u) = true := by simp
      have hz1 := HZ1.out
      have hb : n < X.size := by omega
      have e1 : ((X[n]'hb).toNat : Int) = 10 := by rw [byte_at HZ2.out hb]; rfl
      clear qE
      go_wp2_with fail
      (with_reducible refine (HC1.out _ HS9 HT9).mono ?_)
      rintro r w10 ⟨rfl, hb10⟩
      have HB10 := Lib.hid (below_old HB9.out hb10)
      have HY10 := Lib.hid (ebox_fn HY9.out hb10)
      have HC10 := Lib.hid (ebox_fn HC9.out hb10)
      have HS10 := Lib.hid (HS9.out.below hb10)
      have HR10 := Lib.hid (HR9.out.below hb10)
      have HT10 := Lib.hid (TabOk.below HT9.out hb10)
      clear hb10 HB9 HY9 HC9 HS9 HR9 HT9 p0 p1 p2 p3 p4 p5
      obtain ⟨p0, p1, p2, p3, p4, p5⟩ : w10.cell? ⟨g, 0, none⟩ = some (.int .i64 a.ki) ∧ w10.cell? ⟨g, 1, none⟩ = some (.int .i64 a.ti) ∧ w10.cell? ⟨g, 2, none⟩ = some (.string a.it) ∧ w10.cell? ⟨g, 3, none⟩ = some (.string a.of_) ∧ w10.cell? ⟨g, 4, none⟩ = some (.slice A a.nn.length c) ∧ w10.cell? ⟨g, 5, none⟩ = some (.string b.tx) := HC10.out.cells
      obtain ⟨r0, r1, r2, r3, r4, r5⟩ := HY10.out.cells
      go_wp2_with fail
      (with_reducible refine (HC2.out _ HS10 HR10).mono ?_)
      rintro r w11 ⟨rfl, hb11⟩
      have HB11 := Lib.hid (below_old HB10.out hb11)
      have HT11 := Lib.hid (TabOk.below HT10.out hb11)
      clear hb11 HB10 HY10 HC10 HS10 HR10 HT10 p0 p1 p2 p3 p4 p5 r0 r1 r2 r3 r4 r5
      go_wp2_with fail
      (with_reducible refine (awake58 _ HT11).mono ?_)
      rintro r w12 ⟨rfl, hb12⟩
      have HB12 := Lib.hid (below_old HB11.out hb12)
      clear hb12
      go_wp2_with fail
      go_ret
      exact ⟨rfl, HB12.out⟩
end Go.Proofs.YtcefmnkfkpoccaaDoor
