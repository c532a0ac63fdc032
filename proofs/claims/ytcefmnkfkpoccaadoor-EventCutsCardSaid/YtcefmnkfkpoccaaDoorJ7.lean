/- law58: EventCuts. -/
import Derived.Test.YtcefmnkfkpoccaaDoorGY
import Derived.Test.YtcefmnkfkpoccaaDoorJ1
namespace Go.Proofs.YtcefmnkfkpoccaaDoor
open Go.RowKit
set_option linter.unusedVariables false
open Wi Evn
theorem rec_pos {e : Ev} : 0 < (recS e).size := by
  unfold recS
  rw [lb_size]
  unfold recL
  simp only [List.length_append]
  have := (uvL_len (zz e.ki)).1
  have h2 : (inL e.ki).length = (uvL (zz e.ki)).length := rfl
  omega
/-- No proper beginning of a record is a record. -/
theorem cut_no {e : Ev} (h : chk e = 0) {s : ByteArray} (hs : recS e = s) {k : Nat} (hk : k < s.size) : ∀ q, chk q = 0 → ¬ recS q = s.extract 0 k := by
  intro q hq he
  subst hs
  have h1 : recL q = (recL e).take k := by
    have := rec_bl he
    rw [← this]
    show ((recS e).extract 0 k).data.toList = _
    rw [Lib.extract_data]
    show List.take _ _ = _
    simp [recS]
  have h2 : recL e = recL q ++ (recL e).drop k := by rw [h1, List.take_append_drop]
  have h3 := (rec_inj (can_of h) (can_of hq) h2).2
  have h4 : (recL e).length ≤ k := by simpa using h3
  have h5 : (recS e).size = (recL e).length := rfl
  omega
/-- No record with a further byte is a record. -/
theorem more_no {e : Ev} (h : chk e = 0) {s m : ByteArray} (hs : recS e = s) (hm : 0 < m.size) : ∀ q, chk q = 0 → ¬ recS q = s ++ m := by
  intro q hq he
  subst hs
  have h1 : recL q = recL e ++ bl m := by
    have := rec_bl he
    rw [← this]
    show (recS e ++ m).data.toList = _
    simp [recS]
  have h3 := (rec_inj (can_of hq) (can_of h) h1).2
  have h4 : (bl m).length = 0 := by rw [h3]; rfl
  rw [bl_len] at h4
  omega
abbrev vZ (A : Option Addr) (c : Nat) : Value := .agg #[.int .i64 0, .int .i64 0, .string ⟨#[]⟩, .string ⟨#[]⟩, .slice A 0 c, .string ⟨#[]⟩]
theorem decode_no (s : ByteArray) (hs : (s.size : Int) ≤ 1000000) (hn : Hid (∀ q, chk q = 0 → ¬ recS q = s)) (w : World) :
    Calls Tryd.prog 17 #[.string s] w fun r w' => ∃ A c, r = .returned (.tuple #[.agg #[.int .i64 0, .int .i64 0, .string ⟨#[]⟩, .string ⟨#[]⟩, .slice A 0 c, .string ⟨#[]⟩], .int .i64 5]) ∧ Below w.heap.size w w' :=
  (decode_is s hs zE 5 (Lib.hid (.inr ⟨rfl, rfl, hn.out⟩)) w).mono fun r w' hd => by
    obtain ⟨A, c, h, _, hb⟩ := dcr_open hd
    exact ⟨A, c, h, hb⟩
theorem same_zero (A : Option Addr) (c : Nat) (w : World) : Calls Tryd.prog 22 #[vZ A c, vZ none 0] w fun r w' => r = .returned (.bool true) ∧ Below w.heap.size w w' :=
  same_any zE zE A none c 0 true (Lib.hid ((samB_iff zE zE).2 rfl)) (Lib.hid zE_ok) (Lib.hid zE_ok) w (Lib.hid (slr_nil _ _)) (Lib.hid (slr_nil _ _))
theorem conv_two (W : World) (v : Obj) (x : Int) : (convert 39 9 (.slice (some ⟨W.heap.size + 1, 0, none⟩) 1 1)).run Tryd.prog ((W.alloc v).alloc (.cells #[.int .u8 x] 5)) = .ok (.string (strOfNums [x])) ((W.alloc v).alloc (.cells #[.int .u8 x] 5)) := by
  have h := conv_one (W.alloc v) x
  rw [show (W.alloc v).heap.size = W.heap.size + 1 from by simp] at h
  exact h
/-- The cells of the event that is nothing. -/
theorem box_zero {w : World} {b : Nat} {A : Option Addr} {c : Nat} (h : EBox w b zE A c) : w.cell? ⟨b, 0, none⟩ = some (.int .i64 0) ∧ w.cell? ⟨b, 1, none⟩ = some (.int .i64 0) ∧ w.cell? ⟨b, 2, none⟩ = some (.string ⟨#[]⟩) ∧ w.cell? ⟨b, 3, none⟩ = some (.string ⟨#[]⟩) ∧ w.cell? ⟨b, 4, none⟩ = some (.slice A 0 c) ∧ w.cell? ⟨b, 5, none⟩ = some (.string ⟨#[]⟩) := h.cells
theorem one_size (n : Int) : (strOfNums [n]).size = 1 := by rw [strOfNums_size]; rfl
set_option maxRecDepth 100000 in
set_option maxHeartbeats 16000000 in
theorem eventCuts_walk (e : Ev) (A : Option Addr) (c : Nat) (m n : Int) (hm : 0 ≤ m ∧ m ≤ 65535) (hn : 0 ≤ n ∧ n ≤ 255) (HI : Hid (EvIn e)) (w : World) (HS : Hid (SlR w A (i64c e.nn))) (HT : Hid (TabOk w)) :
    Calls Tryd.prog 8 #[agE e A c, .int .u16 m, .int .u8 n] w fun r w' => r = .returned (.bool true) ∧ Below w.heap.size w w' := by
  have HW := Lib.hid (bel_al w (.cells #[.int .i64 e.ki, .int .i64 e.ti, .string e.it, .string e.of_, .slice A e.nn.length c, .string e.tx] 24))
  have HX : Hid (EBox (w.alloc (.cells #[.int .i64 e.ki, .int .i64 e.ti, .string e.it, .string e.of_, .slice A e.nn.length c, .string e.tx] 24)) w.heap.size e A c) := Blk.new _ _ _
  obtain ⟨f, hf⟩ : ∃ f, fewB e = f := ⟨_, rfl⟩
  have HF := Lib.hid hf
  clear hf
  go_enter Tryd.func8, Tryd.ntmps8
  go_wp2_with fail
  (with_reducible refine (few_any e A c HI.out.nl HI.out.it HI.out.of_ HI.out.tx f HF _).mono ?_)
  rintro r w1 ⟨rfl, hb⟩
  have HB1 := Lib.hid (below_old HW.out hb)
  have HX1 := Lib.hid (ebox_fn HX.out hb)
  clear hb HW HX
  have HS1 := Lib.hid (HS.out.below HB1.out)
  have HT1 := Lib.hid (TabOk.below HT.out HB1.out)
  cases f with
  | false =>
    go_wp2_with fail
    (with_reducible refine (awake58 _ HT1).mono ?_)
    rintro r w2 ⟨rfl, hb⟩
    have HB2 := Lib.hid (below_old HB1.out hb)
    clear hb
    go_wp2_with fail
    go_ret
    exact ⟨rfl, HB2.out⟩
  | true =>
    have HO := Lib.hid (HI.out.ok HF.out)
    clear HI HF HS HT
    obtain ⟨x, hx⟩ : ∃ x, chk e = x := ⟨_, rfl⟩
    have HK := Lib.hid hx
    clear hx
    by_cases h0 : x = 0
    rotate_left
    · have hE := encS_no (e := e) (by rw [HK.out]; exact h0)
      have HN1 : Hid (∀ w, Hid (SlR w A (i64c e.nn)) → Calls Tryd.prog 15 #[agE e A c] w fun r w' => r = .returned (.tuple #[.string ⟨#[]⟩, .int .i64 x]) ∧ Below w.heap.size w w') := fun w h => by rw [← hE]; exact encode_any e A c HO x HK w h
      have qx : (x == x) = true := by simp
      have q : (x == 0) = false := by simpa using h0
      have q2 : (x != 0) = true := by simpa using h0
      clear h0 hE
      obtain ⟨p0, p1, p2, p3, p4, p5⟩ := HX1.out.cells
      go_wp2_with fail
      (with_reducible refine (HN1.out _ HS1).mono ?_)
      rintro r w2 ⟨rfl, hb⟩
      have HB2 := Lib.hid (below_old HB1.out hb)
      have HX2 := Lib.hid (ebox_fn HX1.out hb)
      have HS2 := Lib.hid (HS1.out.below hb)
      have HT2 := Lib.hid (TabOk.below HT1.out hb)
      clear hb HB1 HX1 HS1 HT1 p0 p1 p2 p3 p4 p5
      obtain ⟨p0, p1, p2, p3, p4, p5⟩ := HX2.out.cells
      go_wp2_with fail
      (with_reducible refine (check_any e A c HO x HK _ HS2).mono ?_)
      rintro r w3 ⟨rfl, hb⟩
      have HB3 := Lib.hid (below_old HB2.out hb)
      have HT3 := Lib.hid (TabOk.below HT2.out hb)
      clear hb HB2 HX2 HS2 HT2 p0 p1 p2 p3 p4 p5
      go_wp2_with fail
      (with_reducible refine (awake58 _ HT3).mono ?_)
      rintro r w4 ⟨rfl, hb⟩
      have HB4 := Lib.hid (below_old HB3.out hb)
      clear hb
      go_wp2_with fail
      go_ret
      exact ⟨rfl, HB4.out⟩
    subst h0
    obtain ⟨N, hN⟩ : ∃ N, recS e = N := ⟨_, rfl⟩
    have hE : encS e = N := (encS_ok HK.out).trans hN
    have HN1 : Hid (∀ w, Hid (SlR w A (i64c e.nn)) → Calls Tryd.prog 15 #[agE e A c] w fun r w' => r = .returned (.tuple #[.string N, .int .i64 0]) ∧ Below w.heap.size w w') := fun w h => by rw [← hE]; exact encode_any e A c HO 0 HK w h
    have hp : 0 < N.size := by rw [← hN]; exact rec_pos
    have hz : N.size ≤ 30000 := by rw [← hN]; exact rec_size (can_of HK.out)
    obtain ⟨k, hk⟩ : ∃ k : Nat, m.tmod (N.size : Int) = (k : Int) := ⟨(m.tmod (N.size : Int)).toNat, (Int.toNat_of_nonneg (Int.tmod_nonneg _ hm.1)).symm⟩
    have hk2 : k < N.size := by
      have := Int.tmod_lt_of_pos m (b := (N.size : Int)) (by omega)
      omega
    have HC := Lib.hid (cut_no HK.out hN hk2)
    have HM := Lib.hid (more_no HK.out hN (m := strOfNums [n]) (by rw [one_size]; decide))
    have hs1 : (((N.extract 0 k).size : Nat) : Int) ≤ 1000000 := by simp; omega
    have hs2 : (((N ++ strOfNums [n]).size : Nat) : Int) ≤ 1000000 := by rw [ByteArray.size_append, one_size]; omega
    have HZ1 := Lib.hid hs1
    have HZ2 := Lib.hid hs2
    have qE : (N.toList == (⟨#[]⟩ : ByteArray).toList) = false := seq_f fun h2 => by rw [h2] at hp; exact absurd hp (by decide)
    have e0 : ¬ N.toList = [] := by simpa using qE
    have e2 : N.toList.isEmpty = false := by simpa using e0
    have hcat : ¬ 9223372036854775807 < N.size + (strOfNums [n]).size := by rw [one_size]; omega
    clear hN hE hs1 hs2 qE
    have hcv := conv_two
    obtain ⟨p0, p1, p2, p3, p4, p5⟩ := HX1.out.cells
    go_wp2_with fail
    (with_reducible refine (HN1.out _ HS1).mono ?_)
    rintro r w2 ⟨rfl, hb⟩
    have HB2 := Lib.hid (below_old HB1.out hb)
    have HT2 := Lib.hid (TabOk.below HT1.out hb)
    clear hb HB1 HX1 HS1 HT1 p0 p1 p2 p3 p4 p5
    go_wp2_with fail
    (with_reducible refine (decode_no (N.extract 0 k) HZ1.out HC _).mono ?_)
    rintro r w3 ⟨A1, c1, rfl, hb⟩
    have HB3 := Lib.hid (below_old (below_old HB2.out hb) (bel_al w3 (.cells #[.int .i64 0, .int .i64 0, .string ⟨#[]⟩, .string ⟨#[]⟩, .slice A1 0 c1, .string ⟨#[]⟩] 24)))
    have HT3 := Lib.hid (TabOk.below (TabOk.below HT2.out hb) (bel_al w3 (.cells #[.int .i64 0, .int .i64 0, .string ⟨#[]⟩, .string ⟨#[]⟩, .slice A1 0 c1, .string ⟨#[]⟩] 24)))
    have HX3 : Hid (EBox (w3.alloc (.cells #[.int .i64 0, .int .i64 0, .string ⟨#[]⟩, .string ⟨#[]⟩, .slice A1 0 c1, .string ⟨#[]⟩] 24)) w3.heap.size zE A1 c1) := Blk.new _ _ _
    clear hb HB2 HT2
    go_wp2_with fail
    (with_reducible refine (decode_no (N ++ strOfNums [n]) HZ2.out HM _).mono ?_)
    rintro r w5 ⟨A2, c2, rfl, hb⟩
    have hba := bel_al (w3.alloc (.cells #[.int .i64 0, .int .i64 0, .string ⟨#[]⟩, .string ⟨#[]⟩, .slice A1 0 c1, .string ⟨#[]⟩] 24)) (.cells #[.int .u8 n] 5)
    have hal := bel_al w5 (.cells #[.int .i64 0, .int .i64 0, .string ⟨#[]⟩, .string ⟨#[]⟩, .slice A2 0 c2, .string ⟨#[]⟩] 24)
    have HB5 := Lib.hid (below_old (below_old (below_old HB3.out hba) hb) hal)
    have HT5 := Lib.hid (TabOk.below (TabOk.below (TabOk.below HT3.out hba) hb) hal)
    have HX5 := Lib.hid (ebox_fn (ebox_fn (ebox_fn HX3.out hba) hb) hal)
    have HY5 : Hid (EBox (w5.alloc (.cells #[.int .i64 0, .int .i64 0, .string ⟨#[]⟩, .string ⟨#[]⟩, .slice A2 0 c2, .string ⟨#[]⟩] 24)) w5.heap.size zE A2 c2) := Blk.new _ _ _
    clear hb hba hal HB3 HT3 HX3 hcv hcat
    obtain ⟨p0, p1, p2, p3, p4, p5⟩ := box_zero HX5.out
    go_wp2_with fail
    (with_reducible refine (same_zero A1 c1 _).mono ?_)
    rintro r w6 ⟨rfl, hb⟩
    have HB6 := Lib.hid (below_old HB5.out hb)
    have HT6 := Lib.hid (TabOk.below HT5.out hb)
    have HY6 := Lib.hid (ebox_fn HY5.out hb)
    clear hb HB5 HT5 HX5 HY5 p0 p1 p2 p3 p4 p5
    obtain ⟨p0, p1, p2, p3, p4, p5⟩ := box_zero HY6.out
    go_wp2_with fail
    (with_reducible refine (same_zero A2 c2 _).mono ?_)
    rintro r w7 ⟨rfl, hb⟩
    have HB7 := Lib.hid (below_old HB6.out hb)
    have HT7 := Lib.hid (TabOk.below HT6.out hb)
    clear hb HB6 HT6 HY6 p0 p1 p2 p3 p4 p5
    go_wp2_with fail
    (with_reducible refine (awake58 _ HT7).mono ?_)
    rintro r w8 ⟨rfl, hb⟩
    have HB8 := Lib.hid (below_old HB7.out hb)
    clear hb
    go_wp2_with fail
    go_ret
    exact ⟨rfl, HB8.out⟩
end Go.Proofs.YtcefmnkfkpoccaaDoor
