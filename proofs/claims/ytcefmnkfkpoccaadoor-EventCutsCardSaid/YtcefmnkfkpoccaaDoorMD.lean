/- event: Encode; the reference's record and Encode. -/
import Derived.Test.YtcefmnkfkpoccaaDoorGK
namespace Go.Proofs.YtcefmnkfkpoccaaDoor
open Go.RowKit
set_option linter.unusedVariables false
open Wi Evn
def recS (e : Ev) : ByteArray := lb (recL e)
theorem lb_bl_app (a b : List UInt8) : lb a ++ lb b = lb (a ++ b) := lb_app a b
/-- The parts of a record. -/
theorem rec_parts (e : Ev) : lb (inL e.ki) ++ lb (inL e.ti) ++ lb (txL (bl e.it)) ++ lb (txL (bl e.of_)) ++ lb (isL e.nn) ++ lb (txL (bl e.tx)) = recS e := by
  unfold recS recL
  simp only [lb_app]
theorem lb_size (l : List UInt8) : (lb l).size = l.length := rfl
theorem txL_len (s : ByteArray) : (txL (bl s)).length ≤ 10 + s.size := by
  unfold txL
  rw [List.length_append]
  have := (uvL_len (bl s).length).2
  have h2 : (bl s).length = s.size := rfl
  omega
theorem isL_len (l : List Int) : (isL l).length ≤ 10 + 10 * l.length := by
  unfold isL
  rw [List.length_append]
  have := (uvL_len l.length).2
  have := flat_le l
  omega
theorem ret_si {s t : ByteArray} {a b : Int} (h : s = t) (h' : a = b) : Ending.returned (.tuple #[.string s, .int .i64 a]) = .returned (.tuple #[.string t, .int .i64 b]) := by rw [h, h']
set_option maxRecDepth 100000 in
set_option maxHeartbeats 8000000 in
theorem rrecord_any (e : Ev) (A : Option Addr) (c : Nat) (HO : Hid (EvOk e)) (w : World) (HS : Hid (SlR w A (i64c e.nn))) :
    Calls Tryd.prog 33 #[agE e A c] w fun r w' => r = .returned (.string (recS e)) ∧ Below w.heap.size w w' := by
  obtain ⟨i1, i2, i3, i4, i5, i6, i7⟩ := HO.out
  have HI7 := Lib.hid i7
  clear i7
  have HBX0 : Hid (EBox (w.alloc (.cells #[.int .i64 e.ki, .int .i64 e.ti, .string e.it, .string e.of_, .slice A e.nn.length c, .string e.tx] 24)) w.heap.size e A c) := Blk.new _ _ _
  have HAL := Lib.hid ((Below.refl w.heap.size w).alloc (Nat.le_refl _) (.cells #[.int .i64 e.ki, .int .i64 e.ti, .string e.it, .string e.of_, .slice A e.nn.length c, .string e.tx] 24))
  obtain ⟨P1, hP1⟩ : ∃ P, lb (inL e.ki) = P := ⟨_, rfl⟩
  obtain ⟨P2, hP2⟩ : ∃ P, lb (inL e.ti) = P := ⟨_, rfl⟩
  obtain ⟨P3, hP3⟩ : ∃ P, lb (txL (bl e.it)) = P := ⟨_, rfl⟩
  obtain ⟨P4, hP4⟩ : ∃ P, lb (txL (bl e.of_)) = P := ⟨_, rfl⟩
  obtain ⟨P5, hP5⟩ : ∃ P, lb (isL e.nn) = P := ⟨_, rfl⟩
  obtain ⟨P6, hP6⟩ : ∃ P, lb (txL (bl e.tx)) = P := ⟨_, rfl⟩
  have H1 := Lib.hid hP1; have H2 := Lib.hid hP2; have H3 := Lib.hid hP3; have H4 := Lib.hid hP4; have H5 := Lib.hid hP5; have H6 := Lib.hid hP6
  have HRC := Lib.hid (rec_parts e)
  rw [hP1, hP2, hP3, hP4, hP5, hP6] at HRC
  have s1 : P1.size ≤ 10 := by rw [← hP1]; exact inL_len _
  have s2 : P2.size ≤ 10 := by rw [← hP2]; exact inL_len _
  have s3 : P3.size ≤ 100010 := by rw [← hP3, lb_size]; have := txL_len e.it; omega
  have s4 : P4.size ≤ 100010 := by rw [← hP4, lb_size]; have := txL_len e.of_; omega
  have s5 : P5.size ≤ 1000010 := by rw [← hP5, lb_size]; have := isL_len e.nn; omega
  have s6 : P6.size ≤ 100010 := by rw [← hP6, lb_size]; have := txL_len e.tx; omega
  have c1 : ¬ 9223372036854775807 < P1.size + P2.size := by omega
  have c2 : ¬ 9223372036854775807 < P1.size + P2.size + P3.size := by omega
  have c3 : ¬ 9223372036854775807 < P1.size + P2.size + P3.size + P4.size := by omega
  have c4 : ¬ 9223372036854775807 < P1.size + P2.size + P3.size + P4.size + P5.size := by omega
  have c5 : ¬ 9223372036854775807 < P1.size + P2.size + P3.size + P4.size + P5.size + P6.size := by omega
  clear hP1 hP2 hP3 hP4 hP5 hP6 s1 s2 s3 s4 s5 s6
  go_enter Tryd.func33, Tryd.ntmps33
  go_wp2_with fail
  generalize w.alloc (.cells #[.int .i64 e.ki, .int .i64 e.ti, .string e.it, .string e.of_, .slice A e.nn.length c, .string e.tx] 24) = w0 at *
  have y0 := fun u => EBox.cells (Blk.below HBX0.out (wx_below w0 u) : EBox (wx w0 u) w.heap.size e A c)
  have HSX : Hid (∀ u, Hid (SlR (wx w0 u) A (i64c e.nn))) := fun u => (HS.out.below HAL.out).below (wx_below w0 u)
  refine wp_region_grows (by kernel_rfl) (by kernel_rfl) ?_
  repeat (go_big_quiet_step ((first | (go_at_call 58; (with_reducible exact calls_grows (rint_any e.ki i1.1 i1.2 P1 H1 _))) | (go_at_call 58; (with_reducible exact calls_grows (rint_any e.ti i2.1 i2.2 P2 H2 _))) | (go_at_call 59; (with_reducible exact calls_grows (rtext_any e.it (by omega) P3 H3 _))) | (go_at_call 59; (with_reducible exact calls_grows (rtext_any e.of_ (by omega) P4 H4 _))) | (go_at_call 59; (with_reducible exact calls_grows (rtext_any e.tx (by omega) P6 H6 _))) | (go_at_call 60; (with_reducible exact calls_grows (rints_any e.nn A c (by omega) HI7 P5 H5 _ (HSX.out _)))))))
  refine wpQuiet_nil ?_
  rintro _ ⟨u, rfl⟩
  have HB1 := Lib.hid (below_old HAL.out (wx_below w0 u))
  clear y0
  generalize wx w0 u = w1 at *
  go_wp2_with fail
  go_ret
  exact ⟨ret_st HRC.out, HB1.out⟩
end Go.Proofs.YtcefmnkfkpoccaaDoor

namespace Go.Proofs.YtcefmnkfkpoccaaDoor
open Go.RowKit
set_option linter.unusedVariables false
open Wi Evn
/-- What Encode answers. -/
def encS (e : Ev) : ByteArray := if chk e = 0 then recS e else ⟨#[]⟩
theorem encS_ok {e : Ev} (h : chk e = 0) : encS e = recS e := if_pos h
theorem encS_no {e : Ev} (h : ¬ chk e = 0) : encS e = ⟨#[]⟩ := if_neg h
set_option maxRecDepth 100000 in
set_option maxHeartbeats 8000000 in
theorem rencode_any (e : Ev) (A : Option Addr) (c : Nat) (HO : Hid (EvOk e)) (x : Int) (hx : Hid (chk e = x)) (w : World) (HS : Hid (SlR w A (i64c e.nn))) :
    Calls Tryd.prog 16 #[agE e A c] w fun r w' => r = .returned (.tuple #[.string (encS e), .int .i64 x]) ∧ Below w.heap.size w w' := by
  obtain ⟨i1, i2, i3, i4, i5, i6, i7⟩ := HO.out
  have HI7 := Lib.hid i7
  clear i7
  have HBX0 : Hid (EBox (w.alloc (.cells #[.int .i64 e.ki, .int .i64 e.ti, .string e.it, .string e.of_, .slice A e.nn.length c, .string e.tx] 24)) w.heap.size e A c) := Blk.new _ _ _
  have HAL := Lib.hid ((Below.refl w.heap.size w).alloc (Nat.le_refl _) (.cells #[.int .i64 e.ki, .int .i64 e.ti, .string e.it, .string e.of_, .slice A e.nn.length c, .string e.tx] 24))
  by_cases h0 : x = 0
  · subst h0
    have HE := Lib.hid (encS_ok hx.out)
    go_enter Tryd.func16, Tryd.ntmps16
    go_wp2_with fail
    generalize w.alloc (.cells #[.int .i64 e.ki, .int .i64 e.ti, .string e.it, .string e.of_, .slice A e.nn.length c, .string e.tx] 24) = w0 at *
    (with_reducible refine (rcheck_any e A c HO _ hx _ (Lib.hid (HS.out.below HAL.out))).mono ?_)
    rintro r w1 ⟨rfl, hb⟩
    have HB1 := Lib.hid (below_old HAL.out hb)
    have HBX1 : Hid (EBox w1 w.heap.size e A c) := Blk.below HBX0.out hb
    clear hb
    obtain ⟨x0, x1, x2, x3, x4, x5⟩ := HBX1.out.cells
    go_wp2_with fail
    (with_reducible refine (rrecord_any e A c HO _ (Lib.hid (HS.out.below HB1.out))).mono ?_)
    rintro r w2 ⟨rfl, hb⟩
    have HB2 := Lib.hid (below_old HB1.out hb)
    clear hb
    go_wp2_with fail
    go_ret2
    exact ⟨ret_si HE.out.symm rfl, HB2.out⟩
  · have HE := Lib.hid (encS_no (by rw [hx.out]; exact h0))
    have q : (x == 0) = false := by simpa using h0
    have q2 : (x != 0) = true := by simpa using h0
    clear h0
    go_enter Tryd.func16, Tryd.ntmps16
    go_wp2_with fail
    generalize w.alloc (.cells #[.int .i64 e.ki, .int .i64 e.ti, .string e.it, .string e.of_, .slice A e.nn.length c, .string e.tx] 24) = w0 at *
    (with_reducible refine (rcheck_any e A c HO _ hx _ (Lib.hid (HS.out.below HAL.out))).mono ?_)
    rintro r w1 ⟨rfl, hb⟩
    have HB1 := Lib.hid (below_old HAL.out hb)
    have HBX1 : Hid (EBox w1 w.heap.size e A c) := Blk.below HBX0.out hb
    clear hb
    go_wp2_with fail
    go_ret2
    exact ⟨ret_si HE.out.symm rfl, HB1.out⟩
set_option maxRecDepth 100000 in
set_option maxHeartbeats 8000000 in
theorem encode_any (e : Ev) (A : Option Addr) (c : Nat) (HO : Hid (EvOk e)) (x : Int) (hx : Hid (chk e = x)) (w : World) (HS : Hid (SlR w A (i64c e.nn))) :
    Calls Tryd.prog 15 #[agE e A c] w fun r w' => r = .returned (.tuple #[.string (encS e), .int .i64 x]) ∧ Below w.heap.size w w' := by
  obtain ⟨i1, i2, i3, i4, i5, i6, i7⟩ := HO.out
  have HI7 := Lib.hid i7
  clear i7
  have HBX0 : Hid (EBox (w.alloc (.cells #[.int .i64 e.ki, .int .i64 e.ti, .string e.it, .string e.of_, .slice A e.nn.length c, .string e.tx] 24)) w.heap.size e A c) := Blk.new _ _ _
  have HAL := Lib.hid ((Below.refl w.heap.size w).alloc (Nat.le_refl _) (.cells #[.int .i64 e.ki, .int .i64 e.ti, .string e.it, .string e.of_, .slice A e.nn.length c, .string e.tx] 24))
  by_cases h0 : x = 0
  · subst h0
    have HE := Lib.hid (encS_ok hx.out)
    obtain ⟨P1, hP1⟩ : ∃ P, lb (inL e.ki) = P := ⟨_, rfl⟩
    obtain ⟨P2, hP2⟩ : ∃ P, lb (inL e.ti) = P := ⟨_, rfl⟩
    obtain ⟨P3, hP3⟩ : ∃ P, lb (txL (bl e.it)) = P := ⟨_, rfl⟩
    obtain ⟨P4, hP4⟩ : ∃ P, lb (txL (bl e.of_)) = P := ⟨_, rfl⟩
    obtain ⟨P5, hP5⟩ : ∃ P, lb (isL e.nn) = P := ⟨_, rfl⟩
    obtain ⟨P6, hP6⟩ : ∃ P, lb (txL (bl e.tx)) = P := ⟨_, rfl⟩
    have H1 := Lib.hid hP1; have H2 := Lib.hid hP2; have H3 := Lib.hid hP3; have H4 := Lib.hid hP4; have H5 := Lib.hid hP5; have H6 := Lib.hid hP6
    have HRC := Lib.hid (rec_parts e)
    rw [hP1, hP2, hP3, hP4, hP5, hP6] at HRC
    have s1 : P1.size ≤ 10 := by rw [← hP1]; exact inL_len _
    have s2 : P2.size ≤ 10 := by rw [← hP2]; exact inL_len _
    have s3 : P3.size ≤ 100010 := by rw [← hP3, lb_size]; have := txL_len e.it; omega
    have s4 : P4.size ≤ 100010 := by rw [← hP4, lb_size]; have := txL_len e.of_; omega
    have s5 : P5.size ≤ 1000010 := by rw [← hP5, lb_size]; have := isL_len e.nn; omega
    have s6 : P6.size ≤ 100010 := by rw [← hP6, lb_size]; have := txL_len e.tx; omega
    have c1 : ¬ 9223372036854775807 < P1.size + P2.size := by omega
    have c2 : ¬ 9223372036854775807 < P1.size + P2.size + P3.size := by omega
    have c3 : ¬ 9223372036854775807 < P1.size + P2.size + P3.size + P4.size := by omega
    have c4 : ¬ 9223372036854775807 < P1.size + P2.size + P3.size + P4.size + P5.size := by omega
    have c5 : ¬ 9223372036854775807 < P1.size + P2.size + P3.size + P4.size + P5.size + P6.size := by omega
    clear hP1 hP2 hP3 hP4 hP5 hP6 s1 s2 s3 s4 s5 s6
    go_enter Tryd.func15, Tryd.ntmps15
    go_wp2_with fail
    generalize w.alloc (.cells #[.int .i64 e.ki, .int .i64 e.ti, .string e.it, .string e.of_, .slice A e.nn.length c, .string e.tx] 24) = w0 at *
    (with_reducible refine (check_any e A c HO _ hx _ (Lib.hid (HS.out.below HAL.out))).mono ?_)
    rintro r w1 ⟨rfl, hb⟩
    have HB1 := Lib.hid (below_old HAL.out hb)
    have HBX1 : Hid (EBox w1 w.heap.size e A c) := Blk.below HBX0.out hb
    clear hb
    go_wp2_with fail
    have y0 := fun u => EBox.cells (Blk.below HBX1.out (wx_below w1 u) : EBox (wx w1 u) w.heap.size e A c)
    have HSX : Hid (∀ u, Hid (SlR (wx w1 u) A (i64c e.nn))) := fun u => (HS.out.below HB1.out).below (wx_below w1 u)
    refine wp_region_grows (by kernel_rfl) (by kernel_rfl) ?_
    repeat (go_big_quiet_step ((first | (go_at_call 30; (with_reducible exact calls_grows (int_any e.ki i1.1 i1.2 P1 H1 _))) | (go_at_call 30; (with_reducible exact calls_grows (int_any e.ti i2.1 i2.2 P2 H2 _))) | (go_at_call 31; (with_reducible exact calls_grows (text_any e.it (by omega) P3 H3 _))) | (go_at_call 31; (with_reducible exact calls_grows (text_any e.of_ (by omega) P4 H4 _))) | (go_at_call 31; (with_reducible exact calls_grows (text_any e.tx (by omega) P6 H6 _))) | (go_at_call 32; (with_reducible exact calls_grows (ints_any e.nn A c (by omega) HI7 P5 H5 _ (HSX.out _)))))))
    refine wpQuiet_nil ?_
    rintro _ ⟨u, rfl⟩
    have HB2 := Lib.hid (below_old HB1.out (wx_below w1 u))
    clear y0
    generalize wx w1 u = w2 at *
    go_wp2_with fail
    go_ret2
    exact ⟨ret_si (HRC.out.trans HE.out.symm) rfl, HB2.out⟩
  · have HE := Lib.hid (encS_no (by rw [hx.out]; exact h0))
    have q : (x == 0) = false := by simpa using h0
    have q2 : (x != 0) = true := by simpa using h0
    clear h0
    go_enter Tryd.func15, Tryd.ntmps15
    go_wp2_with fail
    generalize w.alloc (.cells #[.int .i64 e.ki, .int .i64 e.ti, .string e.it, .string e.of_, .slice A e.nn.length c, .string e.tx] 24) = w0 at *
    (with_reducible refine (check_any e A c HO _ hx _ (Lib.hid (HS.out.below HAL.out))).mono ?_)
    rintro r w1 ⟨rfl, hb⟩
    have HB1 := Lib.hid (below_old HAL.out hb)
    have HBX1 : Hid (EBox w1 w.heap.size e A c) := Blk.below HBX0.out hb
    clear hb
    go_wp2_with fail
    go_ret2
    exact ⟨ret_si HE.out.symm rfl, HB1.out⟩
end Go.Proofs.YtcefmnkfkpoccaaDoor

namespace Go.Proofs.YtcefmnkfkpoccaaDoor
open Go.RowKit
set_option linter.unusedVariables false
open Wi Evn
theorem rdI_all {s : List UInt8} {t : St} (ht : t.1 ≤ s.length) (lo hi : Int) : I64 (rdI s t lo hi).2 ∧ (rdI s t lo hi).1.1 ≤ s.length := by
  unfold rdI
  split
  · split
    · rename_i h
      obtain ⟨_, _, e3, _, _, e6, e7⟩ := sgnR_lo h
      exact ⟨⟨e6, e7⟩, e3⟩
    · exact ⟨by show I64 0; decide, ht⟩
  · exact ⟨by show I64 0; decide, ht⟩
theorem rdT_all {s : List UInt8} {t : St} (ht : t.1 ≤ s.length) (most : Nat) : (rdT s t most).2.length ≤ most ∧ (rdT s t most).1.1 ≤ s.length := by
  unfold rdT
  split
  · split
    · rename_i h
      obtain ⟨_, e2, e3, _⟩ := cntR_is h
      split
      · rename_i h2
        refine ⟨?_, by simp only; omega⟩
        simp only [List.length_take, List.length_drop]
        omega
      · exact ⟨by simp, ht⟩
    · exact ⟨by simp, ht⟩
  · exact ⟨by simp, ht⟩
theorem rdS_all {s : List UInt8} {t : St} (ht : t.1 ≤ s.length) (most : Nat) (lo hi : Int) : (rdS s t most lo hi).2.length ≤ most ∧ (rdS s t most lo hi).1.1 ≤ s.length ∧ ∀ n ∈ (rdS s t most lo hi).2, lo ≤ n ∧ n ≤ hi := by
  by_cases h : (rdS s t most lo hi).1.2 = 0
  · obtain ⟨_, _, e3, e4, e5⟩ := rdS_is h
    exact ⟨e4, e3, e5⟩
  · unfold rdS at h ⊢
    split
    · rename_i h0
      rw [if_pos h0] at h
      split
      · rename_i h1
        rw [if_pos h1] at h
        split
        · rename_i h2
          rw [if_pos h2] at h
          exact absurd rfl h
        · exact ⟨by simp, ht, fun n hn => by cases hn⟩
      · exact ⟨by simp, ht, fun n hn => by cases hn⟩
    · exact ⟨by simp, ht, fun n hn => by cases hn⟩
/-- The world of Decode. -/
structure DcW (w w' : World) (s : ByteArray) (t : St) (cs : Array Value) : Prop where
  bel : Below w.heap.size w w'
  b0 : Blk w' w.heap.size 24 #[.int .i64 0, .int .i64 0, .string ⟨#[]⟩, .string ⟨#[]⟩, .slice none 0 0, .string ⟨#[]⟩]
  b1 : RdB w' (w.heap.size + 1) s t
  b2 : Blk w' (w.heap.size + 2) 24 cs
section
variable {w w' w'' : World} {s : ByteArray} {t T : St} {cs : Array Value}
theorem DcW.read (h : DcW w w' s t cs) (hr : RdB w'' (w.heap.size + 1) s T) (hg : w'.grownBy w'' (some (w.heap.size + 1))) : DcW w w'' s T cs :=
  ⟨h.bel.grown hg h.bel.size (fun k hk => by cases hk; omega), h.b0.grown hg (by simp), hr, h.b2.grown hg (by simp)⟩
theorem DcW.put (h : DcW w w' s t cs) (j : Nat) (v : Value) : DcW w (w'.setCell ⟨w.heap.size + 2, j, none⟩ v) s t (cs.setIfInBounds j v) :=
  ⟨h.bel.setCell (p := ⟨w.heap.size + 2, j, none⟩) (by simp) v, h.b0.grown (set_grown _ _ _ _) (by simp), Blk.grown h.b1 (set_grown _ _ _ _) (by simp), h.b2.set_ j v⟩
theorem DcW.below (h : DcW w w' s t cs) (hb : Below w'.heap.size w' w'') : DcW w w'' s t cs := ⟨below_old h.bel hb, h.b0.below hb, Blk.below h.b1 hb, h.b2.below hb⟩
end
/-- A row above the boxes. -/
def RowU (w w' : World) (v : Value) (l : List Int) : Prop := w'.ownsRow (w.heap.size + 3) 3 1 v l.length (i64c l)
theorem RowU.grown {w w' w'' : World} {v : Value} {l : List Int} {b : Nat} (h : RowU w w' v l) (hg : w'.grownBy w'' (some b)) (hb : b < w.heap.size + 3) : RowU w w'' v l := by
  refine World.ownsRow.kept h hg ?_
  cases hv : v.ownBlock with
  | none => exact .inl rfl
  | some j => exact .inr fun e1 => by have := (World.ownsRow.lt h j hv).1; cases e1; omega
theorem RowU.below {w w' w'' : World} {v : Value} {l : List Int} (h : RowU w w' v l) (hb : Below w'.heap.size w' w'') : RowU w w'' v l := World.ownsRow.kept h (below_grown hb none) (by cases v.ownBlock <;> simp)
/-- What the six reads of a text leave. -/
structure Six (s : ByteArray) (kl kh al ah : Int) (tm : Nat) (T1 T2 T3 T4 T5 T6 : St) (N1 N2 : Int) (N3 N4 : List UInt8) (N5 : List Int) (N6 : List UInt8) : Prop where
  r1 : rdI (bl s) (0, 0) kl kh = (T1, N1)
  r2 : rdI (bl s) T1 al ah = (T2, N2)
  r3 : rdT (bl s) T2 tm = (T3, N3)
  r4 : rdT (bl s) T3 tm = (T4, N4)
  r5 : rdS (bl s) T4 600 (-1099511627776) 1099511627776 = (T5, N5)
  r6 : rdT (bl s) T5 16384 = (T6, N6)
theorem six_of (s : ByteArray) (kl kh al ah : Int) (tm : Nat) : ∃ T1 T2 T3 T4 T5 T6 N1 N2 N3 N4 N5 N6, Six s kl kh al ah tm T1 T2 T3 T4 T5 T6 N1 N2 N3 N4 N5 N6 := ⟨_, _, _, _, _, _, _, _, _, _, _, _, rfl, rfl, rfl, rfl, rfl, rfl⟩
section
variable {s : ByteArray} {kl kh al ah : Int} {tm : Nat} {T1 T2 T3 T4 T5 T6 : St} {N1 N2 : Int} {N3 N4 : List UInt8} {N5 : List Int} {N6 : List UInt8}
theorem Six.dc (h : Six s kl kh al ah tm T1 T2 T3 T4 T5 T6 N1 N2 N3 N4 N5 N6) : dcT (bl s) kl kh al ah tm = (T6, ⟨N1, N2, lb N3, lb N4, N5, lb N6⟩) := by
  unfold dcT
  simp only [h.r1, h.r2, h.r3, h.r4, h.r5, h.r6]
theorem Six.pos (h : Six s kl kh al ah tm T1 T2 T3 T4 T5 T6 N1 N2 N3 N4 N5 N6) : T1.1 ≤ s.size ∧ T2.1 ≤ s.size ∧ T3.1 ≤ s.size ∧ T4.1 ≤ s.size ∧ T5.1 ≤ s.size ∧ T6.1 ≤ s.size := by
  have p1 := (rdI_all (s := bl s) (t := (0, 0)) (Nat.zero_le _) kl kh).2
  rw [h.r1] at p1
  have p2 := (rdI_all (s := bl s) p1 al ah).2
  rw [h.r2] at p2
  have p3 := (rdT_all (s := bl s) p2 tm).2
  rw [h.r3] at p3
  have p4 := (rdT_all (s := bl s) p3 tm).2
  rw [h.r4] at p4
  have p5 := (rdS_all (s := bl s) p4 600 (-1099511627776) 1099511627776).2.1
  rw [h.r5] at p5
  have p6 := (rdT_all (s := bl s) p5 16384).2
  rw [h.r6] at p6
  exact ⟨p1, p2, p3, p4, p5, p6⟩
theorem Six.ok (h : Six s kl kh al ah tm T1 T2 T3 T4 T5 T6 N1 N2 N3 N4 N5 N6) (htm : tm ≤ 16) : EvOk ⟨N1, N2, lb N3, lb N4, N5, lb N6⟩ := by
  obtain ⟨p1, p2, p3, p4, p5, p6⟩ := h.pos
  have q1 := (rdI_all (s := bl s) (t := (0, 0)) (Nat.zero_le _) kl kh).1
  rw [h.r1] at q1
  have q2 := (rdI_all (s := bl s) p1 al ah).1
  rw [h.r2] at q2
  have q3 := (rdT_all (s := bl s) p2 tm).1
  rw [h.r3] at q3
  have q4 := (rdT_all (s := bl s) p3 tm).1
  rw [h.r4] at q4
  have q5 := rdS_all (s := bl s) p4 600 (-1099511627776) 1099511627776
  rw [h.r5] at q5
  have q6 := (rdT_all (s := bl s) p5 16384).1
  rw [h.r6] at q6
  simp only at q1 q2 q3 q4 q5 q6
  refine ⟨q1, q2, ?_, ?_, ?_, ?_, fun x hx => ?_⟩
  · show ((N3.length : Nat) : Int) ≤ _; omega
  · show ((N4.length : Nat) : Int) ≤ _; omega
  · show ((N6.length : Nat) : Int) ≤ _; omega
  · have := q5.1; show ((N5.length : Nat) : Int) ≤ _; omega
  · have := q5.2.2 x hx; exact ⟨by omega, by omega⟩
end
/-- The event that is nothing. -/
def zE : Ev := ⟨0, 0, ⟨#[]⟩, ⟨#[]⟩, [], ⟨#[]⟩⟩
end Go.Proofs.YtcefmnkfkpoccaaDoor
