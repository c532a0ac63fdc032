/- event: what Decode answers, plain; the contracts of both Decodes in these words. -/
import Derived.Test.YtcefmnkfkpoccaaDoorGP
namespace Go.Proofs.YtcefmnkfkpoccaaDoor
open Go.RowKit
set_option linter.unusedVariables false
open Wi Evn
/-- The answer to a text: the event that has it as record, or nothing. -/
def DcA (s : ByteArray) (e : Ev) (x : Int) : Prop := (x = 0 ∧ chk e = 0 ∧ recS e = s) ∨ (x = 5 ∧ e = zE ∧ ∀ q, chk q = 0 → ¬ recS q = s)
theorem rec_bl {e : Ev} {s : ByteArray} (h : recS e = s) : bl s = recL e := by rw [← h]; rfl
theorem zE_ok : EvOk zE := ⟨by show I64 0; decide, by show I64 0; decide, by decide, by decide, by decide, by decide, fun x hx => by cases hx⟩
theorem okN_I64 {x : Int} (h : okN x) : I64 x := by unfold okN at h; exact ⟨by omega, by omega⟩
theorem can_ok {e : Ev} (h : Evn.Can e) : EvOk e := by
  have h1 := h.ki
  have h2 := h.ti
  have h3 := namB_size h.it
  have h4 := namB_size h.of_
  have h5 := h.nl
  have h6 := h.tl
  exact ⟨⟨by omega, by omega⟩, ⟨by omega, by omega⟩, by omega, by omega, by omega, by omega, fun x hx => okN_I64 (h.nn x hx)⟩
theorem DcA.ok {s : ByteArray} {e : Ev} {x : Int} (h : DcA s e x) : EvOk e := by
  rcases h with ⟨_, h, _⟩ | ⟨_, rfl, _⟩
  · exact can_ok (can_of h)
  · exact zE_ok
theorem dcA_ex (s : ByteArray) : ∃ e x, DcA s e x := by
  by_cases h : ∃ q, chk q = 0 ∧ recS q = s
  · obtain ⟨q, h1, h2⟩ := h
    exact ⟨q, 0, .inl ⟨rfl, h1, h2⟩⟩
  · exact ⟨zE, 5, .inr ⟨rfl, rfl, fun q h1 h2 => h ⟨q, h1, h2⟩⟩⟩
section
variable {s : ByteArray} {kl kh al ah : Int} {tm : Nat} {T1 T2 T3 T4 T5 T6 : St} {N1 N2 : Int} {N3 N4 : List UInt8} {N5 : List Int} {N6 : List UInt8}
theorem Six.of_rec (h : Six s kl kh al ah tm T1 T2 T3 T4 T5 T6 N1 N2 N3 N4 N5 N6) (h1 : kl ≤ 1) (h2 : 14 ≤ kh) (h3 : al ≤ 0) (h4 : 10000000 ≤ ah) (h5 : 8 ≤ tm) (h6 : tm < 18446744073709551616) {e : Ev} (hc : chk e = 0) (hr : recS e = s) : enE s.size T6 = 0 ∧ e = ⟨N1, N2, lb N3, lb N4, N5, lb N6⟩ := by
  have a := dcT_rec (can_of hc) [] h1 h2 h3 h4 h5 h6
  rw [List.append_nil, ← rec_bl hr, h.dc] at a
  obtain ⟨a1, a2⟩ := Prod.mk.inj a
  refine ⟨?_, a2.symm⟩
  rw [a1]
  unfold enE
  simp only [if_true]
  rw [if_neg (by rw [bl_len]; omega)]
theorem Six.to_rec (h : Six s kl kh al ah tm T1 T2 T3 T4 T5 T6 N1 N2 N3 N4 N5 N6) (he : enE s.size T6 = 0) : recS ⟨N1, N2, lb N3, lb N4, N5, lb N6⟩ = s := by
  unfold enE at he
  split at he
  · rename_i h0
    split at he
    · omega
    · rename_i h1
      have := dcT_is (s := bl s) (kl := kl) (kh := kh) (al := al) (ah := ah) (tm := tm) (by rw [h.dc]; exact h0) (by rw [h.dc, bl_len]; simp only; omega)
      rw [h.dc] at this
      unfold recS
      rw [this]
  · rename_i h0
    exact absurd he h0
end
theorem decode_is (s : ByteArray) (hs : (s.size : Int) ≤ 1000000) (e : Ev) (x : Int) (h : Hid (DcA s e x)) (w : World) :
    Calls Tryd.prog 17 #[.string s] w fun r w' => DcR w w' r e x := by
  obtain ⟨T1, T2, T3, T4, T5, T6, N1, N2, N3, N4, N5, N6, HX⟩ := six_of s (-9223372036854775808) 9223372036854775807 (-9223372036854775808) 9223372036854775807 16
  refine (decode_w s hs T1 T2 T3 T4 T5 T6 N1 N2 N3 N4 N5 N6 (Lib.hid HX) _ _ (Lib.hid rfl) (Lib.hid rfl) w).mono fun r w' hd => ?_
  rcases h.out with ⟨rfl, hc, hr⟩ | ⟨rfl, rfl, hn⟩
  · obtain ⟨a, b⟩ := HX.of_rec (by decide) (by decide) (by decide) (by decide) (by decide) (by decide) hc hr
    have := hd.1 ⟨a, by rw [← b]; exact hc⟩
    rw [← b] at this
    exact this
  · exact hd.2 fun q => hn _ q.2 (HX.to_rec q.1)
theorem rdecode_is (s : ByteArray) (hs : (s.size : Int) ≤ 1000000) (e : Ev) (x : Int) (h : Hid (DcA s e x)) (w : World) :
    Calls Tryd.prog 19 #[.string s] w fun r w' => DcR w w' r e x := by
  obtain ⟨T1, T2, T3, T4, T5, T6, N1, N2, N3, N4, N5, N6, HX⟩ := six_of s 1 14 0 10000000 8
  refine (rdecode_w s hs T1 T2 T3 T4 T5 T6 N1 N2 N3 N4 N5 N6 (Lib.hid HX) _ _ _ (Lib.hid rfl) (Lib.hid rfl) (Lib.hid rfl) _ (Lib.hid rfl) w).mono fun r w' hd => ?_
  rcases h.out with ⟨rfl, hc, hr⟩ | ⟨rfl, rfl, hn⟩
  · obtain ⟨a, b⟩ := HX.of_rec (by decide) (by decide) (by decide) (by decide) (by decide) (by decide) hc hr
    rw [← b] at hd
    exact hd.1 ⟨a, by rw [if_pos hc, if_pos (decide_eq_true hr)]⟩
  · refine hd.2 fun q => ?_
    have q2 := q.2
    split at q2
    · rename_i h0
      exact hn _ h0 (HX.to_rec q.1)
    · rename_i h0
      exact h0 q2
theorem dcr_open {w w' : World} {r : Ending} {e : Ev} {x : Int} (h : DcR w w' r e x) : ∃ A c, r = .returned (.tuple #[agE e A c, .int .i64 x]) ∧ SlR w' A (i64c e.nn) ∧ Below w.heap.size w w' := by
  obtain ⟨⟨A, c, h1, h2⟩, h3⟩ := h
  exact ⟨A, c, h1, h2, h3⟩
/-- The bytes of a record that Check accepts. -/
theorem rec_size {e : Ev} (h : Evn.Can e) : (recS e).size ≤ 30000 := by
  unfold recS
  rw [lb_size]
  unfold recL
  simp only [List.length_append]
  have s1 := inL_len e.ki
  have s2 := inL_len e.ti
  have s3 := txL_len e.it
  have s4 := txL_len e.of_
  have s5 := isL_len e.nn
  have s6 := txL_len e.tx
  have h3 := namB_size h.it
  have h4 := namB_size h.of_
  have h5 := h.nl
  have h6 := h.tl
  omega
end Go.Proofs.YtcefmnkfkpoccaaDoor
