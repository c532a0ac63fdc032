/- Plain mathematics of events and their records. No program in sight. -/
import Derived.Test.YtcefmnkfkpoccaaDoorG0
import Derived.Test.YtcefmnkfkpoccaaDoorMA
namespace Go.Proofs.YtcefmnkfkpoccaaDoor
set_option linter.unusedVariables false
open Wi
namespace Evn
/-- An event. -/
structure Ev where
  ki : Int
  ti : Int
  it : ByteArray
  of_ : ByteArray
  nn : List Int
  tx : ByteArray
abbrev bl (s : ByteArray) : List UInt8 := s.data.toList
abbrev lb (l : List UInt8) : ByteArray := ⟨l.toArray⟩
theorem bl_lb (l : List UInt8) : bl (lb l) = l := rfl
theorem lb_bl (s : ByteArray) : lb (bl s) = s := rfl
theorem bl_len (s : ByteArray) : (bl s).length = s.size := rfl
/-- The kinds of the codes of Item and Of. -/
def kIt (k : Int) : Int := if k = 1 then 80 else if k = 2 ∨ k = 3 ∨ k = 4 then 76 else if k = 5 then 75 else if k = 6 then 67 else if k = 7 ∨ k = 13 ∨ k = 14 then 66 else if k = 8 ∨ k = 10 then 79 else 0
def kOf (k : Int) : Int := if k = 2 then 80 else 0
def namB (s : ByteArray) (c : Int) : Bool := if c = 0 then decide (s = ByteArray.empty) else isB s c
def dryB (n : List Int) : Bool := match n with
  | _ :: x :: r => decide (0 ≤ x ∧ x ≤ (r.length : Int) ∧ ((r.length : Int) - x) % 3 = 0)
  | _ => false
def shpB (k : Int) (n : List Int) : Bool :=
  if k = 1 then decide (n.length = 3) else if k = 4 then decide (2 ≤ n.length) else if k = 5 then true else if k = 6 then dryB n else if k = 7 then decide (n.length = 1) else
  if k = 9 then decide (n.length % 2 = 0) else if k = 11 then decide (n.length = 2) else if k = 13 then decide (n.length % 2 = 1) else if k = 14 then decide (1 ≤ n.length) else decide (n.length = 0)
def okN (x : Int) : Prop := -1099511627776 ≤ x ∧ x ≤ 1099511627776
instance (x : Int) : Decidable (okN x) := by unfold okN; infer_instance
def numB (n : List Int) : Bool := n.all fun x => decide (okN x)
/-- What Check answers. -/
def chk (e : Ev) : Int :=
  if 1 ≤ e.ki ∧ e.ki ≤ 14 then
    if 0 ≤ e.ti ∧ e.ti ≤ 10000000 then
      if (namB e.it (kIt e.ki) && namB e.of_ (kOf e.ki)) = true then
        if e.nn.length ≤ 600 ∧ e.tx.size ≤ 16384 then
          if numB e.nn = true then (if shpB e.ki e.nn = true then 0 else 19) else 9
        else 4
      else 6
    else 15
  else 10
structure Can (e : Ev) : Prop where
  ki : 1 ≤ e.ki ∧ e.ki ≤ 14
  ti : 0 ≤ e.ti ∧ e.ti ≤ 10000000
  it : namB e.it (kIt e.ki) = true
  of_ : namB e.of_ (kOf e.ki) = true
  nl : e.nn.length ≤ 600
  tl : e.tx.size ≤ 16384
  nn : ∀ x ∈ e.nn, okN x
  sh : shpB e.ki e.nn = true
theorem can_of {e : Ev} (h : chk e = 0) : Can e := by
  unfold chk at h
  split at h
  · rename_i h1
    split at h
    · rename_i h2
      split at h
      · rename_i h3
        split at h
        · rename_i h4
          split at h
          · rename_i h5
            split at h
            · rename_i h6
              rw [Bool.and_eq_true] at h3
              refine ⟨h1, h2, h3.1, h3.2, h4.1, h4.2, ?_, h6⟩
              simpa [numB] using h5
            · omega
          · omega
        · omega
      · omega
    · omega
  · omega
theorem isB_size {s : ByteArray} {c : Int} (h : isB s c = true) : s.size = 8 := by
  simp only [isB, Bool.and_eq_true, decide_eq_true_eq] at h
  have h1 := h.1
  unfold spE at h1
  split at h1
  · assumption
  · omega
theorem namB_size {s : ByteArray} {c : Int} (h : namB s c = true) : s.size ≤ 8 := by
  unfold namB at h
  split at h
  · simp only [decide_eq_true_eq] at h
    rw [h]
    decide
  · rw [isB_size h]
    decide
/-- The record of an event. -/
def recL (e : Ev) : List UInt8 := inL e.ki ++ inL e.ti ++ txL (bl e.it) ++ txL (bl e.of_) ++ isL e.nn ++ txL (bl e.tx)
/-- The event at the beginning of a text, read with bounds. -/
def dcT (s : List UInt8) (kl kh al ah : Int) (tm : Nat) : St × Ev :=
  ((rdT s (rdS s (rdT s (rdT s (rdI s (rdI s (0, 0) kl kh).1 al ah).1 tm).1 tm).1 600 (-1099511627776) 1099511627776).1 16384).1,
   ⟨(rdI s (0, 0) kl kh).2, (rdI s (rdI s (0, 0) kl kh).1 al ah).2, lb (rdT s (rdI s (rdI s (0, 0) kl kh).1 al ah).1 tm).2, lb (rdT s (rdT s (rdI s (rdI s (0, 0) kl kh).1 al ah).1 tm).1 tm).2, (rdS s (rdT s (rdT s (rdI s (rdI s (0, 0) kl kh).1 al ah).1 tm).1 tm).1 600 (-1099511627776) 1099511627776).2, lb (rdT s (rdS s (rdT s (rdT s (rdI s (rdI s (0, 0) kl kh).1 al ah).1 tm).1 tm).1 600 (-1099511627776) 1099511627776).1 16384).2⟩)
/-- A record, and whatever follows it, is read as its event. -/
theorem dcT_rec {e : Ev} (h : Can e) (r : List UInt8) {kl kh al ah : Int} {tm : Nat} (h1 : kl ≤ 1) (h2 : 14 ≤ kh) (h3 : al ≤ 0) (h4 : 10000000 ≤ ah) (h5 : 8 ≤ tm) (h6 : tm < 18446744073709551616) : dcT (recL e ++ r) kl kh al ah tm = (((recL e).length, 0), e) := by
  obtain ⟨s, hs⟩ : ∃ s, recL e ++ r = s := ⟨_, rfl⟩
  have hk := h.ki
  have ht := h.ti
  have e0 : s.drop 0 = inL e.ki ++ (inL e.ti ++ (txL (bl e.it) ++ (txL (bl e.of_) ++ (isL e.nn ++ (txL (bl e.tx) ++ r))))) := by
    rw [← hs, List.drop_zero]; unfold recL; simp only [List.append_assoc]
  obtain ⟨a1, e1⟩ := rdI_in (lo := kl) (hi := kh) e0 (by omega) (by omega) (by omega) (by omega)
  obtain ⟨a2, e2⟩ := rdI_in (lo := al) (hi := ah) e1 (by omega) (by omega) (by omega) (by omega)
  have hz1 : (bl e.it).length ≤ tm := by rw [bl_len]; have := namB_size h.it; omega
  have hz2 : (bl e.of_).length ≤ tm := by rw [bl_len]; have := namB_size h.of_; omega
  obtain ⟨a3, e3⟩ := rdT_in (most := tm) e2 hz1 h6
  obtain ⟨a4, e4⟩ := rdT_in (most := tm) e3 hz2 h6
  obtain ⟨a5, e5⟩ := rdS_in (most := 600) (lo := -1099511627776) (hi := 1099511627776) e4 h.nl (by decide) (by decide) (by decide) h.nn
  obtain ⟨a6, e6⟩ := rdT_in (most := 16384) e5 (by rw [bl_len]; exact h.tl) (by decide)
  rw [hs]
  unfold dcT
  simp only [a1, a2, a3, a4, a5, a6, lb_bl, Prod.mk.injEq, and_true]
  unfold recL
  simp only [List.length_append]
  omega
/-- What was read whole is the record of its event. -/
theorem dcT_is {s : List UInt8} {kl kh al ah : Int} {tm : Nat} (h : (dcT s kl kh al ah tm).1.2 = 0) (hl : s.length ≤ (dcT s kl kh al ah tm).1.1) : recL (dcT s kl kh al ah tm).2 = s := by
  unfold dcT at h hl ⊢
  simp only at h hl ⊢
  obtain ⟨g5, q6, l6, _⟩ := rdT_is h
  obtain ⟨g4, q5, l5, _⟩ := rdS_is g5
  obtain ⟨g3, q4, l4, _⟩ := rdT_is g4
  obtain ⟨g2, q3, l3, _⟩ := rdT_is g3
  obtain ⟨g1, q2, l2, _⟩ := rdI_is g2
  obtain ⟨g0, q1, l1, _⟩ := rdI_is g1
  have hend := List.drop_eq_nil_of_le hl
  rw [hend] at q6
  unfold recL
  simp only [bl_lb]
  rw [q6] at q5
  rw [q5] at q4
  rw [q4] at q3
  rw [q3] at q2
  rw [q2] at q1
  rw [List.drop_zero] at q1
  conv => rhs; rw [q1]
  simp only [List.append_assoc, List.append_nil]
/-- The texts that are records. -/
def okD (s : List UInt8) (d : St × Ev) : Prop := d.1.2 = 0 ∧ s.length ≤ d.1.1 ∧ chk d.2 = 0
theorem dec_same (s : List UInt8) {kl kh al ah : Int} {tm : Nat} (h1 : kl ≤ 1) (h2 : 14 ≤ kh) (h3 : al ≤ 0) (h4 : 10000000 ≤ ah) (h5 : 8 ≤ tm) (h6 : tm < 18446744073709551616) {kl' kh' al' ah' : Int} {tm' : Nat} (h1' : kl' ≤ 1) (h2' : 14 ≤ kh') (h3' : al' ≤ 0) (h4' : 10000000 ≤ ah') (h5' : 8 ≤ tm') (h6' : tm' < 18446744073709551616)
    (h : okD s (dcT s kl kh al ah tm)) : dcT s kl' kh' al' ah' tm' = dcT s kl kh al ah tm ∧ okD s (dcT s kl' kh' al' ah' tm') := by
  have hr := dcT_is h.1 h.2.1
  have hc := can_of h.2.2
  have a := dcT_rec hc [] h1 h2 h3 h4 h5 h6
  have b := dcT_rec hc [] h1' h2' h3' h4' h5' h6'
  rw [List.append_nil, hr] at a b
  have e : dcT s kl' kh' al' ah' tm' = dcT s kl kh al ah tm := by rw [a, b]
  exact ⟨e, by rw [e]; exact h⟩
/-- Events that Check accepts have different records, none the beginning of another one. -/
theorem rec_inj {a b : Ev} (ha : Can a) (hb : Can b) {r : List UInt8} (h : recL a = recL b ++ r) : a = b ∧ r = [] := by
  have x := dcT_rec ha [] (kl := 1) (kh := 14) (al := 0) (ah := 10000000) (tm := 8) (by decide) (by decide) (by decide) (by decide) (by decide) (by decide)
  have y := dcT_rec hb r (kl := 1) (kh := 14) (al := 0) (ah := 10000000) (tm := 8) (by decide) (by decide) (by decide) (by decide) (by decide) (by decide)
  rw [List.append_nil, h, y] at x
  simp only [Prod.mk.injEq, and_true] at x
  have hl := x.1
  simp at hl
  exact ⟨x.2.symm, by simpa using hl⟩
end Evn
end Go.Proofs.YtcefmnkfkpoccaaDoor
