/- A changed byte, or two neighbors exchanged: no code of the same kind. Eight bytes in memory. -/
import Derived.Test.YtlhjneeccjkaoaaDoorC8
import Derived.Test.YtlhjneeccjkaoaaDoorQ
import Derived.Laws.IdiomStrings
import Derived.Laws.BitsAllLaws
namespace Go.Proofs.YtlhjneeccjkaoaaDoor
open Go.RowKit
set_option linter.unusedVariables false

theorem let7 (s : ByteArray) : letN s 7 = (bt s 0 + 2 * bt s 1 + 3 * bt s 2 + 4 * bt s 3 + 5 * bt s 4 + 6 * bt s 5 + 7 * bt s 6) % 23 := by
  simp only [letN]
  omega
/-- What a code of the kind k is. -/
structure Good (s : ByteArray) (k : Int) : Prop where
  k0 : bt s 0 = k
  k1 : 65 ≤ k ∧ k ≤ 90
  d1 : 48 ≤ bt s 1 ∧ bt s 1 ≤ 57
  d2 : 48 ≤ bt s 2 ∧ bt s 2 ≤ 57
  d3 : 48 ≤ bt s 3 ∧ bt s 3 ≤ 57
  d4 : 48 ≤ bt s 4 ∧ bt s 4 ≤ 57
  d5 : 48 ≤ bt s 5 ∧ bt s 5 ≤ 57
  d6 : 48 ≤ bt s 6 ∧ bt s 6 ≤ 57
  c7 : 65 + (bt s 0 + 2 * bt s 1 + 3 * bt s 2 + 4 * bt s 3 + 5 * bt s 4 + 6 * bt s 5 + 7 * bt s 6) % 23 = bt s 7
theorem good_of {s : ByteArray} {k : Int} (h : isB s k = true) : Good s k := by
  simp only [isB, Bool.and_eq_true, decide_eq_true_eq] at h
  obtain ⟨h, hk⟩ := h
  obtain ⟨h8, hc, hd, hl⟩ := spE_zero h
  obtain ⟨a, b, c⟩ := sp_ok h8 hc hd hl
  have hdd := digs_each hd
  rw [let7] at hl
  exact ⟨by rw [← hk, a], by rw [← hk, a]; exact hc, hdd 1 (by omega) (by omega), hdd 2 (by omega) (by omega), hdd 3 (by omega) (by omega), hdd 4 (by omega) (by omega), hdd 5 (by omega) (by omega), hdd 6 (by omega) (by omega), hl⟩

theorem flip_no {s t : ByteArray} {k : Int} {i : Nat} (hi : i < 8) (hs : isB s k = true) (hne : bt t i ≠ bt s i) (h : ∀ j, j < 8 → j ≠ i → bt t j = bt s j) : isB t k = false := by
  rw [← Bool.not_eq_true]
  intro ht
  have g := good_of hs
  have f := good_of ht
  obtain ⟨k0, k1, d1, d2, d3, d4, d5, d6, c7⟩ := g
  obtain ⟨l0, l1, e1, e2, e3, e4, e5, e6, f7⟩ := f
  have q : ∀ j, j < 8 → bt t j = bt s j ∨ j = i := fun j hj => by
    by_cases hji : j = i
    · exact .inr hji
    · exact .inl (h j hj hji)
  have q0 := q 0 (by omega); have q1 := q 1 (by omega); have q2 := q 2 (by omega); have q3 := q 3 (by omega)
  have q4 := q 4 (by omega); have q5 := q 5 (by omega); have q6 := q 6 (by omega); have q7 := q 7 (by omega)
  clear q h
  match i, hi with
  | 0, _ => simp at q0 q1 q2 q3 q4 q5 q6 q7; omega
  | 1, _ => simp at q0 q1 q2 q3 q4 q5 q6 q7; omega
  | 2, _ => simp at q0 q1 q2 q3 q4 q5 q6 q7; omega
  | 3, _ => simp at q0 q1 q2 q3 q4 q5 q6 q7; omega
  | 4, _ => simp at q0 q1 q2 q3 q4 q5 q6 q7; omega
  | 5, _ => simp at q0 q1 q2 q3 q4 q5 q6 q7; omega
  | 6, _ => simp at q0 q1 q2 q3 q4 q5 q6 q7; omega
  | 7, _ => simp at q0 q1 q2 q3 q4 q5 q6 q7; omega
  | i + 8, hi => omega

theorem swap_no {s t : ByteArray} {k : Int} {i : Nat} (hi : i < 7) (hs : isB s k = true) (hne : bt s i ≠ bt s (i + 1)) (h0 : bt t i = bt s (i + 1)) (h1 : bt t (i + 1) = bt s i) (h : ∀ j, j < 8 → j ≠ i → j ≠ i + 1 → bt t j = bt s j) : isB t k = false := by
  rw [← Bool.not_eq_true]
  intro ht
  have g := good_of hs
  have f := good_of ht
  obtain ⟨k0, k1, d1, d2, d3, d4, d5, d6, c7⟩ := g
  obtain ⟨l0, l1, e1, e2, e3, e4, e5, e6, f7⟩ := f
  have q : ∀ j, j < 8 → bt t j = bt s j ∨ j = i ∨ j = i + 1 := fun j hj => by
    by_cases hji : j = i
    · exact .inr (.inl hji)
    · by_cases hji' : j = i + 1
      · exact .inr (.inr hji')
      · exact .inl (h j hj hji hji')
  have q0 := q 0 (by omega); have q1 := q 1 (by omega); have q2 := q 2 (by omega); have q3 := q 3 (by omega)
  have q4 := q 4 (by omega); have q5 := q 5 (by omega); have q6 := q 6 (by omega); have q7 := q 7 (by omega)
  clear q h
  match i, hi with
  | 0, _ => simp at q0 q1 q2 q3 q4 q5 q6 q7 h0 h1 hne; omega
  | 1, _ => simp at q0 q1 q2 q3 q4 q5 q6 q7 h0 h1 hne; omega
  | 2, _ => simp at q0 q1 q2 q3 q4 q5 q6 q7 h0 h1 hne; omega
  | 3, _ => simp at q0 q1 q2 q3 q4 q5 q6 q7 h0 h1 hne; omega
  | 4, _ => simp at q0 q1 q2 q3 q4 q5 q6 q7 h0 h1 hne; omega
  | 5, _ => simp at q0 q1 q2 q3 q4 q5 q6 q7 h0 h1 hne; omega
  | 6, _ => simp at q0 q1 q2 q3 q4 q5 q6 q7 h0 h1 hne; omega
  | i + 7, hi => omega

theorem xor_byte {a y : Int} (ha : 0 ≤ a ∧ a ≤ 255) (hy : 0 ≤ y ∧ y ≤ 255) : (0 ≤ bits .xor .u8 a y ∧ bits .xor .u8 a y ≤ 255) ∧ (y ≠ 0 → bits .xor .u8 a y ≠ a) := by
  rw [u8_xor a y (by omega) (by omega) (by omega) (by omega)]
  have h1 : a.toNat ^^^ y.toNat < 2 ^ 8 := Nat.xor_lt_two_pow (by omega) (by omega)
  refine ⟨by omega, fun h0 h => ?_⟩
  have h2 : a.toNat ^^^ y.toNat = a.toNat := by omega
  have h3 : a.toNat ^^^ (a.toNat ^^^ y.toNat) = a.toNat ^^^ a.toNat := by rw [h2]
  rw [← Nat.xor_assoc, Nat.xor_self, Nat.zero_xor] at h3
  omega

/-- Eight bytes in the block b, none of them frozen. -/
def Row8 (W : World) (b : Nat) (f : Nat → Int) : Prop := ∀ j, j < 8 → W.cell? ⟨b, j, none⟩ = some (.int .u8 (f j)) ∧ W.frozen? ⟨b, j, none⟩ = false
theorem Row8.below {W W' : World} {b : Nat} {f : Nat → Int} (h : Row8 W b f) (hb : Below W.heap.size W W') (hl : b < W.heap.size) : Row8 W' b f := fun j hj =>
  ⟨(hb.cell (p := ⟨b, j, none⟩) hl).trans (h j hj).1, (hb.frozen (p := ⟨b, j, none⟩) hl).trans (h j hj).2⟩
theorem Row8.set {W : World} {b q : Nat} {f : Nat → Int} (h : Row8 W b f) (hq : q < 8) (x : Int) : Row8 (W.setCell ⟨b, q, none⟩ (.int .u8 x)) b (fun j => if j = q then x else f j) := by
  intro j hj
  refine ⟨?_, by rw [World.frozen?_setCell]; exact (h j hj).2⟩
  by_cases hjq : j = q
  · subst hjq
    show _ = some (Value.int .u8 (if j = j then x else f j))
    rw [if_pos rfl]
    exact World.cell?_setCell_same' _ _ _ (by rw [(h j hj).1]; rfl)
  · show _ = some (Value.int .u8 (if j = q then x else f j))
    rw [if_neg hjq, ← (h j hj).1]
    exact World.cell?_setCell_other _ _ _ _ (fun e => hjq (by cases e; rfl))
def list8 (f : Nat → Int) : List Int := [f 0, f 1, f 2, f 3, f 4, f 5, f 6, f 7]
theorem Row8.conv {W : World} {b c : Nat} {f : Nat → Int} (h : Row8 W b f) : (convert 35 9 (.slice (some ⟨b, 0, none⟩) 8 c)).run Tryd.prog W = .ok (.string (strOfNums (list8 f))) W := by
  refine run_convert_bytes_arg _ 35 5 Tryd.underlying35 Tryd.underlying5 b 0 8 c (list8 f) rfl (fun i hi => ?_) 9 Tryd.underlying9
  match i, hi with
  | 0, _ => exact (h 0 (by omega)).1 | 1, _ => exact (h 1 (by omega)).1 | 2, _ => exact (h 2 (by omega)).1 | 3, _ => exact (h 3 (by omega)).1
  | 4, _ => exact (h 4 (by omega)).1 | 5, _ => exact (h 5 (by omega)).1 | 6, _ => exact (h 6 (by omega)).1 | 7, _ => exact (h 7 (by omega)).1
  | i + 8, hi => omega
theorem bt_list8 (f : Nat → Int) (h : ∀ j, j < 8 → 0 ≤ f j ∧ f j ≤ 255) (j : Nat) (hj : j < 8) : bt (strOfNums (list8 f)) j = f j :=
  bt_nums _ j _ (by
    match j, hj with
    | 0, _ => rfl | 1, _ => rfl | 2, _ => rfl | 3, _ => rfl | 4, _ => rfl | 5, _ => rfl | 6, _ => rfl | 7, _ => rfl
    | j + 8, hj => omega) (h j hj)

noncomputable def capC (W : World) : Nat := grownCap W 8 0 5
noncomputable def wB (W : World) (s : ByteArray) : World := W.drew.alloc (.cells (bytesRow s (capC W)) 5 ((bytesRow s (capC W)).size, (bytesRow s (capC W)).size + 1))
theorem conv_bytes (s : ByteArray) (h8 : s.size = 8) (W : World) : (convert 9 35 (.string s)).run Tryd.prog W = .ok (.slice (some ⟨W.heap.size, 0, none⟩) 8 (capC W)) (wB W s) := by
  have := run_bytes_of_string W 9 35 5 s Tryd.underlying9 Tryd.underlying35 Tryd.underlying5
  rw [h8] at this
  exact this
theorem wB_row (s : ByteArray) (h8 : s.size = 8) (W : World) : Row8 (wB W s) W.heap.size (bt s) := by
  intro j hj
  have hj' : j < s.data.size := by have : s.data.size = 8 := h8; omega
  have h1 := bytesRow_at s (capC W) j hj'
  have h2 := bt_get s j hj'
  have h3 : (s.data[j].toNat : Int) = bt s j := h2
  rw [h3] at h1
  have e : (wB W s).heap[W.heap.size]? = some (.cells (bytesRow s (capC W)) 5 ((bytesRow s (capC W)).size, (bytesRow s (capC W)).size + 1)) := by
    show (W.heap.push _)[W.heap.size]? = _
    simp
  refine ⟨?_, ?_⟩
  · unfold World.cell?
    rw [e]
    simp [h1]
  · unfold World.frozen?
    rw [e]
    have : (bytesRow s (capC W)).size ≥ 8 := by simp [bytesRow]; have : s.data.size = 8 := h8; omega
    simp
    omega
theorem wB_below (s : ByteArray) (W : World) : Below W.heap.size W (wB W s) ∧ W.heap.size < (wB W s).heap.size := by
  refine ⟨?_, by show W.heap.size < (W.heap.push _).size; simp⟩
  exact ((Below.refl _ _).drew).alloc (Nat.le_refl _) _
end Go.Proofs.YtlhjneeccjkaoaaDoor
