/- StackGrows: the plain part; the first boxes. -/
import Derived.Test.YtgkkhbhobbhlpaaS6
import Derived.Test.YtgkkhbhobbhlpaaQ
namespace Go.Proofs.Ytgkkhbhobbhlpaa
open Go.RowKit
set_option linter.unusedVariables false

theorem crs_same {a n : Int} (ha : 1 ≤ a) (hn : 1 ≤ n) (h : n % a ≠ 0) : (n + 1 + a - 1) / a = (n + a - 1) / a := by
  have e := Int.mul_ediv_add_emod n a
  have r0 := Int.emod_nonneg n (show a ≠ 0 by omega)
  have r1 := Int.emod_lt_of_pos n (show 0 < a by omega)
  rw [Md.floor_of (x := n + a - 1) (q := n / a + 1) (r := n % a - 1) (by omega) (by rw [Int.mul_add]; omega) (by omega) (by omega),
    Md.floor_of (x := n + 1 + a - 1) (q := n / a + 1) (r := n % a) (by omega) (by rw [Int.mul_add]; omega) (by omega) (by omega)]
theorem crs_next {a n : Int} (ha : 1 ≤ a) (hn : 1 ≤ n) (h : n % a = 0) : (n + 1 + a - 1) / a = (n + a - 1) / a + 1 := by
  have e := Int.mul_ediv_add_emod n a
  rw [h] at e
  rw [Md.floor_of (x := n + a - 1) (q := n / a) (r := a - 1) (by omega) (by omega) (by omega) (by omega),
    Md.floor_of (x := n + 1 + a - 1) (q := n / a + 1) (r := 0) (by omega) (by rw [Int.mul_add]; omega) (by omega) (by omega)]

/-- What the two sizes are to each other. -/
inductive Grow (a b c x y n : Int) : Prop
  | bad (h : chkE a b c = 9) (e : sizE a b c x y n = 9) (f : sizE a b c x y (n + 1) = 9)
  | none (h : chkE a b c = 0) (e : sizW a b c x y n = 0 ∧ sizH a b c x y n = 0 ∧ sizE a b c x y n = 9) (f : sizE a b c x y (n + 1) = 9)
  | full (h : chkE a b c = 0) (e : sizE a b c x y n = 0) (f : sizE a b c x y (n + 1) = 9) (g : n = a * b)
  | wide (h : chkE a b c = 0) (e : sizE a b c x y n = 0) (f : sizE a b c x y (n + 1) = 0) (g : n < a) (p : sizW a b c x y (n + 1) = sizW a b c x y n + y) (q : sizH a b c x y (n + 1) = sizH a b c x y n)
  | high (h : chkE a b c = 0) (e : sizE a b c x y n = 0) (f : sizE a b c x y (n + 1) = 0) (g : ¬ n < a) (m : n % a = 0) (p : sizW a b c x y (n + 1) = sizW a b c x y n) (q : sizH a b c x y (n + 1) = sizH a b c x y n + x + c)
  | same (h : chkE a b c = 0) (e : sizE a b c x y n = 0) (f : sizE a b c x y (n + 1) = 0) (g : ¬ n < a) (m : n % a ≠ 0) (p : sizW a b c x y (n + 1) = sizW a b c x y n) (q : sizH a b c x y (n + 1) = sizH a b c x y n)

theorem grow_of (a b c x y n : Int) (hn : 1 ≤ n) : Grow a b c x y n := by
  by_cases h : 1 ≤ a ∧ a ≤ 8 ∧ 1 ≤ b ∧ b ≤ 8 ∧ 0 ≤ c ∧ c ≤ 50
  · by_cases h1 : (1 ≤ x ∧ x ≤ 600) ∧ (1 ≤ y ∧ y ≤ 600) ∧ 1 ≤ n ∧ n ≤ a * b
    · have e1 := siz_ok (n := n) ⟨h, h1⟩
      by_cases h2 : n + 1 ≤ a * b
      · have e2 := siz_ok (n := n + 1) ⟨h, h1.1, h1.2.1, by omega, h2⟩
        by_cases g : n < a
        · refine .wide (chk_ok h) e1.2.2 e2.2.2 g ?_ ?_
          · rw [e1.1, e2.1, show min n a = n by omega, show min (n + 1) a = n + 1 by omega, Int.add_mul]; omega
          · have hm : n % a ≠ 0 := by rw [Int.emod_eq_of_lt (by omega) g]; omega
            rw [e1.2.1, e2.2.1, crs_same (by omega) hn hm]
        · have hw : sizW a b c x y (n + 1) = sizW a b c x y n := by rw [e1.1, e2.1, show min n a = a by omega, show min (n + 1) a = a by omega]
          by_cases m : n % a = 0
          · refine .high (chk_ok h) e1.2.2 e2.2.2 g m hw ?_
            rw [e1.2.1, e2.2.1, crs_next (by omega) hn m]
            generalize (n + a - 1) / a = k
            grind
          · refine .same (chk_ok h) e1.2.2 e2.2.2 g m hw ?_
            rw [e1.2.1, e2.2.1, crs_same (by omega) hn m]
      · exact .full (chk_ok h) e1.2.2 (siz_no (n := n + 1) (by omega)).2.2 (by omega)
    · exact .none (chk_ok h) (siz_no (n := n) (by omega)) (siz_no (n := n + 1) (by omega)).2.2
  · exact .bad (chk_no h) (siz_no (n := n) (by omega)).2.2 (siz_no (n := n + 1) (by omega)).2.2

theorem siz_range (a b c x y n : Int) : (0 ≤ sizW a b c x y n ∧ sizW a b c x y n ≤ 4800) ∧ 0 ≤ sizH a b c x y n ∧ sizH a b c x y n ≤ 46150 := by
  by_cases h : (1 ≤ a ∧ a ≤ 8 ∧ 1 ≤ b ∧ b ≤ 8 ∧ 0 ≤ c ∧ c ≤ 50) ∧ (1 ≤ x ∧ x ≤ 600) ∧ (1 ≤ y ∧ y ≤ 600) ∧ 1 ≤ n ∧ n ≤ a * b
  · have e := siz_ok h
    have hp := prod8 ⟨h.1.1, h.1.2.1, h.1.2.2.1, h.1.2.2.2.1⟩
    have k0 : 1 ≤ (n + a - 1) / a := Int.le_ediv_of_mul_le (by omega) (by omega)
    have k1 : (n + a - 1) / a ≤ 71 := Int.le_trans (Int.ediv_le_self _ (by omega)) (by omega)
    have b1 := mulB 8 600 (a := min n a) (b := y) (by omega) (by omega)
    have b2 := mulB 71 600 (a := (n + a - 1) / a) (b := x) (by omega) (by omega)
    have b3 := mulB 71 50 (a := (n + a - 1) / a - 1) (b := c) (by omega) (by omega)
    rw [e.1, e.2.1]
    omega
  · have e := siz_no h
    rw [e.1, e.2.1]
    omega

/-- The law's first boxes: a shape and a pair. -/
def BoxG (w w1 : World) (a b c x y : Int) : Prop :=
  (w1.cell? ⟨w.heap.size, 0, none⟩ = some (.int .i64 a) ∧ w1.cell? ⟨w.heap.size, 1, none⟩ = some (.int .i64 b) ∧ w1.cell? ⟨w.heap.size, 2, none⟩ = some (.int .i64 c)) ∧
  (w1.cell? ⟨w.heap.size + 1, 0, none⟩ = some (.int .i64 x) ∧ w1.cell? ⟨w.heap.size + 1, 1, none⟩ = some (.int .i64 y)) ∧ w.heap.size + 2 ≤ w1.heap.size ∧ Below w.heap.size w w1
theorem BoxG.next {w w1 w2 : World} {a b c x y : Int} (h : BoxG w w1 a b c x y) (hb : Below w1.heap.size w1 w2) : BoxG w w2 a b c x y := by
  obtain ⟨⟨a0, a1, a2⟩, ⟨b0, b1⟩, hs, hB⟩ := h
  have e : ∀ o, w2.cell? ⟨w.heap.size, o, none⟩ = w1.cell? ⟨w.heap.size, o, none⟩ := fun o => hb.cell (by show w.heap.size < _; omega)
  have f : ∀ o, w2.cell? ⟨w.heap.size + 1, o, none⟩ = w1.cell? ⟨w.heap.size + 1, o, none⟩ := fun o => hb.cell (by show w.heap.size + 1 < _; omega)
  exact ⟨⟨by rw [e]; exact a0, by rw [e]; exact a1, by rw [e]; exact a2⟩, ⟨by rw [f]; exact b0, by rw [f]; exact b1⟩, Nat.le_trans hs hb.size, below_old hB hb⟩

end Go.Proofs.Ytgkkhbhobbhlpaa
