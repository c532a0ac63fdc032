/- The walks of the laws StackSizes and StackSplits. -/
import Derived.Test.YtgkkhbhobbhlpaaS5
namespace Go.Proofs.Ytgkkhbhobbhlpaa
open Go.RowKit
set_option linter.unusedVariables false

/-- The law's own boxes: a shape, a pair, a product. -/
def Box3 (w w1 : World) (a b c x y : Int) : Prop :=
  (w1.cell? ⟨w.heap.size, 0, none⟩ = some (.int .i64 a) ∧ w1.cell? ⟨w.heap.size, 1, none⟩ = some (.int .i64 b) ∧ w1.cell? ⟨w.heap.size, 2, none⟩ = some (.int .i64 c)) ∧
  (w1.cell? ⟨w.heap.size + 1 + 1, 0, none⟩ = some (.string ⟨#[]⟩) ∧ w1.cell? ⟨w.heap.size + 1 + 1, 1, none⟩ = some (.int .i64 x) ∧ w1.cell? ⟨w.heap.size + 1 + 1, 2, none⟩ = some (.int .i64 y) ∧ w1.cell? ⟨w.heap.size + 1 + 1, 3, none⟩ = some (.int .i64 0) ∧
    w1.cell? ⟨w.heap.size + 1 + 1, 4, none⟩ = some (.int .i64 0) ∧ w1.cell? ⟨w.heap.size + 1 + 1, 5, none⟩ = some (.slice none 0 0) ∧ w1.cell? ⟨w.heap.size + 1 + 1, 6, none⟩ = some (.slice none 0 0)) ∧
  w.heap.size + 3 ≤ w1.heap.size ∧ Below w.heap.size w w1
theorem Box3.next {w w1 w2 : World} {a b c x y : Int} (h : Box3 w w1 a b c x y) (hb : Below w1.heap.size w1 w2) : Box3 w w2 a b c x y := by
  obtain ⟨⟨a0, a1, a2⟩, ⟨b0, b1, b2, b3, b4, b5, b6⟩, hs, hB⟩ := h
  have e : ∀ o, w2.cell? ⟨w.heap.size, o, none⟩ = w1.cell? ⟨w.heap.size, o, none⟩ := fun o => hb.cell (by show w.heap.size < _; omega)
  have f : ∀ o, w2.cell? ⟨w.heap.size + 1 + 1, o, none⟩ = w1.cell? ⟨w.heap.size + 1 + 1, o, none⟩ := fun o => hb.cell (by show w.heap.size + 1 + 1 < _; omega)
  exact ⟨⟨by rw [e]; exact a0, by rw [e]; exact a1, by rw [e]; exact a2⟩, ⟨by rw [f]; exact b0, by rw [f]; exact b1, by rw [f]; exact b2, by rw [f]; exact b3, by rw [f]; exact b4, by rw [f]; exact b5, by rw [f]; exact b6⟩, Nat.le_trans hs hb.size, below_old hB hb⟩

set_option maxHeartbeats 2000000 in
theorem stackSizes_walk (a b c x y n : Int) (w : World) :
    Calls Try.prog 9 #[.agg #[.int .i64 a, .int .i64 b, .int .i64 c], .agg #[.int .i64 x, .int .i64 y], .int .i64 n] w fun e w' => e = .returned (.bool true) ∧ Below w.heap.size w w' := by
  have hB0 : Box3 w (((w.alloc (.cells #[.int .i64 a, .int .i64 b, .int .i64 c] 54)).alloc (.cells #[.int .i64 x, .int .i64 y] 48)).alloc (.cells #[.string ⟨#[]⟩, .int .i64 x, .int .i64 y, .int .i64 0, .int .i64 0, .slice none 0 0, .slice none 0 0] 64)) a b c x y := by
    refine ⟨⟨?_, ?_, ?_⟩, ⟨?_, ?_, ?_, ?_, ?_, ?_, ?_⟩, by simp, (((Below.refl _ _).alloc (Nat.le_refl _) _).alloc (by simp) _).alloc (by simp; omega) _⟩ <;> simp [go_sem]
  have HB0 := Lib.hid hB0
  clear hB0
  go_enter Try.func9, Try.ntmps9
  go_wp2_with fail
  generalize (((w.alloc (.cells #[.int .i64 a, .int .i64 b, .int .i64 c] 54)).alloc (.cells #[.int .i64 x, .int .i64 y] 48)).alloc (.cells #[.string ⟨#[]⟩, .int .i64 x, .int .i64 y, .int .i64 0, .int .i64 0, .slice none 0 0, .slice none 0 0] 64)) = w0 at *
  have hc := fun u => (HB0.out.next (wx_below w0 u)).1
  have hd := fun u => (HB0.out.next (wx_below w0 u)).2.1
  refine wp_region_grows (by kernel_rfl) (by kernel_rfl) ?_
  repeat (go_big_quiet_step ((first | (go_at_call 30; (with_reducible exact calls_grows (shape_any _ _ _ _))) | (go_at_call 35; (with_reducible exact calls_grows (size_pkg _ _ _ _ _ _ _))))))
  refine wpQuiet_nil ?_
  rintro _ ⟨u, rfl⟩
  have HB1 := Lib.hid (HB0.out.next (wx_below w0 u))
  generalize wx w0 u = w1 at *
  clear hc hd HB0
  obtain ⟨⟨a0, a1, a2⟩, ⟨b0, b1, b2, b3, b4, b5, b6⟩, hs, hB⟩ := HB1.out
  go_wp2_with fail
  refine (rsize_pkg _ _ _ _ _ _ _).mono ?_
  rintro e w2 ⟨rfl, hb⟩
  have HB2 := Lib.hid (HB1.out.next hb)
  clear hb a0 a1 a2 b0 b1 b2 b3 b4 b5 b6 hs HB1
  go_wp2_with fail
  refine (awake_any _).mono ?_
  rintro e w3 ⟨rfl, hb⟩
  go_wp2_with fail
  go_ret
  exact ⟨rfl, below_old HB2.out.2.2.2 hb⟩

set_option maxHeartbeats 2000000 in
theorem stackSplits_walk (a b c n : Int) (w : World) :
    Calls Try.prog 11 #[.agg #[.int .i64 a, .int .i64 b, .int .i64 c], .int .i64 n] w fun e w' => e = .returned (.bool true) ∧ Below w.heap.size w w' := by
  have hlen : Hid (((splL a b c n).length : Int) ≤ 100000) := by
    have : ∀ (p : Int) (f : Nat) (n : Int), (splF p f n).length ≤ f := by
      intro p f
      induction f with
      | zero => intro n; simp [splF]
      | succ f ih => intro n; simp only [splF]; split <;> simp [ih]
    show _ ≤ _
    unfold splL
    split
    · have := this (a * b) 512 n; omega
    · simp
  go_enter Try.func11, Try.ntmps11
  go_wp2_with fail
  refine (shape_any _ _ _ _).mono ?_
  rintro e w1 ⟨rfl, hb⟩
  obtain ⟨c0, c1, c2, hlt, hbel⟩ := box_cells hb
  clear hb
  go_wp2_with fail
  refine (split_any _ _ _ _ _).mono ?_
  rintro e w2 ⟨v, rfl, ho, hb⟩
  have d0 := (hb.cell (p := ⟨w.heap.size, 0, none⟩) hlt).trans c0
  have d1 := (hb.cell (p := ⟨w.heap.size, 1, none⟩) hlt).trans c1
  have d2 := (hb.cell (p := ⟨w.heap.size, 2, none⟩) hlt).trans c2
  have HR := Lib.hid ho.rd
  have hbel2 := below_old hbel hb
  clear hb c0 c1 c2 hlt hbel ho
  go_wp2_with fail
  refine (rsplit_any _ _ _ _ _).mono ?_
  rintro e w3 ⟨v2, rfl, ho, hb⟩
  have HR1 := Lib.hid (HR.out.below hb)
  have HR2 := Lib.hid ho.rd
  have hbel3 := below_old hbel2 hb
  clear hb d0 d1 d2 hbel2 ho HR
  go_wp2_with fail
  refine (ints_same _ _ _ _ hlen.out HR1.out HR2.out).mono ?_
  rintro e w4 ⟨rfl, k, rfl⟩
  go_wp2_with fail
  refine (awake_any _).mono ?_
  rintro e w5 ⟨rfl, hb⟩
  go_wp2_with fail
  go_ret
  exact ⟨rfl, below_old (below_drewN hbel3 k) hb⟩
end Go.Proofs.Ytgkkhbhobbhlpaa
