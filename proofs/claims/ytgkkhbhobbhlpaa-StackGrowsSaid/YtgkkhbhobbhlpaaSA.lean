/- StackGrows: the region that makes both values, and the walk. -/
import Derived.Test.YtgkkhbhobbhlpaaS8
import Derived.Test.YtgkkhbhobbhlpaaR2
import Derived.Laws.IdiomCopy
namespace Go.Proofs.Ytgkkhbhobbhlpaa
open Go.RowKit
set_option linter.unusedVariables false

theorem tm {x : Act} {e : Nat} {v : Value} (h : x.eval (.tmp e) = v) : x.tmps[e]?.getD undef = v := by
  rw [← h]; simp [Act.eval]

/-- The block b holds these values, none of them frozen. -/
def RowV (W : World) (b : Nat) (vs : List Value) : Prop := ∀ j (hj : j < vs.length), W.cell? ⟨b, j, none⟩ = some vs[j] ∧ W.frozen? ⟨b, j, none⟩ = false
theorem RowV.below {W W' : World} {b : Nat} {vs : List Value} (h : RowV W b vs) (hb : Below W.heap.size W W') (hl : b < W.heap.size) : RowV W' b vs := fun j hj =>
  ⟨(hb.cell (p := ⟨b, j, none⟩) hl).trans (h j hj).1, (hb.frozen (p := ⟨b, j, none⟩) hl).trans (h j hj).2⟩
theorem RowV.set {W : World} {b : Nat} {us vs : List Value} (h : RowV W b us) (hl : us.length = vs.length) : RowV (W.setCells b 0 vs) b vs := fun j hj => by
  refine ⟨?_, by rw [World.frozen?_setCells]; exact (h j (by omega)).2⟩
  have := World.cell?_setCells_in b vs 0 W (fun i hi => by rw [Nat.zero_add, (h i (by omega)).1]; rfl) j hj
  rwa [Nat.zero_add] at this
theorem RowV.other {W : World} {b b' : Nat} {us vs : List Value} (h : RowV W b us) (hne : b ≠ b') : RowV (W.setCells b' 0 vs) b us := fun j hj =>
  ⟨(World.cell?_setCells_out b' vs 0 W ⟨b, j, none⟩ (fun e => absurd e hne)).trans (h j hj).1, by rw [World.frozen?_setCells]; exact (h j hj).2⟩
theorem setCells_size (b : Nat) : ∀ (vs : List Value) (o : Nat) (W : World), (W.setCells b o vs).heap.size = W.heap.size
  | [], _, _ => rfl
  | v :: r, o, W => by rw [World.setCells, setCells_size b r]; simp
theorem setCells_below {B : Nat} {A : World} (b : Nat) (hb : B ≤ b) : ∀ (vs : List Value) (o : Nat) (W : World), Below B A W → Below B A (W.setCells b o vs)
  | [], _, _, h => h
  | v :: r, o, W, h => setCells_below b hb r (o + 1) _ (h.setCell (p := ⟨b, o, none⟩) hb v)
theorem RowV.new (W : World) (vs : Array Value) (t : TypeId) : RowV (W.alloc (.cells vs t)) W.heap.size vs.toList := fun j hj => by
  have e : (W.alloc (.cells vs t)).heap[W.heap.size]? = some (.cells vs t (0, 0)) := by
    show (W.heap.push _)[W.heap.size]? = _
    simp
  refine ⟨?_, ?_⟩
  · unfold World.cell?
    rw [e]
    simp at hj
    simp [hj]
  · unfold World.frozen?
    rw [e]
    simp
theorem BoxG.set {w w1 : World} {a b c x y : Int} (h : BoxG w w1 a b c x y) (g : Nat) (hg : w.heap.size + 2 ≤ g) (vs : List Value) : BoxG w (w1.setCells g 0 vs) a b c x y := by
  obtain ⟨⟨a0, a1, a2⟩, ⟨b0, b1⟩, hs, hB⟩ := h
  have e : ∀ o, (w1.setCells g 0 vs).cell? ⟨w.heap.size, o, none⟩ = w1.cell? ⟨w.heap.size, o, none⟩ := fun o => World.cell?_setCells_out g vs 0 w1 _ (fun e => by simp at e; omega)
  have f : ∀ o, (w1.setCells g 0 vs).cell? ⟨w.heap.size + 1, o, none⟩ = w1.cell? ⟨w.heap.size + 1, o, none⟩ := fun o => World.cell?_setCells_out g vs 0 w1 _ (fun e => by simp at e; omega)
  exact ⟨⟨by rw [e]; exact a0, by rw [e]; exact a1, by rw [e]; exact a2⟩, ⟨by rw [f]; exact b0, by rw [f]; exact b1⟩, by rw [setCells_size]; exact hs, setCells_below g (by omega) vs 0 w1 hB⟩

abbrev shpL (a b c : Int) : List Value := [.int .i64 a, .int .i64 b, .int .i64 c]
abbrev prdL (x y : Int) : List Value := [.string ⟨#[]⟩, .int .i64 x, .int .i64 y, .int .i64 0, .int .i64 0, .slice none 0 0, .slice none 0 0]
structure StW (w : World) (a b c x y : Int) (L : Nat → Bool) (g : Nat × Nat) (w' : World) : Prop where
  box : BoxG w w' a b c x y
  s7 : L 7 = true → w.heap.size + 2 ≤ g.1 ∧ g.1 < w'.heap.size ∧ RowV w' g.1 (if L 9 then shpL a b c else shpL 0 0 0)
  s8 : L 8 = true → w.heap.size + 2 ≤ g.2 ∧ g.2 < w'.heap.size ∧ RowV w' g.2 (if L 10 then prdL x y else prdL 0 0)
  ne : L 7 = true → L 8 = true → g.1 ≠ g.2
  o9 : L 9 = true → L 7 = true
  o10 : L 10 = true → L 8 = true
section
variable {w : World} {a b c x y : Int} {L : Nat → Bool} {g : Nat × Nat} {w' : World}
theorem StW.next {i : Nat} {w'' : World} (h : StW w a b c x y L g w') (hi : i < 7) (hb : Below w'.heap.size w' w'') : StW w a b c x y (fun j => j == i || L j) g w'' := by
  have e7 : ((7 : Nat) == i) = false := by simp; omega
  have e8 : ((8 : Nat) == i) = false := by simp; omega
  have e9 : ((9 : Nat) == i) = false := by simp; omega
  have e10 : ((10 : Nat) == i) = false := by simp; omega
  obtain ⟨h1, h2, h3, h4, h5, h6⟩ := h
  refine ⟨h1.next hb, ?_, ?_, ?_, ?_, ?_⟩
  · simp only [e7, e9, Bool.false_or]; intro h; obtain ⟨p, q, r⟩ := h2 h; exact ⟨p, Nat.lt_of_lt_of_le q hb.size, r.below hb q⟩
  · simp only [e8, e10, Bool.false_or]; intro h; obtain ⟨p, q, r⟩ := h3 h; exact ⟨p, Nat.lt_of_lt_of_le q hb.size, r.below hb q⟩
  · simpa only [e7, e8, Bool.false_or] using h4
  · simpa only [e7, e9, Bool.false_or] using h5
  · simpa only [e8, e10, Bool.false_or] using h6
theorem StW.a7 (h : StW w a b c x y L g w') (hl : L 7 = false) (t : TypeId) : StW w a b c x y (fun j => j == 7 || L j) (w'.heap.size, g.2) (w'.alloc (.cells #[.int .i64 0, .int .i64 0, .int .i64 0] t)) := by
  obtain ⟨h1, h2, h3, h4, h5, h6⟩ := h
  have n9 : L 9 = false := by
    cases hh : L 9 with
    | false => rfl
    | true => have := h5 hh; rw [hl] at this; cases this
  have hb : Below w'.heap.size w' (w'.alloc (.cells #[.int .i64 0, .int .i64 0, .int .i64 0] t)) := (Below.refl _ _).alloc (Nat.le_refl _) _
  refine ⟨h1.next hb, ?_, ?_, ?_, ?_, ?_⟩
  · intro _
    simp only [show ((9 : Nat) == 7) = false from rfl, n9, Bool.false_or, Bool.false_eq_true, if_false]
    exact ⟨h1.2.2.1, by simp, RowV.new w' _ t⟩
  · simp only [show ((8 : Nat) == 7) = false from rfl, show ((10 : Nat) == 7) = false from rfl, Bool.false_or]
    intro h; obtain ⟨p, q, r⟩ := h3 h; exact ⟨p, Nat.lt_of_lt_of_le q hb.size, r.below hb q⟩
  · simp only [show ((8 : Nat) == 7) = false from rfl, Bool.false_or]
    intro _ h; obtain ⟨p, q, r⟩ := h3 h
    show w'.heap.size ≠ g.2
    omega
  · intro _; rfl
  · simpa using h6
theorem StW.a8 (h : StW w a b c x y L g w') (hl : L 8 = false) (t : TypeId) : StW w a b c x y (fun j => j == 8 || L j) (g.1, w'.heap.size) (w'.alloc (.cells #[.string ⟨#[]⟩, .int .i64 0, .int .i64 0, .int .i64 0, .int .i64 0, .slice none 0 0, .slice none 0 0] t)) := by
  obtain ⟨h1, h2, h3, h4, h5, h6⟩ := h
  have n9 : L 10 = false := by
    cases hh : L 10 with
    | false => rfl
    | true => have := h6 hh; rw [hl] at this; cases this
  have hb : Below w'.heap.size w' (w'.alloc (.cells #[.string ⟨#[]⟩, .int .i64 0, .int .i64 0, .int .i64 0, .int .i64 0, .slice none 0 0, .slice none 0 0] t)) := (Below.refl _ _).alloc (Nat.le_refl _) _
  refine ⟨h1.next hb, ?_, ?_, ?_, ?_, ?_⟩
  · simp only [show ((7 : Nat) == 8) = false from rfl, show ((9 : Nat) == 8) = false from rfl, Bool.false_or]
    intro h; obtain ⟨p, q, r⟩ := h2 h; exact ⟨p, Nat.lt_of_lt_of_le q hb.size, r.below hb q⟩
  · intro _
    simp only [show ((10 : Nat) == 8) = false from rfl, n9, Bool.false_or, Bool.false_eq_true, if_false]
    exact ⟨h1.2.2.1, by simp, RowV.new w' _ t⟩
  · simp only [show ((7 : Nat) == 8) = false from rfl, Bool.false_or]
    intro h _; obtain ⟨p, q, r⟩ := h2 h
    show g.1 ≠ w'.heap.size
    omega
  · simpa using h5
  · intro _; rfl
theorem StW.p9 (h : StW w a b c x y L g w') (h7 : L 7 = true) (hl : L 9 = false) : StW w a b c x y (fun j => j == 9 || L j) g (w'.setCells g.1 0 (shpL a b c)) := by
  obtain ⟨h1, h2, h3, h4, h5, h6⟩ := h
  obtain ⟨p, q, r⟩ := h2 h7
  simp only [hl, Bool.false_eq_true, if_false] at r
  refine ⟨h1.set g.1 p _, ?_, ?_, ?_, ?_, ?_⟩
  · intro _; exact ⟨p, by rw [setCells_size]; exact q, by rw [if_pos (by simp)]; exact RowV.set (vs := shpL a b c) r (by simp)⟩
  · simp only [show ((8 : Nat) == 9) = false from rfl, show ((10 : Nat) == 9) = false from rfl, Bool.false_or]
    intro h; obtain ⟨p', q', r'⟩ := h3 h; exact ⟨p', by rw [setCells_size]; exact q', r'.other (Ne.symm (h4 h7 h))⟩
  · simpa using h4
  · intro _; simpa using h7
  · simpa using h6
theorem StW.p10 (h : StW w a b c x y L g w') (h8 : L 8 = true) (hl : L 10 = false) : StW w a b c x y (fun j => j == 10 || L j) g (w'.setCells g.2 0 (prdL x y)) := by
  obtain ⟨h1, h2, h3, h4, h5, h6⟩ := h
  obtain ⟨p, q, r⟩ := h3 h8
  simp only [hl, Bool.false_eq_true, if_false] at r
  refine ⟨h1.set g.2 p _, ?_, ?_, ?_, ?_, ?_⟩
  · simp only [show ((7 : Nat) == 10) = false from rfl, show ((9 : Nat) == 10) = false from rfl, Bool.false_or]
    intro h; obtain ⟨p', q', r'⟩ := h2 h; exact ⟨p', by rw [setCells_size]; exact q', r'.other (h4 h h8)⟩
  · intro _; exact ⟨p, by rw [setCells_size]; exact q, by rw [if_pos (by simp)]; exact RowV.set (vs := prdL x y) r (by simp)⟩
  · simpa using h4
  · simpa using h5
  · intro _; simpa using h8
end

def stV (w : World) (a b c x y : Int) (g : Nat × Nat) : Nat → Value
  | 0 => .agg #[.int .i64 a, .int .i64 b, .int .i64 c]
  | 1 => .agg #[.int .i64 a, .int .i64 b, .int .i64 c]
  | 2 => .pointer (some ⟨w.heap.size + 1, 0, none⟩)
  | 3 => .int .i64 x
  | 4 => .pointer (some ⟨w.heap.size + 1, 1, none⟩)
  | 5 => .int .i64 y
  | 6 => .agg #[.string ⟨#[]⟩, .int .i64 x, .int .i64 y, .int .i64 0, .int .i64 0, .slice none 0 0, .slice none 0 0]
  | 7 => .pointer (some ⟨g.1, 0, none⟩)
  | 8 => .pointer (some ⟨g.2, 0, none⟩)
  | _ => undef
theorem stV_7 {w : World} {a b c x y : Int} {g : Nat × Nat} {n j : Nat} (h : j ≠ 7) : stV w a b c x y (n, g.2) j = stV w a b c x y g j := by
  match j, h with
  | 0, _ => rfl | 1, _ => rfl | 2, _ => rfl | 3, _ => rfl | 4, _ => rfl | 5, _ => rfl | 6, _ => rfl | 7, h => exact absurd rfl h | 8, _ => rfl | _ + 9, _ => rfl
def stD : List (Nat × Nat) := [(22, 0), (23, 1), (24, 2), (25, 3), (26, 4), (27, 5), (28, 6), (7, 7), (8, 8)]
theorem stV_8 {w : World} {a b c x y : Int} {g : Nat × Nat} {n j : Nat} (h : j ≠ 8) : stV w a b c x y (g.1, n) j = stV w a b c x y g j := by
  match j, h with
  | 0, _ => rfl | 1, _ => rfl | 2, _ => rfl | 3, _ => rfl | 4, _ => rfl | 5, _ => rfl | 6, _ => rfl | 7, _ => rfl | 8, h => exact absurd rfl h | _ + 9, _ => rfl
end Go.Proofs.Ytgkkhbhobbhlpaa
