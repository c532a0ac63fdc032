/- The register of permits in memory. -/
import Derived.Test.YtgkkhbhobbhlpaaA0
import Derived.Laws.OwnMore
import Derived.Deep.AppendLies
import Derived.Deep.RegionLawGrows
namespace Go.Proofs.Ytgkkhbhobbhlpaa
open Go.RowKit
set_option linter.unusedVariables false

/-- A block that is known whole. -/
def Blk (w : World) (g : Nat) (t : TypeId) (cs : Array Value) : Prop := w.heap[g]? = some (.cells cs t (0, 0))
section
variable {w w' : World} {g : Nat} {t : TypeId} {cs : Array Value}
theorem Blk.lt (h : Blk w g t cs) : g < w.heap.size := by
  rcases Nat.lt_or_ge g w.heap.size with hlt | hge
  · exact hlt
  · unfold Blk at h; rw [Array.getElem?_eq_none hge] at h; cases h
theorem Blk.cell (h : Blk w g t cs) (i : Nat) : w.cell? ⟨g, i, none⟩ = cs[i]? := cell_of_row w g i cs t (0, 0) h
theorem Blk.frozen (h : Blk w g t cs) (i : Nat) : w.frozen? ⟨g, i, none⟩ = false := by
  unfold Blk at h
  simp [World.frozen?, h]
theorem Blk.new (w : World) (t : TypeId) (cs : Array Value) : Blk (w.alloc (.cells cs t)) w.heap.size t cs := heap_alloc_new w _
theorem Blk.set_ (h : Blk w g t cs) (i : Nat) (u : Value) : Blk (w.setCell ⟨g, i, none⟩ u) g t (cs.setIfInBounds i u) := by
  unfold Blk at h ⊢
  simp [World.setCell, Array.getElem?_modify, h]
theorem Blk.grown {row : Option Nat} (h : Blk w g t cs) (hg : w.grownBy w' row) (hne : some g ≠ row) : Blk w' g t cs := (hg.block g h.lt hne).trans h
theorem Blk.below (h : Blk w g t cs) (hb : Below w.heap.size w w') : Blk w' g t cs := (hb.block g h.lt).trans h
end
theorem below_grown {w w' : World} (h : Below w.heap.size w w') (row : Option Nat) : w.grownBy w' row := ⟨h.os, h.tape, h.output, h.size, fun k hk _ => h.block k hk⟩
theorem grown_below {w w' : World} (h : w.grownBy w' none) : Below w.heap.size w w' := ⟨h.os, h.tape, h.output, h.size, fun k hk => h.block k hk (by simp)⟩
theorem grown_below_of {B : Nat} {w w' : World} {row : Option Nat} (h : w.grownBy w' row) (hB : B ≤ w.heap.size) (hr : ∀ k, row = some k → B ≤ k) : Below B w w' := (Below.refl B w).grown h hB hr
theorem grown_drewN {w w' : World} {row : Option Nat} (h : w.grownBy w' row) (n : Nat) : w.grownBy (w'.drewN n) row := ⟨h.os, h.tape, h.output, h.size, h.block⟩

/-- A permit's cells. -/
def pcells (p : Pt.Pm) : List Value := [.string p.id, .string p.sp, .int .i64 p.fr, .int .i64 p.un, .int .i64 p.qu]
def prow (R : Pt.Rg) : List Value := R.flatMap fun e => pcells e.1
def urow (R : Pt.Rg) : List Value := R.map fun e => .int .i64 e.2
def lrow (R : Pt.Rg) : List Value := R.map fun e => .int .i64 (e.1.qu - e.2)
theorem pcells_length (p : Pt.Pm) : (pcells p).length = 5 := rfl
theorem prow_length (R : Pt.Rg) : (prow R).length = R.length * 5 := by
  induction R with
  | nil => rfl
  | cons e r ih => simp only [prow, List.flatMap_cons, List.length_append, pcells_length, List.length_cons] at ih ⊢; omega
theorem prow_at (R : Pt.Rg) (i j : Nat) (h : i < R.length) (hj : j < 5) : (prow R)[i * 5 + j]? = (pcells (R[i]).1)[j]? := by
  induction R generalizing i with
  | nil => simp at h
  | cons e r ih =>
    simp only [prow, List.flatMap_cons] at ih ⊢
    cases i with
    | zero => rw [List.getElem?_append_left (by rw [pcells_length]; omega)]; simp
    | succ i =>
      rw [List.getElem?_append_right (by rw [pcells_length]; omega), pcells_length, show (i + 1) * 5 + j - 5 = i * 5 + j by omega, ih i (by simpa using h)]
      simp
theorem prow_snoc (R : Pt.Rg) (p : Pt.Pm) (u : Int) : prow (R ++ [(p, u)]) = prow R ++ pcells p := by simp [prow]
theorem urow_snoc (R : Pt.Rg) (p : Pt.Pm) (u : Int) : urow (R ++ [(p, u)]) = urow R ++ [.int .i64 u] := by simp [urow]
theorem urow_length (R : Pt.Rg) : (urow R).length = R.length := by simp [urow]
theorem urow_at (R : Pt.Rg) (i : Nat) (h : i < R.length) : (urow R)[i]? = some (.int .i64 (R[i]).2) := by simp [urow, h]
theorem prow_set (R : Pt.Rg) (k : Nat) (hk : k < R.length) (u : Int) : prow (R.set k ((R[k]).1, u)) = prow R := by
  induction R generalizing k with
  | nil => simp at hk
  | cons e r ih =>
    cases k with
    | zero => simp [prow]
    | succ k =>
      have := ih k (by simpa using hk)
      simp only [prow, List.set_cons_succ, List.flatMap_cons, List.getElem_cons_succ] at this ⊢
      rw [this]
theorem urow_set (R : Pt.Rg) (k : Nat) (p : Pt.Pm) (u : Int) : urow (R.set k (p, u)) = (urow R).set k (.int .i64 u) := by simp [urow, List.map_set]
theorem lrow_set (R : Pt.Rg) (k : Nat) (p : Pt.Pm) (u : Int) : lrow (R.set k (p, u)) = (lrow R).set k (.int .i64 (p.qu - u)) := by simp [lrow, List.map_set]
theorem lrow_snoc (R : Pt.Rg) (p : Pt.Pm) : lrow (R ++ [(p, 0)]) = lrow R ++ [.int .i64 p.qu] := by simp [lrow]
theorem lrow_length (R : Pt.Rg) : (lrow R).length = R.length := by simp [lrow]
theorem lrow_at (R : Pt.Rg) (i : Nat) (h : i < R.length) : (lrow R)[i]? = some (.int .i64 ((R[i]).1.qu - (R[i]).2)) := by simp [lrow, h]
theorem pcells_one (p : Pt.Pm) : ∀ u ∈ pcells p, u.oneCell' = true := by
  intro u hu
  simp only [pcells, List.mem_cons, List.not_mem_nil, or_false] at hu
  rcases hu with rfl | rfl | rfl | rfl | rfl <;> rfl
theorem prow_one (R : Pt.Rg) : ∀ u ∈ prow R, u.oneCell' = true := by
  intro u hu
  simp only [prow, List.mem_flatMap] at hu
  obtain ⟨e, _, he⟩ := hu
  exact pcells_one _ u he
theorem lrow_one (R : Pt.Rg) : ∀ u ∈ lrow R, u.oneCell' = true := by
  intro u hu
  simp only [lrow, List.mem_map] at hu
  obtain ⟨e, _, rfl⟩ := hu
  rfl

/-- A slice's cells: xs from the address on (nothing is said where there are none). -/
def SlR (w : World) (A : Option Addr) (xs : List Value) : Prop :=
  0 < xs.length → ∃ b off, A = some ⟨b, off, none⟩ ∧ b < w.heap.size ∧ ∀ j (hj : j < xs.length), w.cell? ⟨b, off + j, none⟩ = some xs[j]
theorem SlR.below {w w' : World} {A : Option Addr} {xs : List Value} (h : SlR w A xs) (hb : Below w.heap.size w w') : SlR w' A xs := fun g => by
  obtain ⟨b, off, e, hlt, hc⟩ := h g
  exact ⟨b, off, e, Nat.lt_of_lt_of_le hlt hb.size, fun j hj => (hb.cell (p := ⟨b, off + j, none⟩) hlt).trans (hc j hj)⟩
theorem SlR.grown {w w' : World} {A : Option Addr} {xs : List Value} {row : Option Nat} (h : SlR w A xs) (hg : w.grownBy w' row) (hne : ∀ b, row = some b → ∀ a, A = some a → a.block ≠ b) : SlR w' A xs := fun g => by
  obtain ⟨b, off, e, hlt, hc⟩ := h g
  refine ⟨b, off, e, Nat.lt_of_lt_of_le hlt hg.size, fun j hj => ?_⟩
  exact (World.cell?_of_block (a := ⟨b, off + j, none⟩) (hg.block b hlt (fun hr => hne b hr.symm _ e rfl))).trans (hc j hj)
theorem SlR.of_row {w : World} {B : Nat} {t : TypeId} {k n : Nat} {v : Value} {xs : List Value} (h : w.ownsRow B t k v n xs) : ∃ A c, v = .slice A n c ∧ SlR w A xs ∧ (∀ a, A = some a → B ≤ a.block ∧ v.ownBlock = some a.block) ∧ (A = none → v.ownBlock = none) := by
  rcases h.2 with ⟨rfl, rfl⟩ | ⟨g, cap, cur, rfl, hb, hg, h1, h2, h3, h4⟩
  · exact ⟨none, 0, rfl, fun g => by have := h.1; rw [Nat.zero_mul] at this; omega, fun a ha => (by cases ha), fun _ => rfl⟩
  · refine ⟨some ⟨g, 0, none⟩, cap, rfl, fun _ => ⟨g, 0, rfl, (Array.getElem?_eq_some_iff.1 hg).1, fun j hj => ?_⟩, fun a ha => by cases ha; exact ⟨hb, rfl⟩, fun h => (by cases h)⟩
    rw [Nat.zero_add, h.cellAt j (by have := h.1; omega)]
    simp [hj]

/-- The register of permits at block r. -/
structure Reg (w : World) (B r : Nat) (R : Pt.Rg) (vp vu : Value) : Prop where
  low : B ≤ r
  blk : Blk w r 77 #[vp, vu]
  per : w.ownsRow B 32 5 vp R.length (prow R)
  use : w.ownsRow B 3 1 vu R.length (urow R)
  pr : vp.ownBlock ≠ some r
  ur : vu.ownBlock ≠ some r
  pu : vp.ownBlock = none ∨ vp.ownBlock ≠ vu.ownBlock
theorem Reg.below {w w' : World} {B r : Nat} {R : Pt.Rg} {vp vu : Value} (h : Reg w B r R vp vu) (hb : Below w.heap.size w w') : Reg w' B r R vp vu :=
  ⟨h.low, h.blk.below hb, h.per.kept (below_grown hb none) (by cases vp.ownBlock <;> simp), h.use.kept (below_grown hb none) (by cases vu.ownBlock <;> simp), h.pr, h.ur, h.pu⟩
theorem Reg.grown {w w' : World} {B r : Nat} {R : Pt.Rg} {vp vu : Value} {row : Option Nat} (h : Reg w B r R vp vu) (hg : w.grownBy w' row) (h0 : some r ≠ row) (h1 : vp.ownBlock = none ∨ vp.ownBlock ≠ row) (h2 : vu.ownBlock = none ∨ vu.ownBlock ≠ row) : Reg w' B r R vp vu :=
  ⟨h.low, h.blk.grown hg h0, h.per.kept hg h1, h.use.kept hg h2, h.pr, h.ur, h.pu⟩
theorem Reg.mono {w : World} {B B' r : Nat} {R : Pt.Rg} {vp vu : Value} (h : Reg w B r R vp vu) (hB : B' ≤ B) : Reg w B' r R vp vu := by
  refine ⟨Nat.le_trans hB h.low, h.blk, ?_, ?_, h.pr, h.ur, h.pu⟩
  · refine ⟨h.per.1, ?_⟩
    rcases h.per.2 with g | ⟨g, cap, cur, e, hb, rest⟩
    · exact .inl g
    · exact .inr ⟨g, cap, cur, e, Nat.le_trans hB hb, rest⟩
  · refine ⟨h.use.1, ?_⟩
    rcases h.use.2 with g | ⟨g, cap, cur, e, hb, rest⟩
    · exact .inl g
    · exact .inr ⟨g, cap, cur, e, Nat.le_trans hB hb, rest⟩
end Go.Proofs.Ytgkkhbhobbhlpaa
