/- PermitCalls: the world of the law. -/
import Derived.Test.YtgkkhbhobbhlpaaAM
import Derived.Deep.RegionHeld3
namespace Go.Proofs.Ytgkkhbhobbhlpaa
open Go.RowKit
set_option linter.unusedVariables false

theorem blk_ne {w : World} {g g' : Nat} {t t' : TypeId} {cs cs' : Array Value} (h : Blk w g t cs) (h' : Blk w g' t' cs') (ht : t ≠ t') : some g ≠ some g' := fun e => by
  cases e
  unfold Blk at h h'
  rw [h] at h'
  simp only [Option.some.injEq, Obj.cells.injEq] at h'
  exact ht h'.2.1
theorem Reg.val {w : World} {B B' r : Nat} {R R' : Pt.Rg} {a b c d : Value} (h : Reg w B r R a b) (h' : Reg w B' r R' c d) : a = c ∧ b = d := by
  have h1 := h.blk
  have h2 := h'.blk
  unfold Blk at h1 h2
  rw [h1] at h2
  simp only [Option.some.injEq, Obj.cells.injEq] at h2
  simpa using h2.1
/-- The law's world: the register, the reference's register in the box xb. -/
structure CaW (w0 w : World) (xb : Nat) (R S : Pt.Rg) (vp' vl' : Value) : Prop where
  reg : ∃ vp vu, Reg w w0.heap.size w0.heap.size R vp vu ∧ Ap vu vl'
  x : Blk w xb 30 #[vp', vl']
  rr : RR w w0.heap.size S vp' vl'
  bel : Below w0.heap.size w0 w
  lx : w0.heap.size ≤ xb
section
variable {w0 w w' : World} {xb : Nat} {R R' S S' : Pt.Rg} {vp' vl' vp2 vl2 : Value}
theorem CaW.below (h : CaW w0 w xb R S vp' vl') (hb : Below w.heap.size w w') : CaW w0 w' xb R S vp' vl' := by
  obtain ⟨vp, vu, hr, h2⟩ := h.reg
  exact ⟨⟨vp, vu, hr.below hb, h2⟩, h.x.below hb, h.rr.below hb, below_old h.bel hb, h.lx⟩
theorem RR.grown {B : Nat} {row : Option Nat} (h : RR w B S vp' vl') (hg : w.grownBy w' row) (h1 : vp'.ownBlock = none ∨ vp'.ownBlock ≠ row) (h2 : vl'.ownBlock = none ∨ vl'.ownBlock ≠ row) : RR w' B S vp' vl' := ⟨h.per.kept hg h1, h.lef.kept hg h2⟩
/-- The register is added to: the boxes and lists of the reference stay. -/
theorem CaW.added {vp vu : Value} (h : CaW w0 w xb R S vp' vl') (hr : Reg w w0.heap.size w0.heap.size R vp vu) (hu : Ap vu vl') (ha : Added w w' w0.heap.size w0.heap.size R' vp vu) : CaW w0 w' xb R' S vp' vl' := by
  obtain ⟨vp1, vu1, hr', f1, f2⟩ := ha.reg
  exact ⟨⟨vp1, vu1, hr', hu.fresh h.rr.lef f1⟩, h.x.grown ha.grown (hr.other h.x (by decide) (by decide)).1,
    h.rr.grown ha.grown (.inr fun e => row_blk h.rr.per hr.blk (by decide) e.symm) (.inr fun e => row_blk h.rr.lef hr.blk (by decide) e.symm), h.bel.grown ha.grown h.bel.size (fun k hk => by cases hk; exact Nat.le_refl _), h.lx⟩
theorem CaW.used {vp vu : Value} (h : CaW w0 w xb R S vp' vl') (hr : Reg w w0.heap.size w0.heap.size R vp vu) (hu : Ap vu vl') (hr' : Reg w' w0.heap.size w0.heap.size R' vp vu) (hg : w.grownBy w' vu.ownBlock) : CaW w0 w' xb R' S vp' vl' := by
  refine ⟨⟨vp, vu, hr', hu⟩, h.x.grown hg (hr.other h.x (by decide) (by decide)).2, h.rr.grown hg (row_apart h.rr.per hr.use (by decide)) ?_, h.bel.grown hg h.bel.size (fun k hk => (hr.use.lt k hk).1), h.lx⟩
  unfold Ap at hu
  rcases hu with hu | hu
  · cases hv : vl'.ownBlock with
    | none => exact .inl rfl
    | some k => exact .inr (by rw [hu]; simp)
  · exact .inr (Ne.symm hu)
/-- The lists that are taken over lie apart from the register's. -/
theorem CaW.fresh {vp vu : Value} (h : CaW w0 w xb R S vp' vl') (hr : Reg w w0.heap.size w0.heap.size R vp vu) (hu : Ap vu vl') (hf : vl2 = vl' ∨ ∀ k, vl2.ownBlock = some k → w.heap.size ≤ k) : Ap vu vl2 :=
  hu.fresh' hr.use (hf.imp (fun e => by rw [e]) id)
/-- A box of the reference's is written. -/
theorem CaW.take0 {p q : Value} (hx : Blk w xb 30 #[p, q]) (bel : Below w0.heap.size w0 w) (lx : w0.heap.size ≤ xb) {vp vu : Value} (hr : Reg w w0.heap.size w0.heap.size R vp vu) (hu : Ap vu vl2) (h2 : RR w w0.heap.size S' vp2 vl2) : CaW w0 ((w.setCell ⟨xb, 0, none⟩ vp2).setCell ⟨xb, 1, none⟩ vl2) xb R S' vp2 vl2 := by
  have k3 := (set_grown w xb 0 vp2).trans (set_grown (w.setCell ⟨xb, 0, none⟩ vp2) xb 1 vl2)
  refine ⟨⟨vp, vu, hr.grown k3 (fun e => (hr.other hx (by decide) (by decide)).1 (by rw [← e])) ?_ (.inr fun e => (hr.other hx (by decide) (by decide)).2 e.symm), hu⟩, ?_, h2.grown k3 (.inr fun e => row_blk h2.per hx (by decide) e.symm) (.inr fun e => row_blk h2.lef hx (by decide) e.symm), bel.grown k3 bel.size (fun k hk => by cases hk; exact lx), lx⟩
  · exact .inr fun e => row_blk hr.per hx (by decide) e.symm
  · have := (hx.set_ 0 vp2).set_ 1 vl2
    simpa using this
/-- x = y. -/
theorem CaW.take (h : CaW w0 w xb R S vp' vl') {vp vu : Value} (hr : Reg w w0.heap.size w0.heap.size R vp vu) (hu : Ap vu vl2) (h2 : RR w w0.heap.size S' vp2 vl2) : CaW w0 ((w.setCell ⟨xb, 0, none⟩ vp2).setCell ⟨xb, 1, none⟩ vl2) xb R S' vp2 vl2 := CaW.take0 h.x h.bel h.lx hr hu h2
theorem CaW.copy {yb : Nat} (hx : CaW w0 w xb R S vp' vl') (hy : CaW w0 w yb R S' vp2 vl2) : CaW w0 ((w.setCell ⟨xb, 0, none⟩ vp2).setCell ⟨xb, 1, none⟩ vl2) xb R S' vp2 vl2 := by
  obtain ⟨vp, vu, hr, hu⟩ := hy.reg
  exact hx.take hr hu hy.rr
/-- The box of what the reference has handed back. -/
theorem CaW.boxed {w2 : World} (h : CaW w0 w xb R S vp' vl') (hd : RDone w w2 w0.heap.size S' vl' vp2 vl2) : CaW w0 (w2.alloc (.cells #[vp2, vl2] 30)) w2.heap.size R S' vp2 vl2 := by
  obtain ⟨vp, vu, hr, hu⟩ := h.reg
  have hb := (Below.refl _ w2).alloc (Nat.le_refl _) (.cells #[vp2, vl2] 30)
  exact ⟨⟨vp, vu, (hr.below hd.bel).below hb, h.fresh hr hu hd.fresh⟩, Blk.new _ _ _, hd.rows.below hb, below_old (below_old h.bel hd.bel) hb, Nat.le_trans h.bel.size hd.bel.size⟩
theorem RDone.from_ {w1 w3 : World} {B : Nat} {vl : Value} (hb : Below w.heap.size w w1) (hd : RDone w1 w3 B S vl vp2 vl2) : RDone w w3 B S vl vp2 vl2 :=
  ⟨hd.rows, below_old hb hd.bel, hd.fresh.imp id fun h k hk => Nat.le_trans hb.size (h k hk)⟩
/-- The box was laid ahead of the reference's call. -/
theorem CaW.boxed0 {w3 : World} {yb : Nat} {p q : Value} (h : CaW w0 w xb R S vp' vl') (hd : RDone w w3 w0.heap.size S' vl' vp2 vl2) (hy : Blk w3 yb 30 #[p, q]) (hl : w.heap.size ≤ yb) : CaW w0 ((w3.setCell ⟨yb, 0, none⟩ vp2).setCell ⟨yb, 1, none⟩ vl2) yb R S' vp2 vl2 := by
  obtain ⟨vp, vu, hr, hu⟩ := h.reg
  exact CaW.take0 hy (below_old h.bel hd.bel) (Nat.le_trans h.bel.size hl) (hr.below hd.bel) (h.fresh hr hu hd.fresh) hd.rows
/-- What an old box is behind the writing of a new one. -/
theorem CaW.past {yb : Nat} (h : CaW w0 w xb R S vp' vl') (hl : xb < yb) (hy : ∃ p q, Blk w yb 30 #[p, q]) (a b : Value) : CaW w0 ((w.setCell ⟨yb, 0, none⟩ a).setCell ⟨yb, 1, none⟩ b) xb R S vp' vl' := by
  obtain ⟨p, q, hy⟩ := hy
  have k3 := (set_grown w yb 0 a).trans (set_grown (w.setCell ⟨yb, 0, none⟩ a) yb 1 b)
  obtain ⟨vp, vu, hr, hu⟩ := h.reg
  exact ⟨⟨vp, vu, hr.grown k3 (fun e => (hr.other hy (by decide) (by decide)).1 (by rw [← e])) (.inr fun e => row_blk hr.per hy (by decide) e.symm) (.inr fun e => (hr.other hy (by decide) (by decide)).2 e.symm), hu⟩, h.x.grown k3 (by simp; omega),
    h.rr.grown k3 (.inr fun e => row_blk h.rr.per hy (by decide) e.symm) (.inr fun e => row_blk h.rr.lef hy (by decide) e.symm), h.bel.grown k3 h.bel.size (fun k hk => by cases hk; have := h.lx; omega), h.lx⟩
theorem CaW.new (w : World) : CaW w ((w.alloc (.cells #[.slice none 0 0, .slice none 0 0] 77)).alloc (.cells #[.slice none 0 0, .slice none 0 0] 30)) (w.heap.size + 1) [] [] (.slice none 0 0) (.slice none 0 0) := by
  have hb := (Below.refl _ (w.alloc (.cells #[.slice none 0 0, .slice none 0 0] 77))).alloc (Nat.le_refl _) (.cells #[.slice none 0 0, .slice none 0 0] 30)
  refine ⟨⟨_, _, (Reg.new w).below hb, .inl rfl⟩, ?_, ⟨World.ownsRow_nil _ _ _ _, World.ownsRow_nil _ _ _ _⟩, below_old ((Below.refl _ _).alloc (Nat.le_refl _) _) hb, Nat.le_succ _⟩
  have := Blk.new (w.alloc (.cells #[.slice none 0 0, .slice none 0 0] 77)) 30 #[.slice none 0 0, .slice none 0 0]
  simpa using this
end
end Go.Proofs.Ytgkkhbhobbhlpaa
