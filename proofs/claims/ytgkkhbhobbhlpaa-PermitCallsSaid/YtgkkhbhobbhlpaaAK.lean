/- The reference's Add. -/
import Derived.Test.YtgkkhbhobbhlpaaAJ
namespace Go.Proofs.Ytgkkhbhobbhlpaa
open Go.RowKit
set_option linter.unusedVariables false

/-- The new register while Add fills it. -/
structure AddX (w wi : World) (xb : Nat) (vp vl a1 a2 : Value) (p : Pt.Pm) (n1 n2 : Nat) (xs1 xs2 : List Value) : Prop where
  x : Blk wi xb 30 #[a1, a2]
  r : Blk wi (w.heap.size + 2) 30 #[.slice none 0 0, .slice none 0 0]
  g : Blk wi w.heap.size 30 #[vp, vl]
  p : PBox wi (w.heap.size + 1) p
  r1 : wi.ownsRow xb 32 5 a1 n1 xs1
  r2 : wi.ownsRow xb 3 1 a2 n2 xs2
  bel : Below w.heap.size w wi
  lx : w.heap.size + 2 < xb
section
variable {w wi wj w' : World} {xb : Nat} {vp vl a1 a2 v' : Value} {p : Pt.Pm} {n1 n2 n' : Nat} {xs1 xs2 xs' : List Value}
theorem AddX.below (h : AddX w wi xb vp vl a1 a2 p n1 n2 xs1 xs2) (hb : Below wi.heap.size wi wj) : AddX w wj xb vp vl a1 a2 p n1 n2 xs1 xs2 :=
  ⟨h.x.below hb, h.r.below hb, h.g.below hb, h.p.below hb, h.r1.kept (below_grown hb none) (by cases a1.ownBlock <;> simp), h.r2.kept (below_grown hb none) (by cases a2.ownBlock <;> simp), below_old h.bel hb, h.lx⟩
theorem AddX.put1 {row : Option Nat} (h : AddX w wi xb vp vl a1 a2 p n1 n2 xs1 xs2) (hg : wi.grownBy w' row) (hrow : row = none ∨ row = a1.ownBlock) (ho : w'.ownsRow xb 32 5 v' n' xs') :
    AddX w (w'.setCell ⟨xb, 0, none⟩ v') xb vp vl v' a2 p n' n2 xs' xs2 := by
  have hs := set_grown w' xb 0 v'
  have hlx := h.lx
  have h0 : ∀ {g : Nat} {cs : Array Value}, Blk wi g 30 cs → some g ≠ row := fun hb => by
    rcases hrow with rfl | rfl
    · simp
    · exact row_blk h.r1 hb (by decide)
  have h1 : some (w.heap.size + 1) ≠ row := by
    rcases hrow with rfl | rfl
    · simp
    · intro e; have := (h.r1.lt _ e.symm).1; omega
  have h2 : a2.ownBlock = none ∨ a2.ownBlock ≠ row := by
    rcases hrow with rfl | rfl
    · cases a2.ownBlock <;> simp
    · exact row_apart h.r2 h.r1 (by decide)
  have hx := h.x.grown hg (h0 h.x)
  have hr2 := h.r2.kept hg h2
  refine ⟨by have := hx.set_ 0 v'; simpa using this, (h.r.grown hg (h0 h.r)).grown hs (by simp; omega), (h.g.grown hg (h0 h.g)).grown hs (by simp; omega), Blk.grown (Blk.grown h.p hg h1) hs (by simp; omega),
    ho.kept hs (.inr fun e => row_blk ho hx (by decide) e.symm), hr2.kept hs (.inr fun e => row_blk hr2 hx (by decide) e.symm), (h.bel.grown hg h.bel.size ?_).grown hs (Nat.le_trans h.bel.size hg.size) (fun k hk => by cases hk; omega), hlx⟩
  intro k hk
  rcases hrow with rfl | rfl
  · cases hk
  · have := (h.r1.lt k hk).1; omega
theorem AddX.put2 {row : Option Nat} (h : AddX w wi xb vp vl a1 a2 p n1 n2 xs1 xs2) (hg : wi.grownBy w' row) (hrow : row = none ∨ row = a2.ownBlock) (ho : w'.ownsRow xb 3 1 v' n' xs') :
    AddX w (w'.setCell ⟨xb, 1, none⟩ v') xb vp vl a1 v' p n1 n' xs1 xs' := by
  have hs := set_grown w' xb 1 v'
  have hlx := h.lx
  have h0 : ∀ {g : Nat} {t : TypeId} {cs : Array Value}, t ≠ 3 → Blk wi g t cs → some g ≠ row := fun ht hb => by
    rcases hrow with rfl | rfl
    · simp
    · exact row_blk h.r2 hb ht
  have h2 : a1.ownBlock = none ∨ a1.ownBlock ≠ row := by
    rcases hrow with rfl | rfl
    · cases a1.ownBlock <;> simp
    · exact row_apart h.r1 h.r2 (by decide)
  have hx := h.x.grown hg (h0 (by decide) h.x)
  have hr1 := h.r1.kept hg h2
  refine ⟨by have := hx.set_ 1 v'; simpa using this, (h.r.grown hg (h0 (by decide) h.r)).grown hs (by simp; omega), (h.g.grown hg (h0 (by decide) h.g)).grown hs (by simp; omega), Blk.grown (Blk.grown h.p hg (h0 (by decide) h.p)) hs (by simp; omega),
    hr1.kept hs (.inr fun e => row_blk hr1 hx (by decide) e.symm), ho.kept hs (.inr fun e => row_blk ho hx (by decide) e.symm), (h.bel.grown hg h.bel.size ?_).grown hs (Nat.le_trans h.bel.size hg.size) (fun k hk => by cases hk; omega), hlx⟩
  intro k hk
  rcases hrow with rfl | rfl
  · cases hk
  · have := (h.r2.lt k hk).1; omega
end

theorem ris_eq (s : ByteArray) (x : Bool) (hx : Hid (isB s 80 = x)) (hsz : (s.size : Int) ≤ 9223372036854775807) (w : World) :
    Calls Try.prog 43 #[.string s, .int .u8 80] w fun e w' => e = .returned (.bool x) ∧ Below w.heap.size w w' := by
  have := ris_any s hsz 80 w
  rw [hx.out] at this
  exact this
theorem rname_eq (s : ByteArray) (x : Bool) (hx : Hid (nameB s = x)) (hsz : (s.size : Int) ≤ 9223372036854775807) (w : World) :
    Calls Try.prog 44 #[.string s] w fun e w' => e = .returned (.bool x) ∧ Below w.heap.size w w' := by
  have := calls_same (risName_any s hsz w)
  rw [hx.out] at this
  exact this

/-- The boxes of Add. -/
structure AddB (w wi : World) (vp vl : Value) (p : Pt.Pm) : Prop where
  r : Blk wi (w.heap.size + 2) 30 #[.slice none 0 0, .slice none 0 0]
  g : Blk wi w.heap.size 30 #[vp, vl]
  p : PBox wi (w.heap.size + 1) p
  bel : Below w.heap.size w wi
theorem AddB.below {w wi wj : World} {vp vl : Value} {p : Pt.Pm} (h : AddB w wi vp vl p) (hb : Below wi.heap.size wi wj) : AddB w wj vp vl p := ⟨h.r.below hb, h.g.below hb, h.p.below hb, below_old h.bel hb⟩
theorem AddB.new (w : World) (vp vl : Value) (p : Pt.Pm) : AddB w (((w.alloc (.cells #[vp, vl] 30)).alloc (.cells #[.string p.id, .string p.sp, .int .i64 p.fr, .int .i64 p.un, .int .i64 p.qu] 32)).alloc (.cells #[.slice none 0 0, .slice none 0 0] 30)) vp vl p := by
  have b1 := (Below.refl _ (w.alloc (.cells #[vp, vl] 30))).alloc (Nat.le_refl _) (.cells #[.string p.id, .string p.sp, .int .i64 p.fr, .int .i64 p.un, .int .i64 p.qu] 32)
  have b2 := (Below.refl _ ((w.alloc (.cells #[vp, vl] 30)).alloc (.cells #[.string p.id, .string p.sp, .int .i64 p.fr, .int .i64 p.un, .int .i64 p.qu] 32))).alloc (Nat.le_refl _) (.cells #[.slice none 0 0, .slice none 0 0] 30)
  refine ⟨?_, ((Blk.new w _ _).below b1).below b2, ?_, below_old (below_old ((Below.refl _ _).alloc (Nat.le_refl _) _) b1) b2⟩
  · have := Blk.new ((w.alloc (.cells #[vp, vl] 30)).alloc (.cells #[.string p.id, .string p.sp, .int .i64 p.fr, .int .i64 p.un, .int .i64 p.qu] 32)) 30 #[.slice none 0 0, .slice none 0 0]
    simpa using this
  · have := (Blk.new (w.alloc (.cells #[vp, vl] 30)) 32 #[.string p.id, .string p.sp, .int .i64 p.fr, .int .i64 p.un, .int .i64 p.qu]).below b2
    unfold PBox
    simpa using this
end Go.Proofs.Ytgkkhbhobbhlpaa
