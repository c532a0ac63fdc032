/- PermitTwice. -/
import Derived.Test.YtgkkhbhobbhlpaaAD
import Derived.Deep.RegionHeld3
namespace Go.Proofs.Ytgkkhbhobbhlpaa
open Go.RowKit
set_option linter.unusedVariables false

theorem Pt.set_at {R : Pt.Rg} {k : Nat} (hk : k < R.length) {id : ByteArray} (hix : Pt.ix id R = k) (u : Int) : (R.set k ((R[k]).1, u))[Pt.ix id (R.set k ((R[k]).1, u))]? = some ((R[k]).1, u) := by
  rw [Pt.ix_set hk, hix]
  simp [hk]
theorem Pt.twice {R : Pt.Rg} (hO : Pt.Ok R) (id : ByteArray) (x y : Int) (hx : 1 ≤ x ∧ x ≤ 562949953421312) (hy : 1 ≤ y ∧ y ≤ 562949953421312) :
    (Pt.lfB R id = false ∧ Pt.usE R id x = 8 ∧ Pt.usE (Pt.usR R id x) id y = 8 ∧ Pt.usE R id (x + y) = 8) ∨
    (Pt.lfB R id = true ∧ x + y ≤ Pt.lfN R id ∧ Pt.usE R id x = 0 ∧ Pt.usE (Pt.usR R id x) id y = 0 ∧ Pt.usE R id (x + y) = 0 ∧ Pt.lfN (Pt.usR (Pt.usR R id x) id y) id = Pt.lfN R id - x - y ∧ Pt.lfN (Pt.usR R id (x + y)) id = Pt.lfN R id - x - y) ∨
    (Pt.lfB R id = true ∧ ¬ x + y ≤ Pt.lfN R id ∧ Pt.usE R id (x + y) = 23 ∧ Pt.lfN (Pt.usR R id (x + y)) id = Pt.lfN R id ∧ (¬ Pt.usE R id x = 0 ∨ (Pt.usE R id x = 0 ∧ ¬ Pt.usE (Pt.usR R id x) id y = 0))) := by
  by_cases h : Pt.ix id R < R.length
  · obtain ⟨k, e, hk, he, hix, hat, hfn, hid, q0, q1, q2, q3⟩ := Pt.found hO h
    have hB : Pt.lfB R id = true := decide_eq_true h
    have hN : Pt.lfN R id = e.1.qu - e.2 := by rw [Pt.lfN, hat]
    have hu : ∀ v, 1 ≤ v ∧ v ≤ 1125899906842624 → v ≤ e.1.qu - e.2 → Pt.usE R id v = 0 ∧ Pt.usR R id v = R.set k ((R[k]).1, e.2 + v) := fun v hv hle => by
      have h0 : Pt.usE R id v = 0 := by rw [Pt.usE, hat]; simp only [if_pos hv, if_pos hle]
      refine ⟨h0, ?_⟩
      rw [Pt.usR, if_pos h0, hat, hix, he]
    have hq : ∀ v, 1 ≤ v ∧ v ≤ 1125899906842624 → ¬ v ≤ e.1.qu - e.2 → Pt.usE R id v = 23 := fun v hv hle => by rw [Pt.usE, hat]; simp only [if_pos hv, if_neg hle]
    by_cases hs : x + y ≤ e.1.qu - e.2
    · right; left
      obtain ⟨a1, a2⟩ := hu x (by omega) (by omega)
      obtain ⟨b1, b2⟩ := hu (x + y) (by omega) hs
      have hat2 := Pt.set_at hk hix (e.2 + x)
      have c1 : Pt.usE (R.set k ((R[k]).1, e.2 + x)) id y = 0 := by rw [Pt.usE, hat2]; simp only [he]; rw [if_pos (by omega), if_pos (by omega)]
      have hix2 : Pt.ix id (R.set k ((R[k]).1, e.2 + x)) = k := by rw [Pt.ix_set hk, hix]
      refine ⟨hB, by rw [hN]; exact hs, a1, by rw [a2]; exact c1, b1, ?_, ?_⟩
      · rw [a2, Pt.usR, if_pos c1, hat2, hix2]
        simp only [List.set_set]
        rw [Pt.lfN, Pt.set_at hk hix]
        simp only [hN, he]
        omega
      · rw [b2, Pt.lfN, Pt.set_at hk hix]
        simp only [hN, he]
        omega
    · right; right
      have b1 := hq (x + y) (by omega) hs
      refine ⟨hB, by rw [hN]; exact hs, b1, by rw [Pt.usR_no b1 (by decide)], ?_⟩
      by_cases hx2 : x ≤ e.1.qu - e.2
      · right
        obtain ⟨a1, a2⟩ := hu x (by omega) hx2
        refine ⟨a1, ?_⟩
        have hat2 := Pt.set_at hk hix (e.2 + x)
        rw [a2, Pt.usE, hat2]
        simp only [he]
        rw [if_pos (by omega), if_neg (by omega)]
        decide
      · left
        rw [hq x (by omega) hx2]
        decide
  · left
    have h8 : ∀ v, Pt.usE R id v = 8 := fun v => Pt.usE_none h
    exact ⟨decide_eq_false h, h8 x, by rw [Pt.usR_no (h8 x) (by decide)]; exact h8 y, h8 _⟩

/-- Two registers and the box of the two volumes. -/
structure TwW (w0 w : World) (g ra rb : Nat) (Ra Rb : Pt.Rg) (vpa vua vpb vub : Value) (x y : Int) : Prop where
  a : Reg w ra ra Ra vpa vua
  b : Reg w rb rb Rb vpb vub
  lt : ra < rb
  pa : ∀ k, vpa.ownBlock = some k → k < rb
  ua : ∀ k, vua.ownBlock = some k → k < rb
  box : Blk w g 48 #[.int .i64 x, .int .i64 y]
  bel : Below w0.heap.size w0 w
  low : w0.heap.size ≤ ra
theorem TwW.below {w0 w w' : World} {g ra rb : Nat} {Ra Rb : Pt.Rg} {vpa vua vpb vub : Value} {x y : Int} (h : TwW w0 w g ra rb Ra Rb vpa vua vpb vub x y) (hb : Below w.heap.size w w') : TwW w0 w' g ra rb Ra Rb vpa vua vpb vub x y :=
  ⟨h.a.below hb, h.b.below hb, h.lt, h.pa, h.ua, h.box.below hb, below_old h.bel hb, h.low⟩
theorem TwW.useA {w0 w w' : World} {g ra rb : Nat} {Ra Ra' Rb : Pt.Rg} {vpa vua vpb vub : Value} {x y : Int} (h : TwW w0 w g ra rb Ra Rb vpa vua vpb vub x y) (hr : Reg w' ra ra Ra' vpa vua) (hg : w.grownBy w' vua.ownBlock) : TwW w0 w' g ra rb Ra' Rb vpa vua vpb vub x y := by
  refine ⟨hr, h.b.grown hg (fun e => by have := h.ua rb e.symm; omega) ?_ ?_, h.lt, h.pa, h.ua, h.box.grown hg (h.a.other h.box (by decide) (by decide)).2, h.bel.grown hg h.bel.size (fun k hk => Nat.le_trans h.low (h.a.use.lt k hk).1), h.low⟩
  · cases hv : vpb.ownBlock with
    | none => exact .inl rfl
    | some k => exact .inr fun e => by have h1 := (h.b.per.lt k hv).1; have := h.ua k e.symm; omega
  · cases hv : vub.ownBlock with
    | none => exact .inl rfl
    | some k => exact .inr fun e => by have h1 := (h.b.use.lt k hv).1; have := h.ua k e.symm; omega
theorem TwW.useB {w0 w w' : World} {g ra rb : Nat} {Ra Rb Rb' : Pt.Rg} {vpa vua vpb vub : Value} {x y : Int} (h : TwW w0 w g ra rb Ra Rb vpa vua vpb vub x y) (hr : Reg w' rb rb Rb' vpb vub) (hg : w.grownBy w' vub.ownBlock) : TwW w0 w' g ra rb Ra Rb' vpa vua vpb vub x y := by
  have hge : ∀ k, vub.ownBlock = some k → rb ≤ k := fun k hk => (h.b.use.lt k hk).1
  have hl := h.lt
  refine ⟨h.a.grown hg (fun e => by have := hge ra e.symm; omega) ?_ ?_, hr, h.lt, h.pa, h.ua, h.box.grown hg (h.b.other h.box (by decide) (by decide)).2, h.bel.grown hg h.bel.size (fun k hk => Nat.le_trans h.low (Nat.le_trans (Nat.le_of_lt hl) (hge k hk))), h.low⟩
  · cases hv : vpa.ownBlock with
    | none => exact .inl rfl
    | some k => exact .inr fun e => by have h1 := h.pa k hv; have := hge k e.symm; omega
  · cases hv : vua.ownBlock with
    | none => exact .inl rfl
    | some k => exact .inr fun e => by have h1 := h.ua k hv; have := hge k e.symm; omega
theorem TwW.two {w0 w1 w2 w : World} {g : Nat} {R : Pt.Rg} {x y : Int} (hg : Blk w1 g 48 #[.int .i64 x, .int .i64 y]) (h0 : Below w0.heap.size w0 w1) (h1 : PlW w1 w2 R) (h2 : PlW w2 w R) :
    ∃ vpa vua vpb vub, TwW w0 w g w1.heap.size w2.heap.size R R vpa vua vpb vub x y := by
  obtain ⟨vpa, vua, ha⟩ := h1.reg
  obtain ⟨vpb, vub, hb⟩ := h2.reg
  exact ⟨vpa, vua, vpb, vub, ha.below h2.bel, hb, ha.blk.lt, fun k hk => (ha.per.lt k hk).2, fun k hk => (ha.use.lt k hk).2,
    (hg.below h1.bel).below h2.bel, (h0.trans (h1.bel.mono h0.size)).trans (h2.bel.mono (Nat.le_trans h0.size h1.bel.size)), h0.size⟩
end Go.Proofs.Ytgkkhbhobbhlpaa
