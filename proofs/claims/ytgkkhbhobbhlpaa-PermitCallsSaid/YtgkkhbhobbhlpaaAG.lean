/- PermitQuotas: the world of the law. -/
import Derived.Test.YtgkkhbhobbhlpaaAD
namespace Go.Proofs.Ytgkkhbhobbhlpaa
open Go.RowKit
set_option linter.unusedVariables false

theorem wpList_lies_c {P : Program} {w : World} {ops : Array Oper} {rest : List Oper} {o : Oper} {a : Act} {Q : Exit → Act → World → Prop} (hgd : o.guard = none) (s x : Operand) (t : TypeId)
    (ho : o.op = .call { callee := .builtin .append, args := #[s, x], argTypes := #[t, t] })
    (base : Nat) (e : TypeId) (z : Value) (size bytes : Nat) (ht : P.underlying t = some (.slice e)) (hinfo : (P.info? e).map (fun i => (i.zero, i.size, i.bytes)) = some (some z, size, bytes)) (hzs : z.cells.size = size) (hsz : 0 < size)
    (v : Value) (n : Nat) (xs : List Value) (hs : a.eval s = v) (hown : w.ownsRow base e size v n xs)
    (ad : Addr) (m c : Nat) (news : List Value) (hx : a.eval x = .slice (some ad) m c) (hl : news.length = m * size) (hnews : ∀ j u, news[j]? = some u → w.cell? (ad.add j) = some u) (h1 : ∀ u ∈ news, u.oneCell' = true)
    (hm : 0 < m) (h63 : n + m ≤ maxLen) (hbytes : (n + m) * bytes ≤ 140737488355328) (hbase : base ≤ w.heap.size)
    (h : ∀ g cap w', w'.ownsRow base e size (.slice (some ⟨g, 0, none⟩) (n + m) cap) (n + m) (xs ++ news) → w.grownBy w' v.ownBlock → (v.ownBlock = some g ∨ g = w.heap.size) → wpList P ops Q rest (a.put o.dst (.slice (some ⟨g, 0, none⟩) (n + m) cap)) w') : wpList P ops Q (o :: rest) a w := by
  obtain ⟨i0, hi, hz0, hz1, hz2⟩ := info_parts hinfo
  exact wpList_append_lies w hgd s x t ho base e i0 z size bytes ht hi hz0 hz1 hz2 hzs hsz v n xs hs hown ad m c news hx hl hnews h1 hm h63 hbytes hbase _ rfl fun g cap w' h2 h3 h4 _ => h g cap w' h2 h3 h4

/-- Rows of different types lie apart. -/
theorem row_apart {w : World} {B1 B2 : Nat} {t1 t2 : TypeId} {k1 k2 n1 n2 : Nat} {v1 v2 : Value} {xs1 xs2 : List Value} (h1 : w.ownsRow B1 t1 k1 v1 n1 xs1) (h2 : w.ownsRow B2 t2 k2 v2 n2 xs2) (ht : t1 ≠ t2) : v1.ownBlock = none ∨ v1.ownBlock ≠ v2.ownBlock := by
  rcases h1.2 with ⟨rfl, _⟩ | ⟨g1, c1, cur1, rfl, _, hg1, _⟩
  · exact .inl rfl
  · right
    rcases h2.2 with ⟨rfl, _⟩ | ⟨g2, c2, cur2, rfl, _, hg2, _⟩
    · simp [Value.ownBlock]
    · simp only [Value.ownBlock, ne_eq, Option.some.injEq]
      rintro rfl
      rw [hg1] at hg2
      simp only [Option.some.injEq, Obj.cells.injEq] at hg2
      exact ht hg2.2.1
theorem row_blk {w : World} {B1 : Nat} {t1 t : TypeId} {k1 n1 g : Nat} {v1 : Value} {xs1 : List Value} {cs : Array Value} (h1 : w.ownsRow B1 t1 k1 v1 n1 xs1) (hb : Blk w g t cs) (ht : t ≠ t1) : some g ≠ v1.ownBlock := by
  rcases h1.2 with ⟨rfl, _⟩ | ⟨g1, c1, cur1, rfl, _, hg1, _⟩
  · simp [Value.ownBlock]
  · simp only [Value.ownBlock, ne_eq, Option.some.injEq]
    rintro rfl
    unfold Blk at hb
    rw [hg1] at hb
    simp only [Option.some.injEq, Obj.cells.injEq] at hb
    exact ht hb.2.1.symm
/-- Apart, as a relation of two values. -/
def Ap (v1 v2 : Value) : Prop := v1.ownBlock = none ∨ v1.ownBlock ≠ v2.ownBlock
theorem Ap.fresh {w : World} {B : Nat} {t : TypeId} {k n : Nat} {v1 v1' v2 : Value} {xs : List Value} (h : Ap v1 v2) (h2 : w.ownsRow B t k v2 n xs) (hf : v1' = v1 ∨ ∀ j, v1'.ownBlock = some j → w.heap.size ≤ j) : Ap v1' v2 := by
  rcases hf with rfl | hf
  · exact h
  · unfold Ap
    cases hv : v1'.ownBlock with
    | none => exact .inl rfl
    | some j => exact .inr fun e => by have := hf j hv; have := (h2.lt j e.symm).2; omega
theorem Ap.fresh' {w : World} {B : Nat} {t : TypeId} {k n : Nat} {v1 v2 v2' : Value} {xs : List Value} (h : Ap v1 v2) (h2 : w.ownsRow B t k v1 n xs) (hf : v2'.ownBlock = v2.ownBlock ∨ ∀ j, v2'.ownBlock = some j → w.heap.size ≤ j) : Ap v1 v2' := by
  unfold Ap at h ⊢
  rcases hf with hf | hf
  · rw [hf]; exact h
  · cases hv : v1.ownBlock with
    | none => exact .inl rfl
    | some j => exact .inr fun e => by have := hf j e.symm; have := (h2.lt j hv).2; omega

/-- The law's world: the register R; the list of permits S1; the list of what is left S2. -/
structure QuW (w0 w : World) (R S1 S2 : Pt.Rg) (va vl : Value) : Prop where
  reg : ∃ vp vu, Reg w w0.heap.size w0.heap.size R vp vu ∧ Ap vp va ∧ Ap vu vl
  all : w.ownsRow w0.heap.size 32 5 va S1.length (prow S1)
  lef : w.ownsRow w0.heap.size 3 1 vl S2.length (lrow S2)
  bel : Below w0.heap.size w0 w
section
variable {w0 w w' : World} {R R' S1 S1' S2 S2' : Pt.Rg} {va va' vl vl' : Value}
theorem QuW.new (w : World) : QuW w (w.alloc (.cells #[.slice none 0 0, .slice none 0 0] 77)) [] [] [] (.slice none 0 0) (.slice none 0 0) :=
  ⟨⟨_, _, Reg.new w, .inl rfl, .inl rfl⟩, World.ownsRow_nil _ _ _ _, World.ownsRow_nil _ _ _ _, (Below.refl _ _).alloc (Nat.le_refl _) _⟩
theorem QuW.below (h : QuW w0 w R S1 S2 va vl) (hb : Below w.heap.size w w') : QuW w0 w' R S1 S2 va vl := by
  obtain ⟨vp, vu, hr, h1, h2⟩ := h.reg
  exact ⟨⟨vp, vu, hr.below hb, h1, h2⟩, h.all.kept (below_grown hb none) (by cases va.ownBlock <;> simp), h.lef.kept (below_grown hb none) (by cases vl.ownBlock <;> simp), below_old h.bel hb⟩
theorem QuW.added {vp vu : Value} (h : QuW w0 w R S1 S2 va vl) (hr : Reg w w0.heap.size w0.heap.size R vp vu) (hp : Ap vp va) (hu : Ap vu vl) (ha : Added w w' w0.heap.size w0.heap.size R' vp vu) : QuW w0 w' R' S1 S2 va vl := by
  obtain ⟨vp', vu', hr', f1, f2⟩ := ha.reg
  refine ⟨⟨vp', vu', hr', hp.fresh h.all f2, hu.fresh h.lef f1⟩, h.all.kept ha.grown ?_, h.lef.kept ha.grown ?_, h.bel.grown ha.grown h.bel.size (fun k hk => by cases hk; exact Nat.le_refl _)⟩
  · exact .inr (fun e => row_blk h.all hr.blk (by decide) e.symm)
  · exact .inr (fun e => row_blk h.lef hr.blk (by decide) e.symm)
theorem QuW.used {vp vu : Value} (h : QuW w0 w R S1 S2 va vl) (hr : Reg w w0.heap.size w0.heap.size R vp vu) (hp : Ap vp va) (hu : Ap vu vl) (hr' : Reg w' w0.heap.size w0.heap.size R' vp vu) (hg : w.grownBy w' vu.ownBlock) : QuW w0 w' R' S1 S2 va vl := by
  refine ⟨⟨vp, vu, hr', hp, hu⟩, h.all.kept hg (row_apart h.all hr.use (by decide)), h.lef.kept hg ?_, h.bel.grown hg h.bel.size (fun k hk => (hr.use.lt k hk).1)⟩
  unfold Ap at hu
  rcases hu with hu | hu
  · cases hv : vl.ownBlock with
    | none => exact .inl rfl
    | some k => exact .inr (by rw [hu]; simp)
  · exact .inr (Ne.symm hu)
theorem QuW.appAll (h : QuW w0 w R S1 S2 va vl) (hg : w.grownBy w' va.ownBlock) (ho : w'.ownsRow w0.heap.size 32 5 va' S1'.length (prow S1')) (hf : va'.ownBlock = va.ownBlock ∨ ∀ j, va'.ownBlock = some j → w.heap.size ≤ j) : QuW w0 w' R S1' S2 va' vl := by
  obtain ⟨vp, vu, hr, h1, h2⟩ := h.reg
  exact ⟨⟨vp, vu, hr.grown hg (row_blk h.all hr.blk (by decide)) h1 (row_apart hr.use h.all (by decide)), h1.fresh' hr.per hf, h2⟩, ho, h.lef.kept hg (row_apart h.lef h.all (by decide)), h.bel.grown hg h.bel.size (fun k hk => (h.all.lt k hk).1)⟩
theorem QuW.appLef (h : QuW w0 w R S1 S2 va vl) (hg : w.grownBy w' vl.ownBlock) (ho : w'.ownsRow w0.heap.size 3 1 vl' S2'.length (lrow S2')) (hf : vl'.ownBlock = vl.ownBlock ∨ ∀ j, vl'.ownBlock = some j → w.heap.size ≤ j) : QuW w0 w' R S1 S2' va vl' := by
  obtain ⟨vp, vu, hr, h1, h2⟩ := h.reg
  exact ⟨⟨vp, vu, hr.grown hg (row_blk h.lef hr.blk (by decide)) (row_apart hr.per h.lef (by decide)) h2, h1, h2.fresh' hr.use hf⟩, h.all.kept hg (row_apart h.all h.lef (by decide)), ho, h.bel.grown hg h.bel.size (fun k hk => (h.lef.lt k hk).1)⟩
/-- The box of a permit beside it. -/
theorem QuW.box_all {g : Nat} {p : Pt.Pm} (h : QuW w0 w R S1 S2 va vl) (hb : PBox w g p) (hg : w.grownBy w' vl.ownBlock) : PBox w' g p := Blk.grown hb hg (row_blk h.lef hb (by decide))
end
theorem row_permit {w : World} {B n c : Nat} {A : Option Addr} {R : Pt.Rg} (h : w.ownsRow B 32 5 (.slice A n c) R.length (prow R)) {m : Nat} (hm : m < R.length) :
    ∃ g, A = some ⟨g, 0, none⟩ ∧ g < w.heap.size ∧ w.cell? ⟨g, m * 5, none⟩ = some (.string (R[m]).1.id) ∧ w.cell? ⟨g, m * 5 + 1, none⟩ = some (.string (R[m]).1.sp) ∧ w.cell? ⟨g, m * 5 + 2, none⟩ = some (.int .i64 (R[m]).1.fr) ∧ w.cell? ⟨g, m * 5 + 3, none⟩ = some (.int .i64 (R[m]).1.un) ∧ w.cell? ⟨g, m * 5 + 4, none⟩ = some (.int .i64 (R[m]).1.qu) := by
  rcases h.2 with ⟨e, z⟩ | ⟨g, cap, cur, e, hb, hg, _⟩
  · omega
  · simp only [Value.slice.injEq] at e
    obtain ⟨rfl, rfl, rfl⟩ := e
    have at_ : ∀ j, j < 5 → w.cell? ⟨g, m * 5 + j, none⟩ = (pcells (R[m]).1)[j]? := fun j hj => by rw [h.cellAt _ (by omega), prow_at R m j hm hj]
    exact ⟨g, rfl, (Array.getElem?_eq_some_iff.1 hg).1, at_ 0 (by omega), at_ 1 (by omega), at_ 2 (by omega), at_ 3 (by omega), at_ 4 (by omega)⟩
theorem row_int {w : World} {B n c : Nat} {A : Option Addr} {R : Pt.Rg} (h : w.ownsRow B 3 1 (.slice A n c) R.length (lrow R)) {m : Nat} (hm : m < R.length) :
    ∃ g, A = some ⟨g, 0, none⟩ ∧ g < w.heap.size ∧ w.cell? ⟨g, m, none⟩ = some (.int .i64 ((R[m]).1.qu - (R[m]).2)) ∧ w.frozen? ⟨g, m, none⟩ = false := by
  rcases h.2 with ⟨e, z⟩ | ⟨g, cap, cur, e, hb, hg, _⟩
  · omega
  · simp only [Value.slice.injEq] at e
    obtain ⟨rfl, rfl, rfl⟩ := e
    exact ⟨g, rfl, (Array.getElem?_eq_some_iff.1 hg).1, by rw [h.cellAt _ (by omega), lrow_at R m hm], h.frozenAt m⟩
theorem row_form {w : World} {B : Nat} {t : TypeId} {k n : Nat} {v : Value} {xs : List Value} (h : w.ownsRow B t k v n xs) : ∃ A c, v = .slice A n c := by
  obtain ⟨A, c, e, _⟩ := SlR.of_row h
  exact ⟨A, c, e⟩
theorem QuW.storeLef {w0 w : World} {R S1 S2 : Pt.Rg} {va : Value} {g n c : Nat} (h : QuW w0 w R S1 S2 va (.slice (some ⟨g, 0, none⟩) n c)) {m : Nat} (hm : m < S2.length) {p : Pt.Pm} (hp : (S2[m]).1 = p) (u y : Int) (hy : y = p.qu - u) :
    QuW w0 (w.setCell ⟨g, m, none⟩ (.int .i64 y)) R S1 (S2.set m (p, u)) va (.slice (some ⟨g, 0, none⟩) n c) := by
  have hn : n = S2.length := by
    obtain ⟨A, c', e⟩ := row_form h.lef
    simp only [Value.slice.injEq] at e
    exact e.2.1
  have hl := h.lef
  rw [← hn] at hl
  obtain ⟨o1, o2⟩ := hl.stored m (.int .i64 y)
  refine h.appLef o2 ?_ (.inl rfl)
  rw [List.length_set, lrow_set, ← hn, ← hy]
  exact o1
end Go.Proofs.Ytgkkhbhobbhlpaa
