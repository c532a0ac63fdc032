/- The register of links in memory. -/
import Derived.Test.YtpimmdmcmccbpaaDoorE0
namespace Go.Proofs.YtpimmdmcmccbpaaDoor
open Go.RowKit
set_option linter.unusedVariables false
open Cu (Lk Ls)

def lcells (x : Lk) : List Value := [.string x.it, .string x.pa, .int .i64 x.ti, .int .i64 x.vo, .string x.sp, .int .u64 x.ha]
def lrowL (L : Ls) : List Value := L.flatMap lcells
theorem lrowL_length (L : Ls) : (lrowL L).length = L.length * 6 := by
  induction L with
  | nil => rfl
  | cons e r ih => simp only [lrowL, List.flatMap_cons, List.length_append, List.length_cons] at ih ⊢; rw [ih]; simp [lcells]; omega
theorem lrowL_at (L : Ls) (i j : Nat) (h : i < L.length) (hj : j < 6) : (lrowL L)[i * 6 + j]? = (lcells L[i])[j]? := by
  induction L generalizing i with
  | nil => simp at h
  | cons e r ih =>
    have h6 : (lcells e).length = 6 := rfl
    simp only [lrowL, List.flatMap_cons] at ih ⊢
    cases i with
    | zero => rw [List.getElem?_append_left (by omega)]; simp
    | succ i =>
      rw [List.getElem?_append_right (by omega), h6, show (i + 1) * 6 + j - 6 = i * 6 + j by omega, ih i (by simpa using h)]
      simp
theorem lrowL_snoc (L : Ls) (x : Lk) : lrowL (L ++ [x]) = lrowL L ++ lcells x := by simp [lrowL]
theorem lcells_one (x : Lk) : ∀ u ∈ lcells x, u.oneCell' = true := by
  intro u hu
  simp only [lcells, List.mem_cons, List.not_mem_nil, or_false] at hu
  rcases hu with rfl | rfl | rfl | rfl | rfl | rfl <;> rfl
theorem lrowL_one (L : Ls) : ∀ u ∈ lrowL L, u.oneCell' = true := by
  intro u hu
  simp only [lrowL, List.mem_flatMap] at hu
  obtain ⟨e, _, he⟩ := hu
  exact lcells_one _ u he
theorem infoLk : (Tryd.prog.info? 36).map (fun i => (i.zero, i.size, i.bytes)) = some (some (.agg #[.string ⟨#[]⟩, .string ⟨#[]⟩, .int .i64 0, .int .i64 0, .string ⟨#[]⟩, .int .u64 0]), 6, 72) := by kernel_rfl
/-- The cells of the i-th link. -/
theorem SlR.link {w : World} {A : Option Addr} {L : Ls} (h : SlR w A (lrowL L)) {i : Nat} (hi : i < L.length) :
    ∃ b off, A = some ⟨b, off, none⟩ ∧ b < w.heap.size ∧ w.cell? ⟨b, off + i * 6, none⟩ = some (.string (L[i]).it) ∧ w.cell? ⟨b, off + i * 6 + 1, none⟩ = some (.string (L[i]).pa) ∧
      w.cell? ⟨b, off + i * 6 + 2, none⟩ = some (.int .i64 (L[i]).ti) ∧ w.cell? ⟨b, off + i * 6 + 3, none⟩ = some (.int .i64 (L[i]).vo) ∧ w.cell? ⟨b, off + i * 6 + 4, none⟩ = some (.string (L[i]).sp) ∧ w.cell? ⟨b, off + i * 6 + 5, none⟩ = some (.int .u64 (L[i]).ha) := by
  have hl := lrowL_length L
  obtain ⟨b, off, e, hb, hc⟩ := h (by omega)
  have at_ : ∀ j, j < 6 → w.cell? ⟨b, off + i * 6 + j, none⟩ = (lcells L[i])[j]? := fun j hj => by
    have hlt : i * 6 + j < (lrowL L).length := by omega
    have e1 := lrowL_at L i j hi hj
    rw [List.getElem?_eq_getElem hlt] at e1
    rw [Nat.add_assoc, hc _ hlt, e1]
  exact ⟨b, off, e, hb, at_ 0 (by omega), at_ 1 (by omega), at_ 2 (by omega), at_ 3 (by omega), at_ 4 (by omega), at_ 5 (by omega)⟩

/-- The index, and what is given, as the maps hold them. -/
def f1 (L : Ls) (s : ByteArray) : Option Int := if Cu.ix s L < L.length then some (Cu.ix s L : Int) else none
def f2 (L : Ls) (s : ByteArray) : Option Int := if s = ByteArray.empty then none else if L.any (fun e => decide (e.pa = s)) then some (Cu.gv s L) else none
theorem f1_yes {L : Ls} {s : ByteArray} (h : Cu.ix s L < L.length) : f1 L s = some (Cu.ix s L : Int) := if_pos h
theorem f1_no {L : Ls} {s : ByteArray} (h : ¬ Cu.ix s L < L.length) : f1 L s = none := if_neg h
theorem f1_snoc {L : Ls} {x : Lk} (h : ¬ Cu.ix x.it L < L.length) (t : ByteArray) : f1 (L ++ [x]) t = if t = x.it then some (L.length : Int) else f1 L t := by
  unfold f1
  rw [Cu.ix_append, List.length_append]
  by_cases ht : t = x.it
  · subst ht
    rw [if_neg h, if_pos rfl, if_pos rfl, if_pos (by simp)]
  · rw [if_neg ht]
    by_cases g : Cu.ix t L < L.length
    · rw [if_pos g, if_pos (by simp; omega), if_pos g]
    · have hne : ¬ x.it = t := fun e => ht e.symm
      simp only [if_neg g, if_neg hne]
      rw [if_neg (by simp)]
theorem gv_none {L : Ls} {s : ByteArray} (h : L.any (fun e => decide (e.pa = s)) = false) : Cu.gv s L = 0 := by
  induction L with
  | nil => rfl
  | cons a r ih =>
    simp only [List.any_cons, Bool.or_eq_false_iff, decide_eq_false_iff_not] at h
    simp only [Cu.gv, if_neg h.1, ih h.2]
    omega
theorem f2_get {L : Ls} {s : ByteArray} (h : s ≠ ByteArray.empty) : (f2 L s).getD 0 = Cu.gv s L := by
  unfold f2
  rw [if_neg h]
  cases hb : L.any (fun e => decide (e.pa = s)) with
  | true => rfl
  | false => rw [gv_none hb]; rfl
theorem f2_same {L : Ls} {x : Lk} (h : x.pa = ByteArray.empty) (t : ByteArray) : f2 (L ++ [x]) t = f2 L t := by
  unfold f2
  by_cases ht : t = ByteArray.empty
  · rw [if_pos ht, if_pos ht]
  · have hne : ¬ x.pa = t := fun e => ht (by rw [← e, h])
    rw [if_neg ht, if_neg ht, List.any_append, Cu.gv_append, if_neg hne]
    simp [hne]
theorem f2_snoc {L : Ls} {x : Lk} (h : x.pa ≠ ByteArray.empty) (t : ByteArray) : f2 (L ++ [x]) t = if t = x.pa then some ((f2 L x.pa).getD 0 + x.vo) else f2 L t := by
  by_cases ht : t = x.pa
  · subst ht
    rw [if_pos rfl, f2_get h]
    unfold f2
    rw [if_neg h, List.any_append, Cu.gv_append, if_pos rfl, if_pos (by simp)]
  · rw [if_neg ht]
    unfold f2
    by_cases hte : t = ByteArray.empty
    · rw [if_pos hte, if_pos hte]
    · have hne : ¬ x.pa = t := fun e => ht e.symm
      rw [if_neg hte, if_neg hte, List.any_append, Cu.gv_append, if_neg hne]
      simp [hne]
theorem MapIs.congr {w : World} {b n : Nat} {f g : ByteArray → Option Int} (h : MapIs w b n f) (e : ∀ s, g s = f s) : MapIs w b n g := by
  obtain ⟨D, h1, h2⟩ := h
  exact ⟨D, h1, fun s hs => by rw [e s]; exact h2 s hs⟩
theorem MapIs.mono {w : World} {b n m : Nat} {f : ByteArray → Option Int} (h : MapIs w b n f) (e : n ≤ m) : MapIs w b m f := by
  obtain ⟨D, h1, h2⟩ := h
  exact ⟨D, h1.mono e, h2⟩

/-- The register of links at block r. -/
structure CReg (w : World) (B r : Nat) (L : Ls) (v : Value) (b1 b2 : Nat) : Prop where
  low : B ≤ r
  l1 : B ≤ b1
  l2 : B ≤ b2
  ne : b1 ≠ b2
  blk : Blk w r 82 #[v, .map (some b1), .map (some b2)]
  row : w.ownsRow B 36 6 v L.length (lrowL L)
  m1 : MapIs w b1 L.length (f1 L)
  m2 : MapIs w b2 L.length (f2 L)
theorem map_blk {w : World} {b n g : Nat} {f : ByteArray → Option Int} {t : TypeId} {cs : Array Value} (h : MapIs w b n f) (hb : Blk w g t cs) : some b ≠ some g := fun e => by
  cases e
  obtain ⟨D, ⟨es, clock, h1, _⟩, _⟩ := h
  unfold Blk at hb
  rw [hb] at h1
  cases h1
theorem map_row {w : World} {b n : Nat} {f : ByteArray → Option Int} {B : Nat} {t : TypeId} {k m : Nat} {v : Value} {xs : List Value} (h : MapIs w b n f) (hr : w.ownsRow B t k v m xs) : some b ≠ v.ownBlock := fun e => by
  rcases hr.2 with ⟨rfl, _⟩ | ⟨g, cap, cur, rfl, _, hg, _⟩
  · simp [Value.ownBlock] at e
  · simp [Value.ownBlock] at e
    subst e
    obtain ⟨D, ⟨es, clock, h1, _⟩, _⟩ := h
    rw [hg] at h1
    cases h1
section
variable {w w' : World} {B r : Nat} {L : Ls} {v : Value} {b1 b2 : Nat}
theorem CReg.below (h : CReg w B r L v b1 b2) (hb : Below w.heap.size w w') : CReg w' B r L v b1 b2 :=
  ⟨h.low, h.l1, h.l2, h.ne, h.blk.below hb, h.row.kept (below_grown hb none) (by cases v.ownBlock <;> simp), h.m1.below hb, h.m2.below hb⟩
theorem CReg.c0 (h : CReg w B r L v b1 b2) : w.cell? ⟨r, 0, none⟩ = some v := h.blk.cell 0
theorem CReg.c1 (h : CReg w B r L v b1 b2) : w.cell? ⟨r, 1, none⟩ = some (.map (some b1)) := h.blk.cell 1
theorem CReg.c2 (h : CReg w B r L v b1 b2) : w.cell? ⟨r, 2, none⟩ = some (.map (some b2)) := h.blk.cell 2
end
/-- The box of a link. -/
def LBox (w : World) (g : Nat) (x : Lk) : Prop := Blk w g 36 #[.string x.it, .string x.pa, .int .i64 x.ti, .int .i64 x.vo, .string x.sp, .int .u64 x.ha]
theorem LBox.cells {w : World} {g : Nat} {x : Lk} (h : LBox w g x) : w.cell? ⟨g, 0, none⟩ = some (.string x.it) ∧ w.cell? ⟨g, 1, none⟩ = some (.string x.pa) ∧ w.cell? ⟨g, 2, none⟩ = some (.int .i64 x.ti) ∧ w.cell? ⟨g, 3, none⟩ = some (.int .i64 x.vo) ∧ w.cell? ⟨g, 4, none⟩ = some (.string x.sp) ∧ w.cell? ⟨g, 5, none⟩ = some (.int .u64 x.ha) :=
  ⟨Blk.cell h 0, Blk.cell h 1, Blk.cell h 2, Blk.cell h 3, Blk.cell h 4, Blk.cell h 5⟩
theorem LBox.below {w w' : World} {g : Nat} {x : Lk} (h : LBox w g x) (hb : Below w.heap.size w w') : LBox w' g x := Blk.below h hb
end Go.Proofs.YtpimmdmcmccbpaaDoor
