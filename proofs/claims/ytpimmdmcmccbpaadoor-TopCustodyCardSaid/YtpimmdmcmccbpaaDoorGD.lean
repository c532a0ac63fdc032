/- Links in memory; a map from strings to numbers. -/
import Derived.Test.YtpimmdmcmccbpaaDoorE3
import Derived.Maps.OwnSet
import Derived.Test.YtpimmdmcmccbpaaDoorGA
namespace Go.Proofs.YtpimmdmcmccbpaaDoor
open Go.RowKit Go.ChangeMaps Go.WideMaps Go.WideElems
set_option linter.unusedVariables false

theorem key9 : Maps.Keyed Tryd.prog 9 := Maps.string_keyed Tryd.underlying9
theorem zeroI (w : World) : (zeroValue 3).run Tryd.prog w = .ok (.int .i64 0) w := by kernel_rfl
def kS (s : ByteArray) : Lit := .string s.data.toList
theorem kS_inj {s t : ByteArray} (h : kS s = kS t) : s = t := by
  unfold kS at h
  simp only [Lit.string.injEq] at h
  exact ByteArray.ext (Array.toList_inj.1 h)
theorem kS_of (s : ByteArray) (h : s.size ≤ maxLen) : keyOf Tryd.prog 9 (.string s) = some (kS s) := keyOf_string_mk Tryd.underlying9 h
/-- Block b is a map that holds what f tells, at most n entries. -/
def MapIs (w : World) (b n : Nat) (f : ByteArray → Option Int) : Prop :=
  ∃ D : DataW Unit, w.ownsMap Tryd.prog 9 (plainElem Tryd.prog 3) b n D ∧ ∀ s : ByteArray, s.size ≤ maxLen → Maps.has D (kS s) = (f s).isSome ∧ D.atKey (kS s) (.lit (.int .i64 0)) = .lit (.int .i64 ((f s).getD 0))
section
variable {w w' : World} {b n : Nat} {f : ByteArray → Option Int}
theorem MapIs.made (w : World) : MapIs (w.alloc (.map #[] 0)) w.heap.size 0 (fun _ => none) :=
  ⟨.map [], World.ownsMap_made _ _ _ _, fun s _ => ⟨rfl, rfl⟩⟩
theorem MapIs.kept {row : Option Nat} (h : MapIs w b n f) (hg : w.grownBy w' row) (hne : some b ≠ row) : MapIs w' b n f := by
  obtain ⟨D, h1, h2⟩ := h
  exact ⟨D, h1.kept hg hne, h2⟩
theorem MapIs.below (h : MapIs w b n f) (hb : Below w.heap.size w w') : MapIs w' b n f := h.kept ⟨hb.os, hb.tape, hb.output, hb.size, fun k hk _ => hb.block k hk⟩ (row := none) (by simp)
theorem MapIs.lt (h : MapIs w b n f) : b < w.heap.size := by obtain ⟨D, h1, _⟩ := h; exact h1.lt
theorem MapIs.look (h : MapIs w b n f) (s : ByteArray) (hs : s.size ≤ maxLen) : (Instr.lookup 80 (.map (some b)) (.string s) true).run Tryd.prog w = .ok (.tuple #[.int .i64 ((f s).getD 0), .bool (f s).isSome]) w := by
  obtain ⟨D, h1, h2⟩ := h
  obtain ⟨v, ps, hrun, hv⟩ := h1.look_ok key9 Tryd.underlying80 (zeroI w) (plainElem_int Tryd.underlying3 (by decide)) (kS_of s hs)
  rw [(h2 s hs).2] at hv
  obtain ⟨c, rfl, hc, _⟩ := plainElem_int_inv Tryd.underlying3 hv
  simp only [Prod.mk.injEq, DataW.lit.injEq, Lit.int.injEq, true_and] at hc
  rw [hrun, (h2 s hs).1, ← hc.1]
theorem MapIs.get (h : MapIs w b n f) (s : ByteArray) (hs : s.size ≤ maxLen) : (Instr.lookup 80 (.map (some b)) (.string s) false).run Tryd.prog w = .ok (.int .i64 ((f s).getD 0)) w := by
  obtain ⟨D, h1, h2⟩ := h
  obtain ⟨c, hrun, hat, _⟩ := h1.lookup_int key9 Tryd.underlying80 Tryd.underlying3 (zeroI w) (kS_of s hs)
  rw [(h2 s hs).2] at hat
  simp only [DataW.lit.injEq, Lit.int.injEq, true_and] at hat
  rw [hrun, hat]
theorem wpList_put {ops : Array Oper} {rest : List Oper} {o : Oper} {a : Act} {Q : Exit → Act → World → Prop} (h : MapIs w b n f) (hg : o.guard = none) (m x v : Operand) (hop : o.op = Op.mapUpdate 80 m x v)
    (hm : a.eval m = .map (some b)) (hn : n < maxLen) (s : ByteArray) (hs : s.size ≤ maxLen) (y : Int) (hy : (Lit.int .i64 y).wf = true) (hx : a.eval x = .string s) (hv : a.eval v = .int .i64 y)
    (hK : ∀ w', MapIs w' b (n + 1) (fun t => if t = s then some y else f t) → w.grownBy w' (some b) → wpList Tryd.prog ops Q rest (a.put o.dst undef) w') : wpList Tryd.prog ops Q (o :: rest) a w := by
  obtain ⟨D, h1, h2⟩ := h
  refine wpList_mapUpdate_own w hg m x v 80 hop 9 3 key9 Tryd.underlying80 _ b n D hm h1 hn _ _ (kS s) hx hv (kS_of s hs) _ [] (plainElem_int Tryd.underlying3 hy) fun w' h3 h4 => hK w' ⟨_, h3, fun t ht => ?_⟩ h4
  have hD := h1.isMap
  by_cases hts : t = s
  · subst hts
    rw [Maps.has_put_same hD (by trivial), Maps.atKey_put_same hD (by trivial)]
    simp
  · have hne : kS t ≠ kS s := fun e => hts (kS_inj e)
    rw [Maps.has_put_other hne, Maps.atKey_put_other hne]
    simp only [if_neg hts]
    exact h2 t ht
end
end Go.Proofs.YtpimmdmcmccbpaaDoor

namespace Go.Proofs.YtpimmdmcmccbpaaDoor
set_option linter.unusedVariables false
namespace Cu
/-- A link. -/
structure Lk where
  it : ByteArray
  pa : ByteArray
  ti : Int
  vo : Int
  sp : ByteArray
  ha : Int
abbrev Ls := List Lk
/-- The first index of an item; the length where there is none. -/
def ix (s : ByteArray) : Ls → Nat
  | [] => 0
  | e :: r => if e.it = s then 0 else ix s r + 1
theorem ix_le (s : ByteArray) : ∀ L : Ls, ix s L ≤ L.length
  | [] => Nat.le_refl _
  | e :: r => by
    have := ix_le s r
    simp only [ix, List.length_cons]
    split <;> omega
theorem ix_at (s : ByteArray) : ∀ (L : Ls) (h : ix s L < L.length), (L[ix s L]).it = s
  | [], h => by simp at h
  | e :: r, h => by
    by_cases g : e.it = s
    · have : ix s (e :: r) = 0 := by simp [ix, g]
      simp [this, g]
    · have h1 : ix s (e :: r) = ix s r + 1 := by simp [ix, g]
      have h2 := ix_at s r (by rw [h1] at h; simpa using h)
      simp only [h1, List.getElem_cons_succ]
      exact h2
theorem ix_first (s : ByteArray) : ∀ (L : Ls) (j : Nat) (hj : j < L.length), j < ix s L → (L[j]).it ≠ s
  | [], j, hj, _ => by simp at hj
  | e :: r, j, hj, h => by
    by_cases g : e.it = s
    · have : ix s (e :: r) = 0 := by simp [ix, g]
      omega
    · have h1 : ix s (e :: r) = ix s r + 1 := by simp [ix, g]
      cases j with
      | zero => simpa using g
      | succ j => simpa using ix_first s r j (by simpa using hj) (by omega)
theorem ix_eq {s : ByteArray} {L : Ls} {k : Nat} (hk : k < L.length) (h : (L[k]).it = s) (hf : ∀ j (hj : j < L.length), j < k → (L[j]).it ≠ s) : ix s L = k := by
  rcases Nat.lt_trichotomy (ix s L) k with g | g | g
  · exact absurd (ix_at s L (by omega)) (hf _ (by omega) g)
  · exact g
  · exact absurd h (ix_first s L k hk g)
theorem ix_none {s : ByteArray} {L : Ls} (hf : ∀ j (hj : j < L.length), (L[j]).it ≠ s) : ix s L = L.length := by
  rcases Nat.lt_or_ge (ix s L) L.length with g | g
  · exact absurd (ix_at s L g) (hf _ g)
  · have := ix_le s L; omega
theorem ix_append (L : Ls) (e : Lk) (s : ByteArray) : ix s (L ++ [e]) = if ix s L < L.length then ix s L else if e.it = s then L.length else L.length + 1 := by
  induction L with
  | nil => simp [ix]
  | cons a r ih =>
    simp only [List.cons_append, ix, List.length_cons]
    by_cases h : a.it = s
    · simp [h]
    · simp only [if_neg h, ih]
      by_cases g : ix s r < r.length
      · simp [g]
      · simp only [if_neg g, Nat.add_lt_add_iff_right]
        split <;> rfl
/-- What the children of an item have together. -/
def gv (s : ByteArray) : Ls → Int
  | [] => 0
  | e :: r => (if e.pa = s then e.vo else 0) + gv s r
theorem gv_append (L : Ls) (e : Lk) (s : ByteArray) : gv s (L ++ [e]) = gv s L + if e.pa = s then e.vo else 0 := by
  induction L with
  | nil => simp [gv]
  | cons a r ih => simp only [List.cons_append, gv, ih]; omega
/-- The parent of a link. -/
def par (L : Ls) (x : Lk) : Option Lk := L[ix x.pa L]?
theorem par_none {L : Ls} {x : Lk} (h : ¬ ix x.pa L < L.length) : par L x = none := by unfold par; simp; omega
theorem par_some {L : Ls} {x : Lk} (h : ix x.pa L < L.length) : par L x = some L[ix x.pa L] := by unfold par; simp [h]

def ndB (L : Ls) (x : Lk) : Prop := x.pa ≠ ByteArray.empty ∧ ¬ ix x.pa L < L.length
def tiB (L : Ls) (x : Lk) : Prop := 0 ≤ x.ti ∧ x.ti ≤ 10000000 ∧ ∀ p, par L x = some p → p.ti ≤ x.ti
def spB (L : Ls) (x : Lk) : Prop := nameB x.sp = true ∧ ∀ p, par L x = some p → x.sp = p.sp
def voB (x : Lk) : Prop := 0 ≤ x.vo ∧ x.vo ≤ 1125899906842624
def quB (L : Ls) (x : Lk) : Prop := ∀ p, par L x = some p → gv x.pa L + x.vo ≤ p.vo
def itB (x : Lk) : Prop := spE x.it = 0 ∧ ((spK x.it = 80) ↔ x.pa = ByteArray.empty)
open Classical in
/-- Why a link can not be added. -/
noncomputable def chE (L : Ls) (x : Lk) : Int :=
  if itB x then
    if ix x.it L < L.length then 7
    else if ndB L x then 8
    else if tiB L x then
      if spB L x then
        if voB x then
          if quB L x then (if L.length < 1024 then 0 else 12) else 23
        else 9
      else 24
    else 15
  else 6
theorem chE_name {L : Ls} {x : Lk} (h : ¬ itB x) : chE L x = 6 := if_neg h
theorem chE_old {L : Ls} {x : Lk} (h : itB x) (h1 : ix x.it L < L.length) : chE L x = 7 := by rw [chE, if_pos h, if_pos h1]
theorem chE_none {L : Ls} {x : Lk} (h : itB x) (h1 : ¬ ix x.it L < L.length) (h2 : ndB L x) : chE L x = 8 := by rw [chE, if_pos h, if_neg h1, if_pos h2]
theorem chE_time {L : Ls} {x : Lk} (h : itB x) (h1 : ¬ ix x.it L < L.length) (h2 : ¬ ndB L x) (h3 : ¬ tiB L x) : chE L x = 15 := by rw [chE, if_pos h, if_neg h1, if_neg h2, if_neg h3]
theorem chE_species {L : Ls} {x : Lk} (h : itB x) (h1 : ¬ ix x.it L < L.length) (h2 : ¬ ndB L x) (h3 : tiB L x) (h4 : ¬ spB L x) : chE L x = 24 := by rw [chE, if_pos h, if_neg h1, if_neg h2, if_pos h3, if_neg h4]
theorem chE_range {L : Ls} {x : Lk} (h : itB x) (h1 : ¬ ix x.it L < L.length) (h2 : ¬ ndB L x) (h3 : tiB L x) (h4 : spB L x) (h5 : ¬ voB x) : chE L x = 9 := by rw [chE, if_pos h, if_neg h1, if_neg h2, if_pos h3, if_pos h4, if_neg h5]
theorem chE_quota {L : Ls} {x : Lk} (h : itB x) (h1 : ¬ ix x.it L < L.length) (h2 : ¬ ndB L x) (h3 : tiB L x) (h4 : spB L x) (h5 : voB x) (h6 : ¬ quB L x) : chE L x = 23 := by rw [chE, if_pos h, if_neg h1, if_neg h2, if_pos h3, if_pos h4, if_pos h5, if_neg h6]
theorem chE_full {L : Ls} {x : Lk} (h : itB x) (h1 : ¬ ix x.it L < L.length) (h2 : ¬ ndB L x) (h3 : tiB L x) (h4 : spB L x) (h5 : voB x) (h6 : quB L x) (h7 : ¬ L.length < 1024) : chE L x = 12 := by rw [chE, if_pos h, if_neg h1, if_neg h2, if_pos h3, if_pos h4, if_pos h5, if_pos h6, if_neg h7]
theorem chE_ok {L : Ls} {x : Lk} (h : itB x) (h1 : ¬ ix x.it L < L.length) (h2 : ¬ ndB L x) (h3 : tiB L x) (h4 : spB L x) (h5 : voB x) (h6 : quB L x) (h7 : L.length < 1024) : chE L x = 0 := by rw [chE, if_pos h, if_neg h1, if_neg h2, if_pos h3, if_pos h4, if_pos h5, if_pos h6, if_pos h7]
/-- All that a link that can be added fulfils. -/
structure Can (L : Ls) (x : Lk) : Prop where
  it : itB x
  new : ¬ ix x.it L < L.length
  nd : ¬ ndB L x
  ti : tiB L x
  sp : spB L x
  vo : voB x
  qu : quB L x
  len : L.length < 1024
theorem can_of {L : Ls} {x : Lk} (h : chE L x = 0) : Can L x := by
  by_cases h0 : itB x
  · by_cases h1 : ix x.it L < L.length
    · rw [chE_old h0 h1] at h; omega
    · by_cases h2 : ndB L x
      · rw [chE_none h0 h1 h2] at h; omega
      · by_cases h3 : tiB L x
        · by_cases h4 : spB L x
          · by_cases h5 : voB x
            · by_cases h6 : quB L x
              · by_cases h7 : L.length < 1024
                · exact ⟨h0, h1, h2, h3, h4, h5, h6, h7⟩
                · rw [chE_full h0 h1 h2 h3 h4 h5 h6 h7] at h; omega
              · rw [chE_quota h0 h1 h2 h3 h4 h5 h6] at h; omega
            · rw [chE_range h0 h1 h2 h3 h4 h5] at h; omega
          · rw [chE_species h0 h1 h2 h3 h4] at h; omega
        · rw [chE_time h0 h1 h2 h3] at h; omega
  · rw [chE_name h0] at h; omega
/-- The text of a link. -/
def txS (x : Lk) : ByteArray := x.it ++ ⟨#[32]⟩ ++ x.pa ++ ⟨#[32]⟩ ++ x.sp ++ ⟨#[32]⟩ ++ itS x.ti ++ ⟨#[32]⟩ ++ itS x.vo
def pvV (L : Ls) (x : Lk) : Int := match par L x with | none => 0 | some p => p.ha
/-- The hash of a link after links. -/
def hsV (L : Ls) (x : Lk) : Int := chS (pvV L x) (txS x)
/-- Links as a register has them. -/
inductive Good : Ls → Prop
  | nil : Good []
  | snoc {L : Ls} {x : Lk} (h : Good L) (hc : Can L x) (hh : x.ha = hsV L x) : Good (L ++ [x])
end Cu
end Go.Proofs.YtpimmdmcmccbpaaDoor

namespace Go.Proofs.YtpimmdmcmccbpaaDoor
open Go.RowKit
set_option linter.unusedVariables false
open Cu (Lk Ls)

def lcells (x : Lk) : List Value := [.string x.it, .string x.pa, .int .i64 x.ti, .int .i64 x.vo, .string x.sp, .int .u64 x.ha]
def lrowL (L : Ls) : List Value := L.flatMap lcells
theorem lrowL_length (L : Ls) : (lrowL L).length = L.length * 6 := by
  induction L with
  | nil => rfl
  | cons e r ih => simp only [lrowL, List.flatMap_cons, List.length_append, List.length_cons] at ih ⊢; rw [ih]; simp [lcells]; omega
theorem lrowL_at (L : Ls) (i j : Nat) (h : i < L.length) (hj : j < 6) : (lrowL L)[i * 6 + j]? = (lcells L[i])[j]? := by
  induction L generalizing i with
  | nil => simp at h
  | cons e r ih =>
    have h6 : (lcells e).length = 6 := rfl
    simp only [lrowL, List.flatMap_cons] at ih ⊢
    cases i with
    | zero => rw [List.getElem?_append_left (by omega)]; simp
    | succ i =>
      rw [List.getElem?_append_right (by omega), h6, show (i + 1) * 6 + j - 6 = i * 6 + j by omega, ih i (by simpa using h)]
      simp
theorem lrowL_snoc (L : Ls) (x : Lk) : lrowL (L ++ [x]) = lrowL L ++ lcells x := by simp [lrowL]
theorem lcells_one (x : Lk) : ∀ u ∈ lcells x, u.oneCell' = true := by
  intro u hu
  simp only [lcells, List.mem_cons, List.not_mem_nil, or_false] at hu
  rcases hu with rfl | rfl | rfl | rfl | rfl | rfl <;> rfl
theorem lrowL_one (L : Ls) : ∀ u ∈ lrowL L, u.oneCell' = true := by
  intro u hu
  simp only [lrowL, List.mem_flatMap] at hu
  obtain ⟨e, _, he⟩ := hu
  exact lcells_one _ u he
theorem infoLk : (Tryd.prog.info? 36).map (fun i => (i.zero, i.size, i.bytes)) = some (some (.agg #[.string ⟨#[]⟩, .string ⟨#[]⟩, .int .i64 0, .int .i64 0, .string ⟨#[]⟩, .int .u64 0]), 6, 72) := by kernel_rfl
/-- The cells of the i-th link. -/
theorem SlR.link {w : World} {A : Option Addr} {L : Ls} (h : SlR w A (lrowL L)) {i : Nat} (hi : i < L.length) :
    ∃ b off, A = some ⟨b, off, none⟩ ∧ b < w.heap.size ∧ w.cell? ⟨b, off + i * 6, none⟩ = some (.string (L[i]).it) ∧ w.cell? ⟨b, off + i * 6 + 1, none⟩ = some (.string (L[i]).pa) ∧
      w.cell? ⟨b, off + i * 6 + 2, none⟩ = some (.int .i64 (L[i]).ti) ∧ w.cell? ⟨b, off + i * 6 + 3, none⟩ = some (.int .i64 (L[i]).vo) ∧ w.cell? ⟨b, off + i * 6 + 4, none⟩ = some (.string (L[i]).sp) ∧ w.cell? ⟨b, off + i * 6 + 5, none⟩ = some (.int .u64 (L[i]).ha) := by
  have hl := lrowL_length L
  obtain ⟨b, off, e, hb, hc⟩ := h (by omega)
  have at_ : ∀ j, j < 6 → w.cell? ⟨b, off + i * 6 + j, none⟩ = (lcells L[i])[j]? := fun j hj => by
    have hlt : i * 6 + j < (lrowL L).length := by omega
    have e1 := lrowL_at L i j hi hj
    rw [List.getElem?_eq_getElem hlt] at e1
    rw [Nat.add_assoc, hc _ hlt, e1]
  exact ⟨b, off, e, hb, at_ 0 (by omega), at_ 1 (by omega), at_ 2 (by omega), at_ 3 (by omega), at_ 4 (by omega), at_ 5 (by omega)⟩

/-- The index, and what is given, as the maps hold them. -/
def f1 (L : Ls) (s : ByteArray) : Option Int := if Cu.ix s L < L.length then some (Cu.ix s L : Int) else none
def f2 (L : Ls) (s : ByteArray) : Option Int := if s = ByteArray.empty then none else if L.any (fun e => decide (e.pa = s)) then some (Cu.gv s L) else none
theorem f1_yes {L : Ls} {s : ByteArray} (h : Cu.ix s L < L.length) : f1 L s = some (Cu.ix s L : Int) := if_pos h
theorem f1_no {L : Ls} {s : ByteArray} (h : ¬ Cu.ix s L < L.length) : f1 L s = none := if_neg h
theorem f1_snoc {L : Ls} {x : Lk} (h : ¬ Cu.ix x.it L < L.length) (t : ByteArray) : f1 (L ++ [x]) t = if t = x.it then some (L.length : Int) else f1 L t := by
  unfold f1
  rw [Cu.ix_append, List.length_append]
  by_cases ht : t = x.it
  · subst ht
    rw [if_neg h, if_pos rfl, if_pos rfl, if_pos (by simp)]
  · rw [if_neg ht]
    by_cases g : Cu.ix t L < L.length
    · rw [if_pos g, if_pos (by simp; omega), if_pos g]
    · have hne : ¬ x.it = t := fun e => ht e.symm
      simp only [if_neg g, if_neg hne]
      rw [if_neg (by simp)]
theorem gv_none {L : Ls} {s : ByteArray} (h : L.any (fun e => decide (e.pa = s)) = false) : Cu.gv s L = 0 := by
  induction L with
  | nil => rfl
  | cons a r ih =>
    simp only [List.any_cons, Bool.or_eq_false_iff, decide_eq_false_iff_not] at h
    simp only [Cu.gv, if_neg h.1, ih h.2]
    omega
theorem f2_get {L : Ls} {s : ByteArray} (h : s ≠ ByteArray.empty) : (f2 L s).getD 0 = Cu.gv s L := by
  unfold f2
  rw [if_neg h]
  cases hb : L.any (fun e => decide (e.pa = s)) with
  | true => rfl
  | false => rw [gv_none hb]; rfl
theorem f2_same {L : Ls} {x : Lk} (h : x.pa = ByteArray.empty) (t : ByteArray) : f2 (L ++ [x]) t = f2 L t := by
  unfold f2
  by_cases ht : t = ByteArray.empty
  · rw [if_pos ht, if_pos ht]
  · have hne : ¬ x.pa = t := fun e => ht (by rw [← e, h])
    rw [if_neg ht, if_neg ht, List.any_append, Cu.gv_append, if_neg hne]
    simp [hne]
theorem f2_snoc {L : Ls} {x : Lk} (h : x.pa ≠ ByteArray.empty) (t : ByteArray) : f2 (L ++ [x]) t = if t = x.pa then some ((f2 L x.pa).getD 0 + x.vo) else f2 L t := by
  by_cases ht : t = x.pa
  · subst ht
    rw [if_pos rfl, f2_get h]
    unfold f2
    rw [if_neg h, List.any_append, Cu.gv_append, if_pos rfl, if_pos (by simp)]
  · rw [if_neg ht]
    unfold f2
    by_cases hte : t = ByteArray.empty
    · rw [if_pos hte, if_pos hte]
    · have hne : ¬ x.pa = t := fun e => ht e.symm
      rw [if_neg hte, if_neg hte, List.any_append, Cu.gv_append, if_neg hne]
      simp [hne]
theorem MapIs.congr {w : World} {b n : Nat} {f g : ByteArray → Option Int} (h : MapIs w b n f) (e : ∀ s, g s = f s) : MapIs w b n g := by
  obtain ⟨D, h1, h2⟩ := h
  exact ⟨D, h1, fun s hs => by rw [e s]; exact h2 s hs⟩
theorem MapIs.mono {w : World} {b n m : Nat} {f : ByteArray → Option Int} (h : MapIs w b n f) (e : n ≤ m) : MapIs w b m f := by
  obtain ⟨D, h1, h2⟩ := h
  exact ⟨D, h1.mono e, h2⟩

/-- The register of links at block r. -/
structure CReg (w : World) (B r : Nat) (L : Ls) (v : Value) (b1 b2 : Nat) : Prop where
  low : B ≤ r
  l1 : B ≤ b1
  l2 : B ≤ b2
  ne : b1 ≠ b2
  blk : Blk w r 82 #[v, .map (some b1), .map (some b2)]
  row : w.ownsRow B 36 6 v L.length (lrowL L)
  m1 : MapIs w b1 L.length (f1 L)
  m2 : MapIs w b2 L.length (f2 L)
theorem map_blk {w : World} {b n g : Nat} {f : ByteArray → Option Int} {t : TypeId} {cs : Array Value} (h : MapIs w b n f) (hb : Blk w g t cs) : some b ≠ some g := fun e => by
  cases e
  obtain ⟨D, ⟨es, clock, h1, _⟩, _⟩ := h
  unfold Blk at hb
  rw [hb] at h1
  cases h1
theorem map_row {w : World} {b n : Nat} {f : ByteArray → Option Int} {B : Nat} {t : TypeId} {k m : Nat} {v : Value} {xs : List Value} (h : MapIs w b n f) (hr : w.ownsRow B t k v m xs) : some b ≠ v.ownBlock := fun e => by
  rcases hr.2 with ⟨rfl, _⟩ | ⟨g, cap, cur, rfl, _, hg, _⟩
  · simp [Value.ownBlock] at e
  · simp [Value.ownBlock] at e
    subst e
    obtain ⟨D, ⟨es, clock, h1, _⟩, _⟩ := h
    rw [hg] at h1
    cases h1
section
variable {w w' : World} {B r : Nat} {L : Ls} {v : Value} {b1 b2 : Nat}
theorem CReg.below (h : CReg w B r L v b1 b2) (hb : Below w.heap.size w w') : CReg w' B r L v b1 b2 :=
  ⟨h.low, h.l1, h.l2, h.ne, h.blk.below hb, h.row.kept (below_grown hb none) (by cases v.ownBlock <;> simp), h.m1.below hb, h.m2.below hb⟩
theorem CReg.c0 (h : CReg w B r L v b1 b2) : w.cell? ⟨r, 0, none⟩ = some v := h.blk.cell 0
theorem CReg.c1 (h : CReg w B r L v b1 b2) : w.cell? ⟨r, 1, none⟩ = some (.map (some b1)) := h.blk.cell 1
theorem CReg.c2 (h : CReg w B r L v b1 b2) : w.cell? ⟨r, 2, none⟩ = some (.map (some b2)) := h.blk.cell 2
end
/-- The box of a link. -/
def LBox (w : World) (g : Nat) (x : Lk) : Prop := Blk w g 36 #[.string x.it, .string x.pa, .int .i64 x.ti, .int .i64 x.vo, .string x.sp, .int .u64 x.ha]
theorem LBox.cells {w : World} {g : Nat} {x : Lk} (h : LBox w g x) : w.cell? ⟨g, 0, none⟩ = some (.string x.it) ∧ w.cell? ⟨g, 1, none⟩ = some (.string x.pa) ∧ w.cell? ⟨g, 2, none⟩ = some (.int .i64 x.ti) ∧ w.cell? ⟨g, 3, none⟩ = some (.int .i64 x.vo) ∧ w.cell? ⟨g, 4, none⟩ = some (.string x.sp) ∧ w.cell? ⟨g, 5, none⟩ = some (.int .u64 x.ha) :=
  ⟨Blk.cell h 0, Blk.cell h 1, Blk.cell h 2, Blk.cell h 3, Blk.cell h 4, Blk.cell h 5⟩
theorem LBox.below {w w' : World} {g : Nat} {x : Lk} (h : LBox w g x) (hb : Below w.heap.size w w') : LBox w' g x := Blk.below h hb
end Go.Proofs.YtpimmdmcmccbpaaDoor
