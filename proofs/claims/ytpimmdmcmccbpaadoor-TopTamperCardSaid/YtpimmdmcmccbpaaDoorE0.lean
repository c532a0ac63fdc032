/- Plain mathematics of links. No program in sight. -/
import Derived.Test.YtpimmdmcmccbpaaDoorE1
import Derived.Test.YtpimmdmcmccbpaaDoorH0
namespace Go.Proofs.YtpimmdmcmccbpaaDoor
set_option linter.unusedVariables false
namespace Cu
/-- A link. -/
structure Lk where
  it : ByteArray
  pa : ByteArray
  ti : Int
  vo : Int
  sp : ByteArray
  ha : Int
abbrev Ls := List Lk
/-- The first index of an item; the length where there is none. -/
def ix (s : ByteArray) : Ls → Nat
  | [] => 0
  | e :: r => if e.it = s then 0 else ix s r + 1
theorem ix_le (s : ByteArray) : ∀ L : Ls, ix s L ≤ L.length
  | [] => Nat.le_refl _
  | e :: r => by
    have := ix_le s r
    simp only [ix, List.length_cons]
    split <;> omega
theorem ix_at (s : ByteArray) : ∀ (L : Ls) (h : ix s L < L.length), (L[ix s L]).it = s
  | [], h => by simp at h
  | e :: r, h => by
    by_cases g : e.it = s
    · have : ix s (e :: r) = 0 := by simp [ix, g]
      simp [this, g]
    · have h1 : ix s (e :: r) = ix s r + 1 := by simp [ix, g]
      have h2 := ix_at s r (by rw [h1] at h; simpa using h)
      simp only [h1, List.getElem_cons_succ]
      exact h2
theorem ix_first (s : ByteArray) : ∀ (L : Ls) (j : Nat) (hj : j < L.length), j < ix s L → (L[j]).it ≠ s
  | [], j, hj, _ => by simp at hj
  | e :: r, j, hj, h => by
    by_cases g : e.it = s
    · have : ix s (e :: r) = 0 := by simp [ix, g]
      omega
    · have h1 : ix s (e :: r) = ix s r + 1 := by simp [ix, g]
      cases j with
      | zero => simpa using g
      | succ j => simpa using ix_first s r j (by simpa using hj) (by omega)
theorem ix_eq {s : ByteArray} {L : Ls} {k : Nat} (hk : k < L.length) (h : (L[k]).it = s) (hf : ∀ j (hj : j < L.length), j < k → (L[j]).it ≠ s) : ix s L = k := by
  rcases Nat.lt_trichotomy (ix s L) k with g | g | g
  · exact absurd (ix_at s L (by omega)) (hf _ (by omega) g)
  · exact g
  · exact absurd h (ix_first s L k hk g)
theorem ix_none {s : ByteArray} {L : Ls} (hf : ∀ j (hj : j < L.length), (L[j]).it ≠ s) : ix s L = L.length := by
  rcases Nat.lt_or_ge (ix s L) L.length with g | g
  · exact absurd (ix_at s L g) (hf _ g)
  · have := ix_le s L; omega
theorem ix_append (L : Ls) (e : Lk) (s : ByteArray) : ix s (L ++ [e]) = if ix s L < L.length then ix s L else if e.it = s then L.length else L.length + 1 := by
  induction L with
  | nil => simp [ix]
  | cons a r ih =>
    simp only [List.cons_append, ix, List.length_cons]
    by_cases h : a.it = s
    · simp [h]
    · simp only [if_neg h, ih]
      by_cases g : ix s r < r.length
      · simp [g]
      · simp only [if_neg g, Nat.add_lt_add_iff_right]
        split <;> rfl
/-- What the children of an item have together. -/
def gv (s : ByteArray) : Ls → Int
  | [] => 0
  | e :: r => (if e.pa = s then e.vo else 0) + gv s r
theorem gv_append (L : Ls) (e : Lk) (s : ByteArray) : gv s (L ++ [e]) = gv s L + if e.pa = s then e.vo else 0 := by
  induction L with
  | nil => simp [gv]
  | cons a r ih => simp only [List.cons_append, gv, ih]; omega
/-- The parent of a link. -/
def par (L : Ls) (x : Lk) : Option Lk := L[ix x.pa L]?
theorem par_none {L : Ls} {x : Lk} (h : ¬ ix x.pa L < L.length) : par L x = none := by unfold par; simp; omega
theorem par_some {L : Ls} {x : Lk} (h : ix x.pa L < L.length) : par L x = some L[ix x.pa L] := by unfold par; simp [h]

def ndB (L : Ls) (x : Lk) : Prop := x.pa ≠ ByteArray.empty ∧ ¬ ix x.pa L < L.length
def tiB (L : Ls) (x : Lk) : Prop := 0 ≤ x.ti ∧ x.ti ≤ 10000000 ∧ ∀ p, par L x = some p → p.ti ≤ x.ti
def spB (L : Ls) (x : Lk) : Prop := nameB x.sp = true ∧ ∀ p, par L x = some p → x.sp = p.sp
def voB (x : Lk) : Prop := 0 ≤ x.vo ∧ x.vo ≤ 1125899906842624
def quB (L : Ls) (x : Lk) : Prop := ∀ p, par L x = some p → gv x.pa L + x.vo ≤ p.vo
def itB (x : Lk) : Prop := spE x.it = 0 ∧ ((spK x.it = 80) ↔ x.pa = ByteArray.empty)
open Classical in
/-- Why a link can not be added. -/
noncomputable def chE (L : Ls) (x : Lk) : Int :=
  if itB x then
    if ix x.it L < L.length then 7
    else if ndB L x then 8
    else if tiB L x then
      if spB L x then
        if voB x then
          if quB L x then (if L.length < 1024 then 0 else 12) else 23
        else 9
      else 24
    else 15
  else 6
theorem chE_name {L : Ls} {x : Lk} (h : ¬ itB x) : chE L x = 6 := if_neg h
theorem chE_old {L : Ls} {x : Lk} (h : itB x) (h1 : ix x.it L < L.length) : chE L x = 7 := by rw [chE, if_pos h, if_pos h1]
theorem chE_none {L : Ls} {x : Lk} (h : itB x) (h1 : ¬ ix x.it L < L.length) (h2 : ndB L x) : chE L x = 8 := by rw [chE, if_pos h, if_neg h1, if_pos h2]
theorem chE_time {L : Ls} {x : Lk} (h : itB x) (h1 : ¬ ix x.it L < L.length) (h2 : ¬ ndB L x) (h3 : ¬ tiB L x) : chE L x = 15 := by rw [chE, if_pos h, if_neg h1, if_neg h2, if_neg h3]
theorem chE_species {L : Ls} {x : Lk} (h : itB x) (h1 : ¬ ix x.it L < L.length) (h2 : ¬ ndB L x) (h3 : tiB L x) (h4 : ¬ spB L x) : chE L x = 24 := by rw [chE, if_pos h, if_neg h1, if_neg h2, if_pos h3, if_neg h4]
theorem chE_range {L : Ls} {x : Lk} (h : itB x) (h1 : ¬ ix x.it L < L.length) (h2 : ¬ ndB L x) (h3 : tiB L x) (h4 : spB L x) (h5 : ¬ voB x) : chE L x = 9 := by rw [chE, if_pos h, if_neg h1, if_neg h2, if_pos h3, if_pos h4, if_neg h5]
theorem chE_quota {L : Ls} {x : Lk} (h : itB x) (h1 : ¬ ix x.it L < L.length) (h2 : ¬ ndB L x) (h3 : tiB L x) (h4 : spB L x) (h5 : voB x) (h6 : ¬ quB L x) : chE L x = 23 := by rw [chE, if_pos h, if_neg h1, if_neg h2, if_pos h3, if_pos h4, if_pos h5, if_neg h6]
theorem chE_full {L : Ls} {x : Lk} (h : itB x) (h1 : ¬ ix x.it L < L.length) (h2 : ¬ ndB L x) (h3 : tiB L x) (h4 : spB L x) (h5 : voB x) (h6 : quB L x) (h7 : ¬ L.length < 1024) : chE L x = 12 := by rw [chE, if_pos h, if_neg h1, if_neg h2, if_pos h3, if_pos h4, if_pos h5, if_pos h6, if_neg h7]
theorem chE_ok {L : Ls} {x : Lk} (h : itB x) (h1 : ¬ ix x.it L < L.length) (h2 : ¬ ndB L x) (h3 : tiB L x) (h4 : spB L x) (h5 : voB x) (h6 : quB L x) (h7 : L.length < 1024) : chE L x = 0 := by rw [chE, if_pos h, if_neg h1, if_neg h2, if_pos h3, if_pos h4, if_pos h5, if_pos h6, if_pos h7]
/-- All that a link that can be added fulfils. -/
structure Can (L : Ls) (x : Lk) : Prop where
  it : itB x
  new : ¬ ix x.it L < L.length
  nd : ¬ ndB L x
  ti : tiB L x
  sp : spB L x
  vo : voB x
  qu : quB L x
  len : L.length < 1024
theorem can_of {L : Ls} {x : Lk} (h : chE L x = 0) : Can L x := by
  by_cases h0 : itB x
  · by_cases h1 : ix x.it L < L.length
    · rw [chE_old h0 h1] at h; omega
    · by_cases h2 : ndB L x
      · rw [chE_none h0 h1 h2] at h; omega
      · by_cases h3 : tiB L x
        · by_cases h4 : spB L x
          · by_cases h5 : voB x
            · by_cases h6 : quB L x
              · by_cases h7 : L.length < 1024
                · exact ⟨h0, h1, h2, h3, h4, h5, h6, h7⟩
                · rw [chE_full h0 h1 h2 h3 h4 h5 h6 h7] at h; omega
              · rw [chE_quota h0 h1 h2 h3 h4 h5 h6] at h; omega
            · rw [chE_range h0 h1 h2 h3 h4 h5] at h; omega
          · rw [chE_species h0 h1 h2 h3 h4] at h; omega
        · rw [chE_time h0 h1 h2 h3] at h; omega
  · rw [chE_name h0] at h; omega
/-- The text of a link. -/
def txS (x : Lk) : ByteArray := x.it ++ ⟨#[32]⟩ ++ x.pa ++ ⟨#[32]⟩ ++ x.sp ++ ⟨#[32]⟩ ++ itS x.ti ++ ⟨#[32]⟩ ++ itS x.vo
def pvV (L : Ls) (x : Lk) : Int := match par L x with | none => 0 | some p => p.ha
/-- The hash of a link after links. -/
def hsV (L : Ls) (x : Lk) : Int := chS (pvV L x) (txS x)
/-- Links as a register has them. -/
inductive Good : Ls → Prop
  | nil : Good []
  | snoc {L : Ls} {x : Lk} (h : Good L) (hc : Can L x) (hh : x.ha = hsV L x) : Good (L ++ [x])
end Cu
end Go.Proofs.YtpimmdmcmccbpaaDoor
