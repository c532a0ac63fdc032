/- Plain mathematics of the register of permits. No program in sight. -/
import Derived.Test.YtgkkhbhobbhlpaaI5
namespace Go.Proofs.Ytgkkhbhobbhlpaa
set_option linter.unusedVariables false
namespace Pt
/-- A permit. -/
structure Pm where
  id : ByteArray
  sp : ByteArray
  fr : Int
  un : Int
  qu : Int
instance : Inhabited Pm := ⟨⟨ByteArray.empty, ByteArray.empty, 0, 0, 0⟩⟩
/-- A register: the permits and what was used of each. -/
abbrev Rg := List (Pm × Int)
/-- The first index of a permit; the length where there is none. -/
def ix (id : ByteArray) : Rg → Nat
  | [] => 0
  | e :: r => if e.1.id = id then 0 else ix id r + 1
theorem ix_le (id : ByteArray) : ∀ R : Rg, ix id R ≤ R.length
  | [] => Nat.le_refl _
  | e :: r => by
    have := ix_le id r
    simp only [ix, List.length_cons]
    split <;> omega
theorem ix_at (id : ByteArray) : ∀ (R : Rg) (h : ix id R < R.length), (R[ix id R]).1.id = id
  | [], h => by simp at h
  | e :: r, h => by
    by_cases g : e.1.id = id
    · have : ix id (e :: r) = 0 := by simp [ix, g]
      simp [this, g]
    · have h1 : ix id (e :: r) = ix id r + 1 := by simp [ix, g]
      have h2 := ix_at id r (by rw [h1] at h; simpa using h)
      simp only [h1, List.getElem_cons_succ]
      exact h2
theorem ix_first (id : ByteArray) : ∀ (R : Rg) (j : Nat) (hj : j < R.length), j < ix id R → (R[j]).1.id ≠ id
  | [], j, hj, _ => by simp at hj
  | e :: r, j, hj, h => by
    by_cases g : e.1.id = id
    · have : ix id (e :: r) = 0 := by simp [ix, g]
      omega
    · have h1 : ix id (e :: r) = ix id r + 1 := by simp [ix, g]
      cases j with
      | zero => simpa using g
      | succ j => simpa using ix_first id r j (by simpa using hj) (by omega)
theorem ix_eq {id : ByteArray} {R : Rg} {k : Nat} (hk : k < R.length) (h : (R[k]).1.id = id) (hf : ∀ j (hj : j < R.length), j < k → (R[j]).1.id ≠ id) : ix id R = k := by
  rcases Nat.lt_trichotomy (ix id R) k with g | g | g
  · exact absurd (ix_at id R (by omega)) (hf _ (by omega) g)
  · exact g
  · exact absurd h (ix_first id R k hk g)
theorem ix_none {id : ByteArray} {R : Rg} (hf : ∀ j (hj : j < R.length), (R[j]).1.id ≠ id) : ix id R = R.length := by
  rcases Nat.lt_or_ge (ix id R) R.length with g | g
  · exact absurd (ix_at id R g) (hf _ g)
  · have := ix_le id R; omega
/-- The index that the program's find returns. -/
def fnd (id : ByteArray) (R : Rg) : Int := if ix id R < R.length then (ix id R : Int) else -1
theorem fnd_yes {id : ByteArray} {R : Rg} (h : ix id R < R.length) : fnd id R = (ix id R : Int) := if_pos h
theorem fnd_no {id : ByteArray} {R : Rg} (h : ¬ ix id R < R.length) : fnd id R = -1 := if_neg h

/-- The permit's fields but its names. -/
def timeB (p : Pm) : Bool := decide (0 ≤ p.fr ∧ p.un ≤ 10000000 ∧ p.fr < p.un)
/-- Why a permit is not added. -/
def adE (R : Rg) (p : Pm) : Int :=
  if (isB p.id 80 && nameB p.sp) = true then
    if ix p.id R < R.length then 7
    else if 0 ≤ p.fr ∧ p.un ≤ 10000000 ∧ p.fr < p.un then
      if 1 ≤ p.qu ∧ p.qu ≤ 1125899906842624 then (if R.length < 16 then 0 else 12) else 9
    else 15
  else 6
def adR (R : Rg) (p : Pm) : Rg := if adE R p = 0 then R ++ [(p, 0)] else R
def flE (R : Rg) (id sp : ByteArray) (at_ : Int) : Int :=
  match R[ix id R]? with
  | none => 8
  | some e => if e.1.sp = sp then (if e.1.fr ≤ at_ ∧ at_ < e.1.un then 0 else 15) else 24
def usE (R : Rg) (id : ByteArray) (v : Int) : Int :=
  match R[ix id R]? with
  | none => 8
  | some e => if 1 ≤ v ∧ v ≤ 1125899906842624 then (if v ≤ e.1.qu - e.2 then 0 else 23) else 9
def usR (R : Rg) (id : ByteArray) (v : Int) : Rg :=
  if usE R id v = 0 then (match R[ix id R]? with | none => R | some e => R.set (ix id R) (e.1, e.2 + v)) else R
def lfN (R : Rg) (id : ByteArray) : Int := match R[ix id R]? with | none => 0 | some e => e.1.qu - e.2
def lfB (R : Rg) (id : ByteArray) : Bool := decide (ix id R < R.length)

/-- A register as calls make it. -/
structure Ok (R : Rg) : Prop where
  len : R.length ≤ 16
  quo : ∀ i (h : i < R.length), 0 ≤ (R[i]).2 ∧ (R[i]).2 ≤ (R[i]).1.qu ∧ 1 ≤ (R[i]).1.qu ∧ (R[i]).1.qu ≤ 1125899906842624
  uni : ∀ i j (hi : i < R.length) (hj : j < R.length), (R[i]).1.id = (R[j]).1.id → i = j
theorem Ok.nil : Ok [] := ⟨by simp, fun i h => by simp at h, fun i j h => by simp at h⟩

theorem adE_name {R : Rg} {p : Pm} (h : ¬ (isB p.id 80 && nameB p.sp) = true) : adE R p = 6 := if_neg h
theorem adE_old {R : Rg} {p : Pm} (h : (isB p.id 80 && nameB p.sp) = true) (h1 : ix p.id R < R.length) : adE R p = 7 := by rw [adE, if_pos h, if_pos h1]
theorem adE_time {R : Rg} {p : Pm} (h : (isB p.id 80 && nameB p.sp) = true) (h1 : ¬ ix p.id R < R.length) (h2 : ¬ (0 ≤ p.fr ∧ p.un ≤ 10000000 ∧ p.fr < p.un)) : adE R p = 15 := by rw [adE, if_pos h, if_neg h1, if_neg h2]
theorem adE_range {R : Rg} {p : Pm} (h : (isB p.id 80 && nameB p.sp) = true) (h1 : ¬ ix p.id R < R.length) (h2 : 0 ≤ p.fr ∧ p.un ≤ 10000000 ∧ p.fr < p.un) (h3 : ¬ (1 ≤ p.qu ∧ p.qu ≤ 1125899906842624)) : adE R p = 9 := by rw [adE, if_pos h, if_neg h1, if_pos h2, if_neg h3]
theorem adE_full {R : Rg} {p : Pm} (h : (isB p.id 80 && nameB p.sp) = true) (h1 : ¬ ix p.id R < R.length) (h2 : 0 ≤ p.fr ∧ p.un ≤ 10000000 ∧ p.fr < p.un) (h3 : 1 ≤ p.qu ∧ p.qu ≤ 1125899906842624) (h4 : ¬ R.length < 16) : adE R p = 12 := by rw [adE, if_pos h, if_neg h1, if_pos h2, if_pos h3, if_neg h4]
theorem adE_ok {R : Rg} {p : Pm} (h : (isB p.id 80 && nameB p.sp) = true) (h1 : ¬ ix p.id R < R.length) (h2 : 0 ≤ p.fr ∧ p.un ≤ 10000000 ∧ p.fr < p.un) (h3 : 1 ≤ p.qu ∧ p.qu ≤ 1125899906842624) (h4 : R.length < 16) : adE R p = 0 := by rw [adE, if_pos h, if_neg h1, if_pos h2, if_pos h3, if_pos h4]
theorem adR_no {R : Rg} {p : Pm} {e : Int} (h : adE R p = e) (he : e ≠ 0) : adR R p = R := by rw [adR, h, if_neg he]
theorem adR_ok {R : Rg} {p : Pm} (h : adE R p = 0) : adR R p = R ++ [(p, 0)] := by rw [adR, if_pos h]

theorem at_none {R : Rg} {id : ByteArray} (h : ¬ ix id R < R.length) : R[ix id R]? = none := by simp; omega
theorem at_some {R : Rg} {id : ByteArray} (h : ix id R < R.length) : R[ix id R]? = some R[ix id R] := by simp
theorem flE_none {R : Rg} {id sp : ByteArray} {t : Int} (h : ¬ ix id R < R.length) : flE R id sp t = 8 := by rw [flE, at_none h]
theorem flE_species {R : Rg} {id sp : ByteArray} {t : Int} (h : ix id R < R.length) (h1 : ¬ (R[ix id R]).1.sp = sp) : flE R id sp t = 24 := by rw [flE, at_some h]; simp only [if_neg h1]
theorem flE_time {R : Rg} {id sp : ByteArray} {t : Int} (h : ix id R < R.length) (h1 : (R[ix id R]).1.sp = sp) (h2 : ¬ ((R[ix id R]).1.fr ≤ t ∧ t < (R[ix id R]).1.un)) : flE R id sp t = 15 := by rw [flE, at_some h]; simp only [if_pos h1, if_neg h2]
theorem flE_ok {R : Rg} {id sp : ByteArray} {t : Int} (h : ix id R < R.length) (h1 : (R[ix id R]).1.sp = sp) (h2 : (R[ix id R]).1.fr ≤ t ∧ t < (R[ix id R]).1.un) : flE R id sp t = 0 := by rw [flE, at_some h]; simp only [if_pos h1, if_pos h2]
theorem usE_none {R : Rg} {id : ByteArray} {v : Int} (h : ¬ ix id R < R.length) : usE R id v = 8 := by rw [usE, at_none h]
theorem usE_range {R : Rg} {id : ByteArray} {v : Int} (h : ix id R < R.length) (h1 : ¬ (1 ≤ v ∧ v ≤ 1125899906842624)) : usE R id v = 9 := by rw [usE, at_some h]; simp only [if_neg h1]
theorem usE_quota {R : Rg} {id : ByteArray} {v : Int} (h : ix id R < R.length) (h1 : 1 ≤ v ∧ v ≤ 1125899906842624) (h2 : ¬ v ≤ (R[ix id R]).1.qu - (R[ix id R]).2) : usE R id v = 23 := by rw [usE, at_some h]; simp only [if_pos h1, if_neg h2]
theorem usE_ok {R : Rg} {id : ByteArray} {v : Int} (h : ix id R < R.length) (h1 : 1 ≤ v ∧ v ≤ 1125899906842624) (h2 : v ≤ (R[ix id R]).1.qu - (R[ix id R]).2) : usE R id v = 0 := by rw [usE, at_some h]; simp only [if_pos h1, if_pos h2]
theorem usR_no {R : Rg} {id : ByteArray} {v e : Int} (h : usE R id v = e) (he : e ≠ 0) : usR R id v = R := by rw [usR, h, if_neg he]
theorem usR_ok {R : Rg} {id : ByteArray} {v : Int} (h : ix id R < R.length) (h0 : usE R id v = 0) : usR R id v = R.set (ix id R) ((R[ix id R]).1, (R[ix id R]).2 + v) := by rw [usR, if_pos h0, at_some h]
theorem lfN_none {R : Rg} {id : ByteArray} (h : ¬ ix id R < R.length) : lfN R id = 0 := by rw [lfN, at_none h]
theorem lfN_some {R : Rg} {id : ByteArray} (h : ix id R < R.length) : lfN R id = (R[ix id R]).1.qu - (R[ix id R]).2 := by rw [lfN, at_some h]

theorem ix_set {R : Rg} {k : Nat} (hk : k < R.length) (x : Int) (id : ByteArray) : ix id (R.set k ((R[k]).1, x)) = ix id R := by
  induction R generalizing k with
  | nil => simp at hk
  | cons e r ih =>
    cases k with
    | zero => simp [ix]
    | succ k => simp only [List.set_cons_succ, ix, List.getElem_cons_succ]; rw [ih (by simpa using hk)]
theorem ix_append {R : Rg} (e : Pm × Int) (id : ByteArray) : ix id (R ++ [e]) = if ix id R < R.length then ix id R else if e.1.id = id then R.length else R.length + 1 := by
  induction R with
  | nil => simp [ix]
  | cons a r ih =>
    simp only [List.cons_append, ix, List.length_cons]
    by_cases h : a.1.id = id
    · simp [h]
    · simp only [if_neg h, ih]
      by_cases g : ix id r < r.length
      · simp [g]
      · simp only [if_neg g, Nat.add_lt_add_iff_right]
        split <;> rfl

theorem Ok.add {R : Rg} (h : Ok R) (p : Pm) : Ok (adR R p) := by
  unfold adR
  split
  · rename_i h0
    have hc : (isB p.id 80 && nameB p.sp) = true := by
      by_cases g : (isB p.id 80 && nameB p.sp) = true
      · exact g
      · rw [adE_name g] at h0; omega
    have h1 : ¬ ix p.id R < R.length := fun g => by rw [adE_old hc g] at h0; omega
    have h2 : 0 ≤ p.fr ∧ p.un ≤ 10000000 ∧ p.fr < p.un := by
      by_cases g : 0 ≤ p.fr ∧ p.un ≤ 10000000 ∧ p.fr < p.un
      · exact g
      · rw [adE_time hc h1 g] at h0; omega
    have h3 : 1 ≤ p.qu ∧ p.qu ≤ 1125899906842624 := by
      by_cases g : 1 ≤ p.qu ∧ p.qu ≤ 1125899906842624
      · exact g
      · rw [adE_range hc h1 h2 g] at h0; omega
    have h4 : R.length < 16 := by
      by_cases g : R.length < 16
      · exact g
      · rw [adE_full hc h1 h2 h3 g] at h0; omega
    refine ⟨by simp; omega, fun i hi => ?_, fun i j hi hj => ?_⟩
    · simp only [List.length_append, List.length_cons, List.length_nil] at hi
      rcases Nat.lt_or_ge i R.length with g | g
      · rw [List.getElem_append_left g]; exact h.quo i g
      · obtain rfl : i = R.length := by omega
        rw [List.getElem_append_right (Nat.le_refl _)]
        simp
        omega
    · simp only [List.length_append, List.length_cons, List.length_nil] at hi hj
      have hno : ∀ k (hk : k < R.length), (R[k]).1.id ≠ p.id := fun k hk => ix_first p.id R k hk (by have := ix_le p.id R; omega)
      rcases Nat.lt_or_ge i R.length with gi | gi <;> rcases Nat.lt_or_ge j R.length with gj | gj
      · rw [List.getElem_append_left gi, List.getElem_append_left gj]; exact h.uni i j gi gj
      · obtain rfl : j = R.length := by omega
        rw [List.getElem_append_left gi, List.getElem_append_right (Nat.le_refl _)]
        intro e
        exact absurd (by simpa using e) (hno i gi)
      · obtain rfl : i = R.length := by omega
        rw [List.getElem_append_left gj, List.getElem_append_right (Nat.le_refl _)]
        intro e
        exact absurd (by simpa using e.symm) (hno j gj)
      · intro _; omega
  · exact h
theorem Ok.use {R : Rg} (h : Ok R) (id : ByteArray) (v : Int) : Ok (usR R id v) := by
  by_cases h0 : usE R id v = 0
  · have h1 : ix id R < R.length := by
      by_cases g : ix id R < R.length
      · exact g
      · rw [usE_none g] at h0; omega
    have h2 : 1 ≤ v ∧ v ≤ 1125899906842624 := by
      by_cases g : 1 ≤ v ∧ v ≤ 1125899906842624
      · exact g
      · rw [usE_range h1 g] at h0; omega
    have h3 : v ≤ (R[ix id R]).1.qu - (R[ix id R]).2 := by
      by_cases g : v ≤ (R[ix id R]).1.qu - (R[ix id R]).2
      · exact g
      · rw [usE_quota h1 h2 g] at h0; omega
    rw [usR_ok h1 h0]
    have hq := h.quo _ h1
    generalize ix id R = k at *
    refine ⟨by simpa using h.len, fun i hi => ?_, fun i j hi hj => ?_⟩
    · rw [List.getElem_set]
      split
      · simp only; omega
      · exact h.quo i (by simpa using hi)
    · have hid : ∀ i (hi : i < (R.set k ((R[k]).1, (R[k]).2 + v)).length), ((R.set k ((R[k]).1, (R[k]).2 + v))[i]).1.id = (R[i]'(by simpa using hi)).1.id := fun i hi => by
        rw [List.getElem_set]
        split
        · rename_i g; subst g; rfl
        · rfl
      rw [hid, hid]
      exact h.uni i j _ _
  · rw [usR, if_neg h0]; exact h
end Pt
end Go.Proofs.Ytgkkhbhobbhlpaa
