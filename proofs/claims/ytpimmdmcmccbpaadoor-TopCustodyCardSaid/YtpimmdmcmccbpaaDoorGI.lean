/- Plain mathematics of the register of permits. No program in sight. -/
import Derived.Test.YtpimmdmcmccbpaaDoorGC
import Derived.Test.YtpimmdmcmccbpaaDoorGA
import Derived.Laws.OwnMore
import Derived.Deep.AppendLies
import Derived.Deep.RegionLawGrows
import Derived.Deep.QuietTactic
import Derived.OwnWalk
import Derived.Laws.AppendOwnNone
namespace Go.Proofs.YtpimmdmcmccbpaaDoor
set_option linter.unusedVariables false
namespace Pt
/-- A permit. -/
structure Pm where
  id : ByteArray
  sp : ByteArray
  fr : Int
  un : Int
  qu : Int
instance : Inhabited Pm := ⟨⟨ByteArray.empty, ByteArray.empty, 0, 0, 0⟩⟩
/-- A register: the permits and what was used of each. -/
abbrev Rg := List (Pm × Int)
/-- The first index of a permit; the length where there is none. -/
def ix (id : ByteArray) : Rg → Nat
  | [] => 0
  | e :: r => if e.1.id = id then 0 else ix id r + 1
theorem ix_le (id : ByteArray) : ∀ R : Rg, ix id R ≤ R.length
  | [] => Nat.le_refl _
  | e :: r => by
    have := ix_le id r
    simp only [ix, List.length_cons]
    split <;> omega
theorem ix_at (id : ByteArray) : ∀ (R : Rg) (h : ix id R < R.length), (R[ix id R]).1.id = id
  | [], h => by simp at h
  | e :: r, h => by
    by_cases g : e.1.id = id
    · have : ix id (e :: r) = 0 := by simp [ix, g]
      simp [this, g]
    · have h1 : ix id (e :: r) = ix id r + 1 := by simp [ix, g]
      have h2 := ix_at id r (by rw [h1] at h; simpa using h)
      simp only [h1, List.getElem_cons_succ]
      exact h2
theorem ix_first (id : ByteArray) : ∀ (R : Rg) (j : Nat) (hj : j < R.length), j < ix id R → (R[j]).1.id ≠ id
  | [], j, hj, _ => by simp at hj
  | e :: r, j, hj, h => by
    by_cases g : e.1.id = id
    · have : ix id (e :: r) = 0 := by simp [ix, g]
      omega
    · have h1 : ix id (e :: r) = ix id r + 1 := by simp [ix, g]
      cases j with
      | zero => simpa using g
      | succ j => simpa using ix_first id r j (by simpa using hj) (by omega)
theorem ix_eq {id : ByteArray} {R : Rg} {k : Nat} (hk : k < R.length) (h : (R[k]).1.id = id) (hf : ∀ j (hj : j < R.length), j < k → (R[j]).1.id ≠ id) : ix id R = k := by
  rcases Nat.lt_trichotomy (ix id R) k with g | g | g
  · exact absurd (ix_at id R (by omega)) (hf _ (by omega) g)
  · exact g
  · exact absurd h (ix_first id R k hk g)
theorem ix_none {id : ByteArray} {R : Rg} (hf : ∀ j (hj : j < R.length), (R[j]).1.id ≠ id) : ix id R = R.length := by
  rcases Nat.lt_or_ge (ix id R) R.length with g | g
  · exact absurd (ix_at id R g) (hf _ g)
  · have := ix_le id R; omega
/-- The index that the program's find returns. -/
def fnd (id : ByteArray) (R : Rg) : Int := if ix id R < R.length then (ix id R : Int) else -1
theorem fnd_yes {id : ByteArray} {R : Rg} (h : ix id R < R.length) : fnd id R = (ix id R : Int) := if_pos h
theorem fnd_no {id : ByteArray} {R : Rg} (h : ¬ ix id R < R.length) : fnd id R = -1 := if_neg h

/-- The permit's fields but its names. -/
def timeB (p : Pm) : Bool := decide (0 ≤ p.fr ∧ p.un ≤ 10000000 ∧ p.fr < p.un)
/-- Why a permit is not added. -/
def adE (R : Rg) (p : Pm) : Int :=
  if (isB p.id 80 && nameB p.sp) = true then
    if ix p.id R < R.length then 7
    else if 0 ≤ p.fr ∧ p.un ≤ 10000000 ∧ p.fr < p.un then
      if 1 ≤ p.qu ∧ p.qu ≤ 1125899906842624 then (if R.length < 16 then 0 else 12) else 9
    else 15
  else 6
def adR (R : Rg) (p : Pm) : Rg := if adE R p = 0 then R ++ [(p, 0)] else R
def flE (R : Rg) (id sp : ByteArray) (at_ : Int) : Int :=
  match R[ix id R]? with
  | none => 8
  | some e => if e.1.sp = sp then (if e.1.fr ≤ at_ ∧ at_ < e.1.un then 0 else 15) else 24
def usE (R : Rg) (id : ByteArray) (v : Int) : Int :=
  match R[ix id R]? with
  | none => 8
  | some e => if 1 ≤ v ∧ v ≤ 1125899906842624 then (if v ≤ e.1.qu - e.2 then 0 else 23) else 9
def usR (R : Rg) (id : ByteArray) (v : Int) : Rg :=
  if usE R id v = 0 then (match R[ix id R]? with | none => R | some e => R.set (ix id R) (e.1, e.2 + v)) else R
def lfN (R : Rg) (id : ByteArray) : Int := match R[ix id R]? with | none => 0 | some e => e.1.qu - e.2
def lfB (R : Rg) (id : ByteArray) : Bool := decide (ix id R < R.length)

/-- A register as calls make it. -/
structure Ok (R : Rg) : Prop where
  len : R.length ≤ 16
  quo : ∀ i (h : i < R.length), 0 ≤ (R[i]).2 ∧ (R[i]).2 ≤ (R[i]).1.qu ∧ 1 ≤ (R[i]).1.qu ∧ (R[i]).1.qu ≤ 1125899906842624
  uni : ∀ i j (hi : i < R.length) (hj : j < R.length), (R[i]).1.id = (R[j]).1.id → i = j
theorem Ok.nil : Ok [] := ⟨by simp, fun i h => by simp at h, fun i j h => by simp at h⟩

theorem adE_name {R : Rg} {p : Pm} (h : ¬ (isB p.id 80 && nameB p.sp) = true) : adE R p = 6 := if_neg h
theorem adE_old {R : Rg} {p : Pm} (h : (isB p.id 80 && nameB p.sp) = true) (h1 : ix p.id R < R.length) : adE R p = 7 := by rw [adE, if_pos h, if_pos h1]
theorem adE_time {R : Rg} {p : Pm} (h : (isB p.id 80 && nameB p.sp) = true) (h1 : ¬ ix p.id R < R.length) (h2 : ¬ (0 ≤ p.fr ∧ p.un ≤ 10000000 ∧ p.fr < p.un)) : adE R p = 15 := by rw [adE, if_pos h, if_neg h1, if_neg h2]
theorem adE_range {R : Rg} {p : Pm} (h : (isB p.id 80 && nameB p.sp) = true) (h1 : ¬ ix p.id R < R.length) (h2 : 0 ≤ p.fr ∧ p.un ≤ 10000000 ∧ p.fr < p.un) (h3 : ¬ (1 ≤ p.qu ∧ p.qu ≤ 1125899906842624)) : adE R p = 9 := by rw [adE, if_pos h, if_neg h1, if_pos h2, if_neg h3]
theorem adE_full {R : Rg} {p : Pm} (h : (isB p.id 80 && nameB p.sp) = true) (h1 : ¬ ix p.id R < R.length) (h2 : 0 ≤ p.fr ∧ p.un ≤ 10000000 ∧ p.fr < p.un) (h3 : 1 ≤ p.qu ∧ p.qu ≤ 1125899906842624) (h4 : ¬ R.length < 16) : adE R p = 12 := by rw [adE, if_pos h, if_neg h1, if_pos h2, if_pos h3, if_neg h4]
theorem adE_ok {R : Rg} {p : Pm} (h : (isB p.id 80 && nameB p.sp) = true) (h1 : ¬ ix p.id R < R.length) (h2 : 0 ≤ p.fr ∧ p.un ≤ 10000000 ∧ p.fr < p.un) (h3 : 1 ≤ p.qu ∧ p.qu ≤ 1125899906842624) (h4 : R.length < 16) : adE R p = 0 := by rw [adE, if_pos h, if_neg h1, if_pos h2, if_pos h3, if_pos h4]
theorem adR_no {R : Rg} {p : Pm} {e : Int} (h : adE R p = e) (he : e ≠ 0) : adR R p = R := by rw [adR, h, if_neg he]
theorem adR_ok {R : Rg} {p : Pm} (h : adE R p = 0) : adR R p = R ++ [(p, 0)] := by rw [adR, if_pos h]

theorem at_none {R : Rg} {id : ByteArray} (h : ¬ ix id R < R.length) : R[ix id R]? = none := by simp; omega
theorem at_some {R : Rg} {id : ByteArray} (h : ix id R < R.length) : R[ix id R]? = some R[ix id R] := by simp
theorem flE_none {R : Rg} {id sp : ByteArray} {t : Int} (h : ¬ ix id R < R.length) : flE R id sp t = 8 := by rw [flE, at_none h]
theorem flE_species {R : Rg} {id sp : ByteArray} {t : Int} (h : ix id R < R.length) (h1 : ¬ (R[ix id R]).1.sp = sp) : flE R id sp t = 24 := by rw [flE, at_some h]; simp only [if_neg h1]
theorem flE_time {R : Rg} {id sp : ByteArray} {t : Int} (h : ix id R < R.length) (h1 : (R[ix id R]).1.sp = sp) (h2 : ¬ ((R[ix id R]).1.fr ≤ t ∧ t < (R[ix id R]).1.un)) : flE R id sp t = 15 := by rw [flE, at_some h]; simp only [if_pos h1, if_neg h2]
theorem flE_ok {R : Rg} {id sp : ByteArray} {t : Int} (h : ix id R < R.length) (h1 : (R[ix id R]).1.sp = sp) (h2 : (R[ix id R]).1.fr ≤ t ∧ t < (R[ix id R]).1.un) : flE R id sp t = 0 := by rw [flE, at_some h]; simp only [if_pos h1, if_pos h2]
theorem usE_none {R : Rg} {id : ByteArray} {v : Int} (h : ¬ ix id R < R.length) : usE R id v = 8 := by rw [usE, at_none h]
theorem usE_range {R : Rg} {id : ByteArray} {v : Int} (h : ix id R < R.length) (h1 : ¬ (1 ≤ v ∧ v ≤ 1125899906842624)) : usE R id v = 9 := by rw [usE, at_some h]; simp only [if_neg h1]
theorem usE_quota {R : Rg} {id : ByteArray} {v : Int} (h : ix id R < R.length) (h1 : 1 ≤ v ∧ v ≤ 1125899906842624) (h2 : ¬ v ≤ (R[ix id R]).1.qu - (R[ix id R]).2) : usE R id v = 23 := by rw [usE, at_some h]; simp only [if_pos h1, if_neg h2]
theorem usE_ok {R : Rg} {id : ByteArray} {v : Int} (h : ix id R < R.length) (h1 : 1 ≤ v ∧ v ≤ 1125899906842624) (h2 : v ≤ (R[ix id R]).1.qu - (R[ix id R]).2) : usE R id v = 0 := by rw [usE, at_some h]; simp only [if_pos h1, if_pos h2]
theorem usR_no {R : Rg} {id : ByteArray} {v e : Int} (h : usE R id v = e) (he : e ≠ 0) : usR R id v = R := by rw [usR, h, if_neg he]
theorem usR_ok {R : Rg} {id : ByteArray} {v : Int} (h : ix id R < R.length) (h0 : usE R id v = 0) : usR R id v = R.set (ix id R) ((R[ix id R]).1, (R[ix id R]).2 + v) := by rw [usR, if_pos h0, at_some h]
theorem lfN_none {R : Rg} {id : ByteArray} (h : ¬ ix id R < R.length) : lfN R id = 0 := by rw [lfN, at_none h]
theorem lfN_some {R : Rg} {id : ByteArray} (h : ix id R < R.length) : lfN R id = (R[ix id R]).1.qu - (R[ix id R]).2 := by rw [lfN, at_some h]

theorem ix_set {R : Rg} {k : Nat} (hk : k < R.length) (x : Int) (id : ByteArray) : ix id (R.set k ((R[k]).1, x)) = ix id R := by
  induction R generalizing k with
  | nil => simp at hk
  | cons e r ih =>
    cases k with
    | zero => simp [ix]
    | succ k => simp only [List.set_cons_succ, ix, List.getElem_cons_succ]; rw [ih (by simpa using hk)]
theorem ix_append {R : Rg} (e : Pm × Int) (id : ByteArray) : ix id (R ++ [e]) = if ix id R < R.length then ix id R else if e.1.id = id then R.length else R.length + 1 := by
  induction R with
  | nil => simp [ix]
  | cons a r ih =>
    simp only [List.cons_append, ix, List.length_cons]
    by_cases h : a.1.id = id
    · simp [h]
    · simp only [if_neg h, ih]
      by_cases g : ix id r < r.length
      · simp [g]
      · simp only [if_neg g, Nat.add_lt_add_iff_right]
        split <;> rfl

theorem Ok.add {R : Rg} (h : Ok R) (p : Pm) : Ok (adR R p) := by
  unfold adR
  split
  · rename_i h0
    have hc : (isB p.id 80 && nameB p.sp) = true := by
      by_cases g : (isB p.id 80 && nameB p.sp) = true
      · exact g
      · rw [adE_name g] at h0; omega
    have h1 : ¬ ix p.id R < R.length := fun g => by rw [adE_old hc g] at h0; omega
    have h2 : 0 ≤ p.fr ∧ p.un ≤ 10000000 ∧ p.fr < p.un := by
      by_cases g : 0 ≤ p.fr ∧ p.un ≤ 10000000 ∧ p.fr < p.un
      · exact g
      · rw [adE_time hc h1 g] at h0; omega
    have h3 : 1 ≤ p.qu ∧ p.qu ≤ 1125899906842624 := by
      by_cases g : 1 ≤ p.qu ∧ p.qu ≤ 1125899906842624
      · exact g
      · rw [adE_range hc h1 h2 g] at h0; omega
    have h4 : R.length < 16 := by
      by_cases g : R.length < 16
      · exact g
      · rw [adE_full hc h1 h2 h3 g] at h0; omega
    refine ⟨by simp; omega, fun i hi => ?_, fun i j hi hj => ?_⟩
    · simp only [List.length_append, List.length_cons, List.length_nil] at hi
      rcases Nat.lt_or_ge i R.length with g | g
      · rw [List.getElem_append_left g]; exact h.quo i g
      · obtain rfl : i = R.length := by omega
        rw [List.getElem_append_right (Nat.le_refl _)]
        simp
        omega
    · simp only [List.length_append, List.length_cons, List.length_nil] at hi hj
      have hno : ∀ k (hk : k < R.length), (R[k]).1.id ≠ p.id := fun k hk => ix_first p.id R k hk (by have := ix_le p.id R; omega)
      rcases Nat.lt_or_ge i R.length with gi | gi <;> rcases Nat.lt_or_ge j R.length with gj | gj
      · rw [List.getElem_append_left gi, List.getElem_append_left gj]; exact h.uni i j gi gj
      · obtain rfl : j = R.length := by omega
        rw [List.getElem_append_left gi, List.getElem_append_right (Nat.le_refl _)]
        intro e
        exact absurd (by simpa using e) (hno i gi)
      · obtain rfl : i = R.length := by omega
        rw [List.getElem_append_left gj, List.getElem_append_right (Nat.le_refl _)]
        intro e
        exact absurd (by simpa using e.symm) (hno j gj)
      · intro _; omega
  · exact h
theorem Ok.use {R : Rg} (h : Ok R) (id : ByteArray) (v : Int) : Ok (usR R id v) := by
  by_cases h0 : usE R id v = 0
  · have h1 : ix id R < R.length := by
      by_cases g : ix id R < R.length
      · exact g
      · rw [usE_none g] at h0; omega
    have h2 : 1 ≤ v ∧ v ≤ 1125899906842624 := by
      by_cases g : 1 ≤ v ∧ v ≤ 1125899906842624
      · exact g
      · rw [usE_range h1 g] at h0; omega
    have h3 : v ≤ (R[ix id R]).1.qu - (R[ix id R]).2 := by
      by_cases g : v ≤ (R[ix id R]).1.qu - (R[ix id R]).2
      · exact g
      · rw [usE_quota h1 h2 g] at h0; omega
    rw [usR_ok h1 h0]
    have hq := h.quo _ h1
    generalize ix id R = k at *
    refine ⟨by simpa using h.len, fun i hi => ?_, fun i j hi hj => ?_⟩
    · rw [List.getElem_set]
      split
      · simp only; omega
      · exact h.quo i (by simpa using hi)
    · have hid : ∀ i (hi : i < (R.set k ((R[k]).1, (R[k]).2 + v)).length), ((R.set k ((R[k]).1, (R[k]).2 + v))[i]).1.id = (R[i]'(by simpa using hi)).1.id := fun i hi => by
        rw [List.getElem_set]
        split
        · rename_i g; subst g; rfl
        · rfl
      rw [hid, hid]
      exact h.uni i j _ _
  · rw [usR, if_neg h0]; exact h
end Pt
end Go.Proofs.YtpimmdmcmccbpaaDoor

namespace Go.Proofs.YtpimmdmcmccbpaaDoor
open Go.RowKit
set_option linter.unusedVariables false

/-- A permit's cells. -/
def pcells (p : Pt.Pm) : List Value := [.string p.id, .string p.sp, .int .i64 p.fr, .int .i64 p.un, .int .i64 p.qu]
def prow (R : Pt.Rg) : List Value := R.flatMap fun e => pcells e.1
def urow (R : Pt.Rg) : List Value := R.map fun e => .int .i64 e.2
def lrow (R : Pt.Rg) : List Value := R.map fun e => .int .i64 (e.1.qu - e.2)
theorem pcells_length (p : Pt.Pm) : (pcells p).length = 5 := rfl
theorem prow_length (R : Pt.Rg) : (prow R).length = R.length * 5 := by
  induction R with
  | nil => rfl
  | cons e r ih => simp only [prow, List.flatMap_cons, List.length_append, pcells_length, List.length_cons] at ih ⊢; omega
theorem prow_at (R : Pt.Rg) (i j : Nat) (h : i < R.length) (hj : j < 5) : (prow R)[i * 5 + j]? = (pcells (R[i]).1)[j]? := by
  induction R generalizing i with
  | nil => simp at h
  | cons e r ih =>
    simp only [prow, List.flatMap_cons] at ih ⊢
    cases i with
    | zero => rw [List.getElem?_append_left (by rw [pcells_length]; omega)]; simp
    | succ i =>
      rw [List.getElem?_append_right (by rw [pcells_length]; omega), pcells_length, show (i + 1) * 5 + j - 5 = i * 5 + j by omega, ih i (by simpa using h)]
      simp
theorem prow_snoc (R : Pt.Rg) (p : Pt.Pm) (u : Int) : prow (R ++ [(p, u)]) = prow R ++ pcells p := by simp [prow]
theorem urow_snoc (R : Pt.Rg) (p : Pt.Pm) (u : Int) : urow (R ++ [(p, u)]) = urow R ++ [.int .i64 u] := by simp [urow]
theorem urow_length (R : Pt.Rg) : (urow R).length = R.length := by simp [urow]
theorem urow_at (R : Pt.Rg) (i : Nat) (h : i < R.length) : (urow R)[i]? = some (.int .i64 (R[i]).2) := by simp [urow, h]
theorem prow_set (R : Pt.Rg) (k : Nat) (hk : k < R.length) (u : Int) : prow (R.set k ((R[k]).1, u)) = prow R := by
  induction R generalizing k with
  | nil => simp at hk
  | cons e r ih =>
    cases k with
    | zero => simp [prow]
    | succ k =>
      have := ih k (by simpa using hk)
      simp only [prow, List.set_cons_succ, List.flatMap_cons, List.getElem_cons_succ] at this ⊢
      rw [this]
theorem urow_set (R : Pt.Rg) (k : Nat) (p : Pt.Pm) (u : Int) : urow (R.set k (p, u)) = (urow R).set k (.int .i64 u) := by simp [urow, List.map_set]
theorem lrow_set (R : Pt.Rg) (k : Nat) (p : Pt.Pm) (u : Int) : lrow (R.set k (p, u)) = (lrow R).set k (.int .i64 (p.qu - u)) := by simp [lrow, List.map_set]
theorem lrow_snoc (R : Pt.Rg) (p : Pt.Pm) : lrow (R ++ [(p, 0)]) = lrow R ++ [.int .i64 p.qu] := by simp [lrow]
theorem lrow_length (R : Pt.Rg) : (lrow R).length = R.length := by simp [lrow]
theorem lrow_at (R : Pt.Rg) (i : Nat) (h : i < R.length) : (lrow R)[i]? = some (.int .i64 ((R[i]).1.qu - (R[i]).2)) := by simp [lrow, h]
theorem pcells_one (p : Pt.Pm) : ∀ u ∈ pcells p, u.oneCell' = true := by
  intro u hu
  simp only [pcells, List.mem_cons, List.not_mem_nil, or_false] at hu
  rcases hu with rfl | rfl | rfl | rfl | rfl <;> rfl
theorem prow_one (R : Pt.Rg) : ∀ u ∈ prow R, u.oneCell' = true := by
  intro u hu
  simp only [prow, List.mem_flatMap] at hu
  obtain ⟨e, _, he⟩ := hu
  exact pcells_one _ u he
theorem lrow_one (R : Pt.Rg) : ∀ u ∈ lrow R, u.oneCell' = true := by
  intro u hu
  simp only [lrow, List.mem_map] at hu
  obtain ⟨e, _, rfl⟩ := hu
  rfl

/-- The register of permits at block r. -/
structure Reg (w : World) (B r : Nat) (R : Pt.Rg) (vp vu : Value) : Prop where
  low : B ≤ r
  blk : Blk w r 93 #[vp, vu]
  per : w.ownsRow B 44 5 vp R.length (prow R)
  use : w.ownsRow B 3 1 vu R.length (urow R)
  pr : vp.ownBlock ≠ some r
  ur : vu.ownBlock ≠ some r
  pu : vp.ownBlock = none ∨ vp.ownBlock ≠ vu.ownBlock
theorem Reg.below {w w' : World} {B r : Nat} {R : Pt.Rg} {vp vu : Value} (h : Reg w B r R vp vu) (hb : Below w.heap.size w w') : Reg w' B r R vp vu :=
  ⟨h.low, h.blk.below hb, h.per.kept (below_grown hb none) (by cases vp.ownBlock <;> simp), h.use.kept (below_grown hb none) (by cases vu.ownBlock <;> simp), h.pr, h.ur, h.pu⟩
theorem Reg.grown {w w' : World} {B r : Nat} {R : Pt.Rg} {vp vu : Value} {row : Option Nat} (h : Reg w B r R vp vu) (hg : w.grownBy w' row) (h0 : some r ≠ row) (h1 : vp.ownBlock = none ∨ vp.ownBlock ≠ row) (h2 : vu.ownBlock = none ∨ vu.ownBlock ≠ row) : Reg w' B r R vp vu :=
  ⟨h.low, h.blk.grown hg h0, h.per.kept hg h1, h.use.kept hg h2, h.pr, h.ur, h.pu⟩
theorem Reg.mono {w : World} {B B' r : Nat} {R : Pt.Rg} {vp vu : Value} (h : Reg w B r R vp vu) (hB : B' ≤ B) : Reg w B' r R vp vu := by
  refine ⟨Nat.le_trans hB h.low, h.blk, ?_, ?_, h.pr, h.ur, h.pu⟩
  · refine ⟨h.per.1, ?_⟩
    rcases h.per.2 with g | ⟨g, cap, cur, e, hb, rest⟩
    · exact .inl g
    · exact .inr ⟨g, cap, cur, e, Nat.le_trans hB hb, rest⟩
  · refine ⟨h.use.1, ?_⟩
    rcases h.use.2 with g | ⟨g, cap, cur, e, hb, rest⟩
    · exact .inl g
    · exact .inr ⟨g, cap, cur, e, Nat.le_trans hB hb, rest⟩
end Go.Proofs.YtpimmdmcmccbpaaDoor

namespace Go.Proofs.YtpimmdmcmccbpaaDoor
open Go.RowKit
set_option linter.unusedVariables false

set_option maxHeartbeats 1000000 in
theorem same_id (x0 x1 x2 x3 x4 : Value) (i0 id : ByteArray) (h0 : x0 = .string i0) (g : Nat) (w : World) (hg : w.cell? ⟨g, 0, none⟩ = some (.string id)) (hlt : g < w.heap.size) :
    Calls Tryd.prog 63 #[.agg #[x0, x1, x2, x3, x4], .pointer (some ⟨g, 0, none⟩)] w fun e w' => e = .returned (.bool (i0.toList == id.toList)) ∧ Below w.heap.size w w' := by
  subst h0
  have hc : (w.alloc (.cells #[.string i0, x1, x2, x3, x4] 44)).cell? ⟨g, 0, none⟩ = some (.string id) := by rw [World.cell?_alloc_past _ _ _ hlt]; exact hg
  go_enter Tryd.func63, Tryd.ntmps63
  go_wp2_with fail
  go_ret
  exact ⟨rfl, (Below.refl _ _).alloc (Nat.le_refl _) _⟩

/-- The cells of the i-th permit. -/
theorem SlR.permit {w : World} {A : Option Addr} {R : Pt.Rg} (h : SlR w A (prow R)) {i : Nat} (hi : i < R.length) :
    ∃ b off, A = some ⟨b, off, none⟩ ∧ b < w.heap.size ∧ w.cell? ⟨b, off + i * 5, none⟩ = some (.string (R[i]).1.id) ∧ w.cell? ⟨b, off + i * 5 + 1, none⟩ = some (.string (R[i]).1.sp) ∧
      w.cell? ⟨b, off + i * 5 + 2, none⟩ = some (.int .i64 (R[i]).1.fr) ∧ w.cell? ⟨b, off + i * 5 + 3, none⟩ = some (.int .i64 (R[i]).1.un) ∧ w.cell? ⟨b, off + i * 5 + 4, none⟩ = some (.int .i64 (R[i]).1.qu) := by
  have hl := prow_length R
  obtain ⟨b, off, e, hb, hc⟩ := h (by omega)
  have at_ : ∀ j, j < 5 → w.cell? ⟨b, off + i * 5 + j, none⟩ = (pcells (R[i]).1)[j]? := fun j hj => by
    have hlt : i * 5 + j < (prow R).length := by omega
    have e1 := prow_at R i j hi hj
    rw [List.getElem?_eq_getElem hlt] at e1
    rw [Nat.add_assoc, hc _ hlt, e1]
  exact ⟨b, off, e, hb, at_ 0 (by omega), at_ 1 (by omega), at_ 2 (by omega), at_ 3 (by omega), at_ 4 (by omega)⟩

set_option maxHeartbeats 2000000 in
theorem ixfunc (A : Option Addr) (c g : Nat) (R : Pt.Rg) (id : ByteArray) (w : World) (HS : Hid (SlR w A (prow R))) (hg : Hid (w.cell? ⟨g, 0, none⟩ = some (.string id))) (hlt : g < w.heap.size) (hl : (R.length : Int) ≤ 100) :
    Calls Tryd.prog 62 #[.slice A R.length c, .func (.func 63) #[] #[.pointer (some ⟨g, 0, none⟩)]] w fun e w' => e = .returned (.int .i64 (Pt.fnd id R)) ∧ Below w.heap.size w w' := by
  go_enter Tryd.func62, Tryd.ntmps62
  go_wp2_with fail
  go_loopw [8] (fun i wr => ∃ k : Nat, i = .int .i64 k ∧ k ≤ R.length ∧ Hid (∀ j (hj : j < R.length), j < k → (R[j]).1.id ≠ id) ∧ Below w.heap.size w wr) (fun i _ => R.length - (intOf i).toNat)
  case atStart => exact ⟨0, rfl, by omega, fun j _ h => absurd h (Nat.not_lt_zero _), Below.refl _ _⟩
  case round =>
    obtain ⟨k, rfl, hk, hF, hB⟩ := hrel
    by_cases hlt2 : k < R.length
    · obtain ⟨b, off, rfl, hb, c0, c1, c2, c3, c4⟩ := (HS.out.below hB).permit hlt2
      have zk : (k : Int) < (R.length : Int) := by omega
      have hg2 : wr.cell? ⟨g, 0, none⟩ = some (.string id) := (hB.cell (p := ⟨g, 0, none⟩) hlt).trans hg.out
      have hlt3 : g < wr.heap.size := Nat.lt_of_lt_of_le hlt hB.size
      obtain ⟨e, he⟩ : ∃ e, R[k] = e := ⟨_, rfl⟩
      rw [he] at c0 c1 c2 c3 c4
      by_cases hid : e.1.id = id
      · have hres : Hid (Pt.fnd id R = (k : Int)) := by
          have hx := Pt.ix_eq hlt2 (by rw [he]; exact hid) hF.out
          show _ = _
          rw [Pt.fnd_yes (by omega), hx]
        have hq := seq_t hid
        have HC := Lib.hid (same_id (.string e.1.id) (.string e.1.sp) (.int .i64 e.1.fr) (.int .i64 e.1.un) (.int .i64 e.1.qu) e.1.id id rfl g wr hg2 hlt3)
        rw [hq] at HC
        clear he hg2 hid hq
        go_wp2_with fail
        (with_reducible refine HC.out.mono ?_)
        rintro e w1 ⟨rfl, hb2⟩
        have hB2 := below_old hB hb2
        clear hb2
        go_wp2_with fail
        go_ret
        exact ⟨ret_int' hres.out.symm, hB2⟩
      · have hq := seq_f hid
        have HC := Lib.hid (same_id (.string e.1.id) (.string e.1.sp) (.int .i64 e.1.fr) (.int .i64 e.1.un) (.int .i64 e.1.qu) e.1.id id rfl g wr hg2 hlt3)
        rw [hq] at HC
        have hF2 : Hid (∀ j (hj : j < R.length), j < k + 1 → (R[j]).1.id ≠ id) := fun j hj hjk => by
          rcases Nat.lt_or_ge j k with q | q
          · exact hF.out j hj q
          · obtain rfl : j = k := by omega
            rw [he]; exact hid
        clear he hg2 hid hq
        go_wp2_with fail
        (with_reducible refine HC.out.mono ?_)
        rintro e w1 ⟨rfl, hb2⟩
        have hB2 := below_old hB hb2
        clear hb2
        go_wp2_with fail
        go_roundw
        case rel => exact ⟨k + 1, by go_num, by omega, hF2, hB2⟩
        case measure => simp [intOf]; omega
    · have hres : Hid (Pt.fnd id R = -1) := by
        show _ = _
        rw [Pt.fnd_no]
        rw [Pt.ix_none fun j hj => hF.out j hj (by omega)]; omega
      go_wp2_with fail
      go_ret
      exact ⟨ret_int' hres.out.symm, hB⟩

set_option maxHeartbeats 2000000 in
theorem find_any (r : Nat) (A : Option Addr) (c : Nat) (R : Pt.Rg) (id : ByteArray) (w : World) (HS : Hid (SlR w A (prow R))) (hr : w.cell? ⟨r, 0, none⟩ = some (.slice A R.length c)) (hrl : r < w.heap.size) (hl : (R.length : Int) ≤ 100) :
    Calls Tryd.prog 49 #[.pointer (some ⟨r, 0, none⟩), .string id] w fun e w' => e = .returned (.int .i64 (Pt.fnd id R)) ∧ Below w.heap.size w w' := by
  have hmf : ∀ (fn : Fn) (first cap : Array Value) (w : World), (Instr.makeFunc fn first cap).run Tryd.prog w = .ok (.func fn first cap) w := fun _ _ _ _ => rfl
  have hb0 : Below w.heap.size w (w.alloc (.cells #[.string id] 9)) := (Below.refl _ _).alloc (Nat.le_refl _) _
  have hr2 : (w.alloc (.cells #[.string id] 9)).cell? ⟨r, 0, none⟩ = some (.slice A R.length c) := by rw [World.cell?_alloc_past _ _ _ hrl]; exact hr
  have HC := Lib.hid (ixfunc A c w.heap.size R id (w.alloc (.cells #[.string id] 9)) (HS.out.below hb0) (by show _ = _; rw [World.cell?_alloc_at _ _ _ _ rfl]; rfl) (by simp) hl)
  have hne : r ≠ w.heap.size := by omega
  go_enter Tryd.func49, Tryd.ntmps49
  go_wp2_with fail
  (with_reducible refine HC.out.mono ?_)
  rintro e w1 ⟨rfl, hb2⟩
  go_wp2_with fail
  go_ret
  exact ⟨rfl, below_old hb0 hb2⟩
end Go.Proofs.YtpimmdmcmccbpaaDoor

namespace Go.Proofs.YtpimmdmcmccbpaaDoor
open Go.RowKit
set_option linter.unusedVariables false

theorem infoPm : (Tryd.prog.info? 44).map (fun i => (i.zero, i.size, i.bytes)) = some (some (.agg #[.string ⟨#[]⟩, .string ⟨#[]⟩, .int .i64 0, .int .i64 0, .int .i64 0]), 5, 56) := by kernel_rfl
theorem infoI : (Tryd.prog.info? 3).map (fun i => (i.zero, i.size, i.bytes)) = some (some (.int .i64 0), 1, 8) := by kernel_rfl

theorem new_any (w : World) : Calls Tryd.prog 20 #[] w fun e w' => e = .returned (.pointer (some ⟨w.heap.size, 0, none⟩)) ∧ w' = w.alloc (.cells #[.slice none 0 0, .slice none 0 0] 93) := by
  go_enter Tryd.func20, Tryd.ntmps20
  go_wp2_with fail
  go_ret
  exact ⟨rfl, rfl⟩
theorem Reg.new (w : World) : Reg (w.alloc (.cells #[.slice none 0 0, .slice none 0 0] 93)) w.heap.size w.heap.size [] (.slice none 0 0) (.slice none 0 0) :=
  ⟨Nat.le_refl _, Blk.new _ _ _, World.ownsRow_nil _ _ _ _, World.ownsRow_nil _ _ _ _, by simp [Value.ownBlock], by simp [Value.ownBlock], .inl rfl⟩

theorem time_yes (t : Int) (h : 0 ≤ t ∧ t ≤ 10000000) (w : World) : Calls Tryd.prog 50 #[.int .i64 t] w fun e w' => e = .returned (.bool true) ∧ w' = w := by
  obtain ⟨h1, h2⟩ := h
  go_enter Tryd.func50, Tryd.ntmps50
  go_wp2_with fail
  go_ret
  exact ⟨ret_bool (by simp [*]), rfl⟩
theorem time_no (t : Int) (h : ¬ (0 ≤ t ∧ t ≤ 10000000)) (w : World) : Calls Tryd.prog 50 #[.int .i64 t] w fun e w' => e = .returned (.bool false) ∧ w' = w := by
  by_cases h1 : 0 ≤ t
  · have h2 : ¬ t ≤ 10000000 := fun g => h ⟨h1, g⟩
    clear h
    go_enter Tryd.func50, Tryd.ntmps50
    go_wp2_with fail
    go_ret
    exact ⟨ret_bool (by simp [*]), rfl⟩
  · clear h
    go_enter Tryd.func50, Tryd.ntmps50
    go_wp2_with fail
    go_ret
    exact ⟨ret_bool (by simp), rfl⟩

/-- The register's words for a walk. -/
theorem Reg.open_ {w : World} {B r : Nat} {R : Pt.Rg} {vp vu : Value} (h : Reg w B r R vp vu) : ∃ Ap cp Au cu, vp = .slice Ap R.length cp ∧ vu = .slice Au R.length cu ∧ SlR w Ap (prow R) ∧ SlR w Au (urow R) := by
  obtain ⟨Ap, cp, e1, s1, _⟩ := SlR.of_row h.per
  obtain ⟨Au, cu, e2, s2, _⟩ := SlR.of_row h.use
  exact ⟨Ap, cp, Au, cu, e1, e2, s1, s2⟩
theorem Reg.c0 {w : World} {B r : Nat} {R : Pt.Rg} {vp vu : Value} (h : Reg w B r R vp vu) : w.cell? ⟨r, 0, none⟩ = some vp := h.blk.cell 0
theorem Reg.c1 {w : World} {B r : Nat} {R : Pt.Rg} {vp vu : Value} (h : Reg w B r R vp vu) : w.cell? ⟨r, 1, none⟩ = some vu := h.blk.cell 1
theorem Reg.used {w : World} {B r : Nat} {R : Pt.Rg} {vp : Value} {A : Option Addr} {c : Nat} (h : Reg w B r R vp (.slice A R.length c)) {k : Nat} (hk : k < R.length) : ∃ g, A = some ⟨g, 0, none⟩ ∧ g < w.heap.size ∧ w.cell? ⟨g, k, none⟩ = some (.int .i64 (R[k]).2) ∧ w.frozen? ⟨g, k, none⟩ = false ∧ B ≤ g ∧ g ≠ r := by
  have h0 := h.use
  rcases h0.2 with ⟨e, _⟩ | ⟨g, cap, cur, e, hb, hg, _⟩
  · simp only [Value.slice.injEq] at e; omega
  · simp only [Value.slice.injEq, true_and] at e
    obtain ⟨rfl, rfl⟩ := e
    refine ⟨g, rfl, (Array.getElem?_eq_some_iff.1 hg).1, ?_, h0.frozenAt k, hb, fun e => h.ur (by rw [e]; rfl)⟩
    rw [h0.cellAt k (by omega)]
    exact urow_at R k hk
/-- find of a register. -/
theorem Reg.find {w : World} {B r : Nat} {R : Pt.Rg} {vp vu : Value} (h : Hid (Reg w B r R vp vu)) (hO : Hid (Pt.Ok R)) (id : ByteArray) (x : Int) (hx : Hid (Pt.fnd id R = x)) :
    Calls Tryd.prog 49 #[.pointer (some ⟨r, 0, none⟩), .string id] w fun e w' => e = .returned (.int .i64 x) ∧ Below w.heap.size w w' := by
  obtain ⟨Ap, cp, Au, cu, rfl, rfl, s1, _⟩ := h.out.open_
  have := find_any r Ap cp R id w s1 h.out.c0 h.out.blk.lt (by have := hO.out.len; omega)
  rw [hx.out] at this
  exact this

theorem Pt.found {R : Pt.Rg} {id : ByteArray} (hO : Pt.Ok R) (h : Pt.ix id R < R.length) : ∃ (k : Nat) (e : Pt.Pm × Int) (hk : k < R.length), R[k] = e ∧ Pt.ix id R = k ∧ R[Pt.ix id R]? = some e ∧ Pt.fnd id R = (k : Int) ∧ e.1.id = id ∧
    0 ≤ e.2 ∧ e.2 ≤ e.1.qu ∧ 1 ≤ e.1.qu ∧ e.1.qu ≤ 1125899906842624 := by
  obtain ⟨q0, q1, q2, q3⟩ := hO.quo _ h
  exact ⟨_, _, h, rfl, rfl, Pt.at_some h, Pt.fnd_yes h, Pt.ix_at id R h, q0, q1, q2, q3⟩

set_option maxHeartbeats 2000000 in
theorem left_any {B r : Nat} {R : Pt.Rg} {vp vu : Value} (id : ByteArray) (w : World) (HR : Hid (Reg w B r R vp vu)) (HO : Hid (Pt.Ok R)) :
    Calls Tryd.prog 27 #[.pointer (some ⟨r, 0, none⟩), .string id] w fun e w' => e = .returned (.tuple #[.int .i64 (Pt.lfN R id), .bool (Pt.lfB R id)]) ∧ Below w.heap.size w w' := by
  have hl := HO.out.len
  by_cases h : Pt.ix id R < R.length
  · have HB0 : Hid (Pt.lfB R id = true) := decide_eq_true h
    obtain ⟨k, e, hk, he, hix, hat, hfn, hid, q0, q1, q2, q3⟩ := Pt.found HO.out h
    have HX := Lib.hid hfn
    clear hfn h
    have hN : Hid (Pt.lfN R id = e.1.qu - e.2) := by show _ = _; rw [Pt.lfN, hat]
    clear hat hid hix
    go_enter Tryd.func27, Tryd.ntmps27
    go_wp2_with fail
    (with_reducible refine (Reg.find HR HO _ _ HX).mono ?_)
    rintro e w1 ⟨rfl, hb⟩
    have HR1 := Lib.hid (HR.out.below hb)
    have HB := Lib.hid hb
    clear hb
    obtain ⟨Ap, cp, Au, cu, rfl, rfl, s1, s2⟩ := HR1.out.open_
    have k0 := HR1.out.c0
    have k1 := HR1.out.c1
    obtain ⟨g, rfl, hg, cu0, fu, gB, gr⟩ := HR1.out.used hk
    obtain ⟨b, off, rfl, hbl, p0, p1, p2, p3, p4⟩ := s1.permit hk
    have zk : (k : Int) < (R.length : Int) := by omega
    rw [he] at p0 p1 p2 p3 p4 cu0
    clear he s1 s2
    generalize e.1.qu = x at *
    generalize e.2 = y at *
    clear p0 p1 p2 p3 fu
    go_wp2_with fail
    go_quiet (fail)
    go_wp2_with fail
    go_ret2
    exact ⟨by rw [hN.out, HB0.out]; rfl, below_drewN HB.out _⟩
  · have HX := Lib.hid (Pt.fnd_no h)
    have HN := Lib.hid (Pt.lfN_none h)
    have HB0 : Hid (Pt.lfB R id = false) := decide_eq_false h
    clear h
    go_enter Tryd.func27, Tryd.ntmps27
    go_wp2_with fail
    (with_reducible refine (Reg.find HR HO _ _ HX).mono ?_)
    rintro e w1 ⟨rfl, hb⟩
    have HR1 := Lib.hid (HR.out.below hb)
    have HB := Lib.hid hb
    clear hb
    go_wp2_with fail
    go_ret2
    exact ⟨by rw [HN.out, HB0.out]; rfl, HB.out⟩

set_option maxHeartbeats 4000000 in
theorem fell_any {B r : Nat} {R : Pt.Rg} {vp vu : Value} (id sp : ByteArray) (t : Int) (w : World) (HR : Hid (Reg w B r R vp vu)) (HO : Hid (Pt.Ok R)) :
    Calls Tryd.prog 22 #[.pointer (some ⟨r, 0, none⟩), .string id, .string sp, .int .i64 t] w fun e w' => e = .returned (.int .i64 (Pt.flE R id sp t)) ∧ Below w.heap.size w w' := by
  have hl := HO.out.len
  by_cases h : Pt.ix id R < R.length
  · obtain ⟨k, e, hk, he, hix, hat, hfn, hid, q0, q1, q2, q3⟩ := Pt.found HO.out h
    have HX := Lib.hid hfn
    clear hfn h
    have hN : Pt.flE R id sp t = if e.1.sp = sp then (if e.1.fr ≤ t ∧ t < e.1.un then 0 else 15) else 24 := by rw [Pt.flE, hat]
    clear hat hid hix
    by_cases hs : e.1.sp = sp
    · have hq := seq_t hs
      rw [if_pos hs] at hN
      by_cases h1 : e.1.fr ≤ t
      · by_cases h2 : t < e.1.un
        · have HN := Lib.hid (hN.trans (if_pos ⟨h1, h2⟩))
          clear hN
          go_enter Tryd.func22, Tryd.ntmps22
          go_wp2_with fail
          (with_reducible refine (Reg.find HR HO _ _ HX).mono ?_)
          rintro e w1 ⟨rfl, hb⟩
          have HR1 := Lib.hid (HR.out.below hb)
          have HB := Lib.hid hb
          clear hb
          obtain ⟨Ap, cp, Au, cu, rfl, rfl, s1, s2⟩ := HR1.out.open_
          have k0 := HR1.out.c0
          have k1 := HR1.out.c1
          obtain ⟨g, rfl, hg, cu0, fu, gB, gr⟩ := HR1.out.used hk
          obtain ⟨b, off, rfl, hbl, p0, p1, p2, p3, p4⟩ := s1.permit hk
          have zk : (k : Int) < (R.length : Int) := by omega
          rw [he] at p0 p1 p2 p3 p4 cu0
          clear he s1 s2
          clear hs
          go_wp2_with fail
          go_ret
          exact ⟨ret_int' HN.out.symm, (HB.out.alloc HB.out.size _)⟩
        · have HN := Lib.hid (hN.trans (if_neg (fun g => h2 g.2)))
          clear hN
          go_enter Tryd.func22, Tryd.ntmps22
          go_wp2_with fail
          (with_reducible refine (Reg.find HR HO _ _ HX).mono ?_)
          rintro e w1 ⟨rfl, hb⟩
          have HR1 := Lib.hid (HR.out.below hb)
          have HB := Lib.hid hb
          clear hb
          obtain ⟨Ap, cp, Au, cu, rfl, rfl, s1, s2⟩ := HR1.out.open_
          have k0 := HR1.out.c0
          have k1 := HR1.out.c1
          obtain ⟨g, rfl, hg, cu0, fu, gB, gr⟩ := HR1.out.used hk
          obtain ⟨b, off, rfl, hbl, p0, p1, p2, p3, p4⟩ := s1.permit hk
          have zk : (k : Int) < (R.length : Int) := by omega
          rw [he] at p0 p1 p2 p3 p4 cu0
          clear he s1 s2
          clear hs
          go_wp2_with fail
          go_ret
          exact ⟨ret_int' HN.out.symm, (HB.out.alloc HB.out.size _)⟩
      · have HN := Lib.hid (hN.trans (if_neg (fun g => h1 g.1)))
        clear hN
        go_enter Tryd.func22, Tryd.ntmps22
        go_wp2_with fail
        (with_reducible refine (Reg.find HR HO _ _ HX).mono ?_)
        rintro e w1 ⟨rfl, hb⟩
        have HR1 := Lib.hid (HR.out.below hb)
        have HB := Lib.hid hb
        clear hb
        obtain ⟨Ap, cp, Au, cu, rfl, rfl, s1, s2⟩ := HR1.out.open_
        have k0 := HR1.out.c0
        have k1 := HR1.out.c1
        obtain ⟨g, rfl, hg, cu0, fu, gB, gr⟩ := HR1.out.used hk
        obtain ⟨b, off, rfl, hbl, p0, p1, p2, p3, p4⟩ := s1.permit hk
        have zk : (k : Int) < (R.length : Int) := by omega
        rw [he] at p0 p1 p2 p3 p4 cu0
        clear he s1 s2
        clear hs
        go_wp2_with fail
        go_ret
        exact ⟨ret_int' HN.out.symm, (HB.out.alloc HB.out.size _)⟩
    · have hq := seq_f hs
      have HN := Lib.hid (hN.trans (if_neg hs))
      clear hN hs
      go_enter Tryd.func22, Tryd.ntmps22
      go_wp2_with fail
      (with_reducible refine (Reg.find HR HO _ _ HX).mono ?_)
      rintro e w1 ⟨rfl, hb⟩
      have HR1 := Lib.hid (HR.out.below hb)
      have HB := Lib.hid hb
      clear hb
      obtain ⟨Ap, cp, Au, cu, rfl, rfl, s1, s2⟩ := HR1.out.open_
      have k0 := HR1.out.c0
      have k1 := HR1.out.c1
      obtain ⟨g, rfl, hg, cu0, fu, gB, gr⟩ := HR1.out.used hk
      obtain ⟨b, off, rfl, hbl, p0, p1, p2, p3, p4⟩ := s1.permit hk
      have zk : (k : Int) < (R.length : Int) := by omega
      rw [he] at p0 p1 p2 p3 p4 cu0
      clear he s1 s2
      go_wp2_with fail
      go_ret
      exact ⟨ret_int' HN.out.symm, (HB.out.alloc HB.out.size _)⟩
  · have HX := Lib.hid (Pt.fnd_no h)
    have HN := Lib.hid (Pt.flE_none (sp := sp) (t := t) h)
    clear h
    go_enter Tryd.func22, Tryd.ntmps22
    go_wp2_with fail
    (with_reducible refine (Reg.find HR HO _ _ HX).mono ?_)
    rintro e w1 ⟨rfl, hb⟩
    have HR1 := Lib.hid (HR.out.below hb)
    have HB := Lib.hid hb
    clear hb
    go_wp2_with fail
    go_ret
    exact ⟨ret_int' HN.out.symm, HB.out⟩
end Go.Proofs.YtpimmdmcmccbpaaDoor
