/- The frame of a region by its operations: which slot each operation fills, and with what. -/
import Derived.Test.YtcefmnkfkpoccaaDoorR
namespace Go.Proofs.YtcefmnkfkpoccaaDoor
open Go.RowKit
set_option linter.unusedVariables false

/-- What slot e holds when the operations of L have come up: D tells which operation fills which slot, V with what. -/
def slotOf (D : List (Nat × Nat)) (a : Act) (L : Nat → Bool) (V : Nat → Value) (e : Nat) : Value :=
  match D.lookup e with
  | some i => if L i then V i else a.tmps.getD e undef
  | none => a.tmps.getD e undef
def FrameIs (D : List (Nat × Nat)) (a : Act) (L : Nat → Bool) (V : Nat → Value) (a' : Act) : Prop :=
  a'.defers = a.defers ∧ a'.tmps.size = a.tmps.size ∧ ∀ e, a'.tmps.getD e undef = slotOf D a L V e

section
variable {D : List (Nat × Nat)} {a a' : Act} {L : Nat → Bool} {V V' : Nat → Value}
theorem FrameIs.start (D : List (Nat × Nat)) (a : Act) (V : Nat → Value) : FrameIs D a (fun _ => false) V a := by
  refine ⟨rfl, rfl, fun e => ?_⟩
  unfold slotOf
  split <;> simp
theorem FrameIs.get (h : FrameIs D a L V a') {e i : Nat} (hl : D.lookup e = some i) (hL : L i = true) : a'.eval (.tmp e) = V i := by
  have := h.2.2 e
  unfold slotOf at this
  rw [hl] at this
  simp only [hL, if_true] at this
  exact this
theorem FrameIs.old (h : FrameIs D a L V a') {e : Nat} (hl : D.lookup e = none) : a'.eval (.tmp e) = a.eval (.tmp e) := by
  have := h.2.2 e
  unfold slotOf at this
  rw [hl] at this
  exact this
theorem getD_put (x : Act) (d : Nat) (v : Value) (hd : d < x.tmps.size) (e : Nat) : (x.put (some d) v).tmps.getD e undef = if e = d then v else x.tmps.getD e undef := by
  simp only [Act.put]
  by_cases h : e = d
  · subst h; simp [hd]
  · rw [if_neg h]
    simp only [Array.getD_eq_getD_getElem?]
    rw [Array.getElem?_setIfInBounds_ne (Ne.symm h)]
theorem FrameIs.put (h : FrameIs D a L V a') {d i : Nat} {v : Value} (hd : D.lookup d = some i) (hinj : ∀ e, D.lookup e = some i → e = d) (hin : d < a.tmps.size) (hV : ∀ j, j ≠ i → L j = true → V' j = V j) (hv : V' i = v) :
    FrameIs D a (fun j => j == i || L j) V' (a'.put (some d) v) := by
  obtain ⟨h1, h2, h3⟩ := h
  refine ⟨h1, by simp [Act.put, h2], fun e => ?_⟩
  rw [getD_put a' d v (by omega) e]
  by_cases he : e = d
  · subst he
    rw [if_pos rfl]
    unfold slotOf
    rw [hd]
    simp [hv]
  · rw [if_neg he, h3 e]
    unfold slotOf
    cases hl : D.lookup e with
    | none => rfl
    | some j =>
      have hj : j ≠ i := fun hj => he (hinj e (by rw [hl, hj]))
      by_cases hLj : L j = true
      · simp [hLj, hV j hj hLj]
      · simp [hj, hLj]
theorem FrameIs.none_ (h : FrameIs D a L V a') {i : Nat} {v : Value} (hD : ∀ e, D.lookup e ≠ some i) (hV : ∀ j, L j = true → V' j = V j) : FrameIs D a (fun j => j == i || L j) V' (a'.put none v) := by
  obtain ⟨h1, h2, h3⟩ := h
  refine ⟨h1, h2, fun e => ?_⟩
  show a'.tmps.getD e undef = _
  rw [h3 e]
  unfold slotOf
  cases hl : D.lookup e with
  | none => rfl
  | some j =>
    have hj : j ≠ i := fun hj => hD e (by rw [hl, hj])
    by_cases hLj : L j = true
    · simp [hLj, hV j hLj]
    · simp [hj, hLj]

theorem getD_foldl (V : Nat → Value) : ∀ (D : List (Nat × Nat)) (x : Act), (D.map (·.1)).Nodup → (∀ p ∈ D, p.1 < x.tmps.size) → ∀ e,
    (D.foldl (fun y p => y.put (some p.1) (V p.2)) x).tmps.getD e undef = match D.lookup e with | some i => V i | none => x.tmps.getD e undef := by
  intro D
  induction D with
  | nil => intro x _ _ e; rfl
  | cons p D ih =>
    intro x hn hb e
    simp only [List.map_cons, List.nodup_cons] at hn
    simp only [List.foldl_cons]
    rw [ih (x.put (some p.1) (V p.2)) hn.2 (fun q hq => by simp [Act.put]; exact hb q (by simp [hq])) e]
    obtain ⟨d, i⟩ := p
    by_cases he : e = d
    · subst he
      have hno : D.lookup e = none := by
        rw [List.lookup_eq_none_iff]
        intro q hq
        simp only [bne_iff_ne, ne_eq]
        intro h
        exact hn.1 (List.mem_map.2 ⟨q, hq, h.symm⟩)
      rw [hno]
      simp only [List.lookup, beq_self_eq_true]
      rw [getD_put x e (V i) (hb (e, i) (by simp)) e, if_pos rfl]
    · have h1 : List.lookup e ((d, i) :: D) = D.lookup e := by
        simp only [List.lookup]
        rw [show (e == d) = false by simpa using he]
      rw [h1]
      cases D.lookup e with
      | some j => rfl
      | none => show (x.put (some d) (V i)).tmps.getD e undef = _; rw [getD_put x d (V i) (hb (d, i) (by simp)) e, if_neg he]
theorem size_foldl (V : Nat → Value) : ∀ (D : List (Nat × Nat)) (x : Act), (D.foldl (fun y p => y.put (some p.1) (V p.2)) x).tmps.size = x.tmps.size ∧ (D.foldl (fun y p => y.put (some p.1) (V p.2)) x).defers = x.defers := by
  intro D
  induction D with
  | nil => intro x; exact ⟨rfl, rfl⟩
  | cons p D ih => intro x; simp only [List.foldl_cons]; have := ih (x.put (some p.1) (V p.2)); simpa [Act.put] using this

theorem lookup_mem {D : List (Nat × Nat)} {e i : Nat} (h : D.lookup e = some i) : (e, i) ∈ D := by
  induction D with
  | nil => simp [List.lookup] at h
  | cons p D ih =>
    obtain ⟨d, j⟩ := p
    simp only [List.lookup] at h
    split at h
    · rename_i hb
      have : e = d := by simpa using hb
      simp only [Option.some.injEq] at h
      simp [this, h]
    · exact List.mem_cons_of_mem _ (ih h)

/-- When all have come up: the frame, written out. -/
theorem FrameIs.done (h : FrameIs D a L V a') (hall : ∀ p ∈ D, L p.2 = true) (hn : (D.map (·.1)).Nodup) (hb : ∀ p ∈ D, p.1 < a.tmps.size) : a' = D.foldl (fun y p => y.put (some p.1) (V p.2)) a := by
  obtain ⟨h1, h2, h3⟩ := h
  obtain ⟨s1, s2⟩ := size_foldl V D a
  have ht : a'.tmps = (D.foldl (fun y p => y.put (some p.1) (V p.2)) a).tmps := by
    apply Array.ext (h2.trans s1.symm)
    intro e he1 he2
    have e1 := h3 e
    have e2 := getD_foldl V D a hn hb e
    have e3 : slotOf D a L V e = match D.lookup e with | some i => V i | none => a.tmps.getD e undef := by
      unfold slotOf
      cases hl : D.lookup e with
      | none => rfl
      | some i => simp [hall (e, i) (lookup_mem hl)]
    rw [e3, ← e2] at e1
    simpa [he1, he2] using e1
  cases a' with
  | mk t d =>
    simp only at ht h1
    rw [ht, h1, ← s2]
end

/-- D's slots are different ones and lie in the frame; its operations lie in the region; no two slots for one operation. -/
def okD (D : List (Nat × Nat)) (size len : Nat) : Bool := decide ((D.map (·.1)).Nodup) && D.all (fun p => decide (p.1 < size) && decide (p.2 < len)) && decide ((D.map (·.2)).Nodup)

theorem lookup_inj {D : List (Nat × Nat)} (h : (D.map (·.2)).Nodup) {d e i : Nat} (h1 : D.lookup d = some i) (h2 : D.lookup e = some i) : e = d := by
  have m1 := lookup_mem h1
  have m2 := lookup_mem h2
  induction D with
  | nil => cases m1
  | cons p D ih =>
    simp only [List.map_cons, List.nodup_cons] at h
    rcases List.mem_cons.1 m1 with e1 | e1 <;> rcases List.mem_cons.1 m2 with e2 | e2
    · rw [← e1] at e2; exact congrArg Prod.fst e2
    · exact absurd (List.mem_map.2 ⟨_, e2, rfl⟩) (by rw [← e1] at h; exact h.1)
    · exact absurd (List.mem_map.2 ⟨_, e1, rfl⟩) (by rw [← e2] at h; exact h.1)
    · have hne : ∀ x, (x, i) ∈ D → x ≠ p.1 ∨ True := fun _ _ => .inr trivial
      by_cases hd : d = p.1
      · have : List.lookup d (p :: D) = some p.2 := by obtain ⟨a, b⟩ := p; simp at hd; subst hd; simp [List.lookup]
        rw [this] at h1
        have hp : p.2 = i := Option.some.inj h1
        exact absurd (List.mem_map.2 ⟨_, e2, hp.symm⟩) h.1
      · by_cases he : e = p.1
        · have : List.lookup e (p :: D) = some p.2 := by obtain ⟨a, b⟩ := p; simp at he; subst he; simp [List.lookup]
          rw [this] at h2
          have hp : p.2 = i := Option.some.inj h2
          exact absurd (List.mem_map.2 ⟨_, e1, hp.symm⟩) h.1
        · have l1 : List.lookup d (p :: D) = D.lookup d := by obtain ⟨a, b⟩ := p; simp only [List.lookup]; rw [show (d == a) = false by simpa using hd]
          have l2 : List.lookup e (p :: D) = D.lookup e := by obtain ⟨a, b⟩ := p; simp only [List.lookup]; rw [show (e == a) = false by simpa using he]
          rw [l1] at h1
          rw [l2] at h2
          exact ih h.2 h1 h2 e1 e2

section
variable {P : Program}
/-- A region that draws its order: the frame by D and V, the world by Wd; g: what was chosen on the way (addresses of new blocks). -/
theorem wp_region_fr {G : Type} {id : Nat} {Q : Exit → Act → World → Prop} {a : Act} {w : World} {l : List Oper} (hm : P.follows .mixedOrders = true) (hF : fwdB l = true)
    (D : List (Nat × Nat)) (hD : okD D a.tmps.size l.length = true) (V : G → Nat → Value) (Wd : (Nat → Bool) → G → World → Prop) (g0 : G) (h0 : Wd (fun _ => false) g0 w.drew)
    (hstep : ∀ (i : Nat) (o : Oper) (L : Nat → Bool) (a' : Act) (w' : World) (g : G), l[i]? = some o → L i = false → (∀ e ∈ o.after, Region.binds .any e = true → L e.on = true) → FrameIs D a L (V g) a' → Wd L g w' →
      wpOp P l.toArray Q i (fun a'' w'' => ∃ g', FrameIs D a (fun j => j == i || L j) (V g') a'' ∧ Wd (fun j => j == i || L j) g' w'') a' w')
    (hend : ∀ L g w', (∀ j, j < l.length → L j = true) → Wd L g w' → Q .normal (D.foldl (fun y p => y.put (some p.1) (V g p.2)) a) w') : (Code.region id l.toArray true).wp P Q a w := by
  refine wp_region_inv hm hF (fun L a' w' => ∃ g, FrameIs D a L (V g) a' ∧ Wd L g w') ⟨g0, FrameIs.start D a _, h0⟩ ?_ ?_
  · rintro i o L a' w' ho hL hpre ⟨g, hf, hw⟩
    exact hstep i o L a' w' g ho hL hpre hf hw
  · rintro L a' w' hall ⟨g, hf, hw⟩
    simp only [okD, Bool.and_eq_true, decide_eq_true_eq, List.all_eq_true] at hD
    have := hf.done (fun p hp => hall _ (hD.1.2 p hp).2) hD.1.1 (fun p hp => (hD.1.2 p hp).1)
    rw [this]
    exact hend L g w' hall hw
end
end Go.Proofs.YtcefmnkfkpoccaaDoor
