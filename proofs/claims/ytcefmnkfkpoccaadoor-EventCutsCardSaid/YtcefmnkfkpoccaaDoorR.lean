/- A region that draws its order, by an invariant: what holds of every set of operations that have come up. -/
import Derived.Test.YtcefmnkfkpoccaaDoorK
namespace Go.Proofs.YtcefmnkfkpoccaaDoor
open Go.RowKit
set_option linter.unusedVariables false

/-- Every operation waits only for earlier ones. -/
def fwdB (l : List Oper) : Bool := (List.range l.length).all fun i => match l[i]? with
  | some o => o.after.all fun e => !Region.binds .any e || decide (e.on < i)
  | none => true

theorem fwd_spec {l : List Oper} (h : fwdB l = true) {i : Nat} {o : Oper} (ho : l[i]? = some o) : ∀ e ∈ o.after, Region.binds .any e = true → e.on < i := by
  intro e he hb
  have hi : i < l.length := (List.getElem?_eq_some_iff.1 ho).1
  have h1 := List.all_eq_true.1 h i (List.mem_range.2 hi)
  rw [ho] at h1
  have h2 := Array.all_eq_true_iff_forall_mem.1 h1 e he
  simpa [hb] using h2

theorem least_false (f : Nat → Bool) (n : Nat) (h : ∃ i, i < n ∧ f i = false) : ∃ i, i < n ∧ f i = false ∧ ∀ j, j < i → f j = true := by
  induction n with
  | zero => obtain ⟨i, hi, _⟩ := h; omega
  | succ n ih =>
    by_cases h' : ∃ i, i < n ∧ f i = false
    · obtain ⟨i, hi, h1, h2⟩ := ih h'
      exact ⟨i, by omega, h1, h2⟩
    · obtain ⟨i, hi, h1⟩ := h
      have hin : i = n := by
        rcases Nat.lt_or_ge i n with hlt | hge
        · exact absurd ⟨i, hlt, h1⟩ h'
        · omega
      subst hin
      refine ⟨i, hi, h1, fun j hj => ?_⟩
      cases hf : f j with
      | true => rfl
      | false => exact absurd ⟨j, hj, hf⟩ h'

section
variable {P : Program}
theorem any_of_inv {l : List Oper} {Q : Exit → Act → World → Prop} (hF : fwdB l = true) (Inv : (Nat → Bool) → Act → World → Prop)
    (hstep : ∀ (i : Nat) (o : Oper) (L : Nat → Bool) (a : Act) (w : World), l[i]? = some o → L i = false → (∀ e ∈ o.after, Region.binds .any e = true → L e.on = true) → Inv L a w →
      wpOp P l.toArray Q i (fun a' w' => Inv (fun j => j == i || L j) a' w') a w)
    (hend : ∀ L a w, (∀ j, j < l.length → L j = true) → Inv L a w → Q .normal a w) :
    ∀ (fuel : Nat) (listed : Array Bool) (a : Act) (w : World), listed.size = l.length → (listed.toList.filter (! ·)).length = fuel →
      Inv (fun j => listed.getD j false) a w → wpAny P .any l.toArray Q fuel listed a w := by
  intro fuel
  induction fuel with
  | zero =>
    intro listed a w hs hc hI
    have hall : ∀ j, j < l.length → listed.getD j false = true := by
      intro j hj
      have hj' : j < listed.size := by omega
      have h0 : listed.toList.filter (! ·) = [] := List.eq_nil_of_length_eq_zero hc
      have h1 := List.filter_eq_nil_iff.1 h0 listed[j] (by simp)
      simpa [hj'] using h1
    refine ⟨?_, hend _ _ _ hall hI⟩
    apply List.eq_nil_iff_forall_not_mem.2
    intro j hj
    obtain ⟨h1, o, ho, _⟩ := mem_ready.1 hj
    have hlt : j < l.length := by
      have := (Array.getElem?_eq_some_iff.1 ho).1
      simpa using this
    have h2 := hall j hlt
    have hj' : j < listed.size := by omega
    simp [hj'] at h1 h2
    rw [h1] at h2
    cases h2
  | succ fuel ih =>
    intro listed a w hs hc hI
    refine ⟨fun h0 => ?_, fun i hi => ?_⟩
    · exfalso
      have hex : ∃ i, i < l.length ∧ listed.getD i false = false := by
        obtain ⟨b, hb⟩ : ∃ b, b ∈ listed.toList.filter (! ·) := by
          cases hl : listed.toList.filter (! ·) with
          | nil => rw [hl] at hc; simp at hc
          | cons b r => exact ⟨b, by simp⟩
        rw [List.mem_filter] at hb
        obtain ⟨i, hi, hib⟩ := List.getElem_of_mem hb.1
        refine ⟨i, by simpa [hs] using hi, ?_⟩
        have hi' : i < listed.size := by simpa using hi
        have : listed[i] = b := by simpa using hib
        simp [hi', this]
        simpa using hb.2
      obtain ⟨i, hi, h1, h2⟩ := least_false (fun j => listed.getD j false) l.length hex
      have hi' : i < listed.size := by omega
      have hm : i ∈ Region.ready .any l.toArray listed := by
        rw [mem_ready]
        refine ⟨by simp [hi'] at h1 ⊢; exact h1, l[i], by simp [hi], fun e he hb => ?_⟩
        exact h2 _ (fwd_spec hF (by simp [hi]) e he hb)
      rw [h0] at hm
      cases hm
    · obtain ⟨h1, o, ho, hall⟩ := mem_ready.1 hi
      have hlt : i < l.length := by
        have := (Array.getElem?_eq_some_iff.1 ho).1
        simpa using this
      have hi' : i < listed.size := by omega
      refine wpOp_mono (fun a' w' hI' => ih (listed.setIfInBounds i true) a' w' (by simpa using hs) ?_ ?_)
        (hstep i o _ a w (by simpa using ho) (by simp [hi'] at h1 ⊢; exact h1) hall hI)
      · have hb : listed[i] = false := by simpa [hi'] using h1
        have e1 : listed.toList = listed.toList.take i ++ false :: listed.toList.drop (i + 1) := by
          have hil : i < listed.toList.length := by simpa using hi'
          have hbl : listed.toList[i] = false := by simpa using hb
          rw [← hbl, List.getElem_cons_drop, List.take_append_drop]
        have e2 : (listed.setIfInBounds i true).toList = listed.toList.take i ++ true :: listed.toList.drop (i + 1) := by
          rw [Array.toList_setIfInBounds, List.set_eq_take_append_cons_drop, if_pos (by simpa using hi')]
        rw [e2]
        rw [e1] at hc
        simp only [List.filter_append, List.length_append, List.filter_cons] at hc ⊢
        simp at hc ⊢
        omega
      · have : (fun j => (listed.setIfInBounds i true).getD j false) = fun j => j == i || listed.getD j false := by
          funext j
          by_cases hji : j = i
          · subst hji; simp [hi']
          · rw [getD_set_ne false (Ne.symm hji)]; simp [hji]
        rw [this]
        exact hI'

/-- A region that draws its order, by an invariant over the set of the operations that have come up. -/
theorem wp_region_inv {id : Nat} {Q : Exit → Act → World → Prop} {a : Act} {w : World} {l : List Oper} (hm : P.follows .mixedOrders = true) (hF : fwdB l = true) (Inv : (Nat → Bool) → Act → World → Prop)
    (h0 : Inv (fun _ => false) a w.drew)
    (hstep : ∀ (i : Nat) (o : Oper) (L : Nat → Bool) (a : Act) (w : World), l[i]? = some o → L i = false → (∀ e ∈ o.after, Region.binds .any e = true → L e.on = true) → Inv L a w →
      wpOp P l.toArray Q i (fun a' w' => Inv (fun j => j == i || L j) a' w') a w)
    (hend : ∀ L a w, (∀ j, j < l.length → L j = true) → Inv L a w → Q .normal a w) : (Code.region id l.toArray true).wp P Q a w := by
  refine wp_region_any hm (any_of_inv hF Inv hstep hend _ _ _ _ (by simp) (by simp) ?_)
  have : (fun j => (Array.replicate l.toArray.size false).getD j false) = fun _ => false := by
    funext j
    by_cases hj : j < l.length <;> simp [hj]
  rw [this]
  exact h0

theorem wpOp_want {ops : Array Oper} {Q : Exit → Act → World → Prop} {i : Nat} {K : Act → World → Prop} {a : Act} {w : World} {o : Oper} (ho : ops[i]? = some o) (hw : Region.wanted o (yielded ops a.tmps) = true) (h : o.wp P a w K Q) : wpOp P ops Q i K a w := by
  unfold wpOp
  rw [ho]
  simp only [hw, if_true]
  exact .inl h
end
end Go.Proofs.YtcefmnkfkpoccaaDoor
