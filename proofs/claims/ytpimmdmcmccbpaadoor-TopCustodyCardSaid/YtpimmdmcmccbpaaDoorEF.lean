/- custody: good links; Add. -/
import Derived.Test.YtpimmdmcmccbpaaDoorEE
namespace Go.Proofs.YtpimmdmcmccbpaaDoor
open Go.RowKit
set_option linter.unusedVariables false
open Cu (Lk Ls)
theorem hN_range (s : ByteArray) : ∀ k, 0 ≤ hN s k ∧ hN s k ≤ 18446744073709551615
  | 0 => ⟨by unfold hN; omega, by unfold hN; omega⟩
  | k + 1 => by
    unfold hN hst
    generalize bits BinOp.xor IntKind.u64 (hN s k) (bt s k) * 1099511628211 = p
    simp only [IntKind.wrap, IntKind.bits, IntKind.signed, Bool.false_and, Bool.false_eq_true, if_false]
    omega
theorem chS_range (p : Int) (s : ByteArray) : 0 ≤ chS p s ∧ chS p s ≤ 18446744073709551615 := hN_range _ _
theorem hsV_range (L : Ls) (x : Lk) : 0 ≤ Cu.hsV L x ∧ Cu.hsV L x ≤ 18446744073709551615 := chS_range _ _
theorem par_mem {L : Ls} {x p : Lk} (h : Cu.par L x = some p) : p ∈ L := by
  unfold Cu.par at h
  exact List.mem_of_getElem? h
theorem ix_none' {s : ByteArray} {L : Ls} (h : ∀ e ∈ L, e.it ≠ s) : ¬ Cu.ix s L < L.length := fun g => h _ (List.getElem_mem g) (Cu.ix_at s L g)
/-- What holds of every link of good links. -/
structure Cu.Al (L : Ls) : Prop where
  it : ∀ e ∈ L, spE e.it = 0
  vo : ∀ e ∈ L, Cu.voB e
  ha : ∀ e ∈ L, 0 ≤ e.ha ∧ e.ha ≤ 18446744073709551615
  g0 : ∀ s, 0 ≤ Cu.gv s L
  g1 : ∀ s, s ≠ ByteArray.empty → Cu.gv s L ≤ 1125899906842624
  len : L.length ≤ 1024
theorem Cu.Good.al {L : Ls} (h : Cu.Good L) : Cu.Al L := by
  induction h with
  | nil => exact ⟨fun e h => (by cases h), fun e h => (by cases h), fun e h => (by cases h), fun s => (by simp [Cu.gv]), fun s _ => (by simp [Cu.gv]), by simp⟩
  | @snoc L x h hc hh ih =>
    refine ⟨?_, ?_, ?_, ?_, ?_, ?_⟩
    · intro e he
      rcases List.mem_append.1 he with g | g
      · exact ih.it e g
      · simp at g; subst g; exact hc.it.1
    · intro e he
      rcases List.mem_append.1 he with g | g
      · exact ih.vo e g
      · simp at g; subst g; exact hc.vo
    · intro e he
      rcases List.mem_append.1 he with g | g
      · exact ih.ha e g
      · simp at g; subst g; rw [hh]; exact hsV_range _ _
    · intro s
      have h0 := ih.g0 s
      have h1 := hc.vo.1
      rw [Cu.gv_append]
      split <;> omega
    · intro s hs
      have h0 := ih.g1 s hs
      rw [Cu.gv_append]
      by_cases g : x.pa = s
      · subst g
        rw [if_pos rfl]
        have hlt : Cu.ix x.pa L < L.length := Classical.byContradiction fun g => hc.nd ⟨hs, g⟩
        have hp := Cu.par_some hlt
        have := hc.qu _ hp
        have := (ih.vo _ (par_mem hp)).2
        omega
      · rw [if_neg g]; omega
    · have := hc.len
      rw [List.length_append]
      simp
      omega
theorem Cu.Good.mild {L : Ls} (h : Cu.Good L) : Cu.Mild L := by
  have ha := h.al
  refine ⟨by have := ha.len; omega, ix_none' fun e he g => ?_, fun s hs => ⟨ha.g0 s, ha.g1 s hs⟩⟩
  have := ha.it e he
  rw [g] at this
  revert this
  decide
/-- What Add does. -/
noncomputable def Cu.adL (L : Ls) (x : Lk) : Ls := if Cu.chE L x = 0 then L ++ [⟨x.it, x.pa, x.ti, x.vo, x.sp, Cu.hsV L x⟩] else L
noncomputable def Cu.adH (L : Ls) (x : Lk) : Int := if Cu.chE L x = 0 then Cu.hsV L x else 0
theorem Cu.adL_ok {L : Ls} {x : Lk} (h : Cu.chE L x = 0) : Cu.adL L x = L ++ [⟨x.it, x.pa, x.ti, x.vo, x.sp, Cu.hsV L x⟩] := if_pos h
theorem Cu.adL_no {L : Ls} {x : Lk} (h : ¬ Cu.chE L x = 0) : Cu.adL L x = L := if_neg h
theorem Cu.adH_ok {L : Ls} {x : Lk} (h : Cu.chE L x = 0) : Cu.adH L x = Cu.hsV L x := if_pos h
theorem Cu.adH_no {L : Ls} {x : Lk} (h : ¬ Cu.chE L x = 0) : Cu.adH L x = 0 := if_neg h
/-- The hash of the link itself does not matter. -/
theorem Cu.chE_ha {L : Ls} {it pa : ByteArray} {ti vo : Int} {sp : ByteArray} (ha ha' : Int) : Cu.chE L ⟨it, pa, ti, vo, sp, ha⟩ = Cu.chE L ⟨it, pa, ti, vo, sp, ha'⟩ := rfl
theorem Cu.Good.add {L : Ls} (h : Cu.Good L) (x : Lk) : Cu.Good (Cu.adL L x) := by
  by_cases g : Cu.chE L x = 0
  · rw [Cu.adL_ok g]
    exact .snoc h (Cu.can_of (by cases x; exact g)) rfl
  · rw [Cu.adL_no g]
    exact h
theorem Rec.same {w w' : World} {B r : Nat} {L : Ls} {v : Value} {b1 b2 : Nat} (h : CReg w B r L v b1 b2) (hb : Below w.heap.size w w') : Rec w w' B r L v b1 b2 := ⟨v, h.below hb, Cng.of_below hb, .inl rfl⟩
theorem Rec.of_below {w w1 w2 : World} {B r : Nat} {L : Ls} {v : Value} {b1 b2 : Nat} (hb : Below w.heap.size w w1) (h : Rec w1 w2 B r L v b1 b2) : Rec w w2 B r L v b1 b2 := by
  obtain ⟨v', h1, h2, h3⟩ := h
  refine ⟨v', h1, Cng.trans (Cng.of_below hb) h2 (fun k _ g => g), ?_⟩
  rcases h3 with h3 | h3
  · exact .inl h3
  · exact .inr fun k hk => Nat.le_trans hb.size (h3 k hk)
theorem Rec.below {w w1 w2 : World} {B r : Nat} {L : Ls} {v : Value} {b1 b2 : Nat} (h : Rec w w1 B r L v b1 b2) (hb : Below w1.heap.size w1 w2) : Rec w w2 B r L v b1 b2 := by
  obtain ⟨v', h1, h2, h3⟩ := h
  exact ⟨v', h1.below hb, Cng.trans h2 (Cng.of_below (S := CS r v b1 b2) hb) (fun k _ g => g), h3⟩
end Go.Proofs.YtpimmdmcmccbpaaDoor
