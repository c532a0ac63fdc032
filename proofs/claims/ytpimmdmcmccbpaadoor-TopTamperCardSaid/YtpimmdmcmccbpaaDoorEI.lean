/- custody: from an item to its root. Plain. -/
import Derived.Test.YtpimmdmcmccbpaaDoorEH
namespace Go.Proofs.YtpimmdmcmccbpaaDoor
open Go.RowKit
set_option linter.unusedVariables false
open Cu (Lk Ls)
namespace Cu
/-- The links from an item toward the root, at most n. -/
def tr (L : Ls) : Nat → ByteArray → Ls
  | 0, _ => []
  | n + 1, s => match L[ix s L]? with
    | none => []
    | some e => e :: tr L n e.pa
def trc (L : Ls) (s : ByteArray) : Ls := tr L L.length s
theorem tr_none {L : Ls} {s : ByteArray} (h : ¬ ix s L < L.length) (n : Nat) : tr L n s = [] := by
  cases n with
  | zero => rfl
  | succ n => simp [tr, h]
theorem tr_some {L : Ls} {s : ByteArray} (h : ix s L < L.length) (n : Nat) : tr L (n + 1) s = L[ix s L] :: tr L n (L[ix s L]).pa := by
  simp [tr, h]
/-- Links are in order: each item once, a parent before its children. -/
structure Ord (L : Ls) : Prop where
  one : ∀ k (hk : k < L.length), ix (L[k]).it L = k
  par : ∀ k (hk : k < L.length), (L[k]).pa ≠ ByteArray.empty → ix (L[k]).pa L < k
  ne : ¬ ix ByteArray.empty L < L.length
theorem Good.ord {L : Ls} (h : Good L) : Ord L := by
  induction h with
  | nil => exact ⟨fun k hk => (by simp at hk), fun k hk => (by simp at hk), by simp [ix]⟩
  | @snoc L x h hc hh ih =>
    have hne := (Good.snoc h hc hh).mild.ne
    refine ⟨fun k hk => ?_, fun k hk => ?_, hne⟩
    · by_cases g : k < L.length
      · rw [List.getElem_append_left g, ix_append, ih.one k g, if_pos g]
      · have e : k = L.length := by simp at hk; omega
        subst e
        simp only [List.getElem_append_right (Nat.le_refl _), Nat.sub_self, List.getElem_cons_zero]
        rw [ix_append, if_neg hc.new, if_pos rfl]
    · by_cases g : k < L.length
      · rw [List.getElem_append_left g, ix_append]
        intro hp
        have := ih.par k g hp
        rw [if_pos (by omega)]
        exact this
      · have e : k = L.length := by simp at hk; omega
        subst e
        simp only [List.getElem_append_right (Nat.le_refl _), Nat.sub_self, List.getElem_cons_zero]
        rw [ix_append]
        intro hp
        have g2 : ix x.pa L < L.length := Classical.byContradiction fun g3 => hc.nd ⟨hp, g3⟩
        rw [if_pos g2]; exact g2
theorem Ord.up {L : Ls} (h : Ord L) {s : ByteArray} (hs : ix s L < L.length) (hp : ix (L[ix s L]).pa L < L.length) : ix (L[ix s L]).pa L < ix s L :=
  h.par _ hs fun e => h.ne (by rw [e] at hp; exact hp)
theorem Ord.tr_eq {L : Ls} (h : Ord L) : ∀ (n m : Nat) (s : ByteArray), (ix s L < L.length → ix s L < n ∧ ix s L < m) → tr L n s = tr L m s
  | 0, m, s, hs => by
    by_cases g : ix s L < L.length
    · have := hs g; omega
    · rw [tr_none g, tr_none g]
  | n + 1, 0, s, hs => by
    by_cases g : ix s L < L.length
    · have := hs g; omega
    · rw [tr_none g, tr_none g]
  | n + 1, m + 1, s, hs => by
    by_cases g : ix s L < L.length
    · rw [tr_some g, tr_some g, Ord.tr_eq h n m]
      intro hp
      have := h.up g hp
      have := hs g
      omega
    · rw [tr_none g, tr_none g]
theorem trc_no {L : Ls} {s : ByteArray} (h : ¬ ix s L < L.length) : trc L s = [] := tr_none h _
theorem Ord.trc_yes {L : Ls} (h : Ord L) {s : ByteArray} (hs : ix s L < L.length) : trc L s = L[ix s L] :: trc L (L[ix s L]).pa := by
  unfold trc
  rw [h.tr_eq L.length (L.length + 1) s (fun g => ⟨g, by omega⟩), tr_some hs]
theorem tr_length (L : Ls) : ∀ n s, (tr L n s).length ≤ n
  | 0, s => Nat.le_refl _
  | n + 1, s => by
    by_cases g : ix s L < L.length
    · rw [tr_some g]; have := tr_length L n (L[ix s L]).pa; simp; omega
    · rw [tr_none g]; simp
theorem trc_length (L : Ls) (s : ByteArray) : (trc L s).length ≤ L.length := tr_length L _ s
theorem tr_mem (L : Ls) : ∀ n s, ∀ e ∈ tr L n s, e ∈ L
  | 0, s, e, he => by cases he
  | n + 1, s, e, he => by
    by_cases g : ix s L < L.length
    · rw [tr_some g] at he
      rcases List.mem_cons.1 he with rfl | he
      · exact List.getElem_mem g
      · exact tr_mem L n _ e he
    · rw [tr_none g] at he; cases he
end Cu
end Go.Proofs.YtpimmdmcmccbpaaDoor
