/- Plain laws of links. -/
import Derived.Test.YtpimmdmcmccbpaaDoorEN
namespace Go.Proofs.YtpimmdmcmccbpaaDoor
open Go.RowKit
set_option linter.unusedVariables false
open Cu (Lk Ls)
namespace Cu
theorem Good.inv {M : Ls} (h : Good M) : ∀ L x, M = L ++ [x] → Good L ∧ Can L x ∧ x.ha = hsV L x := by
  cases h with
  | nil => intro L x e; simp at e
  | @snoc L' x' h hc hh =>
    intro L x e
    have e1 := List.append_inj' e rfl
    obtain ⟨rfl, e2⟩ := e1
    simp at e2
    subst e2
    exact ⟨h, hc, hh⟩
theorem chE_can {L : Ls} {x : Lk} (h : Can L x) : chE L x = 0 := chE_ok h.it h.new h.nd h.ti h.sp h.vo h.qu h.len
theorem Good.at_ {L : Ls} (h : Good L) {k : Nat} (hk : k < L.length) : Can (L.take k) L[k] ∧ (L[k]).ha = hsV (L.take k) L[k] :=
  ((h.take (k + 1)).inv (L.take k) L[k] (List.take_succ_eq_append_getElem hk)).2
theorem vfy_take {l : Ls} : ∀ k, k ≤ l.length → Good (l.take k) → vfy [] l 0 = vfy (l.take k) (l.drop k) k
  | 0, _, _ => by simp
  | k + 1, hk, hg => by
    have hk' : k < l.length := hk
    have hi := hg.inv (l.take k) l[k] (List.take_succ_eq_append_getElem hk')
    rw [vfy_take k (by omega) hi.1, vfy_drop hk', if_pos (chE_can hi.2.1), if_pos hi.2.2]
theorem vfy_good {l : Ls} (h : Good l) : vfy [] l 0 = (-1, 0) := by
  rw [vfy_take l.length (Nat.le_refl _) (by rw [List.take_length]; exact h), vfy_end (Nat.le_refl _)]
/-- A link that takes the place of another one. -/
theorem vfy_set {L : Ls} (h : Good L) {k : Nat} (hk : k < L.length) (y : Lk) : vfy [] (L.set k y) 0 = if chE (L.take k) y = 0 then (if y.ha = hsV (L.take k) y then vfy (L.take k ++ [y]) (L.drop (k + 1)) (k + 1) else (k, 29)) else (k, chE (L.take k) y) := by
  have e1 : (L.set k y).take k = L.take k := by rw [List.take_set_of_le (Nat.le_refl _)]
  have hk' : k < (L.set k y).length := by simpa using hk
  have e2 : (L.set k y)[k] = y := by simp
  rw [vfy_take k (by simpa using Nat.le_of_lt hk) (by rw [e1]; exact h.take k), vfy_drop hk', e1, e2]
  congr 2
  rw [List.take_succ_eq_append_getElem hk', e1, e2, List.drop_set_of_lt (by omega)]
theorem chE_again {L : Ls} {x y : Lk} (h : Can L x) (e1 : y.it = x.it) (e2 : y.pa = x.pa) (z : Lk) (e3 : z.it = x.it) : chE (L ++ [z]) y = 7 := by
  refine chE_old ?_ ?_
  · have := h.it
    unfold itB at this ⊢
    rw [e1, e2]; exact this
  · rw [ix_append, e1, if_neg h.new, if_pos e3, List.length_append]
    simp
end Cu
end Go.Proofs.YtpimmdmcmccbpaaDoor
