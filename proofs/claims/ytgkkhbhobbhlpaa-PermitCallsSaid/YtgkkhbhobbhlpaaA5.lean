/- Add of package permit. -/
import Derived.Test.YtgkkhbhobbhlpaaA4
import Derived.RegionTactic
import Derived.ChangeAlike
namespace Go.Proofs.Ytgkkhbhobbhlpaa
open Go.RowKit
set_option linter.unusedVariables false

theorem step_grows_c {P : Program} {ops : Array Oper} {o : Oper} {a : Act} {w : World} {K : Act → World → Prop} {Q : Exit → Act → World → Prop} {E : Prop}
    (hg : o.guard = none) (s x : Operand) (t : TypeId) (hop : o.op = Op.call { callee := Callee.builtin Builtin.append, args := #[s, x], argTypes := #[t, t] })
    (e : TypeId) (z : Value) (size bytes : Nat) (h1 : P.underlying t = some (.slice e)) (hinfo : (P.info? e).map (fun i => (i.zero, i.size, i.bytes)) = some (some z, size, bytes)) (h6 : z.cells.size = size) (h7 : 0 < size)
    (ao : Option Addr) (n cap : Nat) (olds : List Value) (hs : a.eval s = .slice ao n cap) (hnone : ao = none → n = 0 ∧ cap = 0) (hlo : olds.length = n * size) (holds : ∀ b, ao = some b → ∀ j u, olds[j]? = some u → w.cell? (b.add j) = some u)
    (ad : Addr) (m c : Nat) (news : List Value) (hx : a.eval x = .slice (some ad) m c) (hn : news.length = m * size) (hc : ∀ j u, news[j]? = some u → w.cell? (ad.add j) = some u) (h1c : ∀ u ∈ news, u.oneCell' = true)
    (hfull : cap < n + m) (b1 : n + m ≤ maxLen) (b2 : (n + m) * bytes ≤ 140737488355328)
    (hK : ∀ v' w', w'.ownsRow w.heap.size e size v' (n + m) (olds ++ news) → w.grownBy w' none → K (a.put o.dst v') w') :
    if Region.wanted o (yielded ops a.tmps) = true then Oper.wp P o a w K Q else E := by
  obtain ⟨i0, hi, hz0, hz1, hz2⟩ := info_parts hinfo
  exact step_append_grows hg s x t hop e i0 z size bytes h1 hi hz0 hz1 hz2 h6 h7 ao n cap olds hs hnone hlo holds ad m c news hx hn hc h1c hfull b1 b2 hK
theorem wpList_grows_c {P : Program} {w : World} {ops : Array Oper} {rest : List Oper} {o : Oper} {a : Act} {Q : Exit → Act → World → Prop}
    (hg : o.guard = none) (s x : Operand) (t : TypeId) (hop : o.op = Op.call { callee := Callee.builtin Builtin.append, args := #[s, x], argTypes := #[t, t] })
    (e : TypeId) (z : Value) (size bytes : Nat) (h1 : P.underlying t = some (.slice e)) (hinfo : (P.info? e).map (fun i => (i.zero, i.size, i.bytes)) = some (some z, size, bytes)) (h6 : z.cells.size = size) (h7 : 0 < size)
    (ao : Option Addr) (n cap : Nat) (olds : List Value) (hs : a.eval s = .slice ao n cap) (hnone : ao = none → n = 0 ∧ cap = 0) (hlo : olds.length = n * size) (holds : ∀ b, ao = some b → ∀ j u, olds[j]? = some u → w.cell? (b.add j) = some u)
    (ad : Addr) (m c : Nat) (news : List Value) (hx : a.eval x = .slice (some ad) m c) (hn : news.length = m * size) (hc : ∀ j u, news[j]? = some u → w.cell? (ad.add j) = some u) (h1c : ∀ u ∈ news, u.oneCell' = true)
    (hfull : cap < n + m) (b1 : n + m ≤ maxLen) (b2 : (n + m) * bytes ≤ 140737488355328)
    (hK : ∀ v' w', w'.ownsRow w.heap.size e size v' (n + m) (olds ++ news) → w.grownBy w' none → wpList P ops Q rest (a.put o.dst v') w') :
    wpList P ops Q (o :: rest) a w := by
  obtain ⟨i0, hi, hz0, hz1, hz2⟩ := info_parts hinfo
  exact wpList_append_grows w hg s x t hop e i0 z size bytes h1 hi hz0 hz1 hz2 h6 h7 ao n cap olds hs hnone hlo holds ad m c news hx hn hc h1c hfull b1 b2 hK

/-- A row's facts for an append that grows. -/
structure RowIs (w : World) (ao : Option Addr) (n k : Nat) (xs : List Value) : Prop where
  none_ : ao = none → n = 0
  len : xs.length = n * k
  cells : ∀ b, ao = some b → ∀ j u, xs[j]? = some u → w.cell? (b.add j) = some u
  lt : ∀ b, ao = some b → b.block < w.heap.size
theorem RowIs.of {w : World} {B : Nat} {t : TypeId} {k n : Nat} {v : Value} {xs : List Value} (h : w.ownsRow B t k v n xs) : ∃ ao c, v = .slice ao n c ∧ n ≤ c ∧ RowIs w ao n k xs := by
  rcases h.2 with ⟨rfl, rfl⟩ | ⟨g, cap, cur, rfl, hb, hg, h1, h2, h3, h4⟩
  · exact ⟨none, 0, rfl, Nat.le_refl _, fun _ => rfl, h.1, fun b hb => (by cases hb), fun b hb => (by cases hb)⟩
  · refine ⟨some ⟨g, 0, none⟩, cap, rfl, h1, fun e => (by cases e), h.1, fun b e => ?_, fun b e => ?_⟩
    · cases e; exact h.cells rfl
    · cases e; exact (Array.getElem?_eq_some_iff.1 hg).1
theorem RowIs.in_ {w w' : World} {ao : Option Addr} {n k : Nat} {xs : List Value} (h : RowIs w ao n k xs) (hb : Below w.heap.size w w') : ∀ b, ao = some b → ∀ j u, xs[j]? = some u → w'.cell? (b.add j) = some u := fun b e j u hu => by
  rw [hb.cell (by have := h.lt b e; unfold Addr.add; split <;> exact this)]
  exact h.cells b e j u hu
theorem RowIs.caps {w : World} {ao : Option Addr} {n k : Nat} {xs : List Value} (h : RowIs w ao n k xs) : ao = none → n = 0 ∧ n = 0 := fun e => ⟨h.none_ e, h.none_ e⟩
end Go.Proofs.Ytgkkhbhobbhlpaa
