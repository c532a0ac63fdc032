/- Links in memory; a map from strings to numbers. -/
import Derived.Test.YtpimmdmcmccbpaaDoorE3
import Derived.Maps.OwnSet
namespace Go.Proofs.YtpimmdmcmccbpaaDoor
open Go.RowKit Go.ChangeMaps Go.WideMaps Go.WideElems
set_option linter.unusedVariables false

theorem key9 : Maps.Keyed Tryd.prog 9 := Maps.string_keyed Tryd.underlying9
theorem zeroI (w : World) : (zeroValue 3).run Tryd.prog w = .ok (.int .i64 0) w := by kernel_rfl
def kS (s : ByteArray) : Lit := .string s.data.toList
theorem kS_inj {s t : ByteArray} (h : kS s = kS t) : s = t := by
  unfold kS at h
  simp only [Lit.string.injEq] at h
  exact ByteArray.ext (Array.toList_inj.1 h)
theorem kS_of (s : ByteArray) (h : s.size ≤ maxLen) : keyOf Tryd.prog 9 (.string s) = some (kS s) := keyOf_string_mk Tryd.underlying9 h
/-- Block b is a map that holds what f tells, at most n entries. -/
def MapIs (w : World) (b n : Nat) (f : ByteArray → Option Int) : Prop :=
  ∃ D : DataW Unit, w.ownsMap Tryd.prog 9 (plainElem Tryd.prog 3) b n D ∧ ∀ s : ByteArray, s.size ≤ maxLen → Maps.has D (kS s) = (f s).isSome ∧ D.atKey (kS s) (.lit (.int .i64 0)) = .lit (.int .i64 ((f s).getD 0))
section
variable {w w' : World} {b n : Nat} {f : ByteArray → Option Int}
theorem MapIs.made (w : World) : MapIs (w.alloc (.map #[] 0)) w.heap.size 0 (fun _ => none) :=
  ⟨.map [], World.ownsMap_made _ _ _ _, fun s _ => ⟨rfl, rfl⟩⟩
theorem MapIs.kept {row : Option Nat} (h : MapIs w b n f) (hg : w.grownBy w' row) (hne : some b ≠ row) : MapIs w' b n f := by
  obtain ⟨D, h1, h2⟩ := h
  exact ⟨D, h1.kept hg hne, h2⟩
theorem MapIs.below (h : MapIs w b n f) (hb : Below w.heap.size w w') : MapIs w' b n f := h.kept ⟨hb.os, hb.tape, hb.output, hb.size, fun k hk _ => hb.block k hk⟩ (row := none) (by simp)
theorem MapIs.lt (h : MapIs w b n f) : b < w.heap.size := by obtain ⟨D, h1, _⟩ := h; exact h1.lt
theorem MapIs.look (h : MapIs w b n f) (s : ByteArray) (hs : s.size ≤ maxLen) : (Instr.lookup 80 (.map (some b)) (.string s) true).run Tryd.prog w = .ok (.tuple #[.int .i64 ((f s).getD 0), .bool (f s).isSome]) w := by
  obtain ⟨D, h1, h2⟩ := h
  obtain ⟨v, ps, hrun, hv⟩ := h1.look_ok key9 Tryd.underlying80 (zeroI w) (plainElem_int Tryd.underlying3 (by decide)) (kS_of s hs)
  rw [(h2 s hs).2] at hv
  obtain ⟨c, rfl, hc, _⟩ := plainElem_int_inv Tryd.underlying3 hv
  simp only [Prod.mk.injEq, DataW.lit.injEq, Lit.int.injEq, true_and] at hc
  rw [hrun, (h2 s hs).1, ← hc.1]
theorem MapIs.get (h : MapIs w b n f) (s : ByteArray) (hs : s.size ≤ maxLen) : (Instr.lookup 80 (.map (some b)) (.string s) false).run Tryd.prog w = .ok (.int .i64 ((f s).getD 0)) w := by
  obtain ⟨D, h1, h2⟩ := h
  obtain ⟨c, hrun, hat, _⟩ := h1.lookup_int key9 Tryd.underlying80 Tryd.underlying3 (zeroI w) (kS_of s hs)
  rw [(h2 s hs).2] at hat
  simp only [DataW.lit.injEq, Lit.int.injEq, true_and] at hat
  rw [hrun, hat]
theorem wpList_put {ops : Array Oper} {rest : List Oper} {o : Oper} {a : Act} {Q : Exit → Act → World → Prop} (h : MapIs w b n f) (hg : o.guard = none) (m x v : Operand) (hop : o.op = Op.mapUpdate 80 m x v)
    (hm : a.eval m = .map (some b)) (hn : n < maxLen) (s : ByteArray) (hs : s.size ≤ maxLen) (y : Int) (hy : (Lit.int .i64 y).wf = true) (hx : a.eval x = .string s) (hv : a.eval v = .int .i64 y)
    (hK : ∀ w', MapIs w' b (n + 1) (fun t => if t = s then some y else f t) → w.grownBy w' (some b) → wpList Tryd.prog ops Q rest (a.put o.dst undef) w') : wpList Tryd.prog ops Q (o :: rest) a w := by
  obtain ⟨D, h1, h2⟩ := h
  refine wpList_mapUpdate_own w hg m x v 80 hop 9 3 key9 Tryd.underlying80 _ b n D hm h1 hn _ _ (kS s) hx hv (kS_of s hs) _ [] (plainElem_int Tryd.underlying3 hy) fun w' h3 h4 => hK w' ⟨_, h3, fun t ht => ?_⟩ h4
  have hD := h1.isMap
  by_cases hts : t = s
  · subst hts
    rw [Maps.has_put_same hD (by trivial), Maps.atKey_put_same hD (by trivial)]
    simp
  · have hne : kS t ≠ kS s := fun e => hts (kS_inj e)
    rw [Maps.has_put_other hne, Maps.atKey_put_other hne]
    simp only [if_neg hts]
    exact h2 t ht
end
end Go.Proofs.YtpimmdmcmccbpaaDoor
