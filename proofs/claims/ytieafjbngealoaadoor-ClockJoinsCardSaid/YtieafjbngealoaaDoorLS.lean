/- Opening an argument that is a list of shifts. The first theorem is the guide's, turned to this seat. -/
import Derived.Test.YtieafjbngealoaaDoorL
import Derived.Test.YtieafjbngealoaaDoorYC
import Derived.Deep.Slices
import Derived.Deep.Fields
import Derived.ChangeSame
namespace Go.Proofs.YtieafjbngealoaaDoor
open Go.ChangeShapes Go.WideShapes Go.Deep
set_option linter.unusedVariables false
section
variable {H : Type} {enc : TypeId × Value → H} {P : Program} {w : World} {base : Nat} {spare : Nat → Bool} {held : Bool}
theorem open_slice_fields {t e : TypeId} {fs : Array Field} {fuel : Nat} {cs : List Value} {x : DataW H × List MemPlace} (ht : P.underlying t = some (.slice e)) (he : P.underlying e = some (.struct fs))
    (hone : oneCellFields P fs = true) (hC : P.cellsOf e = fs.size) (h : DataW.trod enc P w base spare held fuel t cs = some x) :
    (cs = [.slice none 0 0] ∧ x = (.nil, [])) ∨
    ∃ (a : Addr) (len cap m : Nat) (D : Nat → DataW H) (Pl : Nat → List MemPlace), cs = [.slice (some a) len cap] ∧ base ≤ a.block ∧ len ≤ cap ∧ cap ≤ maxLen ∧ m = (if spare a.block then cap else len) ∧
      x = (.slice ((List.range len).map D) ((List.range (m - len)).map fun j => D (len + j)), MemPlace.row a (m * fs.size) ++ (List.range m).flatMap Pl) ∧
      ∀ i, i < m → ∃ (ys : List (DataW H × List MemPlace)) (n : Nat), D i = .agg (ys.map (·.1)) ∧ Pl i = ys.flatMap (·.2) ∧ ys.length = fs.size ∧
        ∀ (j : Nat) (f : Field), fs[j]? = some f → ∃ (v : Value) (y : DataW H × List MemPlace), w.cell? (a.add (i * fs.size + j)) = some v ∧ ys[j]? = some y ∧ DataW.trod enc P w base spare held n f.type [v] = some y := by
  rcases open_slice ht h with h0 | ⟨a, len, cap, m, n, D, Pl, hcs, hb, hl, hm, hmm, hx, hi⟩
  · exact .inl h0
  · refine .inr ⟨a, len, cap, m, D, Pl, hcs, hb, hl, hm, hmm, by rw [hC] at hx; exact hx, fun i him => ?_⟩
    obtain ⟨cs', hc, ht'⟩ := hi i him
    rw [hC] at hc
    obtain ⟨ys, n', hn', hy, hlen, hyl, hf⟩ := DataW.trod_struct he ht'
    obtain ⟨_, hcl, hat⟩ := World.cells?_some hc
    simp only [Prod.mk.injEq] at hy
    refine ⟨ys, n', hy.1, hy.2, hyl, fun j f hj => ?_⟩
    obtain ⟨ho, hk⟩ := hone_of hone j f hj
    have hjl : j < fs.size := (Array.getElem?_eq_some_iff.1 hj).1
    have hcell := hat j hjl
    have hv : cs'[j]? = some (cs'[j]'(by omega)) := List.getElem?_eq_getElem (by omega)
    have h1 := hf j f hj
    rw [ho, hk] at h1
    have hone' : (cs'.drop j).take 1 = [cs'[j]'(by omega)] := by
      rw [List.drop_eq_getElem_cons (by omega)]
      rfl
    rw [hone'] at h1
    have hys : ys[j]? = some (ys[j]'(by omega)) := List.getElem?_eq_getElem (by omega)
    refine ⟨_, _, ?_, hys, h1.trans hys⟩
    rw [← Go.Deep.add_add, hcell, hv]
end
theorem add_plain (b off n : Nat) : (⟨b, off, none⟩ : Addr).add n = ⟨b, off + n, none⟩ := by
  unfold Addr.add
  split
  · rename_i h; subst h; rfl
  · rfl
theorem made_list {n : Nat} {Q : Nat → Int × Int → Prop} (h : ∀ i, i < n → ∃ q, Q i q) : ∃ S : Ck.Sh, S.length = n ∧ ∀ i (hi : i < S.length), Q i S[i] := by
  obtain ⟨f, hf⟩ := Classical.axiomOfChoice (r := fun i q => i < n → Q i q) (fun i => by
    by_cases hi : i < n
    · obtain ⟨q, hq⟩ := h i hi
      exact ⟨q, fun _ => hq⟩
    · exact ⟨(0, 0), fun g => absurd g hi⟩)
  refine ⟨(List.range n).map f, by simp, fun i hi => ?_⟩
  rw [List.getElem_map, List.getElem_range]
  exact hf i (by simpa using hi)
theorem open_shifts {H : Type} {enc : TypeId × Value → H} {w : World} {base : Nat} {spare : Nat → Bool} {held : Bool} {r : Reach} {b0 : Nat} {v : Value} {d : DataW H} {p : List MemPlace}
    (hv : Value.okWide Tryd.prog w r b0 22 v) (h : DataW.Trod enc Tryd.prog w base spare held 22 v d p) : ∃ (A : Option Addr) (S : Ck.Sh) (c : Nat), v = .slice A S.length c ∧ SlA w A S := by
  obtain ⟨a', l', c', rfl⟩ := okWide_slice Tryd.underlying22 hv
  obtain ⟨fuel, hf⟩ := h
  rcases open_slice_fields Tryd.underlying22 Tryd.underlying47 (by kernel_rfl) (by kernel_rfl) hf with ⟨h0, _⟩ | ⟨a, len, cap, m, D, Pl, hcs, _, hl, _, hm, _, hi⟩
  · simp [Value.cells] at h0
    obtain ⟨rfl, rfl, rfl⟩ := h0
    exact ⟨none, [], 0, rfl, fun g => by simp at g⟩
  · simp [Value.cells] at hcs
    obtain ⟨rfl, rfl, rfl⟩ := hcs
    have hlm : l' ≤ m := by rw [hm]; split <;> omega
    obtain ⟨S, hS, hc⟩ := made_list (n := l') (Q := fun i q => w.cell? (a.add (i * 2 + 0)) = some (.int .i64 q.1) ∧ w.cell? (a.add (i * 2 + 1)) = some (.int .i64 q.2)) (fun i hil => by
      obtain ⟨ys, n, _, _, _, hfs⟩ := hi i (by omega)
      obtain ⟨v0, y0, c0, _, t0⟩ := hfs 0 _ rfl
      obtain ⟨v1, y1, c1, _, t1⟩ := hfs 1 _ rfl
      obtain ⟨x, e0, _, _⟩ := DataW.trod_int Tryd.underlying3 t0
      obtain ⟨y, e1, _, _⟩ := DataW.trod_int Tryd.underlying3 t1
      obtain rfl : v0 = .int .i64 x := by simpa using e0
      obtain rfl : v1 = .int .i64 y := by simpa using e1
      exact ⟨(x, y), c0, c1⟩)
    subst hS
    refine ⟨some a, S, c', rfl, fun g => ?_⟩
    obtain ⟨b, off, spot⟩ := a
    have h00 := (hc 0 g).1
    have hsp : spot = none := by simpa [Addr.add] using World.cell?_spot h00
    subst hsp
    refine ⟨b, off, rfl, ?_, fun i hil => ?_⟩
    · rcases Nat.lt_or_ge b w.heap.size with q | q
      · exact q
      · exfalso
        have : w.heap[b]? = none := Array.getElem?_eq_none q
        simp [World.cell?, Addr.add, this] at h00
    · obtain ⟨g0, g1⟩ := hc i hil
      rw [add_plain] at g0 g1
      exact ⟨g0, by rw [Nat.add_assoc]; exact g1⟩
end Go.Proofs.YtieafjbngealoaaDoor
