/- Opening an event argument: its fields, the numbers in memory. -/
import Derived.Test.YtcefmnkfkpoccaaDoorGY
import Derived.Test.YtcefmnkfkpoccaaDoorL
import Derived.Deep.Slices
import Derived.Deep.Fields
import Derived.ChangeSame
namespace Go.Proofs.YtcefmnkfkpoccaaDoor
open Go.RowKit Go.ChangeShapes Go.WideShapes Go.Deep
set_option linter.unusedVariables false
open Wi Evn
theorem maxJ {n : Nat} (h : n ≤ maxLen) : (n : Int) ≤ 9223372036854775807 := by unfold maxLen at h; omega
section
variable {H : Type} {enc : TypeId × Value → H} {w : World} {base : Nat} {spare : Nat → Bool} {held : Bool}
theorem made_ints {n : Nat} {Q : Nat → Int → Prop} (h : ∀ i, i < n → ∃ q, Q i q) : ∃ S : List Int, S.length = n ∧ ∀ i (hi : i < S.length), Q i S[i] := by
  obtain ⟨f, hf⟩ := Classical.axiomOfChoice (r := fun i q => i < n → Q i q) (fun i => by
    by_cases hi : i < n
    · obtain ⟨q, hq⟩ := h i hi
      exact ⟨q, fun _ => hq⟩
    · exact ⟨0, fun g => absurd g hi⟩)
  refine ⟨(List.range n).map f, by simp, fun i hi => ?_⟩
  rw [List.getElem_map, List.getElem_range]
  exact hf i (by simpa using hi)
theorem add_plainJ (b off n : Nat) : (⟨b, off, none⟩ : Addr).add n = ⟨b, off + n, none⟩ := by
  unfold Addr.add
  split
  · rename_i h; subst h; rfl
  · rfl
set_option maxRecDepth 100000 in
/-- A row of ints among a struct's cells. -/
theorem trod_ints {fuel : Nat} {cs : List Value} {x : DataW H × List MemPlace} (h : DataW.trod enc Tryd.prog w base spare held fuel 22 cs = some x) :
    ∃ (A : Option Addr) (l : List Int) (c : Nat), cs = [.slice A l.length c] ∧ SlR w A (i64c l) ∧ (∀ n ∈ l, I64 n) ∧ (l.length : Int) ≤ 9223372036854775807 := by
  rcases open_slice1 Tryd.underlying22 (by kernel_rfl) h with ⟨h0, _⟩ | ⟨a, len, cap, m, n, V, D, Pl, hcs, _, hl, hcm, hm, _, hi⟩
  · exact ⟨none, [], 0, h0, fun g => (by simp [i64c] at g), fun o ho => (by cases ho), by simp⟩
  · have hlm : len ≤ m := by rw [hm]; split <;> omega
    obtain ⟨S, hS, hc⟩ := made_ints (n := len) (Q := fun i q => w.cell? (a.add i) = some (.int .i64 q) ∧ I64 q) (fun i hil => by
      obtain ⟨h1, h2⟩ := hi i (by omega)
      obtain ⟨q, e, _, g⟩ := DataW.trod_int Tryd.underlying3 h2
      simp at e
      exact ⟨q, by rw [h1, e], wfB g⟩)
    subst hS
    refine ⟨some a, S, cap, hcs, fun g => ?_, fun o ho => ?_, maxJ (by omega)⟩
    · obtain ⟨b, off, spot⟩ := a
      rw [i64c_len] at g
      have h00 := (hc 0 g).1
      have hsp : spot = none := by simpa [Addr.add] using World.cell?_spot h00
      subst hsp
      refine ⟨b, off, rfl, ?_, fun j hj => ?_⟩
      · rcases Nat.lt_or_ge b w.heap.size with q | q
        · exact q
        · exfalso
          have : w.heap[b]? = none := Array.getElem?_eq_none q
          simp [World.cell?, Addr.add, this] at h00
      · have hj' : j < S.length := by rw [i64c_len] at hj; exact hj
        have g0 := (hc j hj').1
        rw [add_plainJ] at g0
        rw [g0]
        simp [i64c]
    · obtain ⟨i, hi', rfl⟩ := List.getElem_of_mem ho
      exact (hc i hi').2
set_option maxRecDepth 100000 in
theorem open_event {r : Reach} {b0 : Nat} {v : Value} {d : DataW H} {p : List MemPlace} (hv : Value.okWide Tryd.prog w r b0 24 v) (h : DataW.Trod enc Tryd.prog w base spare held 24 v d p) :
    ∃ (e : Ev) (A : Option Addr) (c : Nat), v = agE e A c ∧ EvIn e ∧ SlR w A (i64c e.nn) := by
  obtain ⟨cs, rfl, hsz⟩ := okWide_struct Tryd.underlying24 hv
  obtain ⟨fuel, hf⟩ := h
  obtain ⟨xs, n, _, _, hlen, hxl, hf⟩ := DataW.trod_struct Tryd.underlying24 hf
  rw [show Tryd.prog.cellsOf 24 = 6 by kernel_rfl] at hlen
  obtain ⟨l⟩ := cs
  simp only [Value.cells] at hlen hf
  obtain ⟨c0, c1, c2, c3, c4, c5, rfl⟩ : ∃ c0 c1 c2 c3 c4 c5, l = [c0, c1, c2, c3, c4, c5] := by
    rcases l with _ | ⟨a, _ | ⟨b, _ | ⟨c, _ | ⟨d, _ | ⟨e, _ | ⟨f, _ | ⟨j, l⟩⟩⟩⟩⟩⟩⟩ <;> simp at hlen
    exact ⟨_, _, _, _, _, _, rfl⟩
  have at_ : ∀ i (hi : i < xs.length), xs[i]? = some xs[i] := fun i hi => List.getElem?_eq_getElem hi
  rw [show Array.size _ = 6 from rfl] at hxl
  have zS : Tryd.prog.cellsOf 9 = 1 := by kernel_rfl
  have zI : Tryd.prog.cellsOf 3 = 1 := by kernel_rfl
  have zR : Tryd.prog.cellsOf 22 = 1 := by kernel_rfl
  have f0 : DataW.trod enc Tryd.prog w base spare held n 3 (([c0, c1, c2, c3, c4, c5].drop 0).take (Tryd.prog.cellsOf 3)) = xs[0]? := hf 0 _ rfl
  have f1 : DataW.trod enc Tryd.prog w base spare held n 3 (([c0, c1, c2, c3, c4, c5].drop 1).take (Tryd.prog.cellsOf 3)) = xs[1]? := hf 1 _ rfl
  have f2 : DataW.trod enc Tryd.prog w base spare held n 9 (([c0, c1, c2, c3, c4, c5].drop 2).take (Tryd.prog.cellsOf 9)) = xs[2]? := hf 2 _ rfl
  have f3 : DataW.trod enc Tryd.prog w base spare held n 9 (([c0, c1, c2, c3, c4, c5].drop 3).take (Tryd.prog.cellsOf 9)) = xs[3]? := hf 3 _ rfl
  have f4 : DataW.trod enc Tryd.prog w base spare held n 22 (([c0, c1, c2, c3, c4, c5].drop 4).take (Tryd.prog.cellsOf 22)) = xs[4]? := hf 4 _ rfl
  have f5 : DataW.trod enc Tryd.prog w base spare held n 9 (([c0, c1, c2, c3, c4, c5].drop 5).take (Tryd.prog.cellsOf 9)) = xs[5]? := hf 5 _ rfl
  rw [zI, at_ 0 (by omega)] at f0
  rw [zI, at_ 1 (by omega)] at f1
  rw [zS, at_ 2 (by omega)] at f2
  rw [zS, at_ 3 (by omega)] at f3
  rw [zR, at_ 4 (by omega)] at f4
  rw [zS, at_ 5 (by omega)] at f5
  obtain ⟨i0, e0, _, g0⟩ := DataW.trod_int Tryd.underlying3 f0
  obtain ⟨i1, e1, _, g1⟩ := DataW.trod_int Tryd.underlying3 f1
  obtain ⟨i2, e2, _, g2⟩ := DataW.trod_string Tryd.underlying9 f2
  obtain ⟨i3, e3, _, g3⟩ := DataW.trod_string Tryd.underlying9 f3
  obtain ⟨A, l, c, e4, hS, hn, hl⟩ := trod_ints f4
  obtain ⟨i5, e5, _, g5⟩ := DataW.trod_string Tryd.underlying9 f5
  simp at e0 e1 e2 e3 e4 e5
  exact ⟨⟨i0, i1, i2, i3, l, i5⟩, A, c, by rw [e0, e1, e2, e3, e4, e5], ⟨wfB g0, wfB g1, maxJ g2, maxJ g3, maxJ g5, hl, hn⟩, hS⟩
end
end Go.Proofs.YtcefmnkfkpoccaaDoor
