/- Opening the arguments of the laws about custody. -/
import Derived.Test.YtpimmdmcmccbpaaDoorGK
import Derived.Test.YtpimmdmcmccbpaaDoorL
import Derived.Deep.Slices
import Derived.Deep.Fields
import Derived.ChangeSame
namespace Go.Proofs.YtpimmdmcmccbpaaDoor
open Go.RowKit Go.ChangeShapes Go.WideShapes Go.Deep
set_option linter.unusedVariables false
open Cu (Lk Ls)
theorem maxI {n : Nat} (h : n ≤ maxLen) : (n : Int) ≤ 9223372036854775807 := by unfold maxLen at h; omega
theorem add_plain (b off n : Nat) : (⟨b, off, none⟩ : Addr).add n = ⟨b, off + n, none⟩ := by
  unfold Addr.add
  split
  · rename_i h; subst h; rfl
  · rfl
section
variable {α : Type} {k : Nat} (cells : α → List Value)
theorem flat_length (hcl : ∀ o, (cells o).length = k) : ∀ l : List α, (l.flatMap cells).length = l.length * k
  | [] => by simp
  | e :: r => by simp only [List.flatMap_cons, List.length_append, List.length_cons, hcl e, flat_length hcl r, Nat.add_mul]; omega
theorem flat_at (hcl : ∀ o, (cells o).length = k) : ∀ (l : List α) (i j : Nat) (h : i < l.length), j < k → (l.flatMap cells)[i * k + j]? = (cells l[i])[j]?
  | [], i, j, h, _ => by simp at h
  | e :: r, 0, j, h, hj => by
    rw [List.flatMap_cons, Nat.zero_mul, Nat.zero_add, List.getElem?_append_left (by rw [hcl]; exact hj)]
    rfl
  | e :: r, i + 1, j, h, hj => by
    have e1 : (i + 1) * k + j - k = i * k + j := by rw [Nat.add_mul]; omega
    rw [List.flatMap_cons, List.getElem?_append_right (by rw [hcl, Nat.add_mul]; omega), hcl, e1, flat_at hcl r i j (by simpa using h) hj]
    rfl
theorem made_list [Inhabited α] {n : Nat} {Q : Nat → α → Prop} (h : ∀ i, i < n → ∃ q, Q i q) : ∃ S : List α, S.length = n ∧ ∀ i (hi : i < S.length), Q i S[i] := by
  obtain ⟨f, hf⟩ := Classical.axiomOfChoice (r := fun i q => i < n → Q i q) (fun i => by
    by_cases hi : i < n
    · obtain ⟨q, hq⟩ := h i hi
      exact ⟨q, fun _ => hq⟩
    · exact ⟨default, fun g => absurd g hi⟩)
  refine ⟨(List.range n).map f, by simp, fun i hi => ?_⟩
  rw [List.getElem_map, List.getElem_range]
  exact hf i (by simpa using hi)
theorem open_rows [Inhabited α] {H : Type} {enc : TypeId × Value → H} {P : Program} {w : World} {base : Nat} {spare : Nat → Bool} {held : Bool} {r : Reach} {b0 : Nat} {v : Value} {d : DataW H} {p : List MemPlace} {t e : TypeId}
    (hk : 0 < k) (hcl : ∀ o, (cells o).length = k) (ht : P.underlying t = some (.slice e)) (hce : P.cellsOf e = k) (G : α → Prop)
    (hopen : ∀ fuel cs x, DataW.trod enc P w base spare held fuel e cs = some x → ∃ o, cs = cells o ∧ G o)
    (hv : Value.okWide P w r b0 t v) (h : DataW.Trod enc P w base spare held t v d p) : ∃ (A : Option Addr) (l : List α) (c : Nat), v = .slice A l.length c ∧ SlR w A (l.flatMap cells) ∧ (∀ o ∈ l, G o) ∧ l.length ≤ c ∧ (l.length : Int) ≤ 9223372036854775807 := by
  obtain ⟨a', l', c', rfl⟩ := okWide_slice ht hv
  obtain ⟨fuel, hf⟩ := h
  rcases open_slice ht hf with ⟨h0, _⟩ | ⟨a, len, cap, m, n, D, Pl, hcs, _, hl, hcm, hm, _, hi⟩
  · simp [Value.cells] at h0
    obtain ⟨rfl, rfl, rfl⟩ := h0
    exact ⟨none, [], 0, rfl, fun g => (by simp at g), fun o ho => (by cases ho), Nat.le_refl _, by simp⟩
  · simp [Value.cells] at hcs
    obtain ⟨rfl, rfl, rfl⟩ := hcs
    have hlm : l' ≤ m := by rw [hm]; split <;> omega
    rw [hce] at hi
    obtain ⟨S, hS, hc⟩ := made_list (n := l') (Q := fun i q => (∀ j, j < k → w.cell? (a.add (i * k + j)) = (cells q)[j]?) ∧ G q) (fun i hil => by
      obtain ⟨cs', hc, ht'⟩ := hi i (by omega)
      obtain ⟨o, rfl, g1⟩ := hopen _ _ _ ht'
      obtain ⟨_, _, hat⟩ := World.cells?_some hc
      exact ⟨o, fun j hj => by rw [← Go.Deep.add_add, hat j hj], g1⟩)
    subst hS
    refine ⟨some a, S, c', rfl, fun g => ?_, fun o ho => ?_, hl, maxI (by omega)⟩
    · obtain ⟨b, off, spot⟩ := a
      have hlen := flat_length cells hcl S
      rw [hlen] at g
      have hS0 : 0 < S.length := Nat.pos_of_ne_zero fun e => by rw [e, Nat.zero_mul] at g; omega
      have h00 := (hc 0 hS0).1 0 hk
      have hne : (cells S[0])[0]? = some ((cells S[0])[0]'(by rw [hcl]; exact hk)) := List.getElem?_eq_getElem _
      rw [hne] at h00
      have hsp : spot = none := by simpa [Addr.add] using World.cell?_spot h00
      subst hsp
      refine ⟨b, off, rfl, ?_, fun j hj => ?_⟩
      · rcases Nat.lt_or_ge b w.heap.size with q | q
        · exact q
        · exfalso
          have : w.heap[b]? = none := Array.getElem?_eq_none q
          simp [World.cell?, Addr.add, this] at h00
      · have hjk : j = j / k * k + j % k := by rw [Nat.mul_comm]; exact (Nat.div_add_mod j k).symm
        have hq : j / k < S.length := by rw [Nat.div_lt_iff_lt_mul hk]; omega
        have g0 := (hc (j / k) hq).1 (j % k) (Nat.mod_lt _ hk)
        rw [add_plain, ← hjk, ← flat_at cells hcl S (j / k) (j % k) hq (Nat.mod_lt _ hk), ← hjk, List.getElem?_eq_getElem hj] at g0
        exact g0
    · obtain ⟨i, hi', rfl⟩ := List.getElem_of_mem ho
      exact (hc i hi').2
end
section
variable {H : Type} {enc : TypeId × Value → H} {w : World} {base : Nat} {spare : Nat → Bool} {held : Bool}
theorem lst_link {l : List Value} (h : l.length = 6) : ∃ c0 c1 c2 c3 c4 c5, l = [c0, c1, c2, c3, c4, c5] := by
  rcases l with _ | ⟨c0, _ | ⟨c1, _ | ⟨c2, _ | ⟨c3, _ | ⟨c4, _ | ⟨c5, _ | ⟨zz, l⟩⟩⟩⟩⟩⟩⟩ <;> simp at h
  exact ⟨c0, c1, c2, c3, c4, c5, rfl⟩
set_option maxRecDepth 100000 in
theorem trod_link {fuel : Nat} {cs : List Value} {x : DataW H × List MemPlace} (h : DataW.trod enc Tryd.prog w base spare held fuel 36 cs = some x) :
    ∃ (it : ByteArray) (pa : ByteArray) (ti : Int) (vo : Int) (sp : ByteArray) (ha : Int), cs = [.string it, .string pa, .int .i64 ti, .int .i64 vo, .string sp, .int .u64 ha] ∧ it.size ≤ maxLen ∧ pa.size ≤ maxLen ∧ (Lit.int .i64 ti).wf = true ∧ (Lit.int .i64 vo).wf = true ∧ sp.size ≤ maxLen ∧ (Lit.int .u64 ha).wf = true := by
  obtain ⟨xs, n, _, _, hlen, hxl, hf⟩ := DataW.trod_struct Tryd.underlying36 h
  rw [show Tryd.prog.cellsOf 36 = 6 by kernel_rfl] at hlen
  obtain ⟨c0, c1, c2, c3, c4, c5, rfl⟩ := lst_link hlen
  have at_ : ∀ i (hi : i < xs.length), xs[i]? = some xs[i] := fun i hi => List.getElem?_eq_getElem hi
  rw [show Array.size _ = 6 from rfl] at hxl
  have z0 : Tryd.prog.cellsOf 9 = 1 := by kernel_rfl
  have z1 : Tryd.prog.cellsOf 3 = 1 := by kernel_rfl
  have z2 : Tryd.prog.cellsOf 29 = 1 := by kernel_rfl
  have f0 : DataW.trod enc Tryd.prog w base spare held n 9 (([c0, c1, c2, c3, c4, c5].drop 0).take (Tryd.prog.cellsOf 9)) = xs[0]? := hf 0 _ rfl
  have f1 : DataW.trod enc Tryd.prog w base spare held n 9 (([c0, c1, c2, c3, c4, c5].drop 1).take (Tryd.prog.cellsOf 9)) = xs[1]? := hf 1 _ rfl
  have f2 : DataW.trod enc Tryd.prog w base spare held n 3 (([c0, c1, c2, c3, c4, c5].drop 2).take (Tryd.prog.cellsOf 3)) = xs[2]? := hf 2 _ rfl
  have f3 : DataW.trod enc Tryd.prog w base spare held n 3 (([c0, c1, c2, c3, c4, c5].drop 3).take (Tryd.prog.cellsOf 3)) = xs[3]? := hf 3 _ rfl
  have f4 : DataW.trod enc Tryd.prog w base spare held n 9 (([c0, c1, c2, c3, c4, c5].drop 4).take (Tryd.prog.cellsOf 9)) = xs[4]? := hf 4 _ rfl
  have f5 : DataW.trod enc Tryd.prog w base spare held n 29 (([c0, c1, c2, c3, c4, c5].drop 5).take (Tryd.prog.cellsOf 29)) = xs[5]? := hf 5 _ rfl
  rw [z0, at_ 0 (by omega)] at f0
  rw [z0, at_ 1 (by omega)] at f1
  rw [z1, at_ 2 (by omega)] at f2
  rw [z1, at_ 3 (by omega)] at f3
  rw [z0, at_ 4 (by omega)] at f4
  rw [z2, at_ 5 (by omega)] at f5
  obtain ⟨i0, e0, _, g0⟩ := DataW.trod_string Tryd.underlying9 f0
  obtain ⟨i1, e1, _, g1⟩ := DataW.trod_string Tryd.underlying9 f1
  obtain ⟨i2, e2, _, g2⟩ := DataW.trod_int Tryd.underlying3 f2
  obtain ⟨i3, e3, _, g3⟩ := DataW.trod_int Tryd.underlying3 f3
  obtain ⟨i4, e4, _, g4⟩ := DataW.trod_string Tryd.underlying9 f4
  obtain ⟨i5, e5, _, g5⟩ := DataW.trod_int Tryd.underlying29 f5
  simp at e0 e1 e2 e3 e4 e5
  exact ⟨i0, i1, i2, i3, i4, i5, by rw [e0, e1, e2, e3, e4, e5], g0, g1, g2, g3, g4, g5⟩
set_option maxRecDepth 100000 in
theorem open_link {r : Reach} {b0 : Nat} {v : Value} {d : DataW H} {p : List MemPlace} (hv : Value.okWide Tryd.prog w r b0 36 v) (h : DataW.Trod enc Tryd.prog w base spare held 36 v d p) :
    ∃ (it : ByteArray) (pa : ByteArray) (ti : Int) (vo : Int) (sp : ByteArray) (ha : Int), v = .agg #[.string it, .string pa, .int .i64 ti, .int .i64 vo, .string sp, .int .u64 ha] ∧ it.size ≤ maxLen ∧ pa.size ≤ maxLen ∧ (Lit.int .i64 ti).wf = true ∧ (Lit.int .i64 vo).wf = true ∧ sp.size ≤ maxLen ∧ (Lit.int .u64 ha).wf = true := by
  obtain ⟨cs, rfl, hsz⟩ := okWide_struct Tryd.underlying36 hv
  obtain ⟨fuel, hf⟩ := h
  obtain ⟨it, pa, ti, vo, sp, ha, e, rest⟩ := trod_link hf
  refine ⟨it, pa, ti, vo, sp, ha, ?_, rest⟩
  obtain ⟨l⟩ := cs
  simp [Value.cells] at e
  rw [e]
theorem lst_op {l : List Value} (h : l.length = 5) : ∃ c0 c1 c2 c3 c4, l = [c0, c1, c2, c3, c4] := by
  rcases l with _ | ⟨c0, _ | ⟨c1, _ | ⟨c2, _ | ⟨c3, _ | ⟨c4, _ | ⟨zz, l⟩⟩⟩⟩⟩⟩ <;> simp at h
  exact ⟨c0, c1, c2, c3, c4, rfl⟩
set_option maxRecDepth 100000 in
theorem trod_op {fuel : Nat} {cs : List Value} {x : DataW H × List MemPlace} (h : DataW.trod enc Tryd.prog w base spare held fuel 60 cs = some x) :
    ∃ (it : ByteArray) (pa : ByteArray) (sp : ByteArray) (ti : Int) (vo : Int), cs = [.string it, .string pa, .string sp, .int .i64 ti, .int .i64 vo] ∧ it.size ≤ maxLen ∧ pa.size ≤ maxLen ∧ sp.size ≤ maxLen ∧ (Lit.int .i64 ti).wf = true ∧ (Lit.int .i64 vo).wf = true := by
  obtain ⟨xs, n, _, _, hlen, hxl, hf⟩ := DataW.trod_struct Tryd.underlying60 h
  rw [show Tryd.prog.cellsOf 60 = 5 by kernel_rfl] at hlen
  obtain ⟨c0, c1, c2, c3, c4, rfl⟩ := lst_op hlen
  have at_ : ∀ i (hi : i < xs.length), xs[i]? = some xs[i] := fun i hi => List.getElem?_eq_getElem hi
  rw [show Array.size _ = 5 from rfl] at hxl
  have z0 : Tryd.prog.cellsOf 9 = 1 := by kernel_rfl
  have z1 : Tryd.prog.cellsOf 3 = 1 := by kernel_rfl
  have f0 : DataW.trod enc Tryd.prog w base spare held n 9 (([c0, c1, c2, c3, c4].drop 0).take (Tryd.prog.cellsOf 9)) = xs[0]? := hf 0 _ rfl
  have f1 : DataW.trod enc Tryd.prog w base spare held n 9 (([c0, c1, c2, c3, c4].drop 1).take (Tryd.prog.cellsOf 9)) = xs[1]? := hf 1 _ rfl
  have f2 : DataW.trod enc Tryd.prog w base spare held n 9 (([c0, c1, c2, c3, c4].drop 2).take (Tryd.prog.cellsOf 9)) = xs[2]? := hf 2 _ rfl
  have f3 : DataW.trod enc Tryd.prog w base spare held n 3 (([c0, c1, c2, c3, c4].drop 3).take (Tryd.prog.cellsOf 3)) = xs[3]? := hf 3 _ rfl
  have f4 : DataW.trod enc Tryd.prog w base spare held n 3 (([c0, c1, c2, c3, c4].drop 4).take (Tryd.prog.cellsOf 3)) = xs[4]? := hf 4 _ rfl
  rw [z0, at_ 0 (by omega)] at f0
  rw [z0, at_ 1 (by omega)] at f1
  rw [z0, at_ 2 (by omega)] at f2
  rw [z1, at_ 3 (by omega)] at f3
  rw [z1, at_ 4 (by omega)] at f4
  obtain ⟨i0, e0, _, g0⟩ := DataW.trod_string Tryd.underlying9 f0
  obtain ⟨i1, e1, _, g1⟩ := DataW.trod_string Tryd.underlying9 f1
  obtain ⟨i2, e2, _, g2⟩ := DataW.trod_string Tryd.underlying9 f2
  obtain ⟨i3, e3, _, g3⟩ := DataW.trod_int Tryd.underlying3 f3
  obtain ⟨i4, e4, _, g4⟩ := DataW.trod_int Tryd.underlying3 f4
  simp at e0 e1 e2 e3 e4
  exact ⟨i0, i1, i2, i3, i4, by rw [e0, e1, e2, e3, e4], g0, g1, g2, g3, g4⟩
set_option maxRecDepth 100000 in
theorem open_op {r : Reach} {b0 : Nat} {v : Value} {d : DataW H} {p : List MemPlace} (hv : Value.okWide Tryd.prog w r b0 60 v) (h : DataW.Trod enc Tryd.prog w base spare held 60 v d p) :
    ∃ (it : ByteArray) (pa : ByteArray) (sp : ByteArray) (ti : Int) (vo : Int), v = .agg #[.string it, .string pa, .string sp, .int .i64 ti, .int .i64 vo] ∧ it.size ≤ maxLen ∧ pa.size ≤ maxLen ∧ sp.size ≤ maxLen ∧ (Lit.int .i64 ti).wf = true ∧ (Lit.int .i64 vo).wf = true := by
  obtain ⟨cs, rfl, hsz⟩ := okWide_struct Tryd.underlying60 hv
  obtain ⟨fuel, hf⟩ := h
  obtain ⟨it, pa, sp, ti, vo, e, rest⟩ := trod_op hf
  refine ⟨it, pa, sp, ti, vo, ?_, rest⟩
  obtain ⟨l⟩ := cs
  simp [Value.cells] at e
  rw [e]
theorem lst_claim {l : List Value} (h : l.length = 6) : ∃ c0 c1 c2 c3 c4 c5, l = [c0, c1, c2, c3, c4, c5] := by
  rcases l with _ | ⟨c0, _ | ⟨c1, _ | ⟨c2, _ | ⟨c3, _ | ⟨c4, _ | ⟨c5, _ | ⟨zz, l⟩⟩⟩⟩⟩⟩⟩ <;> simp at h
  exact ⟨c0, c1, c2, c3, c4, c5, rfl⟩
set_option maxRecDepth 100000 in
theorem trod_claim {fuel : Nat} {cs : List Value} {x : DataW H × List MemPlace} (h : DataW.trod enc Tryd.prog w base spare held fuel 27 cs = some x) :
    ∃ (a : Int) (b : Int) (c : Int) (ti : Int) (vo : Int) (o : Bool), cs = [.int .u8 a, .int .u8 b, .int .u8 c, .int .i64 ti, .int .i64 vo, .bool o] ∧ (Lit.int .u8 a).wf = true ∧ (Lit.int .u8 b).wf = true ∧ (Lit.int .u8 c).wf = true ∧ (Lit.int .i64 ti).wf = true ∧ (Lit.int .i64 vo).wf = true := by
  obtain ⟨xs, n, _, _, hlen, hxl, hf⟩ := DataW.trod_struct Tryd.underlying27 h
  rw [show Tryd.prog.cellsOf 27 = 6 by kernel_rfl] at hlen
  obtain ⟨c0, c1, c2, c3, c4, c5, rfl⟩ := lst_claim hlen
  have at_ : ∀ i (hi : i < xs.length), xs[i]? = some xs[i] := fun i hi => List.getElem?_eq_getElem hi
  rw [show Array.size _ = 6 from rfl] at hxl
  have z0 : Tryd.prog.cellsOf 5 = 1 := by kernel_rfl
  have z1 : Tryd.prog.cellsOf 3 = 1 := by kernel_rfl
  have z2 : Tryd.prog.cellsOf 4 = 1 := by kernel_rfl
  have f0 : DataW.trod enc Tryd.prog w base spare held n 5 (([c0, c1, c2, c3, c4, c5].drop 0).take (Tryd.prog.cellsOf 5)) = xs[0]? := hf 0 _ rfl
  have f1 : DataW.trod enc Tryd.prog w base spare held n 5 (([c0, c1, c2, c3, c4, c5].drop 1).take (Tryd.prog.cellsOf 5)) = xs[1]? := hf 1 _ rfl
  have f2 : DataW.trod enc Tryd.prog w base spare held n 5 (([c0, c1, c2, c3, c4, c5].drop 2).take (Tryd.prog.cellsOf 5)) = xs[2]? := hf 2 _ rfl
  have f3 : DataW.trod enc Tryd.prog w base spare held n 3 (([c0, c1, c2, c3, c4, c5].drop 3).take (Tryd.prog.cellsOf 3)) = xs[3]? := hf 3 _ rfl
  have f4 : DataW.trod enc Tryd.prog w base spare held n 3 (([c0, c1, c2, c3, c4, c5].drop 4).take (Tryd.prog.cellsOf 3)) = xs[4]? := hf 4 _ rfl
  have f5 : DataW.trod enc Tryd.prog w base spare held n 4 (([c0, c1, c2, c3, c4, c5].drop 5).take (Tryd.prog.cellsOf 4)) = xs[5]? := hf 5 _ rfl
  rw [z0, at_ 0 (by omega)] at f0
  rw [z0, at_ 1 (by omega)] at f1
  rw [z0, at_ 2 (by omega)] at f2
  rw [z1, at_ 3 (by omega)] at f3
  rw [z1, at_ 4 (by omega)] at f4
  rw [z2, at_ 5 (by omega)] at f5
  obtain ⟨i0, e0, _, g0⟩ := DataW.trod_int Tryd.underlying5 f0
  obtain ⟨i1, e1, _, g1⟩ := DataW.trod_int Tryd.underlying5 f1
  obtain ⟨i2, e2, _, g2⟩ := DataW.trod_int Tryd.underlying5 f2
  obtain ⟨i3, e3, _, g3⟩ := DataW.trod_int Tryd.underlying3 f3
  obtain ⟨i4, e4, _, g4⟩ := DataW.trod_int Tryd.underlying3 f4
  obtain ⟨i5, e5, _⟩ := DataW.trod_bool Tryd.underlying4 f5
  simp at e0 e1 e2 e3 e4 e5
  exact ⟨i0, i1, i2, i3, i4, i5, by rw [e0, e1, e2, e3, e4, e5], g0, g1, g2, g3, g4⟩
set_option maxRecDepth 100000 in
theorem open_claim {r : Reach} {b0 : Nat} {v : Value} {d : DataW H} {p : List MemPlace} (hv : Value.okWide Tryd.prog w r b0 27 v) (h : DataW.Trod enc Tryd.prog w base spare held 27 v d p) :
    ∃ (a : Int) (b : Int) (c : Int) (ti : Int) (vo : Int) (o : Bool), v = .agg #[.int .u8 a, .int .u8 b, .int .u8 c, .int .i64 ti, .int .i64 vo, .bool o] ∧ (Lit.int .u8 a).wf = true ∧ (Lit.int .u8 b).wf = true ∧ (Lit.int .u8 c).wf = true ∧ (Lit.int .i64 ti).wf = true ∧ (Lit.int .i64 vo).wf = true := by
  obtain ⟨cs, rfl, hsz⟩ := okWide_struct Tryd.underlying27 hv
  obtain ⟨fuel, hf⟩ := h
  obtain ⟨a, b, c, ti, vo, o, e, rest⟩ := trod_claim hf
  refine ⟨a, b, c, ti, vo, o, ?_, rest⟩
  obtain ⟨l⟩ := cs
  simp [Value.cells] at e
  rw [e]
instance : Inhabited Lk := ⟨⟨⟨#[]⟩, ⟨#[]⟩, 0, 0, ⟨#[]⟩, 0⟩⟩
/-- What an opened link fulfils. -/
structure LkOk (x : Lk) : Prop where
  it : (x.it.size : Int) ≤ 9223372036854775807
  pa : (x.pa.size : Int) ≤ 9223372036854775807
  sp : (x.sp.size : Int) ≤ 9223372036854775807
  t0 : -9223372036854775808 ≤ x.ti
  t1 : x.ti ≤ 9223372036854775807
  v0 : -9223372036854775808 ≤ x.vo
  v1 : x.vo ≤ 9223372036854775807
/-- An operation, as a link without a hash. -/
def ocells (x : Lk) : List Value := [.string x.it, .string x.pa, .string x.sp, .int .i64 x.ti, .int .i64 x.vo]
set_option maxRecDepth 100000 in
theorem open_links {r : Reach} {b0 : Nat} {v : Value} {d : DataW H} {p : List MemPlace} (hv : Value.okWide Tryd.prog w r b0 33 v) (h : DataW.Trod enc Tryd.prog w base spare held 33 v d p) :
    ∃ (A : Option Addr) (l : Ls) (c : Nat), v = .slice A l.length c ∧ SlR w A (lrowL l) ∧ (∀ x ∈ l, LkOk x) ∧ l.length ≤ c ∧ (l.length : Int) ≤ 9223372036854775807 :=
  open_rows lcells (by decide : 0 < 6) (fun _ => rfl) Tryd.underlying33 (by kernel_rfl) LkOk (fun fuel cs x h => by
    obtain ⟨it, pa, ti, vo, sp, ha, e, g1, g2, g3, g4, g5, g6⟩ := trod_link h
    have := wfB g3
    have := wfB g4
    exact ⟨⟨it, pa, ti, vo, sp, ha⟩, e, maxI g1, maxI g2, maxI g5, by simp only; omega, by simp only; omega, by simp only; omega, by simp only; omega⟩) hv h
set_option maxRecDepth 100000 in
theorem open_ops54 {r : Reach} {b0 : Nat} {v : Value} {d : DataW H} {p : List MemPlace} (hv : Value.okWide Tryd.prog w r b0 57 v) (h : DataW.Trod enc Tryd.prog w base spare held 57 v d p) :
    ∃ (A : Option Addr) (l : Ls) (c : Nat), v = .slice A l.length c ∧ SlR w A (l.flatMap ocells) ∧ (∀ x ∈ l, LkOk x ∧ x.ha = 0) ∧ l.length ≤ c ∧ (l.length : Int) ≤ 9223372036854775807 :=
  open_rows ocells (by decide : 0 < 5) (fun _ => rfl) Tryd.underlying57 (by kernel_rfl) (fun x => LkOk x ∧ x.ha = 0) (fun fuel cs x h => by
    obtain ⟨it, pa, sp, ti, vo, e, g1, g2, g3, g4, g5⟩ := trod_op h
    have := wfB g4
    have := wfB g5
    exact ⟨⟨it, pa, ti, vo, sp, 0⟩, e, ⟨maxI g1, maxI g2, maxI g3, by simp only; omega, by simp only; omega, by simp only; omega, by simp only; omega⟩, rfl⟩) hv h
/-- An attempt. -/
structure Clm where
  ki : Int
  ix : Int
  of_ : Int
  ti : Int
  vo : Int
  oak : Bool
instance : Inhabited Clm := ⟨⟨0, 0, 0, 0, 0, false⟩⟩
def ccells (x : Clm) : List Value := [.int .u8 x.ki, .int .u8 x.ix, .int .u8 x.of_, .int .i64 x.ti, .int .i64 x.vo, .bool x.oak]
structure ClmOk (x : Clm) : Prop where
  k0 : 0 ≤ x.ki
  k1 : x.ki ≤ 255
  i0 : 0 ≤ x.ix
  i1 : x.ix ≤ 255
  o0 : 0 ≤ x.of_
  o1 : x.of_ ≤ 255
  t0 : -9223372036854775808 ≤ x.ti
  t1 : x.ti ≤ 9223372036854775807
  v0 : -9223372036854775808 ≤ x.vo
  v1 : x.vo ≤ 9223372036854775807
theorem wfU8 {n : Int} (h : (Lit.int .u8 n).wf = true) : 0 ≤ n ∧ n ≤ 255 := by
  simp only [Lit.wf, IntKind.min, IntKind.max, IntKind.signed, IntKind.bits, Bool.and_eq_true] at h
  simp at h
  omega
set_option maxRecDepth 100000 in
theorem open_claims {r : Reach} {b0 : Nat} {v : Value} {d : DataW H} {p : List MemPlace} (hv : Value.okWide Tryd.prog w r b0 22 v) (h : DataW.Trod enc Tryd.prog w base spare held 22 v d p) :
    ∃ (A : Option Addr) (l : List Clm) (c : Nat), v = .slice A l.length c ∧ SlR w A (l.flatMap ccells) ∧ (∀ x ∈ l, ClmOk x) ∧ l.length ≤ c ∧ (l.length : Int) ≤ 9223372036854775807 :=
  open_rows ccells (by decide : 0 < 6) (fun _ => rfl) Tryd.underlying22 (by kernel_rfl) ClmOk (fun fuel cs x h => by
    obtain ⟨a, b, c, ti, vo, o, e, g1, g2, g3, g4, g5⟩ := trod_claim h
    have := wfU8 g1
    have := wfU8 g2
    have := wfU8 g3
    have := wfB g4
    have := wfB g5
    exact ⟨⟨a, b, c, ti, vo, o⟩, e, by simp only; omega, by simp only; omega, by simp only; omega, by simp only; omega, by simp only; omega, by simp only; omega, by simp only; omega, by simp only; omega, by simp only; omega, by simp only; omega⟩) hv h
set_option maxRecDepth 100000 in
theorem open_change {r : Reach} {b0 : Nat} {v : Value} {d : DataW H} {p : List MemPlace} (hv : Value.okWide Tryd.prog w r b0 68 v) (h : DataW.Trod enc Tryd.prog w base spare held 68 v d p) :
    ∃ (a f : Int) (x : Lk), v = .agg #[.int .u8 a, .int .u8 f, .string x.it, .string x.pa, .int .i64 x.ti, .int .i64 x.vo, .string x.sp, .int .u64 x.ha] ∧ (0 ≤ a ∧ a ≤ 255) ∧ (0 ≤ f ∧ f ≤ 255) ∧ LkOk x := by
  obtain ⟨cs, rfl, hsz⟩ := okWide_struct Tryd.underlying68 hv
  obtain ⟨fuel, hf⟩ := h
  obtain ⟨xs, n, _, _, hlen, hxl, hf⟩ := DataW.trod_struct Tryd.underlying68 hf
  rw [show Tryd.prog.cellsOf 68 = 8 by kernel_rfl] at hlen
  obtain ⟨l⟩ := cs
  simp only [Value.cells] at hlen hf
  obtain ⟨c0, c1, c2, c3, c4, c5, c6, c7, rfl⟩ : ∃ c0 c1 c2 c3 c4 c5 c6 c7, l = [c0, c1, c2, c3, c4, c5, c6, c7] := by
    rcases l with _ | ⟨a, _ | ⟨b, _ | ⟨c, _ | ⟨d, _ | ⟨e, _ | ⟨f, _ | ⟨g, _ | ⟨i, _ | ⟨j, l⟩⟩⟩⟩⟩⟩⟩⟩⟩ <;> simp at hlen
    exact ⟨_, _, _, _, _, _, _, _, rfl⟩
  have at_ : ∀ i (hi : i < xs.length), xs[i]? = some xs[i] := fun i hi => List.getElem?_eq_getElem hi
  rw [show Array.size _ = 3 from rfl] at hxl
  have cU : Tryd.prog.cellsOf 5 = 1 := by kernel_rfl
  have cL : Tryd.prog.cellsOf 36 = 6 := by kernel_rfl
  have f0 : DataW.trod enc Tryd.prog w base spare held n 5 (([c0, c1, c2, c3, c4, c5, c6, c7].drop 0).take (Tryd.prog.cellsOf 5)) = xs[0]? := hf 0 _ rfl
  have f1 : DataW.trod enc Tryd.prog w base spare held n 5 (([c0, c1, c2, c3, c4, c5, c6, c7].drop 1).take (Tryd.prog.cellsOf 5)) = xs[1]? := hf 1 _ rfl
  have f2 : DataW.trod enc Tryd.prog w base spare held n 36 (([c0, c1, c2, c3, c4, c5, c6, c7].drop 2).take (Tryd.prog.cellsOf 36)) = xs[2]? := hf 2 _ rfl
  rw [cU, at_ 0 (by omega)] at f0
  rw [cU, at_ 1 (by omega)] at f1
  rw [cL, at_ 2 (by omega)] at f2
  obtain ⟨a, e0, _, g0⟩ := DataW.trod_int Tryd.underlying5 f0
  obtain ⟨f, e1, _, g1⟩ := DataW.trod_int Tryd.underlying5 f1
  obtain ⟨it, pa, ti, vo, sp, ha, e2, q1, q2, q3, q4, q5, q6⟩ := trod_link f2
  have := wfB q3
  have := wfB q4
  simp at e0 e1 e2
  obtain ⟨rfl, rfl, rfl, rfl, rfl, rfl⟩ := e2
  exact ⟨a, f, ⟨it, pa, ti, vo, sp, ha⟩, by rw [e0, e1], wfU8 g0, wfU8 g1, maxI q1, maxI q2, maxI q5, by simp only; omega, by simp only; omega, by simp only; omega, by simp only; omega⟩
end
end Go.Proofs.YtpimmdmcmccbpaaDoor
