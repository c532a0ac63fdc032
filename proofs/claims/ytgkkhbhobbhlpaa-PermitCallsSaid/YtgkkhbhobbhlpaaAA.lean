/- A nil register; PermitNil; opening a permit. -/
import Derived.Test.YtgkkhbhobbhlpaaA9
import Derived.Test.YtgkkhbhobbhlpaaL
import Derived.Deep.Slices
import Derived.Deep.Fields
import Derived.ChangeSame
namespace Go.Proofs.Ytgkkhbhobbhlpaa
open Go.RowKit Go.ChangeShapes Go.WideShapes Go.Deep
set_option linter.unusedVariables false

theorem list5 {l : List Value} (h : l.length = 5) : ∃ a b c d e, l = [a, b, c, d, e] := by
  rcases l with _ | ⟨a, _ | ⟨b, _ | ⟨c, _ | ⟨d, _ | ⟨e, _ | ⟨f, l⟩⟩⟩⟩⟩⟩ <;> simp at h
  exact ⟨a, b, c, d, e, rfl⟩
section
variable {H : Type} {enc : TypeId × Value → H} {w : World} {base : Nat} {spare : Nat → Bool} {held : Bool}
set_option maxRecDepth 100000 in
theorem trod_permit {fuel : Nat} {cs : List Value} {x : DataW H × List MemPlace} (h : DataW.trod enc Try.prog w base spare held fuel 32 cs = some x) :
    ∃ p : Pt.Pm, cs = pcells p ∧ p.id.size ≤ maxLen ∧ p.sp.size ≤ maxLen ∧ (Lit.int .i64 p.fr).wf = true ∧ (Lit.int .i64 p.un).wf = true ∧ (Lit.int .i64 p.qu).wf = true := by
  obtain ⟨xs, n, _, _, hlen, hxl, hf⟩ := DataW.trod_struct Try.underlying32 h
  rw [show Try.prog.cellsOf 32 = 5 by kernel_rfl] at hlen
  obtain ⟨c0, c1, c2, c3, c4, rfl⟩ := list5 hlen
  have at_ : ∀ i (hi : i < xs.length), xs[i]? = some xs[i] := fun i hi => List.getElem?_eq_getElem hi
  rw [show Array.size _ = 5 from rfl] at hxl
  have cS : Try.prog.cellsOf 9 = 1 := by kernel_rfl
  have cI : Try.prog.cellsOf 3 = 1 := by kernel_rfl
  have f0 : DataW.trod enc Try.prog w base spare held n 9 (([c0, c1, c2, c3, c4].drop 0).take (Try.prog.cellsOf 9)) = xs[0]? := hf 0 _ rfl
  have f1 : DataW.trod enc Try.prog w base spare held n 9 (([c0, c1, c2, c3, c4].drop 1).take (Try.prog.cellsOf 9)) = xs[1]? := hf 1 _ rfl
  have f2 : DataW.trod enc Try.prog w base spare held n 3 (([c0, c1, c2, c3, c4].drop 2).take (Try.prog.cellsOf 3)) = xs[2]? := hf 2 _ rfl
  have f3 : DataW.trod enc Try.prog w base spare held n 3 (([c0, c1, c2, c3, c4].drop 3).take (Try.prog.cellsOf 3)) = xs[3]? := hf 3 _ rfl
  have f4 : DataW.trod enc Try.prog w base spare held n 3 (([c0, c1, c2, c3, c4].drop 4).take (Try.prog.cellsOf 3)) = xs[4]? := hf 4 _ rfl
  rw [cS, at_ 0 (by omega)] at f0
  rw [cS, at_ 1 (by omega)] at f1
  rw [cI, at_ 2 (by omega)] at f2
  rw [cI, at_ 3 (by omega)] at f3
  rw [cI, at_ 4 (by omega)] at f4
  obtain ⟨i0, e0, _, g0⟩ := DataW.trod_string Try.underlying9 f0
  obtain ⟨i1, e1, _, g1⟩ := DataW.trod_string Try.underlying9 f1
  obtain ⟨i2, e2, _, g2⟩ := DataW.trod_int Try.underlying3 f2
  obtain ⟨i3, e3, _, g3⟩ := DataW.trod_int Try.underlying3 f3
  obtain ⟨i4, e4, _, g4⟩ := DataW.trod_int Try.underlying3 f4
  simp at e0 e1 e2 e3 e4
  exact ⟨⟨i0, i1, i2, i3, i4⟩, by rw [e0, e1, e2, e3, e4]; rfl, g0, g1, g2, g3, g4⟩
set_option maxRecDepth 100000 in
theorem open_permit {r : Reach} {b0 : Nat} {v : Value} {d : DataW H} {p : List MemPlace} (hv : Value.okWide Try.prog w r b0 32 v) (h : DataW.Trod enc Try.prog w base spare held 32 v d p) :
    ∃ p : Pt.Pm, v = .agg #[.string p.id, .string p.sp, .int .i64 p.fr, .int .i64 p.un, .int .i64 p.qu] ∧ p.id.size ≤ maxLen ∧ p.sp.size ≤ maxLen ∧ (Lit.int .i64 p.fr).wf = true ∧ (Lit.int .i64 p.un).wf = true ∧ (Lit.int .i64 p.qu).wf = true := by
  obtain ⟨cs, rfl, hsz⟩ := okWide_struct Try.underlying32 hv
  obtain ⟨fuel, hf⟩ := h
  obtain ⟨q, e, rest⟩ := trod_permit hf
  refine ⟨q, ?_, rest⟩
  obtain ⟨l⟩ := cs
  simp [Value.cells, pcells] at e
  rw [e]
end
theorem maxI {n : Nat} (h : n ≤ maxLen) : (n : Int) ≤ 9223372036854775807 := by unfold maxLen at h; omega

theorem nil_left (id : ByteArray) (w : World) : Calls Try.prog 24 #[.pointer none, .string id] w fun e w' => e = .returned (.tuple #[.int .i64 0, .bool false]) ∧ Below w.heap.size w w' := by
  go_enter Try.func24, Try.ntmps24
  go_wp2_with fail
  go_ret2
  exact ⟨rfl, Below.refl _ _⟩
theorem nil_fell (id sp : ByteArray) (t : Int) (w : World) : Calls Try.prog 22 #[.pointer none, .string id, .string sp, .int .i64 t] w fun e w' => e = .returned (.int .i64 1) ∧ Below w.heap.size w w' := by
  go_enter Try.func22, Try.ntmps22
  go_wp2_with fail
  go_ret
  exact ⟨rfl, Below.refl _ _⟩
theorem nil_use (id : ByteArray) (t : Int) (w : World) : Calls Try.prog 21 #[.pointer none, .string id, .int .i64 t] w fun e w' => e = .returned (.int .i64 1) ∧ Below w.heap.size w w' := by
  go_enter Try.func21, Try.ntmps21
  go_wp2_with fail
  go_ret
  exact ⟨rfl, Below.refl _ _⟩
theorem nil_list (w : World) : Calls Try.prog 27 #[.pointer none] w fun e w' => e = .returned (.slice none 0 0) ∧ Below w.heap.size w w' := by
  go_enter Try.func27, Try.ntmps27
  go_wp2_with fail
  go_ret
  exact ⟨rfl, Below.refl _ _⟩
theorem nil_add (p : Pt.Pm) (w : World) : Calls Try.prog 19 #[.pointer none, .agg #[.string p.id, .string p.sp, .int .i64 p.fr, .int .i64 p.un, .int .i64 p.qu]] w fun e w' => e = .returned (.int .i64 1) ∧ Below w.heap.size w w' := by
  go_enter Try.func19, Try.ntmps19
  go_wp2_with fail
  go_ret
  exact ⟨rfl, (Below.refl _ _).alloc (Nat.le_refl _) _⟩

set_option maxRecDepth 100000 in
set_option maxHeartbeats 4000000 in
theorem permitNil_walk (p : Pt.Pm) (n : Int) (w : World) : Calls Try.prog 7 #[.agg #[.string p.id, .string p.sp, .int .i64 p.fr, .int .i64 p.un, .int .i64 p.qu], .int .i64 n] w fun e w' => e = .returned (.bool true) ∧ Below w.heap.size w w' := by
  have HB : Hid (Below w.heap.size w (w.alloc (.cells #[.string p.id, .string p.sp, .int .i64 p.fr, .int .i64 p.un, .int .i64 p.qu] 32))) := (Below.refl _ _).alloc (Nat.le_refl _) _
  have HP : Hid (PBox (w.alloc (.cells #[.string p.id, .string p.sp, .int .i64 p.fr, .int .i64 p.un, .int .i64 p.qu] 32)) w.heap.size p) := Blk.new _ _ _
  go_enter Try.func7, Try.ntmps7
  go_wp2_with fail
  (with_reducible refine (nil_left _ _).mono ?_)
  rintro e w1 ⟨rfl, hb⟩
  have HB := Lib.hid (HB.out.trans (hb.mono HB.out.size))
  have HP := Lib.hid (PBox.below HP.out hb)
  clear hb
  obtain ⟨c0, c1, c2, c3, c4⟩ := HP.out.cells
  go_wp2_with fail
  clear c0 c1 c2 c3 c4
  (with_reducible refine (nil_add p _).mono ?_)
  rintro e w1 ⟨rfl, hb⟩
  have HB := Lib.hid (HB.out.trans (hb.mono HB.out.size))
  have HP := Lib.hid (PBox.below HP.out hb)
  clear hb
  obtain ⟨c0, c1, c2, c3, c4⟩ := HP.out.cells
  go_wp2_with fail
  clear c0 c1 c2 c3 c4
  (with_reducible refine (nil_fell _ _ _ _).mono ?_)
  rintro e w1 ⟨rfl, hb⟩
  have HB := Lib.hid (HB.out.trans (hb.mono HB.out.size))
  have HP := Lib.hid (PBox.below HP.out hb)
  clear hb
  obtain ⟨c0, c1, c2, c3, c4⟩ := HP.out.cells
  go_wp2_with fail
  clear c0 c1 c2 c3 c4
  (with_reducible refine (nil_use _ _ _).mono ?_)
  rintro e w1 ⟨rfl, hb⟩
  have HB := Lib.hid (HB.out.trans (hb.mono HB.out.size))
  have HP := Lib.hid (PBox.below HP.out hb)
  clear hb
  obtain ⟨c0, c1, c2, c3, c4⟩ := HP.out.cells
  go_wp2_with fail
  clear c0 c1 c2 c3 c4
  (with_reducible refine (nil_list _).mono ?_)
  rintro e w1 ⟨rfl, hb⟩
  have HB := Lib.hid (HB.out.trans (hb.mono HB.out.size))
  have HP := Lib.hid (PBox.below HP.out hb)
  clear hb
  obtain ⟨c0, c1, c2, c3, c4⟩ := HP.out.cells
  go_wp2_with fail
  clear c0 c1 c2 c3 c4
  (with_reducible refine (awake_any _).mono ?_)
  rintro e w1 ⟨rfl, hb⟩
  have HB := Lib.hid (HB.out.trans (hb.mono HB.out.size))
  have HP := Lib.hid (PBox.below HP.out hb)
  clear hb
  obtain ⟨c0, c1, c2, c3, c4⟩ := HP.out.cells
  go_wp2_with fail
  clear c0 c1 c2 c3 c4
  go_ret
  exact ⟨rfl, HB.out⟩
end Go.Proofs.Ytgkkhbhobbhlpaa
