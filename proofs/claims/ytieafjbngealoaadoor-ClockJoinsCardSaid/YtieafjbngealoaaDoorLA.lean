/- Opening an argument that is an array of three ints. -/
import Derived.Test.YtieafjbngealoaaDoorL
namespace Go.Proofs.YtieafjbngealoaaDoor
open Go.ChangeShapes Go.WideShapes Go.ChangeAt Go.RowKit Go.Joins
set_option linter.unusedVariables false
section
variable {H : Type} {enc : TypeId × Value → H} {P : Program} {w : World} {base : Nat} {spare : Nat → Bool} {held : Bool}
theorem open_arr3 {r : Reach} {b0 : Nat} {t e : TypeId} {v : Value} {d : DataW H} {p : List MemPlace} (ht : P.underlying t = some (.array 3 e)) (he : P.underlying e = some (.int .i64)) (hC : P.cellsOf t = 3) (hE : P.cellsOf e = 1)
    (hv : Value.okWide P w r b0 t v) (h : DataW.Trod enc P w base spare held t v d p) :
    ∃ x y z : Int, v = .agg #[.int .i64 x, .int .i64 y, .int .i64 z] ∧ (Lit.int .i64 x).wf = true ∧ (Lit.int .i64 y).wf = true ∧ (Lit.int .i64 z).wf = true := by
  obtain ⟨cs, rfl, hsz⟩ := okWide_array' ht hv
  obtain ⟨l⟩ := cs
  match l, hsz.trans hC with
  | [c0, c1, c2], _ =>
    obtain ⟨fuel, hf⟩ := h
    obtain ⟨xs, m, _, hx, _, hlen, hg⟩ := DataW.trod_array ht hf
    have g0 := hg 0 (by omega)
    have g1 := hg 1 (by omega)
    have g2 := hg 2 (by omega)
    match xs, hlen with
    | [y0, y1, y2], _ =>
      simp [hE, Value.cells] at g0 g1 g2
      obtain ⟨x, e0, _, w0⟩ := DataW.trod_int he g0
      obtain ⟨y, e1, _, w1⟩ := DataW.trod_int he g1
      obtain ⟨z, e2, _, w2⟩ := DataW.trod_int he g2
      simp at e0 e1 e2
      exact ⟨x, y, z, by rw [e0, e1, e2], w0, w1, w2⟩
end
end Go.Proofs.YtieafjbngealoaaDoor
