/- Rows of bytes that the call itself made; the string of such a row. -/
import Derived.Test.YtcefmnkfkpoccaaDoorK
import Derived.OwnWalk
import Derived.Laws.OwnMore
import Derived.Laws.AppendOwn
import Derived.Laws.BytesArg
namespace Go.Proofs.YtcefmnkfkpoccaaDoor.Zz
open Go.RowKit
set_option linter.unusedVariables false

def bvs (l : List UInt8) : List Value := l.map fun b => Value.int .u8 (b.toNat : Int)
theorem bvs_one (l : List UInt8) : ∀ u ∈ bvs l, u.oneCell' = true := by
  intro u hu
  obtain ⟨b, _, rfl⟩ := List.mem_map.1 hu
  rfl
/-- A slice of bytes of the call's own. -/
def OwnB (w : World) (B : Nat) (v : Value) (l : List UInt8) : Prop := w.ownsRow B 5 1 v l.length (bvs l)
theorem OwnB.nil (w : World) (B : Nat) : OwnB w B (.slice none 0 0) [] := World.ownsRow_nil _ _ _ _
theorem OwnB.snoc {w : World} {B : Nat} {v : Value} {l : List UInt8} {x : Int} {b : UInt8} {m : Nat} (hx : x = (b.toNat : Int)) (hm : m = l.length + 1) (h : w.ownsRow B 5 1 v m (bvs l ++ [.int .u8 x])) : OwnB w B v (l ++ [b]) := by
  subst hx
  subst hm
  unfold OwnB
  rw [List.length_append]
  unfold bvs at *
  rw [List.map_append]
  exact h
theorem OwnB.al {w : World} {B : Nat} {v : Value} {l : List UInt8} (h : OwnB w B v l) (o : Obj) : (w.alloc o).ownsRow B 5 1 v l.length (bvs l) := World.ownsRow.alloc h o
theorem OwnB.lt {w : World} {B : Nat} {v : Value} {l : List UInt8} (h : OwnB w B v l) : ∀ k, v.ownBlock = some k → B ≤ k := fun k hk => (World.ownsRow.lt h k hk).1
theorem infoByte : (Tryd.prog.info? 5).map (fun i => (i.zero, i.size, i.bytes)) = some (some (.int .u8 0), 1, 1) := by kernel_rfl
/-- The value and its cells, where there is something in the row. -/
theorem OwnB.form {w : World} {B : Nat} {v : Value} {l : List UInt8} (h : OwnB w B v l) (hl : l ≠ []) : ∃ g c, v = .slice (some ⟨g, 0, none⟩) l.length c ∧ B ≤ g ∧ g < w.heap.size ∧ ∀ j (hj : j < l.length), w.cell? ⟨g, j, none⟩ = some (.int .u8 (l[j].toNat : Int)) := by
  obtain ⟨h1, h2⟩ := h
  rcases h2 with ⟨hv, h0⟩ | ⟨g, cap, cur, hv, hg, hh, hn, hm, hs, ht⟩
  · exact absurd (List.eq_nil_of_length_eq_zero (by simpa using h0)) hl
  · refine ⟨g, cap, hv, hg, ?_, fun j hj => ?_⟩
    · rcases Nat.lt_or_ge g w.heap.size with hlt | hge
      · exact hlt
      · rw [Array.getElem?_eq_none hge] at hh; cases hh
    · rw [cell_of_row w g j cur 5 (0, 0) hh]
      have : (cur.toList.take (l.length * 1))[j]? = some (.int .u8 (l[j].toNat : Int)) := by
        rw [ht]
        simp [bvs, hj]
      rw [List.getElem?_take_of_lt (by omega)] at this
      simpa using this
/-- 'string(row)'. -/
theorem conv_row {w : World} {g c : Nat} {l : List UInt8} (hc : ∀ j (hj : j < l.length), w.cell? ⟨g, j, none⟩ = some (.int .u8 (l[j].toNat : Int))) :
    (convert 39 9 (.slice (some ⟨g, 0, none⟩) l.length c)).run Tryd.prog w = .ok (.string ⟨l.toArray⟩) w := by
  refine run_convert_bytes_back (P := Tryd.prog) w 39 9 5 ⟨g, 0, none⟩ c l Tryd.underlying39 Tryd.underlying5 Tryd.underlying9 (fun j hj => ?_)
  have : (⟨g, 0, none⟩ : Addr).add j = ⟨g, j, none⟩ := by
    unfold Addr.add
    split
    · rename_i h; subst h; rfl
    · simp
  rw [this]
  exact hc j hj
theorem conv_nil (w : World) : (convert 39 9 (.slice none 0 0)).run Tryd.prog w = .ok (.string ⟨#[]⟩) w := by kernel_rfl
end Go.Proofs.YtcefmnkfkpoccaaDoor.Zz
