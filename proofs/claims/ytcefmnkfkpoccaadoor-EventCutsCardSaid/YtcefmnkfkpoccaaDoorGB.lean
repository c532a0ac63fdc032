/- wire.Ints; the reference's Ints. -/
import Derived.Test.YtcefmnkfkpoccaaDoorGA
namespace Go.Proofs.YtcefmnkfkpoccaaDoor
open Go.RowKit
set_option linter.unusedVariables false
open Wi Evn
theorem int_cells {w : World} {A : Option Addr} {l : List Int} (h : SlR w A (i64c l)) {i : Nat} (hi : i < l.length) {x : Int} (hx : l[i] = x) : ∃ b off, A = some ⟨b, off, none⟩ ∧ b < w.heap.size ∧ w.cell? ⟨b, off + i, none⟩ = some (.int .i64 x) := by
  obtain ⟨b, off, e, hb, hc⟩ := h (by rw [i64c_len]; omega)
  refine ⟨b, off, e, hb, ?_⟩
  rw [hc i (by rw [i64c_len]; exact hi)]
  simp [i64c, hx]
theorem int_cell {w : World} {b off : Nat} {l : List Int} (h : SlR w (some ⟨b, off, none⟩) (i64c l)) {i : Nat} (hi : i < l.length) {x : Int} (hx : l[i] = x) : w.cell? ⟨b, off + i, none⟩ = some (.int .i64 x) := by
  obtain ⟨b', off', e, _, hc⟩ := int_cells h hi hx
  simp only [Option.some.injEq, Addr.mk.injEq, and_true] at e
  obtain ⟨rfl, rfl⟩ := e
  exact hc
/-- Numbers of an int. -/
abbrev I64 (n : Int) : Prop := -9223372036854775808 ≤ n ∧ n ≤ 9223372036854775807
theorem inL_len (n : Int) : (inL n).length ≤ 10 := (uvL_len _).2
theorem isL_take {l : List Int} {k : Nat} (h : k < l.length) : (l.take (k + 1)).flatMap inL = (l.take k).flatMap inL ++ inL l[k] := by
  rw [List.take_succ_eq_append_getElem h, List.flatMap_append]
  simp
theorem flat_le (l : List Int) : (l.flatMap inL).length ≤ 10 * l.length := by
  induction l with
  | nil => simp
  | cons a r ih =>
    have := inL_len a
    rw [List.flatMap_cons, List.length_append, List.length_cons]
    omega
theorem bat_below {T e : TypeId} {B b : Nat} {p : Value} {bs : List Value} {w w' : World} (h : Lib.BuilderAt T e B b p bs w) (hb : Below w.heap.size w w') : Lib.BuilderAt T e B b p bs w' := by
  obtain ⟨h1, v, h2, h3, h4⟩ := h
  refine ⟨h1, v, ?_, h3.kept (below_grown hb none) (by cases v.ownBlock <;> simp), h4⟩
  exact (hb.block b (Array.getElem?_eq_some_iff.1 h2).1).trans h2
theorem isb_below {T e : TypeId} {B b : Nat} {bs : List Value} {w w' : World} (h : Lib.IsBuilder T e B b bs w) (hb : Below w.heap.size w w') : Lib.IsBuilder T e B b bs w' := by
  rcases h with h | h
  · exact .inl (bat_below h hb)
  · exact .inr (bat_below h hb)
set_option maxRecDepth 100000 in
set_option maxHeartbeats 8000000 in
theorem ints_any (l : List Int) (A : Option Addr) (c : Nat) (hl : (l.length : Int) ≤ 100000) (HO : Hid (∀ x ∈ l, I64 x)) (T : ByteArray) (hT : Hid (lb (isL l) = T)) (w : World) (HS : Hid (SlR w A (i64c l))) :
    Calls Tryd.prog 32 #[.slice A l.length c] w fun e w' => e = .returned (.string T) ∧ Below w.heap.size w w' := by
  obtain ⟨U, hU⟩ : ∃ U, lb (uvL l.length) = U := ⟨_, rfl⟩
  have HU := Lib.hid hU
  have hus : U.size ≤ 10 := by rw [← hU]; exact (uvL_len l.length).2
  have HB0 : Hid (Lib.IsBuilder 85 5 w.heap.size w.heap.size [] (w.alloc (.cells #[.pointer none, .slice none 0 0] 85))) :=
    .inl ⟨Nat.le_refl _, .slice none 0 0, heap_alloc_new w _, World.ownsRow_nil _ _ _ _, by simp [Value.ownBlock]⟩
  have hal := (Below.refl w.heap.size w).alloc (Nat.le_refl _) (.cells #[.pointer none, .slice none 0 0] 85)
  have HAL := Lib.hid hal
  have hsz : w.heap.size ≤ (w.alloc (.cells #[.pointer none, .slice none 0 0] 85)).heap.size := hal.size
  clear hU hal
  go_enter Tryd.func32, Tryd.ntmps32
  go_wp2_with fail
  generalize w.alloc (.cells #[.pointer none, .slice none 0 0] 85) = w0 at *
  (with_reducible refine (uint_eq _ l.length (Lib.hid rfl) (by omega) U HU _).mono ?_)
  rintro e w1 ⟨rfl, hb⟩
  have HB1 : Hid (Lib.IsBuilder 85 5 w.heap.size w.heap.size [] w1) := isb_below HB0.out hb
  have HW1 := Lib.hid (below_old HAL.out hb)
  have hs1 := HW1.out.size
  clear hb
  go_wp2_with fail
  (with_reducible refine (bwrite_any w.heap.size w.heap.size [] U _ HB1 (by simp; omega) hs1).mono ?_)
  rintro e w2 ⟨rfl, h1, h2⟩
  have HB2 := Lib.hid h1
  have HW2 := Lib.hid (HW1.out.trans h2)
  clear h1 h2
  go_wp2_with fail
  go_loopw [13] (fun i wr => ∃ (k : Nat), i = .int .i64 k ∧ k ≤ l.length ∧ Hid (Lib.BuilderAt 85 5 w.heap.size w.heap.size (.pointer (some ⟨w.heap.size, 0, none⟩)) (Lib.byteCells (uvL l.length ++ (l.take k).flatMap inL)) wr) ∧ Hid (Below w.heap.size w wr)) (fun i _ => l.length - (intOf i).toNat)
  case atStart =>
    refine ⟨0, rfl, by omega, ?_, HW2⟩
    have := HB2.out
    rw [List.nil_append, Lib.strCells_eq, ← HU.out] at this
    show Lib.BuilderAt _ _ _ _ _ _ _
    simpa using this
  case round =>
    obtain ⟨k, rfl, hk, HB, HW⟩ := hrel
    have hsr := HW.out.size
    by_cases h : k < l.length
    · obtain ⟨x, hx⟩ : ∃ x, l[k] = x := ⟨_, rfl⟩
      obtain ⟨bb, off, hA, hbl, x0⟩ := int_cells (HS.out.below HW.out) h hx
      subst hA
      have hxr : I64 x := by rw [← hx]; exact HO.out _ (List.getElem_mem h)
      obtain ⟨V, hV⟩ : ∃ V, lb (inL x) = V := ⟨_, rfl⟩
      have HV := Lib.hid hV
      have hvs : V.size ≤ 10 := by rw [← hV]; exact inL_len x
      have HTK := Lib.hid (isL_take h)
      rw [hx] at HTK
      have zk : (k : Int) < (l.length : Int) := by omega
      clear hx hV
      go_wp2_with fail
      (with_reducible refine (int_any x hxr.1 hxr.2 V HV _).mono ?_)
      rintro e w3 ⟨rfl, hb⟩
      have HB3 : Hid (Lib.IsBuilder 85 5 w.heap.size w.heap.size (Lib.byteCells (uvL l.length ++ (l.take k).flatMap inL)) w3) := isb_below (.inr HB.out) hb
      have HW3 := Lib.hid (below_old HW.out hb)
      have hs3 := HW3.out.size
      clear hb
      have hlen : (Lib.byteCells (uvL l.length ++ (l.take k).flatMap inL)).length + V.size ≤ 140737488355328 := by
        rw [Lib.byteCells_length, List.length_append]
        have h1 := (uvL_len l.length).2
        have h2 := flat_le (l.take k)
        rw [List.length_take] at h2
        omega
      go_wp2_with fail
      (with_reducible refine (bwrite_any w.heap.size w.heap.size _ V _ HB3 hlen hs3).mono ?_)
      rintro e w4 ⟨rfl, h1, h2⟩
      have HB4 : Hid (Lib.BuilderAt 85 5 w.heap.size w.heap.size (.pointer (some ⟨w.heap.size, 0, none⟩)) (Lib.byteCells (uvL l.length ++ (l.take (k + 1)).flatMap inL)) w4) := by
        rw [Lib.strCells_eq, ← HV.out, ← Lib.byteCells_append, List.append_assoc] at h1
        show Lib.BuilderAt _ _ _ _ _ _ _
        rw [HTK.out]
        exact h1
      have HW4 := Lib.hid (HW3.out.trans h2)
      clear h1 h2 hlen
      go_wp2_with fail
      go_roundw
      case rel => exact ⟨k + 1, by go_num, by omega, HB4, HW4⟩
      case measure => simp [intOf]; omega
    · have hE : l.take k = l := List.take_of_length_le (by omega)
      rw [hE] at HB
      have zk : (l.length : Int) ≤ (k : Int) := by omega
      have HST := Lib.hid (Tryd.Builder_String_any w.heap.size w.heap.size (uvL l.length ++ l.flatMap inL) wr (.inr HB.out) hsr)
      have HTT : Hid ((⟨(uvL l.length ++ l.flatMap inL).toArray⟩ : ByteArray) = T) := hT.out
      rw [HTT.out] at HST
      clear hE
      go_wp2_with fail
      (with_reducible refine HST.out.mono ?_)
      rintro e w3 ⟨rfl, hb⟩
      have HW3 := Lib.hid (HW.out.trans hb)
      clear hb
      go_wp2_with fail
      go_ret
      exact ⟨rfl, HW3.out⟩
end Go.Proofs.YtcefmnkfkpoccaaDoor
