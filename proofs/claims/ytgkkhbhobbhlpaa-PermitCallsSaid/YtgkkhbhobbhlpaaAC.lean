/- Same; opening a list of calls; PermitFells. -/
import Derived.Test.YtgkkhbhobbhlpaaAB
namespace Go.Proofs.Ytgkkhbhobbhlpaa
open Go.RowKit Go.ChangeShapes Go.WideShapes Go.Deep
set_option linter.unusedVariables false

theorem eq_permit (w : World) (a b c d : ByteArray) : True := trivial
set_option maxHeartbeats 4000000 in
theorem same_any (A A' : Option Addr) (c c' : Nat) (R : Pt.Rg) (w : World) (HS : Hid (SlR w A (prow R))) (HS' : Hid (SlR w A' (prow R))) (hl : (R.length : Int) ≤ 100) :
    Calls Try.prog 26 #[.slice A R.length c, .slice A' R.length c'] w fun e w' => e = .returned (.bool true) ∧ Below w.heap.size w w' := by
  go_enter Try.func26, Try.ntmps26
  go_wp2_with fail
  go_loopw [5] (fun i wr => ∃ k : Nat, i = .int .i64 k ∧ k ≤ R.length ∧ Below w.heap.size w wr) (fun i _ => R.length - (intOf i).toNat)
  case atStart => exact ⟨0, rfl, by omega, Below.refl _ _⟩
  case round =>
    obtain ⟨k, rfl, hk, hB⟩ := hrel
    by_cases hlt : k < R.length
    · obtain ⟨b, off, rfl, hb, c0, c1, c2, c3, c4⟩ := (HS.out.below hB).permit hlt
      obtain ⟨b', off', rfl, hb', d0, d1, d2, d3, d4⟩ := (HS'.out.below hB).permit hlt
      have zk : (k : Int) < (R.length : Int) := by omega
      go_wp2_with fail
      go_quiet (fail)
      go_wp2_with fail
      go_roundw
      case rel => exact ⟨k + 1, by go_num, by omega, below_drewN hB _⟩
      case measure => simp [intOf]; omega
    · go_wp2_with fail
      go_ret
      exact ⟨rfl, hB⟩

section
variable {H : Type} {enc : TypeId × Value → H} {w : World} {base : Nat} {spare : Nat → Bool} {held : Bool}
theorem list7 {l : List Value} (h : l.length = 7) : ∃ a b c d e f g, l = [a, b, c, d, e, f, g] := by
  rcases l with _ | ⟨a, _ | ⟨b, _ | ⟨c, _ | ⟨d, _ | ⟨e, _ | ⟨f, _ | ⟨g, _ | ⟨i, l⟩⟩⟩⟩⟩⟩⟩⟩ <;> simp at h
  exact ⟨a, b, c, d, e, f, g, rfl⟩
set_option maxRecDepth 100000 in
theorem trod_op {fuel : Nat} {cs : List Value} {x : DataW H × List MemPlace} (h : DataW.trod enc Try.prog w base spare held fuel 34 cs = some x) :
    ∃ o : Opr, cs = ocells o ∧ o.p.id.size ≤ maxLen ∧ o.p.sp.size ≤ maxLen := by
  obtain ⟨xs, n, _, _, hlen, hxl, hf⟩ := DataW.trod_struct Try.underlying34 h
  rw [show Try.prog.cellsOf 34 = 7 by kernel_rfl] at hlen
  obtain ⟨c0, c1, c2, c3, c4, c5, c6, rfl⟩ := list7 hlen
  have at_ : ∀ i (hi : i < xs.length), xs[i]? = some xs[i] := fun i hi => List.getElem?_eq_getElem hi
  rw [show Array.size _ = 3 from rfl] at hxl
  have cP : Try.prog.cellsOf 32 = 5 := by kernel_rfl
  have cI : Try.prog.cellsOf 3 = 1 := by kernel_rfl
  have f0 : DataW.trod enc Try.prog w base spare held n 3 (([c0, c1, c2, c3, c4, c5, c6].drop 0).take (Try.prog.cellsOf 3)) = xs[0]? := hf 0 _ rfl
  have f1 : DataW.trod enc Try.prog w base spare held n 32 (([c0, c1, c2, c3, c4, c5, c6].drop 1).take (Try.prog.cellsOf 32)) = xs[1]? := hf 1 _ rfl
  have f2 : DataW.trod enc Try.prog w base spare held n 3 (([c0, c1, c2, c3, c4, c5, c6].drop 6).take (Try.prog.cellsOf 3)) = xs[2]? := hf 2 _ rfl
  rw [cI, at_ 0 (by omega)] at f0
  rw [cP, at_ 1 (by omega)] at f1
  rw [cI, at_ 2 (by omega)] at f2
  obtain ⟨i0, e0, _, g0⟩ := DataW.trod_int Try.underlying3 f0
  obtain ⟨p, e1, g1, g2, _⟩ := trod_permit f1
  obtain ⟨i2, e2, _, _⟩ := DataW.trod_int Try.underlying3 f2
  simp [pcells] at e0 e1 e2
  obtain ⟨rfl, rfl, rfl, rfl, rfl⟩ := e1
  exact ⟨⟨i0, p, i2⟩, by rw [e0, e2]; rfl, g1, g2⟩
end
theorem add_plain (b off n : Nat) : (⟨b, off, none⟩ : Addr).add n = ⟨b, off + n, none⟩ := by
  unfold Addr.add
  split
  · rename_i h; subst h; rfl
  · rfl
theorem made_ops {n : Nat} {Q : Nat → Opr → Prop} (h : ∀ i, i < n → ∃ q, Q i q) : ∃ S : List Opr, S.length = n ∧ ∀ i (hi : i < S.length), Q i S[i] := by
  obtain ⟨f, hf⟩ := Classical.axiomOfChoice (r := fun i q => i < n → Q i q) (fun i => by
    by_cases hi : i < n
    · obtain ⟨q, hq⟩ := h i hi
      exact ⟨q, fun _ => hq⟩
    · exact ⟨⟨0, default, 0⟩, fun g => absurd g hi⟩)
  refine ⟨(List.range n).map f, by simp, fun i hi => ?_⟩
  rw [List.getElem_map, List.getElem_range]
  exact hf i (by simpa using hi)
set_option maxRecDepth 100000 in
theorem open_ops {H : Type} {enc : TypeId × Value → H} {w : World} {base : Nat} {spare : Nat → Bool} {held : Bool} {r : Reach} {b0 : Nat} {v : Value} {d : DataW H} {p : List MemPlace}
    (hv : Value.okWide Try.prog w r b0 22 v) (h : DataW.Trod enc Try.prog w base spare held 22 v d p) : ∃ (A : Option Addr) (l : List Opr) (c : Nat), v = .slice A l.length c ∧ SlR w A (orow l) ∧ Sized l ∧ (l.length : Int) ≤ 9223372036854775807 := by
  obtain ⟨a', l', c', rfl⟩ := okWide_slice Try.underlying22 hv
  obtain ⟨fuel, hf⟩ := h
  rcases open_slice Try.underlying22 hf with ⟨h0, _⟩ | ⟨a, len, cap, m, n, D, Pl, hcs, _, hl, hcm, hm, _, hi⟩
  · simp [Value.cells] at h0
    obtain ⟨rfl, rfl, rfl⟩ := h0
    exact ⟨none, [], 0, rfl, fun g => by simp [orow] at g, fun i hi => by simp at hi, by simp⟩
  · simp [Value.cells] at hcs
    obtain ⟨rfl, rfl, rfl⟩ := hcs
    have hlm : l' ≤ m := by rw [hm]; split <;> omega
    have cO : Try.prog.cellsOf 34 = 7 := by kernel_rfl
    rw [cO] at hi
    obtain ⟨S, hS, hc⟩ := made_ops (n := l') (Q := fun i q => (∀ j, j < 7 → w.cell? (a.add (i * 7 + j)) = (ocells q)[j]?) ∧ q.p.id.size ≤ maxLen ∧ q.p.sp.size ≤ maxLen) (fun i hil => by
      obtain ⟨cs', hc, ht'⟩ := hi i (by omega)
      obtain ⟨o, rfl, g1, g2⟩ := trod_op ht'
      obtain ⟨_, _, hat⟩ := World.cells?_some hc
      exact ⟨o, fun j hj => by rw [← Go.Deep.add_add, hat j hj], g1, g2⟩)
    subst hS
    refine ⟨some a, S, c', rfl, fun g => ?_, fun i hi => ⟨maxI (hc i hi).2.1, maxI (hc i hi).2.2⟩, maxI (by omega)⟩
    obtain ⟨b, off, spot⟩ := a
    have hlen := orow_length S
    have h00 := (hc 0 (by omega)).1 0 (by omega)
    have hsp : spot = none := by simpa [Addr.add] using World.cell?_spot h00
    subst hsp
    refine ⟨b, off, rfl, ?_, fun j hj => ?_⟩
    · rcases Nat.lt_or_ge b w.heap.size with q | q
      · exact q
      · exfalso
        have : w.heap[b]? = none := Array.getElem?_eq_none q
        simp [World.cell?, Addr.add, this, ocells] at h00
    · have hj7 : j = j / 7 * 7 + j % 7 := by omega
      have hq : j / 7 < S.length := by omega
      have g0 := (hc (j / 7) hq).1 (j % 7) (by omega)
      rw [add_plain, ← hj7, ← orow_at S (j / 7) (j % 7) hq (by omega), ← hj7, List.getElem?_eq_getElem hj] at g0
      exact g0
end Go.Proofs.Ytgkkhbhobbhlpaa
