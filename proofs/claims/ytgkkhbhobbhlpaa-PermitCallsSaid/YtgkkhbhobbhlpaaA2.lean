/- The register's find: slices.IndexFunc with the closure that compares the Id. -/
import Derived.Test.YtgkkhbhobbhlpaaA1
namespace Go.Proofs.Ytgkkhbhobbhlpaa
open Go.RowKit
set_option linter.unusedVariables false

theorem seq_t {a b : ByteArray} (h : a = b) : (a.toList == b.toList) = true := by rw [h]; exact beq_self_eq_true _
theorem seq_f {a b : ByteArray} (h : ¬ a = b) : (a.toList == b.toList) = false := by
  rw [beq_eq_false_iff_ne]
  intro e
  rw [ByteArray.toList_eq, ByteArray.toList_eq] at e
  exact h (ByteArray.ext (Array.toList_inj.1 e))
set_option maxHeartbeats 1000000 in
theorem same_id (x0 x1 x2 x3 x4 : Value) (i0 id : ByteArray) (h0 : x0 = .string i0) (g : Nat) (w : World) (hg : w.cell? ⟨g, 0, none⟩ = some (.string id)) (hlt : g < w.heap.size) :
    Calls Try.prog 60 #[.agg #[x0, x1, x2, x3, x4], .pointer (some ⟨g, 0, none⟩)] w fun e w' => e = .returned (.bool (i0.toList == id.toList)) ∧ Below w.heap.size w w' := by
  subst h0
  have hc : (w.alloc (.cells #[.string i0, x1, x2, x3, x4] 32)).cell? ⟨g, 0, none⟩ = some (.string id) := by rw [World.cell?_alloc_past _ _ _ hlt]; exact hg
  go_enter Try.func60, Try.ntmps60
  go_wp2_with fail
  go_ret
  exact ⟨rfl, (Below.refl _ _).alloc (Nat.le_refl _) _⟩

/-- The cells of the i-th permit. -/
theorem SlR.permit {w : World} {A : Option Addr} {R : Pt.Rg} (h : SlR w A (prow R)) {i : Nat} (hi : i < R.length) :
    ∃ b off, A = some ⟨b, off, none⟩ ∧ b < w.heap.size ∧ w.cell? ⟨b, off + i * 5, none⟩ = some (.string (R[i]).1.id) ∧ w.cell? ⟨b, off + i * 5 + 1, none⟩ = some (.string (R[i]).1.sp) ∧
      w.cell? ⟨b, off + i * 5 + 2, none⟩ = some (.int .i64 (R[i]).1.fr) ∧ w.cell? ⟨b, off + i * 5 + 3, none⟩ = some (.int .i64 (R[i]).1.un) ∧ w.cell? ⟨b, off + i * 5 + 4, none⟩ = some (.int .i64 (R[i]).1.qu) := by
  have hl := prow_length R
  obtain ⟨b, off, e, hb, hc⟩ := h (by omega)
  have at_ : ∀ j, j < 5 → w.cell? ⟨b, off + i * 5 + j, none⟩ = (pcells (R[i]).1)[j]? := fun j hj => by
    have hlt : i * 5 + j < (prow R).length := by omega
    have e1 := prow_at R i j hi hj
    rw [List.getElem?_eq_getElem hlt] at e1
    rw [Nat.add_assoc, hc _ hlt, e1]
  exact ⟨b, off, e, hb, at_ 0 (by omega), at_ 1 (by omega), at_ 2 (by omega), at_ 3 (by omega), at_ 4 (by omega)⟩

set_option maxHeartbeats 2000000 in
theorem ixfunc (A : Option Addr) (c g : Nat) (R : Pt.Rg) (id : ByteArray) (w : World) (HS : Hid (SlR w A (prow R))) (hg : Hid (w.cell? ⟨g, 0, none⟩ = some (.string id))) (hlt : g < w.heap.size) (hl : (R.length : Int) ≤ 100) :
    Calls Try.prog 59 #[.slice A R.length c, .func (.func 60) #[] #[.pointer (some ⟨g, 0, none⟩)]] w fun e w' => e = .returned (.int .i64 (Pt.fnd id R)) ∧ Below w.heap.size w w' := by
  go_enter Try.func59, Try.ntmps59
  go_wp2_with fail
  go_loopw [8] (fun i wr => ∃ k : Nat, i = .int .i64 k ∧ k ≤ R.length ∧ Hid (∀ j (hj : j < R.length), j < k → (R[j]).1.id ≠ id) ∧ Below w.heap.size w wr) (fun i _ => R.length - (intOf i).toNat)
  case atStart => exact ⟨0, rfl, by omega, fun j _ h => absurd h (Nat.not_lt_zero _), Below.refl _ _⟩
  case round =>
    obtain ⟨k, rfl, hk, hF, hB⟩ := hrel
    by_cases hlt2 : k < R.length
    · obtain ⟨b, off, rfl, hb, c0, c1, c2, c3, c4⟩ := (HS.out.below hB).permit hlt2
      have zk : (k : Int) < (R.length : Int) := by omega
      have hg2 : wr.cell? ⟨g, 0, none⟩ = some (.string id) := (hB.cell (p := ⟨g, 0, none⟩) hlt).trans hg.out
      have hlt3 : g < wr.heap.size := Nat.lt_of_lt_of_le hlt hB.size
      obtain ⟨e, he⟩ : ∃ e, R[k] = e := ⟨_, rfl⟩
      rw [he] at c0 c1 c2 c3 c4
      by_cases hid : e.1.id = id
      · have hres : Hid (Pt.fnd id R = (k : Int)) := by
          have hx := Pt.ix_eq hlt2 (by rw [he]; exact hid) hF.out
          show _ = _
          rw [Pt.fnd_yes (by omega), hx]
        have hq := seq_t hid
        have HC := Lib.hid (same_id (.string e.1.id) (.string e.1.sp) (.int .i64 e.1.fr) (.int .i64 e.1.un) (.int .i64 e.1.qu) e.1.id id rfl g wr hg2 hlt3)
        rw [hq] at HC
        clear he hg2 hid hq
        go_wp2_with fail
        (with_reducible refine HC.out.mono ?_)
        rintro e w1 ⟨rfl, hb2⟩
        have hB2 := below_old hB hb2
        clear hb2
        go_wp2_with fail
        go_ret
        exact ⟨ret_int' hres.out.symm, hB2⟩
      · have hq := seq_f hid
        have HC := Lib.hid (same_id (.string e.1.id) (.string e.1.sp) (.int .i64 e.1.fr) (.int .i64 e.1.un) (.int .i64 e.1.qu) e.1.id id rfl g wr hg2 hlt3)
        rw [hq] at HC
        have hF2 : Hid (∀ j (hj : j < R.length), j < k + 1 → (R[j]).1.id ≠ id) := fun j hj hjk => by
          rcases Nat.lt_or_ge j k with q | q
          · exact hF.out j hj q
          · obtain rfl : j = k := by omega
            rw [he]; exact hid
        clear he hg2 hid hq
        go_wp2_with fail
        (with_reducible refine HC.out.mono ?_)
        rintro e w1 ⟨rfl, hb2⟩
        have hB2 := below_old hB hb2
        clear hb2
        go_wp2_with fail
        go_roundw
        case rel => exact ⟨k + 1, by go_num, by omega, hF2, hB2⟩
        case measure => simp [intOf]; omega
    · have hres : Hid (Pt.fnd id R = -1) := by
        show _ = _
        rw [Pt.fnd_no]
        rw [Pt.ix_none fun j hj => hF.out j hj (by omega)]; omega
      go_wp2_with fail
      go_ret
      exact ⟨ret_int' hres.out.symm, hB⟩

set_option maxHeartbeats 2000000 in
theorem find_any (r : Nat) (A : Option Addr) (c : Nat) (R : Pt.Rg) (id : ByteArray) (w : World) (HS : Hid (SlR w A (prow R))) (hr : w.cell? ⟨r, 0, none⟩ = some (.slice A R.length c)) (hrl : r < w.heap.size) (hl : (R.length : Int) ≤ 100) :
    Calls Try.prog 48 #[.pointer (some ⟨r, 0, none⟩), .string id] w fun e w' => e = .returned (.int .i64 (Pt.fnd id R)) ∧ Below w.heap.size w w' := by
  have hmf : ∀ (fn : Fn) (first cap : Array Value) (w : World), (Instr.makeFunc fn first cap).run Try.prog w = .ok (.func fn first cap) w := fun _ _ _ _ => rfl
  have hb0 : Below w.heap.size w (w.alloc (.cells #[.string id] 9)) := (Below.refl _ _).alloc (Nat.le_refl _) _
  have hr2 : (w.alloc (.cells #[.string id] 9)).cell? ⟨r, 0, none⟩ = some (.slice A R.length c) := by rw [World.cell?_alloc_past _ _ _ hrl]; exact hr
  have HC := Lib.hid (ixfunc A c w.heap.size R id (w.alloc (.cells #[.string id] 9)) (HS.out.below hb0) (by show _ = _; rw [World.cell?_alloc_at _ _ _ _ rfl]; rfl) (by simp) hl)
  have hne : r ≠ w.heap.size := by omega
  go_enter Try.func48, Try.ntmps48
  go_wp2_with fail
  (with_reducible refine HC.out.mono ?_)
  rintro e w1 ⟨rfl, hb2⟩
  go_wp2_with fail
  go_ret
  exact ⟨rfl, below_old hb0 hb2⟩
end Go.Proofs.Ytgkkhbhobbhlpaa
