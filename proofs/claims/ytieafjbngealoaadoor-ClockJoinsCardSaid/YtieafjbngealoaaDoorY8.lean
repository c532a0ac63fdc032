/- clock.New. -/
import Derived.Test.YtieafjbngealoaaDoorY7
import Derived.BigRegion
namespace Go.Proofs.YtieafjbngealoaaDoor
open Go.RowKit
set_option linter.unusedVariables false

/-- New's result. -/
def NwR (S : Ck.Sh) (w : World) (e : Ending) (w' : World) : Prop :=
  (Ck.chk S = 0 ∧ (∃ b, e = .returned (.tuple #[.pointer (some ⟨b, 0, none⟩), .int .i64 0]) ∧ Cal w' b S) ∨ Ck.chk S ≠ 0 ∧ e = .returned (.tuple #[.pointer none, .int .i64 (Ck.chk S)])) ∧ Below w.heap.size w w'
theorem NwR.no {S : Ck.Sh} {w w' : World} {x : Int} (h : Ck.chk S = x) (hx : x ≠ 0) (hb : Below w.heap.size w w') : NwR S w (.returned (.tuple #[.pointer none, .int .i64 x])) w' :=
  ⟨.inr ⟨by rw [h]; exact hx, by rw [h]⟩, hb⟩
theorem NwR.yes {S : Ck.Sh} {w w' : World} {b : Nat} (h : Ck.chk S = 0) (hc : Cal w' b S) (hb : Below w.heap.size w w') : NwR S w (.returned (.tuple #[.pointer (some ⟨b, 0, none⟩), .int .i64 0])) w' :=
  ⟨.inl ⟨h, b, rfl, hc⟩, hb⟩
set_option maxHeartbeats 4000000 in
theorem new_any (A : Option Addr) (c : Nat) (S : Ck.Sh) (w : World) (HA : Hid (SlA w A S)) (hl : (S.length : Int) ≤ 1000) :
    Calls Tryd.prog 15 #[.slice A S.length c] w (NwR S w) := by
  by_cases h0 : S.length = 0
  · have hres : Hid (Ck.chk S = 3) := by show _ = _; unfold Ck.chk; rw [if_pos h0]
    have h1 : ((S.length : Int) == 0) = true := by rw [beq_iff_eq]; omega
    clear h0
    go_enter Tryd.func15, Tryd.ntmps15
    go_wp2_with fail
    go_ret2
    exact NwR.no hres.out (by omega) (Below.refl _ _)
  · have h1 : ((S.length : Int) == 0) = false := by rw [beq_eq_false_iff_ne]; omega
    by_cases h21 : 21 < S.length
    · have hres : Hid (Ck.chk S = 4) := by show _ = _; unfold Ck.chk; rw [if_neg h0, if_pos h21]
      have h2 : (21 : Int) < (S.length : Int) := by omega
      clear h0 h21
      go_enter Tryd.func15, Tryd.ntmps15
      go_wp2_with fail
      go_ret2
      exact NwR.no hres.out (by omega) (Below.refl _ _)
    · have hE : Hid (Ck.chk S = Ck.ck 0 S) := by show _ = _; unfold Ck.chk; rw [if_neg h0, if_neg h21]
      have h2 : ¬ (21 : Int) < (S.length : Int) := by omega
      have hlen : S.length ≤ 21 := by omega
      clear h0 h21
      go_enter Tryd.func15, Tryd.ntmps15
      go_wp2_with fail
      go_loopw [5, 20] (fun v i wr => ∃ (k : Nat) (l : Int) (cs : Array Value), i = .int .i64 k ∧ k ≤ S.length ∧ v = .int .i64 l ∧ Hid (Ck.chk S = Ck.ck l (S.drop k)) ∧ Hid (Fil wr w.heap.size S k cs) ∧ Below w.heap.size w wr) (fun _ i _ => S.length - (intOf i).toNat)
      case atStart => exact ⟨0, 0, _, rfl, by omega, rfl, by simpa using hE, ⟨Blk.new _ _ _, rfl, rfl, fun i hi h => by omega⟩, (Below.refl _ _).alloc (Nat.le_refl _) _⟩
      case round =>
        obtain ⟨k, l, cs, rfl, hk, rfl, hR, hF, hB⟩ := hrel
        by_cases hlt : k < S.length
        · have HA2 := Lib.hid (HA.out.below hB)
          obtain ⟨b, off, rfl, hbl, hcc⟩ := HA2.out (by omega)
          obtain ⟨c0, c1⟩ := hcc k hlt
          clear hcc
          have zk : (k : Int) < (S.length : Int) := by omega
          have hdr := drop_at hlt
          have hR2 : Hid (Ck.chk S = if S[k].1 < 0 ∨ S[k].2 ≤ S[k].1 ∨ 10080 < S[k].2 then 9 else if S[k].1 < l then 11 else Ck.ck S[k].2 (S.drop (k + 1))) := by show _ = _; rw [hR.out, hdr, ck_cons]
          have hnx := fun o n => hF.out.next hlt hlen o n
          have HNX := Lib.hid hnx
          have hbw := hF.out.blk.lt
          have hf0 := hF.out.blk.frozen (k * 2)
          have hf1 := hF.out.blk.frozen (k * 2 + 1)
          obtain ⟨v0, hv0⟩ : ∃ v0, wr.cell? ⟨w.heap.size, k * 2, none⟩ = some v0 := by
            rw [hF.out.blk.cell]
            exact ⟨_, Array.getElem?_eq_getElem (by rw [hF.out.sz]; omega)⟩
          obtain ⟨v1, hv1⟩ : ∃ v0, wr.cell? ⟨w.heap.size, k * 2 + 1, none⟩ = some v0 := by
            rw [hF.out.blk.cell]
            exact ⟨_, Array.getElem?_eq_getElem (by rw [hF.out.sz]; omega)⟩
          have hszw := hB.size
          have hk21 : (k : Int) < 21 := by omega
          have hk0 : (0 : Int) ≤ (k : Int) := by omega
          clear hdr hR hnx
          generalize S[k].1 = x at *
          generalize S[k].2 = y at *
          have hBa := Lib.hid (hB.alloc hszw (.cells #[.int .i64 x, .int .i64 y] 47))
          by_cases g1 : x < 0
          · have hres : Hid (Ck.chk S = 9) := by show _ = _; rw [hR2.out, if_pos (.inl g1)]
            go_wp2_with fail
            go_ret2
            exact NwR.no hres.out (by omega) hBa.out
          · by_cases g2 : y ≤ x
            · have hres : Hid (Ck.chk S = 9) := by show _ = _; rw [hR2.out, if_pos (.inr (.inl g2))]
              go_wp2_with fail
              go_ret2
              exact NwR.no hres.out (by omega) hBa.out
            · by_cases g3 : 10080 < y
              · have hres : Hid (Ck.chk S = 9) := by show _ = _; rw [hR2.out, if_pos (.inr (.inr g3))]
                go_wp2_with fail
                go_ret2
                exact NwR.no hres.out (by omega) hBa.out
              · by_cases g4 : x < l
                · have hres : Hid (Ck.chk S = 11) := by show _ = _; rw [hR2.out, if_neg (by omega), if_pos g4]
                  go_wp2_with fail
                  go_ret2
                  exact NwR.no hres.out (by omega) hBa.out
                · have hres : Hid (Ck.chk S = Ck.ck y (S.drop (k + 1))) := by show _ = _; rw [hR2.out, if_neg (by omega), if_neg g4]
                  go_wp2_with fail
                  go_region
                  go_wp2_with fail
                  go_roundw
                  case rel =>
                    obtain ⟨cs', hF'⟩ := HNX.out (.cells #[.int .i64 x, .int .i64 y] 47) 1
                    exact ⟨k + 1, y, cs', by go_num, by omega, rfl, hres, hF', below_drewN (((hB.setCell (p := ⟨w.heap.size, k * 2, none⟩) (Nat.le_refl _) _).setCell (p := ⟨w.heap.size, k * 2 + 1, none⟩) (Nat.le_refl _) _).alloc (by simp; omega) _) 1⟩
                  case measure => simp [intOf]; omega
        · have hkl : k = S.length := by omega
          have he : S.drop k = [] := List.drop_of_length_le (by omega)
          have hres : Hid (Ck.chk S = 0) := by show _ = _; rw [hR.out, he]; rfl
          have hC : Hid (Cal wr w.heap.size S) := by
            have := hF.out
            rw [hkl] at this
            exact this.cal hlen
          go_wp2_with fail
          go_ret2
          exact NwR.yes hres.out hC.out hB
end Go.Proofs.YtieafjbngealoaaDoor
