/- Package clock: number, pair. -/
import Derived.Test.YtieafjbngealoaaDoorY9
namespace Go.Proofs.YtieafjbngealoaaDoor
open Go.RowKit
set_option linter.unusedVariables false

theorem rune_low (s : ByteArray) (pos : Nat) (h : pos < s.size) (hb : bt s pos < 128) (w : World) (ty : TypeId) :
    (Instr.next (.pointer (some ⟨w.heap.size, 0, none⟩)) true ty).run Tryd.prog (w.iter s pos) = .ok (.tuple #[.bool true, .int .i64 pos, .int .i32 (bt s pos)]) (w.iter s (pos + 1)) := by
  have e := bt_get s pos h
  rw [run_next_ascii (P := Tryd.prog) w s pos ty h (by omega), ← e]
theorem rune_high (s : ByteArray) (pos : Nat) (h : pos < s.size) (hb : ¬ bt s pos < 128) : ∃ (x : Int) (d : Nat), 128 ≤ x ∧ x ≤ 2147483647 ∧ ∀ (w : World) (ty : TypeId),
    (Instr.next (.pointer (some ⟨w.heap.size, 0, none⟩)) true ty).run Tryd.prog (w.iter s pos) = .ok (.tuple #[.bool true, .int .i64 pos, .int .i32 x]) (w.iter s (pos + d)) := by
  have e := bt_get s pos h
  have h1 := decode_high s pos h (by omega)
  have h2 := decode_le s pos
  exact ⟨((Utf8.decode s pos).1 : Int), (Utf8.decode s pos).2, by omega, by omega, fun w ty => run_next_any (P := Tryd.prog) w s pos ty h⟩

def nmV (L : List UInt8) : Int := if Ck.dyB L then (Un.valL L : Int) else 0
def NmR (s : ByteArray) (w : World) (e : Ending) (w' : World) : Prop := e = .returned (.tuple #[.int .i64 (nmV s.data.toList), .bool (Ck.dyB s.data.toList)]) ∧ Below w.heap.size w w'
theorem NmR.no {s : ByteArray} {w w' : World} (h : Ck.dyB s.data.toList = false) (hb : Below w.heap.size w w') : NmR s w (.returned (.tuple #[.int .i64 0, .bool false])) w' := by
  refine ⟨?_, hb⟩
  unfold nmV
  rw [h]
  rfl
theorem NmR.yes {s : ByteArray} {w w' : World} {v : Int} (h : Ck.dyB s.data.toList = true) (hv : (Un.valL s.data.toList : Int) = v) (hb : Below w.heap.size w w') : NmR s w (.returned (.tuple #[.int .i64 v, .bool true])) w' := by
  refine ⟨?_, hb⟩
  unfold nmV
  rw [h, hv]
  rfl
theorem dy_form {L : List UInt8} (h : Un.frB L 0 = false) : Ck.dyB L = false := by unfold Ck.dyB; rw [h]; rfl
theorem dy_great {L : List UInt8} (h : 1099511627776 < Un.valL L) : Ck.dyB L = false := by
  unfold Ck.dyB
  rw [decide_eq_false (show ¬ Un.valL L ≤ 1099511627776 by omega), Bool.and_false]
theorem iter_below {w wr : World} (h : Below w.heap.size w wr) (s : ByteArray) (p : Nat) : Below w.heap.size w (wr.iter s p) := h.alloc h.size _
theorem frl_zero (L : List UInt8) : Un.frL L 0 = L := by simp [Un.frL]
set_option maxRecDepth 100000 in
set_option maxHeartbeats 4000000 in
theorem number_any (s : ByteArray) (w : World) (hs : (s.size : Int) ≤ 9223372036854775807) : Calls Tryd.prog 38 #[.string s] w (NmR s w) := by
  have hll := list_len s
  have hhd : Un.hd s.data.toList 0 = s.size := by simp [Un.hd, hll]
  by_cases h0 : s.size = 0
  · have hno := Lib.hid (dy_form (fr_none (L := s.data.toList) (k := 0) (.inl (by rw [hhd]; omega))))
    have he := toList_none h0
    clear h0 hll hhd
    go_enter Tryd.func38, Tryd.ntmps38
    go_wp2_with fail
    go_ret2
    exact NmR.no hno.out (Below.refl _ _)
  · obtain ⟨he1, he2⟩ := toList_some h0
    have z2 : 0 < s.size := by omega
    have z3 : (0 : Int) < (s.size : Int) := by omega
    have hg := bt_get s 0 z2
    have hr0 := bt_range s 0
    obtain ⟨c, hc⟩ : ∃ c, bt s 0 = c := ⟨_, rfl⟩
    rw [hc] at hg hr0
    have HC := Lib.hid hc
    clear hc
    by_cases q1 : (1 : Int) < (s.size : Int)
    · by_cases q : c = 48
      · have q2 : (c == 48) = true := by simp [q]
        have hno := Lib.hid (dy_form (fr_none (L := s.data.toList) (k := 0) (.inr (.inr ⟨by rw [hhd]; omega, (bt_eq (n := 48) (by omega)).1 (by rw [HC.out, q]; rfl)⟩))))
        clear q hhd hll h0
        go_enter Tryd.func38, Tryd.ntmps38
        go_wp2_with fail
        go_ret2
        exact NmR.no hno.out (Below.refl _ _)
      · have q2 : (c == 48) = false := by simpa using q
        have HF := Lib.hid (fr_all (L := s.data.toList) (k := 0) (by rw [hhd]; omega) (.inl rfl) (fun g => q (by rw [← HC.out]; exact (bt_eq (n := 48) (by omega)).2 g.2)))
        clear q hhd hll h0
        go_enter Tryd.func38, Tryd.ntmps38
        go_wp2_with fail
        go_loopw [4] (fun n wr => ∃ p : Nat, wr = w.iter s p ∧ p ≤ s.size ∧ n = .int .i64 (vl s p) ∧ vl s p ≤ 1099511627776 ∧ Hid (∀ j, j < p → 48 ≤ bt s j ∧ bt s j ≤ 57)) (fun _ wr => s.size - wr.iterPos w.heap.size)
        case atStart => exact ⟨0, rfl, by omega, by rw [vl_zero], by rw [vl_zero]; omega, fun j hj => by omega⟩
        case round =>
          obtain ⟨p, rfl, hp, rfl, hv1, hall⟩ := hrel
          have hv0 := (vl_le s p).1
          by_cases hlt : p < s.size
          · have hr := bt_range s p
            by_cases hasc : bt s p < 128
            · have hnx := fun ty => rune_low s p hlt hasc w ty
              by_cases hd : 48 ≤ bt s p ∧ bt s p ≤ 57
              · have hst := Lib.hid (vl_step hlt hd)
                have hle := Lib.hid (vl_le s (p + 1)).2
                have hn : Hid (∀ j, j < p + 1 → 48 ≤ bt s j ∧ bt s j ≤ 57) := fun j hj => by
                  rcases Nat.lt_or_ge j p with h | h
                  · exact hall.out j h
                  · obtain rfl : j = p := by omega
                    exact hd
                generalize bt s p = x at *
                generalize vl s p = v at *
                by_cases g : 1099511627776 < 10 * v + (x - 48)
                · have hno : Hid (Ck.dyB s.data.toList = false) := dy_great (by have := hst.out; have := hle.out; omega)
                  go_wp2_with fail
                  go_ret2
                  exact NmR.no hno.out (iter_below (Below.refl _ _) _ _)
                · go_wp2_with fail
                  go_roundw
                  case rel => exact ⟨p + 1, rfl, by omega, by rw [hst.out]; go_num, by rw [hst.out]; omega, hn⟩
                  case measure => simp; omega
              · have hno : Hid (Ck.dyB s.data.toList = false) := by
                  show _ = _
                  refine dy_form ?_
                  rw [HF.out, frl_zero]
                  exact all_no hlt hd
                generalize bt s p = x at *
                generalize vl s p = v at *
                by_cases g1 : x < 48
                · clear hd
                  go_wp2_with fail
                  go_ret2
                  exact NmR.no hno.out (iter_below (Below.refl _ _) _ _)
                · have g2 : 57 < x := by omega
                  clear hd
                  go_wp2_with fail
                  go_ret2
                  exact NmR.no hno.out (iter_below (Below.refl _ _) _ _)
            · have hno : Hid (Ck.dyB s.data.toList = false) := by
                show _ = _
                refine dy_form ?_
                rw [HF.out, frl_zero]
                exact all_no hlt (by omega)
              obtain ⟨x, d, hx1, hx2, hnx0⟩ := rune_high s p hlt hasc
              have hnx := fun ty => hnx0 w ty
              clear hnx0 hasc hr
              generalize vl s p = v at *
              go_wp2_with fail
              go_ret2
              exact NmR.no hno.out (iter_below (Below.refl _ _) _ _)
          · have hnx : ∀ ty, (Instr.next (.pointer (some ⟨w.heap.size, 0, none⟩)) true ty).run Tryd.prog (w.iter s p) = _ := fun ty => run_next_end w s p ty hlt
            have he := vl_all s p (by omega)
            have hyes : Hid (Ck.dyB s.data.toList = true) := by
              show _ = _
              have h1 : Un.frB s.data.toList 0 = true := by rw [HF.out, frl_zero]; exact all_yes (fun j hj => hall.out j (by omega))
              unfold Ck.dyB
              rw [h1]
              simp
              omega
            have HE := Lib.hid he.symm
            clear he
            generalize vl s p = v at *
            go_wp2_with fail
            go_ret2
            exact NmR.yes hyes.out HE.out (iter_below (Below.refl _ _) _ _)
    · have HF := Lib.hid (fr_all (L := s.data.toList) (k := 0) (by rw [hhd]; omega) (.inl rfl) (fun g => by rw [hhd] at g; omega))
      clear hhd hll h0
      go_enter Tryd.func38, Tryd.ntmps38
      go_wp2_with fail
      go_loopw [4] (fun n wr => ∃ p : Nat, wr = w.iter s p ∧ p ≤ s.size ∧ n = .int .i64 (vl s p) ∧ vl s p ≤ 1099511627776 ∧ Hid (∀ j, j < p → 48 ≤ bt s j ∧ bt s j ≤ 57)) (fun _ wr => s.size - wr.iterPos w.heap.size)
      case atStart => exact ⟨0, rfl, by omega, by rw [vl_zero], by rw [vl_zero]; omega, fun j hj => by omega⟩
      case round =>
        obtain ⟨p, rfl, hp, rfl, hv1, hall⟩ := hrel
        have hv0 := (vl_le s p).1
        by_cases hlt : p < s.size
        · have hr := bt_range s p
          by_cases hasc : bt s p < 128
          · have hnx := fun ty => rune_low s p hlt hasc w ty
            by_cases hd : 48 ≤ bt s p ∧ bt s p ≤ 57
            · have hst := Lib.hid (vl_step hlt hd)
              have hle := Lib.hid (vl_le s (p + 1)).2
              have hn : Hid (∀ j, j < p + 1 → 48 ≤ bt s j ∧ bt s j ≤ 57) := fun j hj => by
                rcases Nat.lt_or_ge j p with h | h
                · exact hall.out j h
                · obtain rfl : j = p := by omega
                  exact hd
              generalize bt s p = x at *
              generalize vl s p = v at *
              by_cases g : 1099511627776 < 10 * v + (x - 48)
              · have hno : Hid (Ck.dyB s.data.toList = false) := dy_great (by have := hst.out; have := hle.out; omega)
                go_wp2_with fail
                go_ret2
                exact NmR.no hno.out (iter_below (Below.refl _ _) _ _)
              · go_wp2_with fail
                go_roundw
                case rel => exact ⟨p + 1, rfl, by omega, by rw [hst.out]; go_num, by rw [hst.out]; omega, hn⟩
                case measure => simp; omega
            · have hno : Hid (Ck.dyB s.data.toList = false) := by
                show _ = _
                refine dy_form ?_
                rw [HF.out, frl_zero]
                exact all_no hlt hd
              generalize bt s p = x at *
              generalize vl s p = v at *
              by_cases g1 : x < 48
              · clear hd
                go_wp2_with fail
                go_ret2
                exact NmR.no hno.out (iter_below (Below.refl _ _) _ _)
              · have g2 : 57 < x := by omega
                clear hd
                go_wp2_with fail
                go_ret2
                exact NmR.no hno.out (iter_below (Below.refl _ _) _ _)
          · have hno : Hid (Ck.dyB s.data.toList = false) := by
              show _ = _
              refine dy_form ?_
              rw [HF.out, frl_zero]
              exact all_no hlt (by omega)
            obtain ⟨x, d, hx1, hx2, hnx0⟩ := rune_high s p hlt hasc
            have hnx := fun ty => hnx0 w ty
            clear hnx0 hasc hr
            generalize vl s p = v at *
            go_wp2_with fail
            go_ret2
            exact NmR.no hno.out (iter_below (Below.refl _ _) _ _)
        · have hnx : ∀ ty, (Instr.next (.pointer (some ⟨w.heap.size, 0, none⟩)) true ty).run Tryd.prog (w.iter s p) = _ := fun ty => run_next_end w s p ty hlt
          have he := vl_all s p (by omega)
          have hyes : Hid (Ck.dyB s.data.toList = true) := by
            show _ = _
            have h1 : Un.frB s.data.toList 0 = true := by rw [HF.out, frl_zero]; exact all_yes (fun j hj => hall.out j (by omega))
            unfold Ck.dyB
            rw [h1]
            simp
            omega
          have HE := Lib.hid he.symm
          clear he
          generalize vl s p = v at *
          go_wp2_with fail
          go_ret2
          exact NmR.yes hyes.out HE.out (iter_below (Below.refl _ _) _ _)

/-! ### pair -/
def prB (a b lim : Int) : Bool := decide (48 ≤ a ∧ a ≤ 57 ∧ 48 ≤ b ∧ b ≤ 57) && decide (10 * (a - 48) + (b - 48) < lim)
/-- What pair answers, where it says yes. -/
def PrR (s : ByteArray) (lim : Int) (w : World) (e : Ending) (w' : World) : Prop :=
  (prB (bt s 0) (bt s 1) lim = true ∧ e = .returned (.tuple #[.int .i64 (10 * (bt s 0 - 48) + (bt s 1 - 48)), .bool true]) ∨ prB (bt s 0) (bt s 1) lim = false ∧ ∃ v : Int, e = .returned (.tuple #[.int .i64 v, .bool false])) ∧ Below w.heap.size w w'
set_option maxRecDepth 100000 in
set_option maxHeartbeats 4000000 in
theorem pair_any (s : ByteArray) (lim : Int) (w : World) (hs : s.size = 2) : Calls Tryd.prog 39 #[.string s, .int .i64 lim] w (PrR s lim w) := by
  have hs1 : s.size ≤ 2 := by omega
  have HS := Lib.hid hs
  clear hs
  go_enter Tryd.func39, Tryd.ntmps39
  go_wp2_with fail
  go_loopw [6] (fun n wr => ∃ p : Nat, wr = w.iter s p ∧ p ≤ s.size ∧ n = .int .i64 (vl s p) ∧ vl s p ≤ 1000 ∧ Hid (p = 0 → vl s p ≤ 0) ∧ Hid (p ≤ 1 → vl s p ≤ 9) ∧ Hid (∀ j, j < p → 48 ≤ bt s j ∧ bt s j ≤ 57)) (fun _ wr => s.size - wr.iterPos w.heap.size)
  case atStart => exact ⟨0, rfl, by omega, by rw [vl_zero], by rw [vl_zero]; omega, (fun _ => by rw [vl_zero]; omega), (fun _ => by rw [vl_zero]; omega), fun j hj => by omega⟩
  case round =>
    obtain ⟨p, rfl, hp, rfl, hv1, hp0, hp1, hall⟩ := hrel
    have hv0 := (vl_le s p).1
    by_cases hlt : p < s.size
    · have hr := bt_range s p
      have hp2 : p = 0 ∨ p = 1 := by omega
      have hnoF : ¬ (48 ≤ bt s p ∧ bt s p ≤ 57) → prB (bt s 0) (bt s 1) lim = false := fun g => by
        unfold prB
        rw [decide_eq_false, Bool.false_and]
        rintro ⟨a, b, c, d⟩
        rcases hp2 with h | h
        · rw [h] at g; exact g ⟨a, b⟩
        · rw [h] at g; exact g ⟨c, d⟩
      by_cases hasc : bt s p < 128
      · have hnx := fun ty => rune_low s p hlt hasc w ty
        by_cases hd : 48 ≤ bt s p ∧ bt s p ≤ 57
        · have hst := Lib.hid (vl_step hlt hd)
          have hv9 : vl s p ≤ 9 := hp1.out (by omega)
          have hq0 : Hid (p + 1 ≤ 1 → vl s (p + 1) ≤ 9) := fun h => by
            have := hp0.out (by omega)
            rw [hst.out]
            omega
          have hn : Hid (∀ j, j < p + 1 → 48 ≤ bt s j ∧ bt s j ≤ 57) := fun j hj => by
            rcases Nat.lt_or_ge j p with h | h
            · exact hall.out j h
            · obtain rfl : j = p := by omega
              exact hd
          clear hnoF hp0 hp1 hp2
          generalize bt s p = x at *
          generalize vl s p = v at *
          go_wp2_with fail
          go_roundw
          case rel => exact ⟨p + 1, rfl, by omega, by rw [hst.out]; go_num, by rw [hst.out]; omega, (fun h => by omega), hq0, hn⟩
          case measure => simp; omega
        · have hno := Lib.hid (hnoF hd)
          clear hnoF hp0 hp1 hp2
          generalize bt s p = x at *
          generalize vl s p = v at *
          by_cases g1 : x < 48
          · clear hd
            go_wp2_with fail
            go_ret2
            exact ⟨.inr ⟨hno.out, _, rfl⟩, iter_below (Below.refl _ _) _ _⟩
          · have g2 : 57 < x := by omega
            clear hd
            go_wp2_with fail
            go_ret2
            exact ⟨.inr ⟨hno.out, _, rfl⟩, iter_below (Below.refl _ _) _ _⟩
      · have hno := Lib.hid (hnoF (by omega))
        obtain ⟨x, d, hx1, hx2, hnx0⟩ := rune_high s p hlt hasc
        have hnx := fun ty => hnx0 w ty
        clear hnx0 hasc hr hnoF hp0 hp1 hp2
        generalize vl s p = v at *
        go_wp2_with fail
        go_ret2
        exact ⟨.inr ⟨hno.out, _, rfl⟩, iter_below (Below.refl _ _) _ _⟩
    · have hnx : ∀ ty, (Instr.next (.pointer (some ⟨w.heap.size, 0, none⟩)) true ty).run Tryd.prog (w.iter s p) = _ := fun ty => run_next_end w s p ty hlt
      have hpe : p = 2 := by have := HS.out; omega
      have h0 := hall.out 0 (by omega)
      have h1 := hall.out 1 (by omega)
      have e1 := vl_step (A := s) (j := 0) (by have := HS.out; omega) h0
      have e2 := vl_step (A := s) (j := 1) (by have := HS.out; omega) h1
      rw [vl_zero] at e1
      have he : vl s p = 10 * (bt s 0 - 48) + (bt s 1 - 48) := by
        rw [hpe, show (2 : Nat) = 1 + 1 from rfl, e2, e1]
        omega
      have hb : prB (bt s 0) (bt s 1) lim = decide (vl s p < lim) := by
        unfold prB
        rw [decide_eq_true ⟨h0.1, h0.2, h1.1, h1.2⟩, Bool.true_and, he]
      have HE := Lib.hid he.symm
      have HBB := Lib.hid hb
      clear he hb e1 e2 h0 h1 hpe hp0 hp1
      generalize vl s p = v at *
      by_cases g : v < lim
      · have hyes : Hid (prB (bt s 0) (bt s 1) lim = true) := by show _ = _; rw [HBB.out]; exact decide_eq_true g
        go_wp2_with fail
        go_ret2
        exact ⟨.inl ⟨hyes.out, by rw [HE.out]; rfl⟩, iter_below (Below.refl _ _) _ _⟩
      · have hno : Hid (prB (bt s 0) (bt s 1) lim = false) := by show _ = _; rw [HBB.out]; exact decide_eq_false g
        go_wp2_with fail
        go_ret2
        exact ⟨.inr ⟨hno.out, _, rfl⟩, iter_below (Below.refl _ _) _ _⟩
end Go.Proofs.YtieafjbngealoaaDoor
