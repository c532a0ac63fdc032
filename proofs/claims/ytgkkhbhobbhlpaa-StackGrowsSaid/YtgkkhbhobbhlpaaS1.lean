/- Package stack and its reference: contracts of Check, Place, Size, Weight. -/
import Derived.Test.YtgkkhbhobbhlpaaK
import Derived.Test.YtgkkhbhobbhlpaaU5
namespace Go.Proofs.Ytgkkhbhobbhlpaa
open Go.RowKit
set_option linter.unusedVariables false

def chkB (a b c : Int) : Bool := decide (1 ≤ a ∧ a ≤ 8 ∧ 1 ≤ b ∧ b ≤ 8 ∧ 0 ≤ c ∧ c ≤ 50)
def chkE (a b c : Int) : Int := if chkB a b c then 0 else 9
theorem chk_ok {a b c : Int} (h : 1 ≤ a ∧ a ≤ 8 ∧ 1 ≤ b ∧ b ≤ 8 ∧ 0 ≤ c ∧ c ≤ 50) : chkE a b c = 0 := by
  have : chkB a b c = true := decide_eq_true h
  simp [chkE, this]
theorem chk_no {a b c : Int} (h : ¬ (1 ≤ a ∧ a ≤ 8 ∧ 1 ≤ b ∧ b ≤ 8 ∧ 0 ≤ c ∧ c ≤ 50)) : chkE a b c = 9 := by
  have : chkB a b c = false := decide_eq_false h
  simp [chkE, this]

set_option maxHeartbeats 1000000 in
theorem check_any (a b c : Int) (w : World) :
    Calls Try.prog 32 #[.agg #[.int .i64 a, .int .i64 b, .int .i64 c]] w fun e w' => e = .returned (.int .i64 (chkE a b c)) ∧ Below w.heap.size w w' := by
  go_enter Try.func32, Try.ntmps32
  go_wp2
  all_goals
    go_ret
    exact ⟨ret_int (by first | exact (chk_no (by omega)).symm | exact (chk_ok (by omega)).symm), (Below.refl _ _).alloc (Nat.le_refl _) _⟩

set_option maxHeartbeats 1000000 in
theorem rcheck_any (a b c : Int) (w : World) :
    Calls Try.prog 33 #[.agg #[.int .i64 a, .int .i64 b, .int .i64 c]] w fun e w' => e = .returned (.int .i64 (chkE a b c)) ∧ Below w.heap.size w w' := by
  go_enter Try.func33, Try.ntmps33
  go_wp2
  all_goals
    go_ret
    exact ⟨ret_int (by first | exact (chk_no (by omega)).symm | exact (chk_ok (by omega)).symm), (Below.refl _ _).alloc (Nat.le_refl _) _⟩

set_option maxHeartbeats 1000000 in
theorem shape_any (a b c : Int) (w : World) :
    Calls Try.prog 30 #[.agg #[.int .i64 a, .int .i64 b, .int .i64 c]] w fun e w' => e = .returned (.agg #[.int .i64 a, .int .i64 b, .int .i64 c]) ∧ Below w.heap.size w w' := by
  go_enter Try.func30, Try.ntmps30
  go_wp2
  refine bodyPost_ret (v := .agg #[.int .i64 a, .int .i64 b, .int .i64 c]) (by simp [results, Try.results30, go_sem]) rfl ⟨rfl, ?_⟩
  exact ((Below.refl _ _).alloc (Nat.le_refl _) _).alloc (by simp) _

/-! ### Place -/
def plcB (a b c i : Int) : Bool := decide ((1 ≤ a ∧ a ≤ 8 ∧ 1 ≤ b ∧ b ≤ 8 ∧ 0 ≤ c ∧ c ≤ 50) ∧ 0 ≤ i ∧ i < a * b)
def plcC (a b c i : Int) : Int := if plcB a b c i then i / a else 0
def plcP (a b c i : Int) : Int := if plcB a b c i then i % a else 0
def plcE (a b c i : Int) : Int := if plcB a b c i then 0 else 9
theorem plc_ok {a b c i : Int} (h : (1 ≤ a ∧ a ≤ 8 ∧ 1 ≤ b ∧ b ≤ 8 ∧ 0 ≤ c ∧ c ≤ 50) ∧ 0 ≤ i ∧ i < a * b) : plcC a b c i = i / a ∧ plcP a b c i = i % a ∧ plcE a b c i = 0 := by
  have : plcB a b c i = true := decide_eq_true h
  simp [plcC, plcP, plcE, this]
theorem plc_no {a b c i : Int} (h : ¬ ((1 ≤ a ∧ a ≤ 8 ∧ 1 ≤ b ∧ b ≤ 8 ∧ 0 ≤ c ∧ c ≤ 50) ∧ 0 ≤ i ∧ i < a * b)) : plcC a b c i = 0 ∧ plcP a b c i = 0 ∧ plcE a b c i = 9 := by
  have : plcB a b c i = false := decide_eq_false h
  simp [plcC, plcP, plcE, this]

theorem prod8 {a b : Int} (h : 1 ≤ a ∧ a ≤ 8 ∧ 1 ≤ b ∧ b ≤ 8) : 1 ≤ a * b ∧ a * b ≤ 64 := by
  have h1 : a * b ≤ 8 * 8 := Int.mul_le_mul h.2.1 h.2.2.2 (by omega) (by omega)
  have h2 : 1 * 1 ≤ a * b := Int.mul_le_mul h.1 h.2.2.1 (by omega) (by omega)
  omega

theorem check_eq (a b c : Int) (e : Int) (he : Hid (chkE a b c = e)) (w : World) :
    Calls Try.prog 32 #[.agg #[.int .i64 a, .int .i64 b, .int .i64 c]] w fun x w' => x = .returned (.int .i64 e) ∧ Below w.heap.size w w' := by
  rw [← he.out]; exact check_any a b c w
theorem rcheck_eq (a b c : Int) (e : Int) (he : Hid (chkE a b c = e)) (w : World) :
    Calls Try.prog 33 #[.agg #[.int .i64 a, .int .i64 b, .int .i64 c]] w fun x w' => x = .returned (.int .i64 e) ∧ Below w.heap.size w w' := by
  rw [← he.out]; exact rcheck_any a b c w

theorem box_cells {w w1 : World} {x y z : Value} {t : TypeId} (hb : Below (w.alloc (.cells #[x, y, z] t)).heap.size (w.alloc (.cells #[x, y, z] t)) w1) :
    w1.cell? ⟨w.heap.size, 0, none⟩ = some x ∧ w1.cell? ⟨w.heap.size, 1, none⟩ = some y ∧ w1.cell? ⟨w.heap.size, 2, none⟩ = some z ∧ w.heap.size < w1.heap.size ∧ Below w.heap.size w w1 := by
  have hs := hb.size
  simp at hs
  refine ⟨?_, ?_, ?_, by omega, ((Below.refl _ _).alloc (Nat.le_refl _) _).trans (hb.mono (by simp))⟩
  all_goals
    rw [hb.cell (by simp)]
    simp

set_option maxHeartbeats 1000000 in
theorem place_any (a b c i : Int) (hi0 : -9223372036854775808 ≤ i) (hi1 : i ≤ 9223372036854775807) (w : World) :
    Calls Try.prog 29 #[.agg #[.int .i64 a, .int .i64 b, .int .i64 c], .int .i64 i] w fun e w' => e = .returned (.tuple #[.int .i64 (plcC a b c i), .int .i64 (plcP a b c i), .int .i64 (plcE a b c i)]) ∧ Below w.heap.size w w' := by
  by_cases h : 1 ≤ a ∧ a ≤ 8 ∧ 1 ≤ b ∧ b ≤ 8 ∧ 0 ≤ c ∧ c ≤ 50
  · have hk := Lib.hid (chk_ok h)
    have hp := prod8 ⟨h.1, h.2.1, h.2.2.1, h.2.2.2.1⟩
    obtain ⟨p, hpe⟩ : ∃ p, a * b = p := ⟨_, rfl⟩
    have hp1 : 1 ≤ p ∧ p ≤ 64 := by omega
    have HPE := Lib.hid hpe
    clear hp
    have ha0 : (a == 0) = false := by rw [beq_eq_false_iff_ne]; omega
    by_cases hin : 0 ≤ i ∧ i < p
    · have hv := Lib.hid (plc_ok (i := i) ⟨h, by rw [HPE.out]; exact hin⟩)
      have hi2 : ¬ i < 0 := by omega
      obtain ⟨d, hd⟩ : ∃ d, i / a = d := ⟨_, rfl⟩
      obtain ⟨m, hm⟩ : ∃ m, i % a = m := ⟨_, rfl⟩
      have hd0 : 0 ≤ d := by rw [← hd]; exact Int.ediv_nonneg hin.1 (by omega)
      have hd1 : d ≤ i := by rw [← hd]; exact Int.ediv_le_self _ hin.1
      have HD := Lib.hid hd; have HM := Lib.hid hm
      go_enter Try.func29, Try.ntmps29
      go_wp2_with (go_at_call 32; refine (check_eq _ _ _ _ hk _).mono ?_; rintro e w1 ⟨rfl, hb⟩; obtain ⟨c0, c1, c2, hlt, hbel⟩ := box_cells hb)
      go_quiet (fail)
      go_wp2
      go_ret3
      exact ⟨ret_three (by rw [hv.out.1, HD.out]) (by rw [hv.out.2.1, HM.out]) hv.out.2.2.symm, below_drewN hbel _⟩
    · have hv := Lib.hid (plc_no (a := a) (b := b) (c := c) (i := i) (by rw [HPE.out]; omega))
      clear ha0
      by_cases hi2 : i < 0
      all_goals
        go_enter Try.func29, Try.ntmps29
        go_wp2_with (go_at_call 32; refine (check_eq _ _ _ _ hk _).mono ?_; rintro e w1 ⟨rfl, hb⟩; obtain ⟨c0, c1, c2, hlt, hbel⟩ := box_cells hb)
        go_ret3
        exact ⟨ret_three hv.out.1.symm hv.out.2.1.symm hv.out.2.2.symm, hbel⟩
  · have hk := Lib.hid (chk_no h)
    have hv := Lib.hid (plc_no (a := a) (b := b) (c := c) (i := i) (fun h' => h h'.1))
    clear h
    go_enter Try.func29, Try.ntmps29
    go_wp2_with (go_at_call 32; refine (check_eq _ _ _ _ hk _).mono ?_; rintro e w1 ⟨rfl, hb⟩; obtain ⟨c0, c1, c2, hlt, hbel⟩ := box_cells hb)
    go_ret3
    exact ⟨ret_three hv.out.1.symm hv.out.2.1.symm hv.out.2.2.symm, hbel⟩
set_option maxHeartbeats 1000000 in
theorem rplace_any (a b c i : Int) (hi0 : -9223372036854775808 ≤ i) (hi1 : i ≤ 9223372036854775807) (w : World) :
    Calls Try.prog 31 #[.agg #[.int .i64 a, .int .i64 b, .int .i64 c], .int .i64 i] w fun e w' => e = .returned (.tuple #[.int .i64 (plcC a b c i), .int .i64 (plcP a b c i), .int .i64 (plcE a b c i)]) ∧ Below w.heap.size w w' := by
  by_cases h : 1 ≤ a ∧ a ≤ 8 ∧ 1 ≤ b ∧ b ≤ 8 ∧ 0 ≤ c ∧ c ≤ 50
  · have hk := Lib.hid (chk_ok h)
    have hp := prod8 ⟨h.1, h.2.1, h.2.2.1, h.2.2.2.1⟩
    obtain ⟨p, hpe⟩ : ∃ p, a * b = p := ⟨_, rfl⟩
    have hp1 : 1 ≤ p ∧ p ≤ 64 := by omega
    have HPE := Lib.hid hpe
    clear hp
    have ha0 : (a == 0) = false := by rw [beq_eq_false_iff_ne]; omega
    by_cases hin : 0 ≤ i ∧ i < p
    · have hv := Lib.hid (plc_ok (i := i) ⟨h, by rw [HPE.out]; exact hin⟩)
      have hi2 : ¬ i < 0 := by omega
      obtain ⟨d, hd⟩ : ∃ d, i / a = d := ⟨_, rfl⟩
      obtain ⟨m, hm⟩ : ∃ m, i % a = m := ⟨_, rfl⟩
      have hd0 : 0 ≤ d := by rw [← hd]; exact Int.ediv_nonneg hin.1 (by omega)
      have hd1 : d ≤ i := by rw [← hd]; exact Int.ediv_le_self _ hin.1
      have HD := Lib.hid hd; have HM := Lib.hid hm
      go_enter Try.func31, Try.ntmps31
      go_wp2_with (go_at_call 33; refine (rcheck_eq _ _ _ _ hk _).mono ?_; rintro e w1 ⟨rfl, hb⟩; obtain ⟨c0, c1, c2, hlt, hbel⟩ := box_cells hb)
      go_quiet (fail)
      go_wp2
      go_ret3
      exact ⟨ret_three (by rw [hv.out.1, HD.out]) (by rw [hv.out.2.1, HM.out]) hv.out.2.2.symm, below_drewN hbel _⟩
    · have hv := Lib.hid (plc_no (a := a) (b := b) (c := c) (i := i) (by rw [HPE.out]; omega))
      clear ha0
      by_cases hi2 : i < 0
      all_goals
        go_enter Try.func31, Try.ntmps31
        go_wp2_with (go_at_call 33; refine (rcheck_eq _ _ _ _ hk _).mono ?_; rintro e w1 ⟨rfl, hb⟩; obtain ⟨c0, c1, c2, hlt, hbel⟩ := box_cells hb)
        go_ret3
        exact ⟨ret_three hv.out.1.symm hv.out.2.1.symm hv.out.2.2.symm, hbel⟩
  · have hk := Lib.hid (chk_no h)
    have hv := Lib.hid (plc_no (a := a) (b := b) (c := c) (i := i) (fun h' => h h'.1))
    clear h
    go_enter Try.func31, Try.ntmps31
    go_wp2_with (go_at_call 33; refine (rcheck_eq _ _ _ _ hk _).mono ?_; rintro e w1 ⟨rfl, hb⟩; obtain ⟨c0, c1, c2, hlt, hbel⟩ := box_cells hb)
    go_ret3
    exact ⟨ret_three hv.out.1.symm hv.out.2.1.symm hv.out.2.2.symm, hbel⟩
end Go.Proofs.Ytgkkhbhobbhlpaa
