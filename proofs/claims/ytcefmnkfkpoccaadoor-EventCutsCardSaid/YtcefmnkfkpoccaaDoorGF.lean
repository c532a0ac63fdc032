/- event: the forms of the kinds; Name; isCode; the shapes. -/
import Derived.Test.YtcefmnkfkpoccaaDoorGE
namespace Go.Proofs.YtcefmnkfkpoccaaDoor
open Go.RowKit
set_option linter.unusedVariables false
open Wi Evn
/-- The name of a kind. -/
def nmS (k : Int) : ByteArray :=
  if k = 1 then ⟨#[112, 101, 114, 109, 105, 116]⟩ else
  if k = 2 then ⟨#[102, 101, 108, 108]⟩ else
  if k = 3 then ⟨#[115, 99, 97, 110]⟩ else
  if k = 4 then ⟨#[115, 97, 119]⟩ else
  if k = 5 then ⟨#[112, 97, 99, 107]⟩ else
  if k = 6 then ⟨#[100, 114, 121]⟩ else
  if k = 7 then ⟨#[103, 114, 97, 100, 101]⟩ else
  if k = 8 then ⟨#[111, 114, 100, 101, 114]⟩ else
  if k = 9 then ⟨#[97, 115, 115, 105, 103, 110]⟩ else
  if k = 10 then ⟨#[115, 104, 105, 112]⟩ else
  if k = 11 then ⟨#[115, 101, 108, 108]⟩ else
  if k = 12 then ⟨#[102, 97, 105, 108]⟩ else
  if k = 13 then ⟨#[116, 114, 105, 109]⟩ else
  if k = 14 then ⟨#[114, 101, 115, 97, 119]⟩ else
  ⟨#[]⟩
def shV (k : Int) : Value :=
  if k = 1 then .iface 75 (.int .i64 3) else
  if k = 2 then .iface 75 (.int .i64 0) else
  if k = 3 then .iface 75 (.int .i64 0) else
  if k = 4 then .iface 76 (.int .i64 2) else
  if k = 5 then .iface 76 (.int .i64 0) else
  if k = 6 then .iface 78 (.agg #[]) else
  if k = 7 then .iface 75 (.int .i64 1) else
  if k = 8 then .iface 75 (.int .i64 0) else
  if k = 9 then .iface 79 (.bool false) else
  if k = 10 then .iface 75 (.int .i64 0) else
  if k = 11 then .iface 75 (.int .i64 2) else
  if k = 12 then .iface 75 (.int .i64 0) else
  if k = 13 then .iface 79 (.bool true) else
  if k = 14 then .iface 76 (.int .i64 1) else
  .nilIface
def hasB (k : Int) : Bool := decide (1 ≤ k ∧ k ≤ 14)
def fmV (k : Int) : Value := .agg #[.string (nmS k), .int .u8 (kIt k), .int .u8 (kOf k), shV k]
theorem fm_1 : fmV 1 = .agg #[.string ⟨#[112, 101, 114, 109, 105, 116]⟩, .int .u8 80, .int .u8 0, .iface 75 (.int .i64 3)] := by simp [fmV, nmS, kIt, kOf, shV]
theorem fm_2 : fmV 2 = .agg #[.string ⟨#[102, 101, 108, 108]⟩, .int .u8 76, .int .u8 80, .iface 75 (.int .i64 0)] := by simp [fmV, nmS, kIt, kOf, shV]
theorem fm_3 : fmV 3 = .agg #[.string ⟨#[115, 99, 97, 110]⟩, .int .u8 76, .int .u8 0, .iface 75 (.int .i64 0)] := by simp [fmV, nmS, kIt, kOf, shV]
theorem fm_4 : fmV 4 = .agg #[.string ⟨#[115, 97, 119]⟩, .int .u8 76, .int .u8 0, .iface 76 (.int .i64 2)] := by simp [fmV, nmS, kIt, kOf, shV]
theorem fm_5 : fmV 5 = .agg #[.string ⟨#[112, 97, 99, 107]⟩, .int .u8 75, .int .u8 0, .iface 76 (.int .i64 0)] := by simp [fmV, nmS, kIt, kOf, shV]
theorem fm_6 : fmV 6 = .agg #[.string ⟨#[100, 114, 121]⟩, .int .u8 67, .int .u8 0, .iface 78 (.agg #[])] := by simp [fmV, nmS, kIt, kOf, shV]
theorem fm_7 : fmV 7 = .agg #[.string ⟨#[103, 114, 97, 100, 101]⟩, .int .u8 66, .int .u8 0, .iface 75 (.int .i64 1)] := by simp [fmV, nmS, kIt, kOf, shV]
theorem fm_8 : fmV 8 = .agg #[.string ⟨#[111, 114, 100, 101, 114]⟩, .int .u8 79, .int .u8 0, .iface 75 (.int .i64 0)] := by simp [fmV, nmS, kIt, kOf, shV]
theorem fm_9 : fmV 9 = .agg #[.string ⟨#[97, 115, 115, 105, 103, 110]⟩, .int .u8 0, .int .u8 0, .iface 79 (.bool false)] := by simp [fmV, nmS, kIt, kOf, shV]
theorem fm_10 : fmV 10 = .agg #[.string ⟨#[115, 104, 105, 112]⟩, .int .u8 79, .int .u8 0, .iface 75 (.int .i64 0)] := by simp [fmV, nmS, kIt, kOf, shV]
theorem fm_11 : fmV 11 = .agg #[.string ⟨#[115, 101, 108, 108]⟩, .int .u8 0, .int .u8 0, .iface 75 (.int .i64 2)] := by simp [fmV, nmS, kIt, kOf, shV]
theorem fm_12 : fmV 12 = .agg #[.string ⟨#[102, 97, 105, 108]⟩, .int .u8 0, .int .u8 0, .iface 75 (.int .i64 0)] := by simp [fmV, nmS, kIt, kOf, shV]
theorem fm_13 : fmV 13 = .agg #[.string ⟨#[116, 114, 105, 109]⟩, .int .u8 66, .int .u8 0, .iface 79 (.bool true)] := by simp [fmV, nmS, kIt, kOf, shV]
theorem fm_14 : fmV 14 = .agg #[.string ⟨#[114, 101, 115, 97, 119]⟩, .int .u8 66, .int .u8 0, .iface 76 (.int .i64 1)] := by simp [fmV, nmS, kIt, kOf, shV]
theorem fm_no {k : Int} (h : ¬ (1 ≤ k ∧ k ≤ 14)) : fmV k = .agg #[.string ⟨#[]⟩, .int .u8 0, .int .u8 0, .nilIface] := by
  have n : ∀ j : Int, 1 ≤ j → j ≤ 14 → ¬ k = j := fun j h1 h2 e => h (by omega)
  simp [fmV, nmS, kIt, kOf, shV, n]
set_option maxRecDepth 100000 in
set_option maxHeartbeats 8000000 in
theorem form_any (k : Int) (w : World) : Calls Tryd.prog 24 #[.int .i64 k] w fun e w' => e = .returned (.tuple #[fmV k, .bool (hasB k)]) ∧ Below w.heap.size w w' := by
  by_cases hk : 1 ≤ k ∧ k ≤ 14
  · have h : k = 1 ∨ k = 2 ∨ k = 3 ∨ k = 4 ∨ k = 5 ∨ k = 6 ∨ k = 7 ∨ k = 8 ∨ k = 9 ∨ k = 10 ∨ k = 11 ∨ k = 12 ∨ k = 13 ∨ k = 14 := by omega
    clear hk
    rcases h with h | h | h | h | h | h | h | h | h | h | h | h | h | h
    · subst h
      go_enter Tryd.func24, Tryd.ntmps24
      go_wp2_with fail
      (try simp only [Exit.inBlock, Exit.then])
      refine bodyPost_ret (v := .tuple #[.agg #[.string ⟨#[112, 101, 114, 109, 105, 116]⟩, .int .u8 80, .int .u8 0, .iface 75 (.int .i64 3)], .bool true]) ?_ rfl ⟨by rw [fm_1]; rfl, (Below.refl _ _).alloc (Nat.le_refl _) _⟩
      rw [results_cell_tmp rfl]
      go_simp
    · subst h
      go_enter Tryd.func24, Tryd.ntmps24
      go_wp2_with fail
      (try simp only [Exit.inBlock, Exit.then])
      refine bodyPost_ret (v := .tuple #[.agg #[.string ⟨#[102, 101, 108, 108]⟩, .int .u8 76, .int .u8 80, .iface 75 (.int .i64 0)], .bool true]) ?_ rfl ⟨by rw [fm_2]; rfl, (Below.refl _ _).alloc (Nat.le_refl _) _⟩
      rw [results_cell_tmp rfl]
      go_simp
    · subst h
      go_enter Tryd.func24, Tryd.ntmps24
      go_wp2_with fail
      (try simp only [Exit.inBlock, Exit.then])
      refine bodyPost_ret (v := .tuple #[.agg #[.string ⟨#[115, 99, 97, 110]⟩, .int .u8 76, .int .u8 0, .iface 75 (.int .i64 0)], .bool true]) ?_ rfl ⟨by rw [fm_3]; rfl, (Below.refl _ _).alloc (Nat.le_refl _) _⟩
      rw [results_cell_tmp rfl]
      go_simp
    · subst h
      go_enter Tryd.func24, Tryd.ntmps24
      go_wp2_with fail
      (try simp only [Exit.inBlock, Exit.then])
      refine bodyPost_ret (v := .tuple #[.agg #[.string ⟨#[115, 97, 119]⟩, .int .u8 76, .int .u8 0, .iface 76 (.int .i64 2)], .bool true]) ?_ rfl ⟨by rw [fm_4]; rfl, (Below.refl _ _).alloc (Nat.le_refl _) _⟩
      rw [results_cell_tmp rfl]
      go_simp
    · subst h
      go_enter Tryd.func24, Tryd.ntmps24
      go_wp2_with fail
      (try simp only [Exit.inBlock, Exit.then])
      refine bodyPost_ret (v := .tuple #[.agg #[.string ⟨#[112, 97, 99, 107]⟩, .int .u8 75, .int .u8 0, .iface 76 (.int .i64 0)], .bool true]) ?_ rfl ⟨by rw [fm_5]; rfl, (Below.refl _ _).alloc (Nat.le_refl _) _⟩
      rw [results_cell_tmp rfl]
      go_simp
    · subst h
      go_enter Tryd.func24, Tryd.ntmps24
      go_wp2_with fail
      (try simp only [Exit.inBlock, Exit.then])
      refine bodyPost_ret (v := .tuple #[.agg #[.string ⟨#[100, 114, 121]⟩, .int .u8 67, .int .u8 0, .iface 78 (.agg #[])], .bool true]) ?_ rfl ⟨by rw [fm_6]; rfl, (Below.refl _ _).alloc (Nat.le_refl _) _⟩
      rw [results_cell_tmp rfl]
      go_simp
    · subst h
      go_enter Tryd.func24, Tryd.ntmps24
      go_wp2_with fail
      (try simp only [Exit.inBlock, Exit.then])
      refine bodyPost_ret (v := .tuple #[.agg #[.string ⟨#[103, 114, 97, 100, 101]⟩, .int .u8 66, .int .u8 0, .iface 75 (.int .i64 1)], .bool true]) ?_ rfl ⟨by rw [fm_7]; rfl, (Below.refl _ _).alloc (Nat.le_refl _) _⟩
      rw [results_cell_tmp rfl]
      go_simp
    · subst h
      go_enter Tryd.func24, Tryd.ntmps24
      go_wp2_with fail
      (try simp only [Exit.inBlock, Exit.then])
      refine bodyPost_ret (v := .tuple #[.agg #[.string ⟨#[111, 114, 100, 101, 114]⟩, .int .u8 79, .int .u8 0, .iface 75 (.int .i64 0)], .bool true]) ?_ rfl ⟨by rw [fm_8]; rfl, (Below.refl _ _).alloc (Nat.le_refl _) _⟩
      rw [results_cell_tmp rfl]
      go_simp
    · subst h
      go_enter Tryd.func24, Tryd.ntmps24
      go_wp2_with fail
      (try simp only [Exit.inBlock, Exit.then])
      refine bodyPost_ret (v := .tuple #[.agg #[.string ⟨#[97, 115, 115, 105, 103, 110]⟩, .int .u8 0, .int .u8 0, .iface 79 (.bool false)], .bool true]) ?_ rfl ⟨by rw [fm_9]; rfl, (Below.refl _ _).alloc (Nat.le_refl _) _⟩
      rw [results_cell_tmp rfl]
      go_simp
    · subst h
      go_enter Tryd.func24, Tryd.ntmps24
      go_wp2_with fail
      (try simp only [Exit.inBlock, Exit.then])
      refine bodyPost_ret (v := .tuple #[.agg #[.string ⟨#[115, 104, 105, 112]⟩, .int .u8 79, .int .u8 0, .iface 75 (.int .i64 0)], .bool true]) ?_ rfl ⟨by rw [fm_10]; rfl, (Below.refl _ _).alloc (Nat.le_refl _) _⟩
      rw [results_cell_tmp rfl]
      go_simp
    · subst h
      go_enter Tryd.func24, Tryd.ntmps24
      go_wp2_with fail
      (try simp only [Exit.inBlock, Exit.then])
      refine bodyPost_ret (v := .tuple #[.agg #[.string ⟨#[115, 101, 108, 108]⟩, .int .u8 0, .int .u8 0, .iface 75 (.int .i64 2)], .bool true]) ?_ rfl ⟨by rw [fm_11]; rfl, (Below.refl _ _).alloc (Nat.le_refl _) _⟩
      rw [results_cell_tmp rfl]
      go_simp
    · subst h
      go_enter Tryd.func24, Tryd.ntmps24
      go_wp2_with fail
      (try simp only [Exit.inBlock, Exit.then])
      refine bodyPost_ret (v := .tuple #[.agg #[.string ⟨#[102, 97, 105, 108]⟩, .int .u8 0, .int .u8 0, .iface 75 (.int .i64 0)], .bool true]) ?_ rfl ⟨by rw [fm_12]; rfl, (Below.refl _ _).alloc (Nat.le_refl _) _⟩
      rw [results_cell_tmp rfl]
      go_simp
    · subst h
      go_enter Tryd.func24, Tryd.ntmps24
      go_wp2_with fail
      (try simp only [Exit.inBlock, Exit.then])
      refine bodyPost_ret (v := .tuple #[.agg #[.string ⟨#[116, 114, 105, 109]⟩, .int .u8 66, .int .u8 0, .iface 79 (.bool true)], .bool true]) ?_ rfl ⟨by rw [fm_13]; rfl, (Below.refl _ _).alloc (Nat.le_refl _) _⟩
      rw [results_cell_tmp rfl]
      go_simp
    · subst h
      go_enter Tryd.func24, Tryd.ntmps24
      go_wp2_with fail
      (try simp only [Exit.inBlock, Exit.then])
      refine bodyPost_ret (v := .tuple #[.agg #[.string ⟨#[114, 101, 115, 97, 119]⟩, .int .u8 66, .int .u8 0, .iface 76 (.int .i64 1)], .bool true]) ?_ rfl ⟨by rw [fm_14]; rfl, (Below.refl _ _).alloc (Nat.le_refl _) _⟩
      rw [results_cell_tmp rfl]
      go_simp
  · have HH : Hid (hasB k = false) := decide_eq_false hk
    have HF := Lib.hid (fm_no hk)
    have n1 : (k == 1) = false := beq_eq_false_iff_ne.2 (by omega)
    have n2 : (k == 2) = false := beq_eq_false_iff_ne.2 (by omega)
    have n3 : (k == 3) = false := beq_eq_false_iff_ne.2 (by omega)
    have n4 : (k == 4) = false := beq_eq_false_iff_ne.2 (by omega)
    have n5 : (k == 5) = false := beq_eq_false_iff_ne.2 (by omega)
    have n6 : (k == 6) = false := beq_eq_false_iff_ne.2 (by omega)
    have n7 : (k == 7) = false := beq_eq_false_iff_ne.2 (by omega)
    have n8 : (k == 8) = false := beq_eq_false_iff_ne.2 (by omega)
    have n9 : (k == 9) = false := beq_eq_false_iff_ne.2 (by omega)
    have n10 : (k == 10) = false := beq_eq_false_iff_ne.2 (by omega)
    have n11 : (k == 11) = false := beq_eq_false_iff_ne.2 (by omega)
    have n12 : (k == 12) = false := beq_eq_false_iff_ne.2 (by omega)
    have n13 : (k == 13) = false := beq_eq_false_iff_ne.2 (by omega)
    have n14 : (k == 14) = false := beq_eq_false_iff_ne.2 (by omega)
    clear hk
    go_enter Tryd.func24, Tryd.ntmps24
    go_wp2_with fail
    (try simp only [Exit.inBlock, Exit.then])
    refine bodyPost_ret (v := .tuple #[.agg #[.string ⟨#[]⟩, .int .u8 0, .int .u8 0, .nilIface], .bool false]) ?_ rfl ⟨by rw [HF.out, HH.out], (Below.refl _ _).alloc (Nat.le_refl _) _⟩
    rw [results_cell_tmp rfl]
    go_simp
theorem sempty {s : ByteArray} : (s.toList == []) = decide (s = ByteArray.empty) := by
  by_cases h : s = ByteArray.empty
  · rw [h, ByteArray.toList_eq]; simp
  · simp only [h, decide_false]
    rw [beq_eq_false_iff_ne, ByteArray.toList_eq]
    intro e
    apply h
    apply ByteArray.ext
    apply Array.ext'
    rw [e]
    rfl
theorem isCode_any (s : ByteArray) (hsz : (s.size : Int) ≤ 9223372036854775807) (c : Int) (x : Bool) (hx : Hid (namB s c = x)) (w : World) : Calls Tryd.prog 25 #[.string s, .int .u8 c] w fun e w' => e = .returned (.bool x) ∧ Below w.heap.size w w' := by
  have h' := hx.out
  unfold namB at h'
  by_cases h : c = 0
  · subst h
    rw [if_pos rfl] at h'
    have q : (s.toList == []) = x := by rw [sempty]; exact h'
    clear h'
    go_enter Tryd.func25, Tryd.ntmps25
    go_wp2_with fail
    go_ret
    exact ⟨ret_bool (by first | rfl | exact q), Below.refl _ _⟩
  · rw [if_neg h] at h'
    have q : (c == 0) = false := by simpa using h
    have HC := Lib.hid (is_any s hsz c)
    rw [h'] at HC
    clear h h'
    go_enter Tryd.func25, Tryd.ntmps25
    go_wp2_with fail
    (with_reducible refine (HC.out _).mono ?_)
    rintro e w1 ⟨rfl, hb⟩
    go_wp2_with fail
    go_ret
    exact ⟨rfl, hb⟩
theorem sh_is {k : Int} (h : 1 ≤ k ∧ k ≤ 14) : ∃ T V, shV k = .iface T V := by
  have h : k = 1 ∨ k = 2 ∨ k = 3 ∨ k = 4 ∨ k = 5 ∨ k = 6 ∨ k = 7 ∨ k = 8 ∨ k = 9 ∨ k = 10 ∨ k = 11 ∨ k = 12 ∨ k = 13 ∨ k = 14 := by omega
  rcases h with h | h | h | h | h | h | h | h | h | h | h | h | h | h <;> (subst h; exact ⟨_, _, rfl⟩)
set_option maxHeartbeats 2000000 in
theorem name_any (k : Int) (w : World) : Calls Tryd.prog 13 #[.int .i64 k] w fun e w' => e = .returned (.string (nmS k)) ∧ Below w.heap.size w w' := by
  have HF := Lib.hid (form_any k)
  by_cases hk : 1 ≤ k ∧ k ≤ 14
  · obtain ⟨T, V, hd⟩ := sh_is hk
    unfold fmV at HF
    obtain ⟨a, ha⟩ : ∃ a, nmS k = a := ⟨_, rfl⟩
    obtain ⟨b, hb⟩ : ∃ b, kIt k = b := ⟨_, rfl⟩
    obtain ⟨c, hc⟩ : ∃ b, kOf k = b := ⟨_, rfl⟩
    rw [ha, hb, hc, hd] at HF
    rw [ha]
    clear ha hb hc hd
    go_enter Tryd.func13, Tryd.ntmps13
    go_wp2_with fail
    (with_reducible refine (HF.out _).mono ?_)
    rintro e w1 ⟨rfl, hb⟩
    have HB := Lib.hid (below_old hb ((Below.refl _ _).alloc (Nat.le_refl _) (.cells #[.string a, .int .u8 b, .int .u8 c, .iface T V] 45)))
    clear hb
    go_wp2_with fail
    go_ret
    exact ⟨rfl, HB.out⟩
  · have hn : nmS k = ⟨#[]⟩ := by
      have := fm_no hk
      unfold fmV at this
      simp only [Value.agg.injEq, Array.mk.injEq, List.cons.injEq, Value.string.injEq] at this
      exact this.1
    rw [fm_no hk] at HF
    rw [hn]
    clear hn hk
    go_enter Tryd.func13, Tryd.ntmps13
    go_wp2_with fail
    (with_reducible refine (HF.out _).mono ?_)
    rintro e w1 ⟨rfl, hb⟩
    have HB := Lib.hid (below_old hb ((Below.refl _ _).alloc (Nat.le_refl _) (.cells #[.string ⟨#[]⟩, .int .u8 0, .int .u8 0, .nilIface] 45)))
    clear hb
    go_wp2_with fail
    go_ret
    exact ⟨rfl, HB.out⟩
end Go.Proofs.YtcefmnkfkpoccaaDoor
