/- Texts of links: decimal numbers; the reference's Text; Itoa. -/
import Derived.Test.YtpimmdmcmccbpaaDoorE2
import Derived.Lib.Join
import Derived.BigQuiet
import Derived.Lib.AppendIntMem
import Derived.Lib.ItoaLen
namespace Go.Proofs.YtpimmdmcmccbpaaDoor
open Go.RowKit
set_option linter.unusedVariables false

abbrev TabOk (w : World) : Prop := Lib.TabIs Tryd.prog w "internal/strconv.uint64pow10" .u64 Lib.pow10Tab
theorem TabOk.below {w w' : World} (h : TabOk w) (hb : Below w.heap.size w w') : TabOk w' := Lib.tabBelow_of_tabIs h w' hb
theorem below_grow' (w : World) (k : Nat) (os : Array Obj) : Below w.heap.size w (Go.Sort.grow (w.drewN k) os) :=
  ⟨rfl, rfl, rfl, by simp [Go.Sort.grow], fun i hi => by simp [Go.Sort.grow, Array.getElem?_append, hi]⟩
/-- A number's text. -/
def itS (n : Int) : ByteArray := ⟨(Lib.itoa n).toArray⟩
theorem itoa_any (n : Int) (h0 : -9223372036854775808 ≤ n) (h1 : n ≤ 9223372036854775807) (w : World) (ht : Hid (TabOk w)) :
    Calls Tryd.prog 56 #[.int .i64 n] w fun e w' => e = .returned (.string (itS n)) ∧ Below w.heap.size w w' := by
  refine (Tryd.strconv_Itoa n h0 h1 w ht.out).mono fun e w' h => ?_
  obtain ⟨h2, k, os, rfl⟩ := h
  exact ⟨h2, below_grow' w k os⟩

def dgS (u : Nat) : ByteArray := ⟨(Lib.decDigits u).toArray⟩
theorem dgS_small {u : Nat} (h : u < 10) : dgS u = strOfNums [48 + (u : Int)] := by
  unfold dgS
  rw [Lib.decDigits, dif_pos h]
  apply ByteArray.ext
  have e : (48 + (u : Int)).toNat = 48 + u := by omega
  simp [strOfNums, e]
theorem dgS_big {u : Nat} (h : ¬ u < 10) : dgS u = dgS (u / 10) ++ strOfNums [48 + ((u % 10 : Nat) : Int)] := by
  have hu := Lib.decDigits.eq_def u
  rw [dif_neg h] at hu
  unfold dgS
  rw [hu]
  generalize u % 10 = r
  apply ByteArray.ext
  have e : (48 + (r : Int)).toNat = 48 + r := by omega
  rw [ByteArray.data_append]
  simp [strOfNums, e]
theorem dgS_size {u : Nat} (h : u < 18446744073709551616) : (dgS u).size ≤ 20 := by
  have h1 := Lib.nDigits_le20 u h
  have h2 := Lib.decDigits_length u
  show (Lib.decDigits u).toArray.size ≤ 20
  rw [List.size_toArray]
  omega
theorem itS_size {n : Int} (h0 : -9223372036854775808 ≤ n) (h1 : n ≤ 9223372036854775807) : (itS n).size ≤ 21 := by
  have h2 := Lib.itoa_length_le n h0 h1
  show (Lib.itoa n).toArray.size ≤ 21
  rw [List.size_toArray]
  exact h2
theorem conv_1 (W : World) (x : Int) : (convert 109 9 (.slice (some ⟨W.heap.size, 0, none⟩) 1 1)).run Tryd.prog (W.alloc (.cells #[.int .u8 x] 5)) = .ok (.string (strOfNums [x])) (W.alloc (.cells #[.int .u8 x] 5)) := by
  refine run_convert_bytes_arg _ 109 5 Tryd.underlying109 Tryd.underlying5 W.heap.size 0 1 1 [x] rfl (fun i hi => ?_) 9 Tryd.underlying9
  have : i = 0 := by omega
  subst this
  simp [go_sem]
theorem ret_str {a b : ByteArray} (h : a = b) : Ending.returned (.string a) = .returned (.string b) := by rw [h]
set_option maxRecDepth 100000 in
set_option maxHeartbeats 4000000 in
theorem digits_any (u : Nat) : ∀ (x : Int), Hid (x = (u : Int)) → x ≤ 18446744073709551615 → ∀ w, Calls Tryd.prog 74 #[.int .u64 x] w fun e w' => e = .returned (.string (dgS u)) ∧ Below w.heap.size w w' := by
  induction u using Nat.strongRecOn with
  | ind u ih =>
    intro x hx h1 w
    have h0 : 0 ≤ x := by have := hx.out; omega
    have hb0 := (Below.refl w.heap.size w).alloc (Nat.le_refl _) (.cells #[.int .u8 (48 + x % 10)] 5)
    have hcv := conv_1 w (48 + x % 10)
    have hr : Hid (48 + x % 10 = 48 + ((u % 10 : Nat) : Int)) := by show _ = _; have := hx.out; omega
    obtain ⟨T, hT⟩ : ∃ T, strOfNums [48 + x % 10] = T := ⟨_, rfl⟩
    rw [hT] at hcv
    by_cases h10 : x < 10
    · have hE : Hid (dgS u = T) := by
        have := hx.out
        show _ = _
        rw [dgS_small (by omega), ← hT, show x % 10 = (u : Int) by omega]
      clear hT ih
      go_enter Tryd.func74, Tryd.ntmps74
      go_wp2_with fail
      go_ret
      exact ⟨ret_str hE.out.symm, hb0⟩
    · have hE : Hid (dgS (u / 10) ++ T = dgS u) := by
        have := hx.out
        show _ = _
        rw [dgS_big (u := u) (by omega), ← hT, hr.out]
      have HI := Lib.hid (ih (u / 10) (by have := hx.out; omega) (x / 10) (by show _ = _; have := hx.out; omega) (by omega))
      have hs1 : T.size = 1 := by rw [← hT]; rfl
      have hs2 : (dgS (u / 10)).size ≤ 20 := dgS_size (by have := hx.out; omega)
      generalize dgS (u / 10) = X at *
      clear hT ih hr
      go_enter Tryd.func74, Tryd.ntmps74
      go_wp2_with fail
      (with_reducible refine (HI.out _).mono ?_)
      rintro e w1 ⟨rfl, hb⟩
      go_wp2_with fail
      go_ret
      exact ⟨ret_str hE.out, below_old hb0 hb⟩
theorem itS_nonneg (u : Nat) : itS (u : Int) = dgS u := by unfold itS dgS; rw [Lib.itoa, if_neg (by omega), Int.toNat_natCast]
theorem itS_neg {n : Int} (h : n < 0) : itS n = ⟨#[45]⟩ ++ dgS n.natAbs := by
  unfold itS dgS
  rw [Lib.itoa, if_pos h]
  apply ByteArray.ext
  rw [ByteArray.data_append]
  simp
set_option maxRecDepth 100000 in
set_option maxHeartbeats 4000000 in
theorem decimal_any (n : Int) (h0 : -9223372036854775808 ≤ n) (h1 : n ≤ 9223372036854775807) (w : World) :
    Calls Tryd.prog 59 #[.int .i64 n] w fun e w' => e = .returned (.string (itS n)) ∧ Below w.heap.size w w' := by
  by_cases hn : n < 0
  · have hE := Lib.hid (itS_neg hn)
    have HD := Lib.hid (digits_any n.natAbs (-(n + 1) + 1) (by show _ = _; omega) (by omega))
    have hs2 : (dgS n.natAbs).size ≤ 20 := dgS_size (by omega)
    generalize dgS n.natAbs = X at *
    go_enter Tryd.func59, Tryd.ntmps59
    go_wp2_with fail
    (with_reducible refine (HD.out _).mono ?_)
    rintro e w1 ⟨rfl, hb⟩
    go_wp2_with fail
    go_ret
    exact ⟨ret_str hE.out.symm, hb⟩
  · obtain ⟨u, rfl⟩ : ∃ u : Nat, n = (u : Int) := ⟨n.toNat, by omega⟩
    have hE := Lib.hid (itS_nonneg u)
    have HD := Lib.hid (digits_any u (u : Int) rfl (by omega))
    go_enter Tryd.func59, Tryd.ntmps59
    go_wp2_with fail
    (with_reducible refine (HD.out _).mono ?_)
    rintro e w1 ⟨rfl, hb⟩
    go_wp2_with fail
    go_ret
    exact ⟨ret_str hE.out.symm, hb⟩
end Go.Proofs.YtpimmdmcmccbpaaDoor
