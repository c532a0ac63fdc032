/- Code and Split undo each other. -/
import Derived.Test.YtlhjneeccjkaoaaDoorC4
namespace Go.Proofs.YtlhjneeccjkaoaaDoor
open Go.RowKit
set_option linter.unusedVariables false

theorem bt_nums (xs : List Int) (j : Nat) (x : Int) (h : xs[j]? = some x) (h0 : 0 ≤ x ∧ x ≤ 255) : bt (strOfNums xs) j = x := by
  unfold bt
  rw [strOfNums_data]
  simp only [List.getD_eq_getElem?_getD, List.getElem?_map, h, Option.map_some, Option.getD_some]
  rw [UInt8.toNat_ofNat']
  omega
theorem letN_congr (s t : ByteArray) : ∀ k, (∀ j, j < k → bt s j = bt t j) → letN s k = letN t k := by
  intro k
  induction k with
  | zero => intro _; rfl
  | succ k ih => intro h; simp only [letN]; rw [ih (fun j hj => h j (by omega)), h k (by omega)]

theorem code_bytes (k n : Int) (hk : 65 ≤ k ∧ k ≤ 90) : (codeS k n).size = 8 ∧ bt (codeS k n) 0 = k ∧ bt (codeS k n) 1 = 48 + n / 100000 % 10 ∧ bt (codeS k n) 2 = 48 + n / 10000 % 10 ∧ bt (codeS k n) 3 = 48 + n / 1000 % 10 ∧
    bt (codeS k n) 4 = 48 + n / 100 % 10 ∧ bt (codeS k n) 5 = 48 + n / 10 % 10 ∧ bt (codeS k n) 6 = 48 + n / 1 % 10 ∧ bt (codeS k n) 7 = 65 + letN (codeS k n) 7 := by
  have hl := letN_range (body k n 6) 7
  have e0 : bt (codeS k n) 0 = k := bt_nums _ 0 _ rfl (by omega)
  have e1 : bt (codeS k n) 1 = 48 + n / 100000 % 10 := bt_nums _ 1 _ rfl (by omega)
  have e2 : bt (codeS k n) 2 = 48 + n / 10000 % 10 := bt_nums _ 2 _ rfl (by omega)
  have e3 : bt (codeS k n) 3 = 48 + n / 1000 % 10 := bt_nums _ 3 _ rfl (by omega)
  have e4 : bt (codeS k n) 4 = 48 + n / 100 % 10 := bt_nums _ 4 _ rfl (by omega)
  have e5 : bt (codeS k n) 5 = 48 + n / 10 % 10 := bt_nums _ 5 _ rfl (by omega)
  have e6 : bt (codeS k n) 6 = 48 + n / 1 % 10 := bt_nums _ 6 _ rfl (by omega)
  have e7 : bt (codeS k n) 7 = 65 + letN (body k n 6) 7 := bt_nums _ 7 _ rfl (by omega)
  have f0 : bt (body k n 6) 0 = k := bt_nums _ 0 _ rfl (by omega)
  have f1 : bt (body k n 6) 1 = 48 + n / 100000 % 10 := bt_nums _ 1 _ rfl (by omega)
  have f2 : bt (body k n 6) 2 = 48 + n / 10000 % 10 := bt_nums _ 2 _ rfl (by omega)
  have f3 : bt (body k n 6) 3 = 48 + n / 1000 % 10 := bt_nums _ 3 _ rfl (by omega)
  have f4 : bt (body k n 6) 4 = 48 + n / 100 % 10 := bt_nums _ 4 _ rfl (by omega)
  have f5 : bt (body k n 6) 5 = 48 + n / 10 % 10 := bt_nums _ 5 _ rfl (by omega)
  have f6 : bt (body k n 6) 6 = 48 + n / 1 % 10 := bt_nums _ 6 _ rfl (by omega)
  have hc : letN (body k n 6) 7 = letN (codeS k n) 7 := letN_congr _ _ 7 fun j hj => by
    match j, hj with
    | 0, _ => rw [e0, f0] | 1, _ => rw [e1, f1] | 2, _ => rw [e2, f2] | 3, _ => rw [e3, f3] | 4, _ => rw [e4, f4] | 5, _ => rw [e5, f5] | 6, _ => rw [e6, f6]
    | j + 7, hj => omega
  refine ⟨by unfold codeS; rw [strOfNums_size]; simp [pad6], e0, e1, e2, e3, e4, e5, e6, by rw [e7, hc]⟩

theorem digs_of {s : ByteArray} (h1 : digAt s 1) (h2 : digAt s 2) (h3 : digAt s 3) (h4 : digAt s 4) (h5 : digAt s 5) (h6 : digAt s 6) : digsB s = true := digs_yes fun j hj hj' => by
  match j, hj, hj' with
  | 1, _, _ => exact h1 | 2, _, _ => exact h2 | 3, _, _ => exact h3 | 4, _, _ => exact h4 | 5, _, _ => exact h5 | 6, _, _ => exact h6
  | j + 7, _, h => omega

theorem code_split {k n : Int} (hk : 65 ≤ k ∧ k ≤ 90) (hn : 0 ≤ n ∧ n ≤ 999999) : (codeS k n).size = 8 ∧ spK (codeS k n) = k ∧ spN (codeS k n) = n ∧ spE (codeS k n) = 0 := by
  obtain ⟨h8, e0, e1, e2, e3, e4, e5, e6, e7⟩ := code_bytes k n hk
  have hd : digsB (codeS k n) = true := digs_of (by unfold digAt; omega) (by unfold digAt; omega) (by unfold digAt; omega) (by unfold digAt; omega) (by unfold digAt; omega) (by unfold digAt; omega)
  obtain ⟨a, b, c⟩ := sp_ok h8 (by rw [e0]; exact hk) hd e7.symm
  refine ⟨h8, by rw [a, e0], ?_, c⟩
  rw [b]
  simp only [numN, e1, e2, e3, e4, e5, e6]
  omega

theorem ext8 {s t : ByteArray} (hs : s.size = 8) (ht : t.size = 8) (h : ∀ j, j < 8 → bt s j = bt t j) : s = t := by
  apply ByteArray.ext
  apply Array.ext (hs.trans ht.symm)
  intro i h1 h2
  have h3 : i < 8 := by have : s.data.size = 8 := hs; omega
  have := h i h3
  rw [← bt_get s i h1, ← bt_get t i h2] at this
  exact UInt8.toNat_inj.1 (by exact_mod_cast this)

theorem split_code {s : ByteArray} (h : spE s = 0) : 65 ≤ spK s ∧ spK s ≤ 90 ∧ codeS (spK s) (spN s) = s := by
  obtain ⟨h8, hc, hd, hl⟩ := spE_zero h
  obtain ⟨a, b, c⟩ := sp_ok h8 hc hd hl
  have hdd := digs_each hd
  have d1 := hdd 1 (by omega) (by omega); have d2 := hdd 2 (by omega) (by omega); have d3 := hdd 3 (by omega) (by omega)
  have d4 := hdd 4 (by omega) (by omega); have d5 := hdd 5 (by omega) (by omega); have d6 := hdd 6 (by omega) (by omega)
  unfold digAt at d1 d2 d3 d4 d5 d6
  refine ⟨by omega, by omega, ?_⟩
  rw [a, b]
  obtain ⟨g8, e0, e1, e2, e3, e4, e5, e6, e7⟩ := code_bytes (bt s 0) (numN s 6) hc
  have hnum : numN s 6 = ((((((bt s 1 - 48) * 10 + (bt s 2 - 48)) * 10 + (bt s 3 - 48)) * 10 + (bt s 4 - 48)) * 10 + (bt s 5 - 48)) * 10 + (bt s 6 - 48)) := by simp [numN]
  have hj : ∀ j, j < 7 → bt (codeS (bt s 0) (numN s 6)) j = bt s j := fun j hj => by
    match j, hj with
    | 0, _ => rw [e0] | 1, _ => rw [e1, hnum]; omega | 2, _ => rw [e2, hnum]; omega | 3, _ => rw [e3, hnum]; omega | 4, _ => rw [e4, hnum]; omega | 5, _ => rw [e5, hnum]; omega | 6, _ => rw [e6, hnum]; omega
    | j + 7, hj => omega
  refine ext8 g8 h8 fun j h => ?_
  rcases Nat.lt_or_ge j 7 with h7 | h7
  · exact hj j h7
  · obtain rfl : j = 7 := by omega
    rw [e7, letN_congr _ s 7 hj]
    exact hl
end Go.Proofs.YtlhjneeccjkaoaaDoor
