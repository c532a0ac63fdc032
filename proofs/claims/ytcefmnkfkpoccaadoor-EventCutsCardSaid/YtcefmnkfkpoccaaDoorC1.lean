/- Codes: their bytes; the reference's Code. -/
import Derived.Test.YtcefmnkfkpoccaaDoorMA
import Derived.Test.YtcefmnkfkpoccaaDoorShelf
import Derived.Laws.BytesArg
import Derived.Lib.ItoaNum
import Derived.Lib.ItoaMem
import Derived.Lib.Repeat
namespace Go.Proofs.YtcefmnkfkpoccaaDoor
open Go.RowKit
set_option linter.unusedVariables false

/-- The six digits of a number. -/
def pad6 (n : Int) : List Int := [n / 100000 % 10, n / 10000 % 10, n / 1000 % 10, n / 100 % 10, n / 10 % 10, n / 1 % 10]
/-- The kind and the first j digits. -/
def body (k n : Int) (j : Nat) : ByteArray := strOfNums (k :: ((pad6 n).take j).map (48 + ·))
/-- The code. -/
def codeS (k n : Int) : ByteArray := strOfNums (k :: (pad6 n).map (48 + ·) ++ [65 + letN (body k n 6) 7])
def codB (k n : Int) : Int := if 65 ≤ k ∧ k ≤ 90 then (if 0 ≤ n ∧ n ≤ 999999 then 0 else 9) else 10
def codT (k n : Int) : ByteArray := if codB k n = 0 then codeS k n else ⟨#[]⟩
theorem cod_kind {k n : Int} (h : ¬ (65 ≤ k ∧ k ≤ 90)) : codT k n = ⟨#[]⟩ ∧ codB k n = 10 := by
  have e : codB k n = 10 := by rw [codB, if_neg h]
  exact ⟨by rw [codT, e]; rfl, e⟩
theorem cod_range {k n : Int} (h : 65 ≤ k ∧ k ≤ 90) (hn : ¬ (0 ≤ n ∧ n ≤ 999999)) : codT k n = ⟨#[]⟩ ∧ codB k n = 9 := by
  have e : codB k n = 9 := by rw [codB, if_pos h, if_neg hn]
  exact ⟨by rw [codT, e]; rfl, e⟩
theorem cod_ok {k n : Int} (h : 65 ≤ k ∧ k ≤ 90) (hn : 0 ≤ n ∧ n ≤ 999999) : codT k n = codeS k n ∧ codB k n = 0 := by
  have e : codB k n = 0 := by rw [codB, if_pos h, if_pos hn]
  exact ⟨by rw [codT, e]; rfl, e⟩

theorem nums_append (xs ys : List Int) : strOfNums xs ++ strOfNums ys = strOfNums (xs ++ ys) := by
  apply ByteArray.ext
  simp [strOfNums, ByteArray.data_append]

/-- 'string([]byte[x])' in the world behind its block. -/
theorem conv_one (W : World) (x : Int) : (convert 39 9 (.slice (some ⟨W.heap.size, 0, none⟩) 1 1)).run Tryd.prog (W.alloc (.cells #[.int .u8 x] 5)) = .ok (.string (strOfNums [x])) (W.alloc (.cells #[.int .u8 x] 5)) := by
  refine run_convert_bytes_arg _ 39 5 Tryd.underlying39 Tryd.underlying5 W.heap.size 0 1 1 [x] rfl (fun i hi => ?_) 9 Tryd.underlying9
  have : i = 0 := by omega
  subst this
  simp [go_sem]

theorem ret_sE {s t : ByteArray} {k : IntKind} {a b : Int} (h : s = t) (h' : a = b) : Ending.returned (.tuple #[.string s, .int k a]) = .returned (.tuple #[.string t, .int k b]) := by rw [h, h']

theorem body_next (k n : Int) (j : Nat) (d : Int) (hd : (pad6 n)[j]? = some d) : body k n j ++ strOfNums [48 + d] = body k n (j + 1) := by
  unfold body
  rw [nums_append]
  congr 1
  have hj : j < (pad6 n).length := (List.getElem?_eq_some_iff.1 hd).1
  have he : (pad6 n)[j] = d := by rw [List.getElem?_eq_getElem hj] at hd; exact Option.some.inj hd
  rw [List.take_succ_eq_append_getElem hj, List.map_append, he]
  simp

theorem body0 (k n : Int) : strOfNums [k] = body k n 0 := by simp [body]
theorem body_size (k n : Int) (j : Nat) (hj : j ≤ 6) : (body k n j).size = j + 1 := by
  unfold body
  rw [strOfNums_size]
  simp [pad6]
  omega
theorem body_code (k n : Int) (l : Int) (hl : letN (body k n 6) 7 = l) : body k n 6 ++ strOfNums [65 + l] = codeS k n := by
  unfold codeS
  rw [hl]
  show strOfNums (k :: ((pad6 n).take 6).map (48 + ·)) ++ _ = _
  rw [nums_append]
  rfl

def unitOf : Nat → Int
  | 0 => 100000 | 1 => 10000 | 2 => 1000 | 3 => 100 | 4 => 10 | 5 => 1 | _ => 0

set_option maxHeartbeats 2000000 in
theorem rcode_any (k n : Int) (w : World) :
    Calls Tryd.prog 23 #[.int .u8 k, .int .i64 n] w fun e w' => e = .returned (.tuple #[.string (codT k n), .int .i64 (codB k n)]) ∧ Below w.heap.size w w' := by
  by_cases hk : 65 ≤ k ∧ k ≤ 90
  · by_cases hn : 0 ≤ n ∧ n ≤ 999999
    · have hv := Lib.hid (cod_ok hk hn)
      have hcv := conv_one
      have hb0 := Lib.hid (body0 k n)
      go_enter Tryd.func23, Tryd.ntmps23
      go_wp2_with (go_at_call 51; (with_reducible refine (rcap_yes _ hk _).mono ?_); rintro e w' ⟨rfl, rfl⟩)
      go_loopw [6, 7] (fun s u wr => ∃ j : Nat, j ≤ 6 ∧ u = .int .i64 (unitOf j) ∧ s = .string (body k n j) ∧ Below w.heap.size w wr) (fun _ u _ => (intOf u).toNat)
      case atStart => exact ⟨0, by omega, rfl, by rw [hb0.out], (Below.refl _ _).alloc (Nat.le_refl _) _⟩
      case round =>
        obtain ⟨j, hj, rfl, rfl, hB⟩ := hrel
        have hsz := hB.size
        have hj7 : j = 0 ∨ j = 1 ∨ j = 2 ∨ j = 3 ∨ j = 4 ∨ j = 5 ∨ j = 6 := by omega
        rcases hj7 with rfl | rfl | rfl | rfl | rfl | rfl | rfl
        all_goals clear hj
        all_goals simp only [unitOf]
        · obtain ⟨d, hd⟩ : ∃ d, n / 100000 % 10 = d := ⟨_, rfl⟩
          have hd1 : 0 ≤ d ∧ d ≤ 9 := by omega
          have hbn := Lib.hid (body_next k n 0 d (by rw [← hd]; rfl))
          go_wp2_with fail
          go_roundw
          case rel => exact ⟨0 + 1, by omega, by go_num, by rw [hbn.out], ((hB.alloc (by omega) _))⟩
          case measure => simp [intOf]
        · obtain ⟨d, hd⟩ : ∃ d, n / 10000 % 10 = d := ⟨_, rfl⟩
          have hd1 : 0 ≤ d ∧ d ≤ 9 := by omega
          have hbn := Lib.hid (body_next k n 1 d (by rw [← hd]; rfl))
          go_wp2_with fail
          go_roundw
          case rel => exact ⟨1 + 1, by omega, by go_num, by rw [hbn.out], ((hB.alloc (by omega) _))⟩
          case measure => simp [intOf]
        · obtain ⟨d, hd⟩ : ∃ d, n / 1000 % 10 = d := ⟨_, rfl⟩
          have hd1 : 0 ≤ d ∧ d ≤ 9 := by omega
          have hbn := Lib.hid (body_next k n 2 d (by rw [← hd]; rfl))
          go_wp2_with fail
          go_roundw
          case rel => exact ⟨2 + 1, by omega, by go_num, by rw [hbn.out], ((hB.alloc (by omega) _))⟩
          case measure => simp [intOf]
        · obtain ⟨d, hd⟩ : ∃ d, n / 100 % 10 = d := ⟨_, rfl⟩
          have hd1 : 0 ≤ d ∧ d ≤ 9 := by omega
          have hbn := Lib.hid (body_next k n 3 d (by rw [← hd]; rfl))
          go_wp2_with fail
          go_roundw
          case rel => exact ⟨3 + 1, by omega, by go_num, by rw [hbn.out], ((hB.alloc (by omega) _))⟩
          case measure => simp [intOf]
        · obtain ⟨d, hd⟩ : ∃ d, n / 10 % 10 = d := ⟨_, rfl⟩
          have hd1 : 0 ≤ d ∧ d ≤ 9 := by omega
          have hbn := Lib.hid (body_next k n 4 d (by rw [← hd]; rfl))
          go_wp2_with fail
          go_roundw
          case rel => exact ⟨4 + 1, by omega, by go_num, by rw [hbn.out], ((hB.alloc (by omega) _))⟩
          case measure => simp [intOf]
        · obtain ⟨d, hd⟩ : ∃ d, n % 10 = d := ⟨_, rfl⟩
          have hd1 : 0 ≤ d ∧ d ≤ 9 := by omega
          have hbn := Lib.hid (body_next k n 5 d (by rw [← hd]; show some (n / 1 % 10) = _; rw [Int.ediv_one]))
          go_wp2_with fail
          go_roundw
          case rel => exact ⟨5 + 1, by omega, by go_num, by rw [hbn.out], ((hB.alloc (by omega) _))⟩
          case measure => simp [intOf]
        · have hs7 : (body k n 6).size = 7 := body_size k n 6 (by omega)
          obtain ⟨l, hl⟩ : ∃ l, letN (body k n 6) 7 = l := ⟨_, rfl⟩
          have hlr := letN_range (body k n 6) 7
          have hlc := (rletter_any (body k n 6) (by rw [hs7]; omega))
          rw [hs7, hl] at hlc
          rw [hl] at hlr
          have HC := Lib.hid (body_code k n l hl)
          have HL := Lib.hid hlc
          have hcat : ¬ 9223372036854775807 < (body k n 6).size + (strOfNums [65 + l]).size := by rw [hs7, strOfNums_size]; simp
          clear hl hlc hs7
          generalize body k n 6 = bd at *
          go_wp2_with fail
          (with_reducible refine (HL.out _).mono ?_)
          rintro e w2 ⟨rfl, rfl⟩
          go_wp2_with fail
          go_ret2
          exact ⟨ret_sE (by rw [hv.out.1]; exact HC.out) hv.out.2.symm, hB.alloc (by omega) _⟩
    · have hv := Lib.hid (cod_range hk hn)
      by_cases hn0 : n < 0
      all_goals
        go_enter Tryd.func23, Tryd.ntmps23
        go_wp2_with (go_at_call 51; (with_reducible refine (rcap_yes _ hk _).mono ?_); rintro e w' ⟨rfl, rfl⟩)
        go_ret2
        exact ⟨ret_sE hv.out.1.symm hv.out.2.symm, Below.refl _ _⟩
  · have hv := Lib.hid (cod_kind (n := n) hk)
    go_enter Tryd.func23, Tryd.ntmps23
    go_wp2_with (go_at_call 51; (with_reducible refine (rcap_no _ hk _).mono ?_); rintro e w' ⟨rfl, rfl⟩)
    go_ret2
    exact ⟨ret_sE hv.out.1.symm hv.out.2.symm, Below.refl _ _⟩
end Go.Proofs.YtcefmnkfkpoccaaDoor
