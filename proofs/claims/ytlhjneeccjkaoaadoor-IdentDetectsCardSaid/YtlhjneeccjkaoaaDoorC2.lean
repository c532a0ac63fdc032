/- ident.Code. -/
import Derived.Test.YtlhjneeccjkaoaaDoorC1
import Derived.Test.YtlhjneeccjkaoaaDoorR2
import Derived.Lib.AppendIntMem
namespace Go.Proofs.YtlhjneeccjkaoaaDoor
open Go.RowKit
set_option linter.unusedVariables false

theorem dd_step (N : Nat) (h : 10 ≤ N) : Lib.decDigits N = Lib.decDigits (N / 10) ++ [UInt8.ofNat (48 + N % 10)] := by rw [Lib.decDigits, dif_neg (by omega)]
theorem dd_one (N : Nat) (h : N < 10) : Lib.decDigits N = [UInt8.ofNat (48 + N)] := by rw [Lib.decDigits, dif_pos h]
def rep0 (c : Nat) : List UInt8 := Lib.repeatL [48] c

theorem pad_list (N : Nat) (h : N < 1000000) : (Lib.decDigits N).length ≤ 6 ∧ 1 ≤ (Lib.decDigits N).length ∧
    Lib.repeatL [48] (6 - (Lib.decDigits N).length) ++ Lib.decDigits N = [UInt8.ofNat (48 + N / 100000 % 10), UInt8.ofNat (48 + N / 10000 % 10), UInt8.ofNat (48 + N / 1000 % 10), UInt8.ofNat (48 + N / 100 % 10), UInt8.ofNat (48 + N / 10 % 10), UInt8.ofNat (48 + N % 10)] := by
  have z : (48 : UInt8) = UInt8.ofNat (48 + 0) := rfl
  by_cases h1 : N < 10
  · rw [dd_one N h1]
    simp [Lib.repeatL]
    rw [show N / 100000 = 0 by omega, show N / 10000 = 0 by omega, show N / 1000 = 0 by omega, show N / 100 = 0 by omega, show N / 10 = 0 by omega, show N % 10 = N by omega]
    simp
  · by_cases h2 : N < 100
    · rw [dd_step N (by omega), dd_one (N / 10) (by omega)]
      simp [Lib.repeatL]
      rw [show N / 100000 = 0 by omega, show N / 10000 = 0 by omega, show N / 1000 = 0 by omega, show N / 100 = 0 by omega, show N / 10 % 10 = N / 10 by omega]
      simp
    · by_cases h3 : N < 1000
      · rw [dd_step N (by omega), dd_step (N / 10) (by omega), dd_one (N / 10 / 10) (by omega)]
        simp [Lib.repeatL]
        rw [show N / 100000 = 0 by omega, show N / 10000 = 0 by omega, show N / 1000 = 0 by omega, show N / 100 % 10 = N / 10 / 10 by omega]
        simp
      · by_cases h4 : N < 10000
        · rw [dd_step N (by omega), dd_step (N / 10) (by omega), dd_step (N / 10 / 10) (by omega), dd_one (N / 10 / 10 / 10) (by omega)]
          simp [Lib.repeatL]
          rw [show N / 100000 = 0 by omega, show N / 10000 = 0 by omega, show N / 1000 % 10 = N / 10 / 10 / 10 by omega, show N / 100 % 10 = N / 10 / 10 % 10 by omega]
          simp
        · by_cases h5 : N < 100000
          · rw [dd_step N (by omega), dd_step (N / 10) (by omega), dd_step (N / 10 / 10) (by omega), dd_step (N / 10 / 10 / 10) (by omega), dd_one (N / 10 / 10 / 10 / 10) (by omega)]
            simp [Lib.repeatL]
            rw [show N / 100000 = 0 by omega, show N / 10000 % 10 = N / 10 / 10 / 10 / 10 by omega, show N / 1000 % 10 = N / 10 / 10 / 10 % 10 by omega, show N / 100 % 10 = N / 10 / 10 % 10 by omega]
            simp
          · rw [dd_step N (by omega), dd_step (N / 10) (by omega), dd_step (N / 10 / 10) (by omega), dd_step (N / 10 / 10 / 10) (by omega), dd_step (N / 10 / 10 / 10 / 10) (by omega), dd_one (N / 10 / 10 / 10 / 10 / 10) (by omega)]
            simp [Lib.repeatL]
            rw [show N / 100000 % 10 = N / 10 / 10 / 10 / 10 / 10 by omega, show N / 10000 % 10 = N / 10 / 10 / 10 / 10 % 10 by omega, show N / 1000 % 10 = N / 10 / 10 / 10 % 10 by omega, show N / 100 % 10 = N / 10 / 10 % 10 by omega]
            simp

theorem pad_body (k : Int) (N : Nat) (h : N < 1000000) : strOfNums [k] ++ (⟨(Lib.repeatL [48] (6 - (Lib.decDigits N).length)).toArray⟩ : ByteArray) ++ (⟨(Lib.decDigits N).toArray⟩ : ByteArray) = body k (N : Int) 6 := by
  apply ByteArray.ext
  obtain ⟨_, _, e⟩ := pad_list N h
  rw [ByteArray.data_append, ByteArray.data_append, Array.append_assoc]
  have e2 : (Lib.repeatL [48] (6 - (Lib.decDigits N).length)).toArray ++ (Lib.decDigits N).toArray = (Lib.repeatL [48] (6 - (Lib.decDigits N).length) ++ Lib.decDigits N).toArray := by simp
  show (strOfNums [k]).data ++ ((Lib.repeatL [48] (6 - (Lib.decDigits N).length)).toArray ++ (Lib.decDigits N).toArray) = _
  rw [e2, e]
  have c : ∀ x : Nat, (48 : Int) + (x : Int) % 10 = ((48 + x % 10 : Nat) : Int) := fun x => by omega
  have d1 : (N : Int) / 100000 = ((N / 100000 : Nat) : Int) := by omega
  have d2 : (N : Int) / 10000 = ((N / 10000 : Nat) : Int) := by omega
  have d3 : (N : Int) / 1000 = ((N / 1000 : Nat) : Int) := by omega
  have d4 : (N : Int) / 100 = ((N / 100 : Nat) : Int) := by omega
  have d5 : (N : Int) / 10 = ((N / 10 : Nat) : Int) := by omega
  have hb : body k (N : Int) 6 = strOfNums [k, ((48 + N / 100000 % 10 : Nat) : Int), ((48 + N / 10000 % 10 : Nat) : Int), ((48 + N / 1000 % 10 : Nat) : Int), ((48 + N / 100 % 10 : Nat) : Int), ((48 + N / 10 % 10 : Nat) : Int), ((48 + N % 10 : Nat) : Int)] := by
    unfold body pad6
    rw [d1, d2, d3, d4, d5, Int.ediv_one]
    simp only [List.take, List.map, c]
  rw [hb]
  simp only [strOfNums, List.map, Int.toNat_natCast]
  rfl
end Go.Proofs.YtlhjneeccjkaoaaDoor
