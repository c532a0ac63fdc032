/- Package wire: Int, Text. -/
import Derived.Test.YtcefmnkfkpoccaaDoorG2
import Derived.Laws.Bits64b
namespace Go.Proofs.YtcefmnkfkpoccaaDoor
open Go.RowKit
set_option linter.unusedVariables false
open Wi Evn
theorem or64 (a b : Nat) (i : Nat) (hb : b < 2 ^ i) (ha : a * 2 ^ i + b < 18446744073709551616) : bits .or .u64 ((a * 2 ^ i : Nat) : Int) (b : Int) = ((a * 2 ^ i + b : Nat) : Int) := by
  rw [bits_or_u64_nat _ _ (by omega) (by omega), ← Nat.shiftLeft_eq, Nat.shiftLeft_add_eq_or_of_lt hb]
theorem neg64 {n : Int} (h0 : -9223372036854775808 ≤ n) (h : n < 0) : bits .xor .u64 IntKind.u64.max (IntKind.u64.wrap n) = -(n + 1) := by
  have e1 : IntKind.u64.wrap n = n + 18446744073709551616 := by rw [IntKind.wrap_u64]; omega
  obtain ⟨a, ha⟩ : ∃ a : Nat, n + 18446744073709551616 = (a : Int) := ⟨(n + 18446744073709551616).toNat, by omega⟩
  rw [e1, ha]
  have h1 : (BitVec.ofInt 64 (a : Int)).toNat = a := by
    rw [BitVec.ofInt_natCast, BitVec.toNat_ofNat]; exact Nat.mod_eq_of_lt (by omega)
  show IntKind.u64.wrap ((BitVec.ofInt 64 IntKind.u64.max ^^^ BitVec.ofInt 64 (a : Int)).toNat : Int) = _
  have h2 : BitVec.ofInt 64 IntKind.u64.max = BitVec.allOnes 64 := by decide
  rw [h2, BitVec.allOnes_xor, BitVec.toNat_not, h1, IntKind.wrap_u64]
  omega
theorem negzz {n : Int} (h0 : -9223372036854775808 ≤ n) (h : n < 0) : bits .or .u64 (IntKind.u64.wrap (bits .xor .u64 IntKind.u64.max (IntKind.u64.wrap n) * 2)) 1 = ((zz n : Nat) : Int) := by
  rw [neg64 h0 h]
  obtain ⟨m, hm⟩ : ∃ m : Nat, -(n + 1) = (m : Int) := ⟨(-(n + 1)).toNat, by omega⟩
  rw [hm]
  have e1 : IntKind.u64.wrap ((m : Int) * 2) = ((m * 2 ^ 1 : Nat) : Int) := by rw [IntKind.wrap_u64]; omega
  rw [e1, show (1 : Int) = ((1 : Nat) : Int) from rfl, or64 m 1 1 (by decide) (by omega)]
  unfold zz
  rw [if_neg (by omega)]
  omega
theorem ret_st {s t : ByteArray} (h : s = t) : Ending.returned (.string s) = .returned (.string t) := by rw [h]
theorem uint_eq (x : Int) (n : Nat) (hx : Hid (x = (n : Int))) (hn : n < 18446744073709551616) (T : ByteArray) (hT : Hid (lb (uvL n) = T)) (w : World) : Calls Tryd.prog 55 #[.int .u64 x] w fun e w' => e = .returned (.string T) ∧ Below w.heap.size w w' := by
  have := uint_any n hn w
  rw [← hx.out, hT.out] at this
  exact this
theorem int_any (n : Int) (h0 : -9223372036854775808 ≤ n) (h1 : n ≤ 9223372036854775807) (T : ByteArray) (hT : Hid (lb (inL n) = T)) (w : World) : Calls Tryd.prog 30 #[.int .i64 n] w fun e w' => e = .returned (.string T) ∧ Below w.heap.size w w' := by
  have hz := zz_lt h0 h1
  unfold inL at hT
  by_cases h : n < 0
  · have HZ := Lib.hid (negzz h0 h)
    go_enter Tryd.func30, Tryd.ntmps30
    go_wp2_with fail
    (with_reducible refine (uint_eq _ _ HZ hz T hT _).mono ?_)
    rintro e w1 ⟨rfl, hb⟩
    go_wp2_with fail
    go_ret
    exact ⟨rfl, hb⟩
  · have HZ : Hid (n * 2 = ((zz n : Nat) : Int)) := by show _ = _; unfold zz; rw [if_pos (by omega)]; omega
    go_enter Tryd.func30, Tryd.ntmps30
    go_wp2_with fail
    (with_reducible refine (uint_eq _ _ HZ hz T hT _).mono ?_)
    rintro e w1 ⟨rfl, hb⟩
    go_wp2_with fail
    go_ret
    exact ⟨rfl, hb⟩
theorem text_any (s : ByteArray) (hs : (s.size : Int) ≤ 1000000) (T : ByteArray) (hT : Hid (lb (txL (bl s)) = T)) (w : World) : Calls Tryd.prog 31 #[.string s] w fun e w' => e = .returned (.string T) ∧ Below w.heap.size w w' := by
  obtain ⟨U, hU⟩ : ∃ U, lb (uvL s.size) = U := ⟨_, rfl⟩
  have HU := Lib.hid hU
  have hus : (U.size : Int) ≤ 10 := by rw [← hU]; have := (uvL_len s.size).2; show (((uvL s.size).length : Nat) : Int) ≤ 10; omega
  have HE : Hid (U ++ s = T) := by
    show _ = _
    rw [← hT.out, ← hU]
    apply ByteArray.ext
    apply Array.ext'
    simp [lb, bl, txL]
  clear hU
  go_enter Tryd.func31, Tryd.ntmps31
  go_wp2_with fail
  (with_reducible refine (uint_eq _ s.size (Lib.hid rfl) (by omega) U HU _).mono ?_)
  rintro e w1 ⟨rfl, hb⟩
  go_wp2_with fail
  go_ret
  exact ⟨ret_st HE.out, hb⟩
end Go.Proofs.YtcefmnkfkpoccaaDoor
