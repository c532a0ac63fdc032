/- Package wire: Uint, Int, Text; the reference's. -/
import Derived.Test.YtcefmnkfkpoccaaDoorG1
import Derived.Test.YtcefmnkfkpoccaaDoorH0
import Derived.Laws.BytesArg
import Derived.Laws.Bits64
import Derived.Lib.ItoaMem
namespace Go.Proofs.YtcefmnkfkpoccaaDoor
open Go.RowKit
set_option linter.unusedVariables false
open Wi Evn
def u8c (l : List UInt8) : List Value := l.map fun b => .int .u8 (b.toNat : Int)
theorem u8c_len (l : List UInt8) : (u8c l).length = l.length := by simp [u8c]
theorem u8c_snoc (l : List UInt8) (x : UInt8) : u8c (l ++ [x]) = u8c l ++ [.int .u8 (x.toNat : Int)] := by simp [u8c]
theorem infoB : (Tryd.prog.info? 5).map (fun i => (i.zero, i.size, i.bytes)) = some (some (.int .u8 0), 1, 1) := by kernel_rfl
theorem nums_lb (l : List UInt8) : strOfNums (l.map fun b => (b.toNat : Int)) = lb l := by
  unfold strOfNums lb
  congr 1
  apply Array.ext'
  simp [Function.comp_def]
theorem row_conv {W : World} {B : Nat} {v : Value} {l : List UInt8} (h : W.ownsRow B 5 1 v l.length (u8c l)) (hl : 0 < l.length) : (convert 39 9 v).run Tryd.prog W = .ok (.string (lb l)) W := by
  rcases h.2 with ⟨_, h0⟩ | ⟨g, cap, cur, rfl, _⟩
  · omega
  · rw [← nums_lb]
    refine run_convert_bytes_arg _ 39 5 Tryd.underlying39 Tryd.underlying5 g 0 l.length cap _ (by simp) (fun i hi => ?_) 9 Tryd.underlying9
    rw [Nat.zero_add, h.cellAt i (by omega)]
    simp [u8c, hi]
theorem or128 (m : Nat) : bits .or .u8 ((m : Int) % 256) 128 = ((128 + m % 128 : Nat) : Int) := by
  have e : (m : Int) % 256 = ((m % 256 : Nat) : Int) := by omega
  rw [e]
  have h : ∀ x, x < 256 → bits .or .u8 ((x : Nat) : Int) 128 = ((128 + x % 128 : Nat) : Int) := by decide +kernel
  rw [h (m % 256) (by omega)]
  congr 1
  omega
set_option maxRecDepth 100000 in
set_option maxHeartbeats 4000000 in
theorem uint_any (n : Nat) (hn : n < 18446744073709551616) (w : World) : Calls Tryd.prog 55 #[.int .u64 n] w fun e w' => e = .returned (.string (lb (uvL n))) ∧ Below w.heap.size w w' := by
  go_enter Tryd.func55, Tryd.ntmps55
  go_wp2_with fail
  go_loopw [0, 3] (fun x v wr => ∃ (m : Nat) (l : List UInt8), x = .int .u64 m ∧ m < 18446744073709551616 ∧ wr.ownsRow w.heap.size 5 1 v l.length (u8c l) ∧ Below w.heap.size w wr ∧ Hid (l ++ uvL m = uvL n)) (fun x _ _ => (intOf x).toNat)
  case atStart => exact ⟨n, [], rfl, hn, World.ownsRow_nil _ _ _ _, Below.refl _ _, rfl⟩
  case round =>
    obtain ⟨m, l, rfl, hm, hown, hB, HE⟩ := hrel
    have hll : l.length ≤ 9 := by
      have h1 := congrArg List.length HE.out
      have h2 := (uvL_len n).2
      have h3 := (uvL_len m).1
      rw [List.length_append] at h1
      omega
    have hsz2 := hB.size
    by_cases h : m < 128
    · have hz : ¬ (128 : Int) ≤ (m : Int) := by omega
      obtain ⟨b, hb⟩ : ∃ b, UInt8.ofNat m = b := ⟨_, rfl⟩
      have hbm : (m : Int) = (b.toNat : Int) := by rw [← hb, byte_nat (by omega)]
      have HE2 : Hid (l ++ [b] = uvL n) := by show _ = _; rw [← HE.out, uvL_small h, hb]
      have hrow := hown.alloc (.cells #[.int .u8 (m : Int)] 5)
      have HBM := Lib.hid hbm
      clear hb hbm
      go_wp2_with (at_builtin; refine wpList_append_c rfl _ _ 39 rfl w.heap.size 5 (.int .u8 0) 1 1 Tryd.underlying39 infoB rfl (by decide) _ _ _ rfl hrow ⟨wr.heap.size, 0, none⟩ 1 1 [.int .u8 (m : Int)] rfl rfl (cell_one_new _ _ _) (by intro u hu; simp at hu; subst hu; rfl) (by unfold maxLen; omega) (by omega) (by simp; omega) ?_)
      intro v' w2 hown' hgrow
      have hB2 := (hB.alloc hsz2 _).grown hgrow (by simp; omega) (fun j hj => (hrow.lt j hj).1)
      rw [HBM.out, ← u8c_snoc] at hown'
      have hcv := row_conv (l := l ++ [b]) (by rw [List.length_append]; exact hown') (by simp)
      clear hgrow hrow hown' hown
      rw [HE2.out] at hcv
      go_wp2_with fail
      go_ret
      exact ⟨rfl, hB2⟩
    · have hz : (128 : Int) ≤ (m : Int) := by omega
      have hcm := or128 m
      have hb : ((128 + m % 128 : Nat) : Int) = ((UInt8.ofNat (128 + m % 128)).toNat : Int) := by rw [byte_nat (by omega)]
      rw [hb] at hcm
      have HE2 : Hid ((l ++ [UInt8.ofNat (128 + m % 128)]) ++ uvL (m / 128) = uvL n) := by show _ = _; rw [← HE.out, uvL_big h hm, List.append_assoc]; rfl
      have hrow := hown.alloc (.cells #[.int .u8 ((UInt8.ofNat (128 + m % 128)).toNat : Int)] 5)
      clear hb
      generalize UInt8.ofNat (128 + m % 128) = b at *
      obtain ⟨m', hm'⟩ : ∃ m', m / 128 = m' := ⟨_, rfl⟩
      have hsh : (m : Int) / 128 = (m' : Int) := by omega
      have hlt : m' < m := by omega
      rw [hm'] at HE2
      clear hm'
      go_wp2_with (at_builtin; refine wpList_append_c rfl _ _ 39 rfl w.heap.size 5 (.int .u8 0) 1 1 Tryd.underlying39 infoB rfl (by decide) _ _ _ rfl hrow ⟨wr.heap.size, 0, none⟩ 1 1 [.int .u8 (b.toNat : Int)] rfl rfl (cell_one_new _ _ _) (by intro u hu; simp at hu; subst hu; rfl) (by unfold maxLen; omega) (by omega) (by simp; omega) ?_)
      intro v' w2 hown' hgrow
      have hB2 := (hB.alloc hsz2 _).grown hgrow (by simp; omega) (fun j hj => (hrow.lt j hj).1)
      rw [← u8c_snoc] at hown'
      have HO : Hid (w2.ownsRow w.heap.size 5 1 v' (l ++ [b]).length (u8c (l ++ [b]))) := by show World.ownsRow _ _ _ _ _ _ _; rw [List.length_append]; exact hown'
      clear hgrow hrow hown' hcm hown
      go_wp2_with fail
      go_roundw
      case rel => exact ⟨m', l ++ [b], rfl, by omega, HO.out, hB2, HE2⟩
      case measure => simp [intOf]; omega
end Go.Proofs.YtcefmnkfkpoccaaDoor
