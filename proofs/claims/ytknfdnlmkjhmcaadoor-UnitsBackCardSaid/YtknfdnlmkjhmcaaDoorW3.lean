/- strconv.FormatUint at base 10; units.Decimal. -/
import Derived.Test.YtknfdnlmkjhmcaaDoorW2
import Derived.Test.YtknfdnlmkjhmcaaDoorV1
import Derived.Test.YtknfdnlmkjhmcaaDoorShelf
import Derived.Lib.ItoaMem
import Derived.Lib.ItoaLen
import Derived.Lib.AppendIntMem
import Derived.Lib.Repeat
import Derived.BigCall
import Derived.BigGuard
namespace Go.Proofs.YtknfdnlmkjhmcaaDoor
open Go.RowKit Go.Sort
set_option linter.unusedVariables false

abbrev TabOk (w : World) : Prop := Lib.TabIs Tryd.prog w "internal/strconv.uint64pow10" .u64 Lib.pow10Tab
theorem TabOk.below {w w' : World} (h : TabOk w) (hb : Below w.heap.size w w') : TabOk w' := Lib.tabBelow_of_tabIs h w' hb
theorem below_grow' (w : World) (k : Nat) (os : Array Obj) : Below w.heap.size w (Go.Sort.grow (w.drewN k) os) :=
  ⟨rfl, rfl, rfl, by simp [Go.Sort.grow], fun i hi => by simp [Go.Sort.grow, Array.getElem?_append, hi]⟩

theorem holds_zero0 (w : World) (T : TypeId) (nd : Nat) (hs : nd ≤ 24) : Holds (fun (b : UInt8) => Value.int .u8 (b.toNat : Int)) (w.alloc (.cells Lib.zeros24 T)) w.heap.size 0 (Array.replicate nd (0 : UInt8)) := fun j hj => by
  have hj' : j < nd := by simpa using hj
  refine ⟨?_, World.frozen?_alloc_new _ _ _ _⟩
  rw [World.cell?_alloc_new, Lib.zeros24_at _ (by omega), getElem!_pos _ j hj]
  simp
theorem fin_pos0 (w : World) (o : Obj) (dk : Array UInt8) (k : Nat) : ∃ os, (putRow (fun (b : UInt8) => Value.int .u8 (b.toNat : Int)) (w.alloc o) w.heap.size 0 dk).drewN k = grow (w.drewN k) os := by
  rw [alloc_eq_grow]
  obtain ⟨os', _, e⟩ := putRow_grow_new (fun (b : UInt8) => Value.int .u8 (b.toNat : Int)) w #[o] w.heap.size 0 dk (Nat.le_refl _)
  exact ⟨os', by rw [e]; rfl⟩

set_option maxHeartbeats 6400000 in
set_option maxRecDepth 100000 in
theorem ifmt_any (u : Nat) (hu64 : u < 18446744073709551616) (w : World) (htab : TabOk w) :
    Calls Tryd.prog 48 #[.int .u64 u, .int .i64 10] w fun e w' => e = .returned (.string ⟨(Lib.decDigits u).toArray⟩) ∧ Below w.heap.size w w' := by
  by_cases hs : u < 100
  · go_enter Tryd.func48, Tryd.ntmps48
    go_wp2_with fail
    (with_reducible refine (Tryd.internal_strconv_small u hs _).mono ?_)
    rintro e w' ⟨rfl, rfl⟩
    go_wp2_with fail
    go_ret
    exact ⟨rfl, Below.refl _ _⟩
  · have hu1 : 1 ≤ u := by omega
    have hnd20 : Lib.nDigits u ≤ 20 := Lib.nDigits_le20 u hu64
    have hb3 : Lib.nDigits u ≤ 23 := by omega
    have hal : Tryd.prog.arrayLen 72 = 24 := by kernel_rfl
    have hsl1 : ∀ W, (Instr.sliceAt 72 (.pointer (some ⟨w.heap.size, 0, none⟩)) none (some (.int .i64 (Lib.nDigits u : Int))) none).run Tryd.prog W = .ok (.slice (some ⟨w.heap.size, 0, none⟩) (Lib.nDigits u) 24) W := fun W => by
      rw [run_sliceAt_array_h W 72 ⟨w.heap.size, 0, none⟩ (by kernel_rfl) .i64 (Lib.nDigits u : Int) (by omega) (by rw [hal]; omega)]
      have he : Tryd.prog.elem 72 = 5 := by kernel_rfl
      rw [he, hal]
      go_simp
    have hH0 := holds_zero0 w 72 (Lib.nDigits u) (by omega)
    have hfmt := Tryd.internal_strconv_formatBase10 w.heap.size 0 24 u (Array.replicate (Lib.nDigits u) 0) (w.alloc (.cells Lib.zeros24 72)) hH0 (by rw [Array.size_replicate]; exact Lib.lt_pow_nDigits u) hu64 (by rw [Array.size_replicate]; omega)
    rw [Array.size_replicate] at hfmt
    have HH0 := Lib.hid hH0
    clear hH0 hal
    go_enter Tryd.func48, Tryd.ntmps48
    go_wp2_with fail
    (with_reducible refine (Tryd.internal_strconv_numDigits u hu1 hu64 _ (Lib.tabIs_alloc htab _)).mono ?_)
    rintro e w' ⟨rfl, rfl⟩
    go_wp2_with fail
    refine hfmt.mono ?_
    rintro e w' ⟨rfl, k, v', dk, rfl, hF⟩
    have hcv : (convert 51 9 (.slice (some ⟨w.heap.size, 0, none⟩) (Lib.nDigits u) 24)).run Tryd.prog ((putRow (fun (b : UInt8) => Value.int .u8 (b.toNat : Int)) (w.alloc (.cells Lib.zeros24 72)) w.heap.size 0 dk).drewN k) = .ok (.string ⟨(Lib.decDigits u).toArray⟩) ((putRow (fun (b : UInt8) => Value.int .u8 (b.toNat : Int)) (w.alloc (.cells Lib.zeros24 72)) w.heap.size 0 dk).drewN k) := by
      have h := run_convert_bytes_back (P := Tryd.prog) ((putRow (fun (b : UInt8) => Value.int .u8 (b.toNat : Int)) (w.alloc (.cells Lib.zeros24 72)) w.heap.size 0 dk).drewN k) 51 9 5 ⟨w.heap.size, 0, none⟩ 24 (Lib.decDigits u) Tryd.underlying51 Tryd.underlying5 Tryd.underlying9 (fun j hj => by
        rw [Lib.row_is_numeral hF j hj, Lib.add_plain, World.cell?_drewN]
        exact cell?_putRow (fun (b : UInt8) => Value.int .u8 (b.toNat : Int)) _ w.heap.size 0 _ dk HH0.out (by rw [hF.size, Array.size_replicate]) j (by rw [hF.size]; rw [Lib.decDigits_length] at hj; exact hj))
      rw [Lib.decDigits_length] at h
      exact h
    go_wp2
    go_ret
    obtain ⟨os, eo⟩ := fin_pos0 w (.cells Lib.zeros24 72) dk k
    refine ⟨rfl, ?_⟩
    rw [eo]
    exact below_grow' w k os
theorem fmt_any (u : Nat) (hu64 : u < 18446744073709551616) (w : World) (htab : TabOk w) :
    Calls Tryd.prog 43 #[.int .u64 u, .int .i64 10] w fun e w' => e = .returned (.string ⟨(Lib.decDigits u).toArray⟩) ∧ Below w.heap.size w w' := by
  go_enter Tryd.func43, Tryd.ntmps43
  go_wp2_with fail
  (with_reducible refine (ifmt_any u hu64 _ htab).mono ?_)
  rintro e w' ⟨rfl, hb⟩
  go_wp2_with fail
  go_ret
  exact ⟨rfl, hb⟩

theorem places_eq (n c : Int) (hc : Hid (Un.clV n 0 9 = c)) (w : World) :
    Calls Tryd.prog 41 #[.int .i64 n] w fun e w' => e = .returned (.int .i64 c) ∧ w = w' := by
  go_enter Tryd.func41, Tryd.ntmps41
  go_wp2_with fail
  (with_reducible refine (clamp_eq _ _ _ _ hc _).mono ?_)
  rintro e w1 ⟨rfl, rfl⟩
  go_wp2_with fail
  go_ret
  exact ⟨rfl, rfl⟩
theorem mag_eq (n : Int) (m : Nat) (hm : Hid (n.natAbs = m)) (w : World) (h0 : -9223372036854775808 ≤ n) (h1 : n ≤ 9223372036854775807) :
    Calls Tryd.prog 34 #[.int .i64 n] w fun e w' => e = .returned (.int .u64 m) ∧ w = w' := by
  have := mag_any n w h0 h1
  rw [hm.out] at this
  exact this
theorem fmt_eq (u : Nat) (T : ByteArray) (hT : Hid (T = ⟨(Lib.decDigits u).toArray⟩)) (hu64 : u < 18446744073709551616) (w : World) (htab : Hid (TabOk w)) :
    Calls Tryd.prog 43 #[.int .u64 u, .int .i64 10] w fun e w' => e = .returned (.string T) ∧ Below w.heap.size w w' := by
  have := fmt_any u hu64 w htab.out
  rw [← hT.out] at this
  exact this
theorem repeat_eq (c : Nat) (k : Int) (Z : ByteArray) (hZ : Hid (Z = ⟨(List.replicate c 48).toArray⟩)) (hk : Hid (k = c)) (hc : c ≤ 1000) (w : World) :
    Calls Tryd.prog 44 #[.string ⟨#[48]⟩, .int .i64 k] w fun e w' => e = .returned (.string Z) ∧ Below w.heap.size w w' := by
  have := Tryd.strings_Repeat ⟨#[48]⟩ c w (by omega) (by show 1 * c ≤ _; omega)
  rw [hZ.out, hk.out]
  have e : Lib.repeatL [48] c = List.replicate c 48 := by
    have := Lib.repeatL_replicate 48 1 c
    simpa using this
  have e2 : (⟨#[48]⟩ : ByteArray).data.toList = [48] := rfl
  rw [e2, e] at this
  exact this


theorem ba_ext {a b : ByteArray} (h : a.data.toList = b.data.toList) : a = b := by
  cases a; cases b
  congr 1
  exact Array.ext' h
theorem ba_app (l r : List UInt8) : (⟨l.toArray⟩ : ByteArray) ++ (⟨r.toArray⟩ : ByteArray) = ⟨(l ++ r).toArray⟩ := by
  apply ba_ext
  simp [ByteArray.data_append]
theorem ba_cut (l : List UInt8) (a b : Nat) : (⟨l.toArray⟩ : ByteArray).extract a b = ⟨((l.take b).drop a).toArray⟩ := by
  apply ba_ext
  simp [ByteArray.data_extract, List.drop_take]
theorem ba_size (l : List UInt8) : (⟨l.toArray⟩ : ByteArray).size = l.length := by show l.toArray.size = _; simp
theorem dec_mid {S : ByteArray} {m k : Nat} (hS : S = ⟨(Un.padT m k).toArray⟩) (hk : k ≠ 0) : S.extract 0 (S.size - k) ++ ⟨#[46]⟩ ++ S.extract (S.size - k) S.size = ⟨(Un.bodyT m k).toArray⟩ := by
  have hs : S.size = Un.cnt m k := by rw [hS, ba_size, Un.pad_length]
  have e46 : (⟨#[46]⟩ : ByteArray) = ⟨[46].toArray⟩ := rfl
  rw [hs, hS, e46, ba_cut, ba_cut, ba_app, ba_app]
  congr 2
  unfold Un.bodyT
  rw [if_neg hk, List.take_of_length_le (l := Un.padT m k) (i := Un.cnt m k) (by rw [Un.pad_length]; omega)]
  simp
theorem dec_end {B : ByteArray} {n : Int} {m k : Nat} (hm : n.natAbs = m) (hB : B = ⟨(Un.bodyT m k).toArray⟩) : (n < 0 → (⟨#[45]⟩ : ByteArray) ++ B = ⟨(Un.decT n k).toArray⟩) ∧ (0 ≤ n → B = ⟨(Un.decT n k).toArray⟩) := by
  have e45 : (⟨#[45]⟩ : ByteArray) = ⟨[45].toArray⟩ := rfl
  refine ⟨fun h => ?_, fun h => ?_⟩
  · rw [hB, e45, ba_app, ← hm]
    simp [Un.decT, h]
  · rw [hB, ← hm]
    simp [Un.decT, show ¬ n < 0 by omega]
theorem ret_str {s t : ByteArray} (h : s = t) : Ending.returned (.string s) = .returned (.string t) := by rw [h]
set_option maxHeartbeats 2000000 in
theorem decimal_any (n d : Int) (w : World) (h0 : -9223372036854775808 ≤ n) (h1 : n ≤ 9223372036854775807) (ht : TabOk w) :
    Calls Tryd.prog 26 #[.int .i64 n, .int .i64 d] w fun e w' => e = .returned (.string ⟨(Un.decT n (Un.clV d 0 9).toNat).toArray⟩) ∧ Below w.heap.size w w' := by
  have hcr := Un.clV_range (n := d) (l := 0) (h := 9) (by omega)
  obtain ⟨k, hk⟩ : ∃ k : Nat, Un.clV d 0 9 = (k : Int) := ⟨(Un.clV d 0 9).toNat, by omega⟩
  rw [hk] at hcr ⊢
  rw [Int.toNat_natCast]
  have HC := Lib.hid hk
  clear hk
  obtain ⟨m, hm⟩ : ∃ m : Nat, n.natAbs = m := ⟨_, rfl⟩
  have hm64 : m < 18446744073709551616 := by omega
  have HM := Lib.hid hm
  clear hm
  have hsz : (⟨(Lib.decDigits m).toArray⟩ : ByteArray).size = Lib.nDigits m := by rw [ba_size, Lib.decDigits_length]
  have hnd := Lib.nDigits_le20 m hm64
  have hnp := Lib.nDigits_pos m
  generalize hTT : (⟨(Lib.decDigits m).toArray⟩ : ByteArray) = T at hsz
  have HT : Hid (T = ⟨(Lib.decDigits m).toArray⟩) := by show _ = _; rw [hTT]
  have HTAB := Lib.hid ht
  clear hTT ht
  have hpad := Un.pad_eq m k
  generalize hN : Lib.nDigits m = N at *
  clear hN
  by_cases hc : N ≤ k
  · have hc' : (T.size : Int) ≤ (k : Int) := by omega
    have hk1 : (0 : Int) < (k : Int) := by omega
    have hz0 : (0 : Int) ≤ (T.size : Int) := by omega
    have HZ : Hid ((⟨(List.replicate (k + 1 - N) 48).toArray⟩ : ByteArray) = ⟨(List.replicate (k + 1 - N) 48).toArray⟩) := by show _ = _; rfl
    have hZs : (⟨(List.replicate (k + 1 - N) 48).toArray⟩ : ByteArray).size = k + 1 - N := by rw [ba_size]; simp
    have HS : Hid ((⟨(List.replicate (k + 1 - N) 48).toArray⟩ : ByteArray) ++ T = ⟨(Un.padT m k).toArray⟩) := by show _ = _; rw [HT.out, ba_app, hpad]
    generalize hZ : (⟨(List.replicate (k + 1 - N) 48).toArray⟩ : ByteArray) = Z at hZs HS
    have HZ2 : Hid (Z = ⟨(List.replicate (k + 1 - N) 48).toArray⟩) := by show _ = _; rw [hZ]
    have HK : Hid ((k : Int) + 1 - (N : Int) = ((k + 1 - N : Nat) : Int)) := by show _ = _; omega
    have hcat : ¬ 9223372036854775807 < Z.size + T.size := by omega
    have hcs : (Z ++ T).size = Un.cnt m k := by rw [HS.out, ba_size, Un.pad_length]
    have hcn : Un.cnt m k = k + 1 := by rw [← hcs]; rw [ByteArray.size_append]; omega
    clear hZ HZ hpad hZs
    go_enter Tryd.func26, Tryd.ntmps26
    go_wp2_with fail
    (with_reducible refine (places_eq _ _ HC _).mono ?_)
    rintro e w1 ⟨rfl, rfl⟩
    go_wp2_with fail
    (with_reducible refine (mag_eq _ _ HM _ h0 h1).mono ?_)
    rintro e w1 ⟨rfl, rfl⟩
    go_wp2_with fail
    (with_reducible refine (fmt_eq _ _ HT hm64 _ HTAB).mono ?_)
    rintro e w1 ⟨rfl, hb⟩
    have HB1 := Lib.hid hb
    clear hb
    go_wp2_with fail
    (with_reducible refine (repeat_eq _ _ _ HZ2 HK (by omega) _).mono ?_)
    rintro e w2 ⟨rfl, hb⟩
    have HB2 := Lib.hid (below_old HB1.out hb)
    clear hb
    generalize hS : Z ++ T = S at *
    rw [hcn] at hcs
    have HD := Lib.hid (dec_end (n := n) (k := k) HM.out (dec_mid HS.out (by omega)))
    have hs1 : (S.size : Int) ≤ 30 := by omega
    have hs2 : (k : Int) ≤ (S.size : Int) := by omega
    have hS' := Lib.hid hS
    have hcS := Lib.hid hcs
    clear hcs
    go_wp2_with fail
    go_quiet (fail)
    go_wp2_with fail
    all_goals
      go_ret
      exact ⟨ret_str (by first | exact HD.out.1 (by assumption) | exact HD.out.2 (by assumption)), below_drewN HB2.out _⟩
  · have hc' : ¬ (T.size : Int) ≤ (k : Int) := by omega
    have HS : Hid (T = ⟨(Un.padT m k).toArray⟩) := by show _ = _; rw [HT.out, hpad, show k + 1 - N = 0 by omega]; rfl
    clear hpad
    by_cases hk0 : k = 0
    · subst hk0
      have HD := Lib.hid (dec_end (n := n) (k := 0) (m := m) HM.out (B := T) (by rw [HS.out]; rfl))
      have hs3 : (T.size : Int) ≤ 20 := by omega
      have hTe : ¬ T = ByteArray.empty := by
        intro e
        rw [e] at hsz
        have : (0 : Nat) = N := hsz
        omega
      clear hsz
      go_enter Tryd.func26, Tryd.ntmps26
      go_wp2_with fail
      (with_reducible refine (places_eq _ _ HC _).mono ?_)
      rintro e w1 ⟨rfl, rfl⟩
      go_wp2_with fail
      (with_reducible refine (mag_eq _ _ HM _ h0 h1).mono ?_)
      rintro e w1 ⟨rfl, rfl⟩
      go_wp2_with fail
      (with_reducible refine (fmt_eq _ _ HT hm64 _ HTAB).mono ?_)
      rintro e w1 ⟨rfl, hb⟩
      have HB1 := Lib.hid hb
      clear hb
      go_wp2_with fail
      all_goals
        go_ret
        exact ⟨ret_str (by first | exact HD.out.1 (by assumption) | exact HD.out.2 (by assumption)), HB1.out⟩
    · have hk1 : (0 : Int) < (k : Int) := by omega
      have hs1 : (0 : Int) ≤ (T.size : Int) - (k : Int) := by omega
      have hs2 : (T.size : Int) - (k : Int) ≤ (T.size : Int) := by omega
      have hs3 : (T.size : Int) ≤ 20 := by omega
      have HD := Lib.hid (dec_end (n := n) (k := k) HM.out (dec_mid HS.out hk0))
      clear hsz
      go_enter Tryd.func26, Tryd.ntmps26
      go_wp2_with fail
      (with_reducible refine (places_eq _ _ HC _).mono ?_)
      rintro e w1 ⟨rfl, rfl⟩
      go_wp2_with fail
      (with_reducible refine (mag_eq _ _ HM _ h0 h1).mono ?_)
      rintro e w1 ⟨rfl, rfl⟩
      go_wp2_with fail
      (with_reducible refine (fmt_eq _ _ HT hm64 _ HTAB).mono ?_)
      rintro e w1 ⟨rfl, hb⟩
      have HB1 := Lib.hid hb
      clear hb
      go_wp2_with fail
      go_quiet (fail)
      go_wp2_with fail
      all_goals
        go_ret
        exact ⟨ret_str (by first | exact HD.out.1 (by assumption) | exact HD.out.2 (by assumption)), below_drewN HB1.out _⟩
end Go.Proofs.YtknfdnlmkjhmcaaDoor
