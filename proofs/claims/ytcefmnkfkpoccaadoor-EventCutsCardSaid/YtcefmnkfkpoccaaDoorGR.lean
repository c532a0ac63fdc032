/- event: numbers and times as texts; the reference's. -/
import Derived.Test.YtcefmnkfkpoccaaDoorGQ
import Derived.Test.YtcefmnkfkpoccaaDoorQZ2
import Derived.Test.YtcefmnkfkpoccaaDoorY1
import Derived.Test.YtcefmnkfkpoccaaDoorShelf
import Derived.Lib.AppendIntMem
import Derived.Lib.ItoaLen
namespace Go.Proofs.YtcefmnkfkpoccaaDoor
open Go.RowKit
set_option linter.unusedVariables false
open Wi Evn
open Zz (ba_eta ba_ext list_len ret_str rdecimal_any)
abbrev TabOk (w : World) : Prop := Lib.TabIs Tryd.prog w "internal/strconv.uint64pow10" .u64 Lib.pow10Tab
theorem TabOk.below {w w' : World} (h : TabOk w) (hb : Below w.heap.size w w') : TabOk w' := Lib.tabBelow_of_tabIs h w' hb
theorem below_grow' (w : World) (k : Nat) (os : Array Obj) : Below w.heap.size w (Go.Sort.grow (w.drewN k) os) :=
  ⟨rfl, rfl, rfl, by simp [Go.Sort.grow], fun i hi => by simp [Go.Sort.grow, Array.getElem?_append, hi]⟩
def itS (n : Int) : ByteArray := ⟨(Lib.itoa n).toArray⟩
theorem itoa_i (n : Int) (h : I64 n) (T : ByteArray) (hT : Hid (itS n = T)) (w : World) (ht : Hid (TabOk w)) :
    Calls Tryd.prog 46 #[.int .i64 n] w fun e w' => e = .returned (.string T) ∧ Below w.heap.size w w' := by
  refine (Tryd.strconv_Itoa n h.1 h.2 w ht.out).mono fun e w' h => ?_
  obtain ⟨h2, k, os, rfl⟩ := h
  rw [← hT.out]
  exact ⟨h2, below_grow' w k os⟩
theorem itS_size {n : Int} (h : I64 n) : (itS n).size ≤ 21 := by
  have h2 := Lib.itoa_length_le n h.1 h.2
  show (Lib.itoa n).toArray.size ≤ 21
  rw [List.size_toArray]
  exact h2
theorem itoa_eq (n : Int) (N : Nat) (hn : Hid (n = (N : Int))) (T : ByteArray) (hT : Hid (T.data.toList = Lib.decDigits N)) (h1 : n ≤ 9223372036854775807) (w : World) (ht : Hid (TabOk w)) :
    Calls Tryd.prog 46 #[.int .i64 n] w fun e w' => e = .returned (.string T) ∧ Below w.heap.size w w' := by
  have h0 := hn.out
  refine (Tryd.strconv_Itoa n (by omega) h1 w ht.out).mono fun e w' h => ?_
  obtain ⟨h2, k, os, rfl⟩ := h
  rw [h0, Lib.itoa_nonneg, ← hT.out, ← ba_eta] at h2
  exact ⟨h2, below_grow' w k os⟩
theorem itoa_one (n : Int) (h0 : 0 ≤ n) (h1 : n < 10) (T : ByteArray) (hT : Hid (T = ⟨[UInt8.ofNat (48 + n.toNat)].toArray⟩)) (w : World) :
    Calls Tryd.prog 46 #[.int .i64 n] w fun e w' => e = .returned (.string T) ∧ w = w' := by
  obtain ⟨N, rfl⟩ := Int.eq_ofNat_of_zero_le h0
  refine (Tryd.strconv_Itoa_small N (by omega) w).mono fun e w' h => ?_
  obtain ⟨h2, h3⟩ := h
  rw [Lib.decDigits_one (by omega)] at h2
  rw [hT.out, Int.toNat_natCast]
  exact ⟨h2, h3.symm⟩
theorem two_any (n : Int) (h0 : 0 ≤ n) (h1 : n < 100) (T : ByteArray) (hT : Hid (T.data.toList = Ck.two n.toNat)) (w : World) :
    Calls Tryd.prog 72 #[.int .i64 n] w fun e w' => e = .returned (.string T) ∧ w = w' := by
  obtain ⟨X, hX⟩ : ∃ X : ByteArray, X = ⟨[UInt8.ofNat (48 + (n / 10).toNat)].toArray⟩ := ⟨_, rfl⟩
  obtain ⟨Y, hY⟩ : ∃ X : ByteArray, X = ⟨[UInt8.ofNat (48 + (n % 10).toNat)].toArray⟩ := ⟨_, rfl⟩
  have hx : X.size = 1 := by rw [hX]; rfl
  have hy : Y.size = 1 := by rw [hY]; rfl
  have hE : Hid (X ++ Y = T) := by
    show _ = _
    apply ba_ext
    rw [hT.out, ByteArray.data_append, Array.toList_append, hX, hY]
    unfold Ck.two
    rw [show (n / 10).toNat = n.toNat / 10 by omega, show (n % 10).toNat = n.toNat % 10 by omega]
    rfl
  have HX := Lib.hid hX; have HY := Lib.hid hY
  have hcat : ¬ 9223372036854775807 < X.size + Y.size := by omega
  clear hX hY hx hy
  go_enter Tryd.func72, Tryd.ntmps72
  go_wp2_with fail
  (with_reducible refine (itoa_one _ (by omega) (by omega) _ HX _).mono ?_)
  rintro e w1 ⟨rfl, rfl⟩
  go_wp2_with fail
  (with_reducible refine (itoa_one _ (by omega) (by omega) _ HY _).mono ?_)
  rintro e w1 ⟨rfl, rfl⟩
  go_wp2_with fail
  go_ret
  exact ⟨ret_str hE.out, rfl⟩
theorem fm_bytes {D X Y : ByteArray} {t : Nat} (hD : D.data.toList = Lib.decDigits (t / 1440)) (hX : X.data.toList = Ck.two (t % 1440 / 60)) (hY : Y.data.toList = Ck.two (t % 60)) :
    (⟨#[100]⟩ : ByteArray) ++ D ++ ⟨#[32]⟩ ++ X ++ ⟨#[58]⟩ ++ Y = ⟨(Ck.fmN t).toArray⟩ := by
  apply ba_ext
  simp only [ByteArray.data_append, Array.toList_append, hD, hX, hY]
  unfold Ck.fmN
  simp
def FmtR (t : Int) (w : World) (e : Ending) (w' : World) : Prop := e = .returned (.string ⟨(Ck.fmT t).toArray⟩) ∧ Below w.heap.size w w'
theorem tm_yes (t : Int) (h : 0 ≤ t ∧ t ≤ 10000000) (w : World) : Calls Tryd.prog 71 #[.int .i64 t] w fun e w' => e = .returned (.bool true) ∧ w = w' := by
  obtain ⟨h1, h2⟩ := h
  go_enter Tryd.func71, Tryd.ntmps71
  go_wp2_with fail
  go_ret
  exact ⟨rfl, rfl⟩
theorem tm_no (t : Int) (h : ¬ (0 ≤ t ∧ t ≤ 10000000)) (w : World) : Calls Tryd.prog 71 #[.int .i64 t] w fun e w' => e = .returned (.bool false) ∧ w = w' := by
  by_cases h1 : 0 ≤ t
  · have h2 : ¬ t ≤ 10000000 := fun g => h ⟨h1, g⟩
    clear h
    go_enter Tryd.func71, Tryd.ntmps71
    go_wp2_with fail
    go_ret
    exact ⟨rfl, rfl⟩
  · clear h
    go_enter Tryd.func71, Tryd.ntmps71
    go_wp2_with fail
    go_ret
    exact ⟨rfl, rfl⟩
theorem rtm_yes (t : Int) (h : 0 ≤ t ∧ t ≤ 10000000) (w : World) : Calls Tryd.prog 26 #[.int .i64 t] w fun e w' => e = .returned (.bool true) ∧ w = w' := by
  obtain ⟨h1, h2⟩ := h
  go_enter Tryd.func26, Tryd.ntmps26
  go_wp2_with fail
  go_ret
  exact ⟨rfl, rfl⟩
theorem rtm_no (t : Int) (h : ¬ (0 ≤ t ∧ t ≤ 10000000)) (w : World) : Calls Tryd.prog 26 #[.int .i64 t] w fun e w' => e = .returned (.bool false) ∧ w = w' := by
  by_cases h1 : 0 ≤ t
  · have h2 : ¬ t ≤ 10000000 := fun g => h ⟨h1, g⟩
    clear h
    go_enter Tryd.func26, Tryd.ntmps26
    go_wp2_with fail
    go_ret
    exact ⟨rfl, rfl⟩
  · clear h
    go_enter Tryd.func26, Tryd.ntmps26
    go_wp2_with fail
    go_ret
    exact ⟨rfl, rfl⟩
set_option maxHeartbeats 2000000 in
theorem format_any (t : Int) (w : World) (htab : TabOk w) : Calls Tryd.prog 45 #[.int .i64 t] w (FmtR t w) := by
  by_cases ht : 0 ≤ t ∧ t ≤ 10000000
  · have hN : Ck.fmT t = Ck.fmN t.toNat := by unfold Ck.fmT; rw [if_pos ht]
    obtain ⟨D, hD⟩ : ∃ D : ByteArray, D.data.toList = Lib.decDigits (t.toNat / 1440) := ⟨⟨(Lib.decDigits (t.toNat / 1440)).toArray⟩, rfl⟩
    obtain ⟨X, hX⟩ : ∃ D : ByteArray, D.data.toList = Ck.two (t.toNat % 1440 / 60) := ⟨⟨(Ck.two (t.toNat % 1440 / 60)).toArray⟩, rfl⟩
    obtain ⟨Y, hY⟩ : ∃ D : ByteArray, D.data.toList = Ck.two (t.toNat % 60) := ⟨⟨(Ck.two (t.toNat % 60)).toArray⟩, rfl⟩
    have hE : Hid ((⟨#[100]⟩ : ByteArray) ++ D ++ ⟨#[32]⟩ ++ X ++ ⟨#[58]⟩ ++ Y = ⟨(Ck.fmT t).toArray⟩) := by show _ = _; rw [hN]; exact fm_bytes hD hX hY
    have hx : X.size = 2 := by rw [← list_len, hX]; rfl
    have hy : Y.size = 2 := by rw [← list_len, hY]; rfl
    have hd : D.size ≤ 20 := by rw [← list_len, hD, Lib.decDigits_length]; exact Lib.nDigits_le20 _ (by omega)
    have hx2 : (X.size : Int) ≤ 2 := by omega
    have hy2 : (Y.size : Int) ≤ 2 := by omega
    have hd2 : (D.size : Int) ≤ 20 := by omega
    have t0 := ht.1
    have t1 := ht.2
    clear hx hy hN
    have HD := Lib.hid hD
    have HX : Hid (X.data.toList = Ck.two (t % 1440 / 60).toNat) := by show _ = _; rw [hX]; congr 1; omega
    have HY : Hid (Y.data.toList = Ck.two (t % 60).toNat) := by show _ = _; rw [hY]; congr 1; omega
    have HDN : Hid (t / 1440 = ((t.toNat / 1440 : Nat) : Int)) := by show _ = _; omega
    have HTAB := Lib.hid htab
    clear hD hX hY htab
    go_enter Tryd.func45, Tryd.ntmps45
    go_wp2_with fail
    (with_reducible refine (tm_yes _ ht _).mono ?_)
    rintro e w1 ⟨rfl, rfl⟩
    go_wp2_with fail
    (with_reducible refine (itoa_eq _ _ HDN _ HD (by omega) _ HTAB).mono ?_)
    rintro e w1 ⟨rfl, hb⟩
    have HB := Lib.hid hb
    clear hb
    go_wp2_with fail
    (with_reducible refine (two_any _ (by omega) (by omega) _ HX _).mono ?_)
    rintro e w2 ⟨rfl, rfl⟩
    go_wp2_with fail
    have hsix : t % 1440 % 60 = t % 60 := by omega
    try rw [hsix]
    (with_reducible refine (two_any _ (by omega) (by omega) _ HY _).mono ?_)
    rintro e w2 ⟨rfl, rfl⟩
    go_wp2_with fail
    go_ret
    exact ⟨ret_str hE.out, HB.out⟩
  · have hE : Hid (Ck.fmT t = []) := by show _ = _; unfold Ck.fmT; rw [if_neg ht]
    go_enter Tryd.func45, Tryd.ntmps45
    go_wp2_with fail
    (with_reducible refine (tm_no _ ht _).mono ?_)
    rintro e w1 ⟨rfl, rfl⟩
    go_wp2_with fail
    go_ret
    exact ⟨ret_str (by rw [hE.out]), Below.refl _ _⟩
theorem two_conv (n : Int) (h0 : 0 ≤ n) (h1 : n < 100) (T : ByteArray) (hT : T.data.toList = Ck.two n.toNat) (w : World) :
    (convert 39 9 (.slice (some ⟨w.heap.size, 0, none⟩) 2 2)).run Tryd.prog (w.alloc (.cells #[.int .u8 (48 + n / 10), .int .u8 (48 + n % 10)] 5)) = .ok (.string T) (w.alloc (.cells #[.int .u8 (48 + n / 10), .int .u8 (48 + n % 10)] 5)) := by
  have hB := Blk.new w 5 #[.int .u8 (48 + n / 10), .int .u8 (48 + n % 10)]
  have h := run_convert_bytes_back (P := Tryd.prog) (w.alloc (.cells #[.int .u8 (48 + n / 10), .int .u8 (48 + n % 10)] 5)) 39 9 5 ⟨w.heap.size, 0, none⟩ 2 (Ck.two n.toNat) Tryd.underlying39 Tryd.underlying5 Tryd.underlying9 (fun j hj => by
    have hj2 : j < 2 := hj
    rw [Lib.add_plain, hB.cell]
    match j, hj2 with
    | 0, _ =>
      show some (Value.int .u8 (48 + n / 10)) = some (.int .u8 ((UInt8.ofNat (48 + n.toNat / 10)).toNat : Int))
      rw [UInt8.toNat_ofNat_of_lt' (by show _ < 256; omega)]
      congr 2
      omega
    | 1, _ =>
      show some (Value.int .u8 (48 + n % 10)) = some (.int .u8 ((UInt8.ofNat (48 + n.toNat % 10)).toNat : Int))
      rw [UInt8.toNat_ofNat_of_lt' (by show _ < 256; omega)]
      congr 2
      omega)
  rw [← hT, ← ba_eta] at h
  have hl : T.data.toList.length = 2 := by rw [hT]; rfl
  rw [hl] at h
  exact h
set_option maxHeartbeats 2000000 in
theorem rtwo_any (n : Int) (h0 : 0 ≤ n) (h1 : n < 100) (T : ByteArray) (hT : Hid (T.data.toList = Ck.two n.toNat)) (w : World) :
    Calls Tryd.prog 76 #[.int .i64 n] w fun e w' => e = .returned (.string T) ∧ Below w.heap.size w w' := by
  have hcv := two_conv n h0 h1 T hT.out w
  go_enter Tryd.func76, Tryd.ntmps76
  go_wp2_with fail
  go_ret
  exact ⟨rfl, (Below.refl _ _).alloc (Nat.le_refl _) _⟩
theorem rdec_eq (n : Int) (N : Nat) (hn : Hid (n = (N : Int))) (T : ByteArray) (hT : Hid (T.data.toList = Lib.decDigits N)) (h1 : n ≤ 9223372036854775807) (w : World) :
    Calls Tryd.prog 75 #[.int .i64 n, .int .i64 0] w fun e w' => e = .returned (.string T) ∧ Below w.heap.size w w' := by
  have h0 := hn.out
  refine (rdecimal_any n 0 w (by omega) h1).mono fun e w' h => ⟨?_, h.2⟩
  have e1 : (Un.clV 0 0 9).toNat = 0 := by decide +kernel
  have e2 : Un.decT n 0 = T.data.toList := by
    unfold Un.decT
    rw [if_neg (by omega), Ck.body_zero, hT.out]
    congr 1
    omega
  rw [h.1, e1, e2, ← ba_eta]
set_option maxHeartbeats 2000000 in
theorem rformat_any (t : Int) (w : World) : Calls Tryd.prog 48 #[.int .i64 t] w (FmtR t w) := by
  by_cases ht : 0 ≤ t ∧ t ≤ 10000000
  · have hN : Ck.fmT t = Ck.fmN t.toNat := by unfold Ck.fmT; rw [if_pos ht]
    obtain ⟨D, hD⟩ : ∃ D : ByteArray, D.data.toList = Lib.decDigits (t.toNat / 1440) := ⟨⟨(Lib.decDigits (t.toNat / 1440)).toArray⟩, rfl⟩
    obtain ⟨X, hX⟩ : ∃ D : ByteArray, D.data.toList = Ck.two (t.toNat % 1440 / 60) := ⟨⟨(Ck.two (t.toNat % 1440 / 60)).toArray⟩, rfl⟩
    obtain ⟨Y, hY⟩ : ∃ D : ByteArray, D.data.toList = Ck.two (t.toNat % 60) := ⟨⟨(Ck.two (t.toNat % 60)).toArray⟩, rfl⟩
    have hE : Hid ((⟨#[100]⟩ : ByteArray) ++ D ++ ⟨#[32]⟩ ++ X ++ ⟨#[58]⟩ ++ Y = ⟨(Ck.fmT t).toArray⟩) := by show _ = _; rw [hN]; exact fm_bytes hD hX hY
    have hx : X.size = 2 := by rw [← list_len, hX]; rfl
    have hy : Y.size = 2 := by rw [← list_len, hY]; rfl
    have hd : D.size ≤ 20 := by rw [← list_len, hD, Lib.decDigits_length]; exact Lib.nDigits_le20 _ (by omega)
    have hx2 : (X.size : Int) ≤ 2 := by omega
    have hy2 : (Y.size : Int) ≤ 2 := by omega
    have hd2 : (D.size : Int) ≤ 20 := by omega
    have t0 := ht.1
    have t1 := ht.2
    clear hx hy hN
    have HD := Lib.hid hD
    have HX : Hid (X.data.toList = Ck.two (t % 1440 / 60).toNat) := by show _ = _; rw [hX]; congr 1; omega
    have HY : Hid (Y.data.toList = Ck.two (t % 60).toNat) := by show _ = _; rw [hY]; congr 1; omega
    have HDN : Hid (t / 1440 = ((t.toNat / 1440 : Nat) : Int)) := by show _ = _; omega
    have HB := Lib.hid (Below.refl w.heap.size w)
    clear hD hX hY
    go_enter Tryd.func48, Tryd.ntmps48
    go_wp2_with fail
    (with_reducible refine (rtm_yes _ ht _).mono ?_)
    rintro e w1 ⟨rfl, rfl⟩
    go_wp2_with fail
    (with_reducible refine (rdec_eq _ _ HDN _ HD (by omega) _).mono ?_)
    rintro e u1 ⟨rfl, hb⟩
    have HB := Lib.hid (below_old HB.out hb)
    clear hb
    go_wp2_with fail
    (with_reducible refine (rtwo_any _ (by omega) (by omega) _ HX _).mono ?_)
    rintro e u2 ⟨rfl, hb⟩
    have HB := Lib.hid (below_old HB.out hb)
    clear hb
    go_wp2_with fail
    (with_reducible refine (rtwo_any _ (by omega) (by omega) _ HY _).mono ?_)
    rintro e u3 ⟨rfl, hb⟩
    have HB := Lib.hid (below_old HB.out hb)
    clear hb
    go_wp2_with fail
    go_ret
    exact ⟨ret_str hE.out, HB.out⟩
  · have hE : Hid (Ck.fmT t = []) := by show _ = _; unfold Ck.fmT; rw [if_neg ht]
    go_enter Tryd.func48, Tryd.ntmps48
    go_wp2_with fail
    (with_reducible refine (rtm_no _ ht _).mono ?_)
    rintro e w1 ⟨rfl, rfl⟩
    go_wp2_with fail
    go_ret
    exact ⟨ret_str (by rw [hE.out]), Below.refl _ _⟩
theorem format_eq (t : Int) (T : ByteArray) (hT : Hid (lb (Ck.fmT t) = T)) (w : World) (htab : Hid (TabOk w)) : Calls Tryd.prog 45 #[.int .i64 t] w fun e w' => e = .returned (.string T) ∧ Below w.heap.size w w' :=
  (format_any t w htab.out).mono fun e w' h => ⟨by rw [h.1, ← hT.out], h.2⟩
theorem rformat_eq (t : Int) (T : ByteArray) (hT : Hid (lb (Ck.fmT t) = T)) (w : World) : Calls Tryd.prog 48 #[.int .i64 t] w fun e w' => e = .returned (.string T) ∧ Below w.heap.size w w' :=
  (rformat_any t w).mono fun e w' h => ⟨by rw [h.1, ← hT.out], h.2⟩
/-- The reference's digits. -/
def dgS (u : Nat) : ByteArray := ⟨(Lib.decDigits u).toArray⟩
theorem dgS_small {u : Nat} (h : u < 10) : dgS u = (⟨#[48, 49, 50, 51, 52, 53, 54, 55, 56, 57]⟩ : ByteArray).extract u (u + 1) := by
  have : ∀ n, n < 10 → (⟨[UInt8.ofNat (48 + n)].toArray⟩ : ByteArray) = (⟨#[48, 49, 50, 51, 52, 53, 54, 55, 56, 57]⟩ : ByteArray).extract n (n + 1) := by decide +kernel
  rw [← this u h]
  unfold dgS
  rw [Lib.decDigits, dif_pos h]
theorem dgS_big {u : Nat} (h : ¬ u < 10) : dgS u = dgS (u / 10) ++ dgS (u % 10) := by
  have hu := Lib.decDigits.eq_def u
  rw [dif_neg h] at hu
  have hr := Lib.decDigits.eq_def (u % 10)
  rw [dif_pos (by omega)] at hr
  unfold dgS
  rw [hu, hr]
  apply ByteArray.ext
  rw [ByteArray.data_append]
  simp
theorem dgS_size {u : Nat} (h : u < 18446744073709551616) : (dgS u).size ≤ 20 := by
  have h1 := Lib.nDigits_le20 u h
  have h2 := Lib.decDigits_length u
  show (Lib.decDigits u).toArray.size ≤ 20
  rw [List.size_toArray]
  omega
set_option maxRecDepth 100000 in
set_option maxHeartbeats 4000000 in
theorem rnat_any (u : Nat) : u < 18446744073709551616 → ∀ w, Calls Tryd.prog 77 #[.int .u64 u] w fun e w' => e = .returned (.string (dgS u)) ∧ w' = w := by
  induction u using Nat.strongRecOn with
  | ind u ih =>
    intro h64 w
    by_cases h10 : u < 10
    · have HE := Lib.hid (dgS_small h10)
      have z : (u : Int) < 10 := by omega
      clear ih
      go_enter Tryd.func77, Tryd.ntmps77
      go_wp2_with fail
      go_ret
      exact ⟨ret_st HE.out.symm, rfl⟩
    · have z : ¬ (u : Int) < 10 := by omega
      obtain ⟨a, ha⟩ : ∃ a, u / 10 = a := ⟨_, rfl⟩
      obtain ⟨b, hb⟩ : ∃ b, u % 10 = b := ⟨_, rfl⟩
      have HA := Lib.hid (ih a (by omega) (by omega))
      have HB := Lib.hid (ih b (by omega) (by omega))
      have HE := Lib.hid (dgS_big h10)
      rw [ha, hb] at HE
      have f1 : (u : Int).tdiv 10 = (a : Int) := by rw [Int.tdiv_eq_ediv_of_nonneg (by omega)]; omega
      have f2 : (u : Int).tmod 10 = (b : Int) := by rw [Int.tmod_eq_emod_of_nonneg (by omega)]; omega
      have f3 : (u : Int) / 10 = (a : Int) := by omega
      have f4 : (u : Int) % 10 = (b : Int) := by omega
      have s1 := dgS_size (u := a) (by omega)
      have s2 := dgS_size (u := b) (by omega)
      obtain ⟨X, hX⟩ : ∃ X, dgS a = X := ⟨_, rfl⟩
      obtain ⟨Y, hY⟩ : ∃ Y, dgS b = Y := ⟨_, rfl⟩
      rw [hX] at HA HE s1
      rw [hY] at HB HE s2
      have hcat : ¬ 9223372036854775807 < X.size + Y.size := by omega
      clear ih ha hb hX hY s1 s2
      go_enter Tryd.func77, Tryd.ntmps77
      go_wp2_with fail
      (with_reducible refine (HA.out _).mono ?_)
      rintro e w1 ⟨rfl, rfl⟩
      go_wp2_with fail
      (with_reducible refine (HB.out _).mono ?_)
      rintro e w1 ⟨rfl, rfl⟩
      go_wp2_with fail
      go_ret
      exact ⟨ret_st HE.out.symm, rfl⟩
theorem rnat_eq (x : Int) (u : Nat) (hx : Hid (x = (u : Int))) (h : u < 18446744073709551616) (T : ByteArray) (hT : Hid (dgS u = T)) (w : World) : Calls Tryd.prog 77 #[.int .u64 x] w fun e w' => e = .returned (.string T) ∧ w' = w := by
  have := rnat_any u h w
  rw [← hx.out, hT.out] at this
  exact this
theorem rdigits_any (n : Int) (h : I64 n) (T : ByteArray) (hT : Hid (itS n = T)) (w : World) : Calls Tryd.prog 49 #[.int .i64 n] w fun e w' => e = .returned (.string T) ∧ Below w.heap.size w w' := by
  obtain ⟨h0, h1⟩ := h
  by_cases hn : n < 0
  · obtain ⟨u, hu⟩ : ∃ u : Nat, -n = (u : Int) := ⟨(-n).toNat, by omega⟩
    obtain ⟨X, hX⟩ : ∃ X, dgS u = X := ⟨_, rfl⟩
    have HX := Lib.hid hX
    have hxs : X.size ≤ 20 := by rw [← hX]; exact dgS_size (by omega)
    have HE : Hid ((⟨#[45]⟩ : ByteArray) ++ X = T) := by
      show _ = _
      rw [← hT.out, ← hX]
      unfold itS dgS
      rw [show n = -(u : Int) by omega, Lib.itoa_neg u (by omega)]
      apply ByteArray.ext
      rw [ByteArray.data_append]
      apply Array.ext'
      simp
    have HU : Hid (-n = (u : Int)) := hu
    have hcat : ¬ 9223372036854775807 < (⟨#[45]⟩ : ByteArray).size + X.size := by
      have : (⟨#[45]⟩ : ByteArray).size = 1 := rfl
      omega
    have hu64 : u < 18446744073709551616 := by omega
    clear hX hu
    go_enter Tryd.func49, Tryd.ntmps49
    go_wp2_with fail
    (with_reducible refine (rnat_eq _ u (Lib.hid (by have := HU.out; omega)) hu64 X HX _).mono ?_)
    rintro e w1 ⟨rfl, rfl⟩
    go_wp2_with fail
    go_ret
    exact ⟨ret_st HE.out, Below.refl _ _⟩
  · obtain ⟨u, hu⟩ : ∃ u : Nat, n = (u : Int) := ⟨n.toNat, by omega⟩
    have HE : Hid (dgS u = T) := by
      show _ = _
      rw [← hT.out]
      unfold itS dgS
      rw [hu, Lib.itoa_nonneg]
    have HU : Hid (n = (u : Int)) := hu
    have hu64 : u < 18446744073709551616 := by omega
    clear hu
    go_enter Tryd.func49, Tryd.ntmps49
    go_wp2_with fail
    (with_reducible refine (rnat_eq _ u (Lib.hid (by have := HU.out; omega)) hu64 T HE _).mono ?_)
    rintro e w1 ⟨rfl, rfl⟩
    go_wp2_with fail
    go_ret
    exact ⟨rfl, Below.refl _ _⟩
end Go.Proofs.YtcefmnkfkpoccaaDoor
