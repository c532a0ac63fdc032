/- Package clock: two, Format, number, pair. -/
import Derived.Test.YtieafjbngealoaaDoorY8
import Derived.Test.YtieafjbngealoaaDoorY1
import Derived.Test.YtieafjbngealoaaDoorZ4
import Derived.Test.YtieafjbngealoaaDoorShelf
import Derived.Laws.RangeAny
import Derived.Lib.AppendIntMem
namespace Go.Proofs.YtieafjbngealoaaDoor
open Go.RowKit
set_option linter.unusedVariables false

abbrev TabOk (w : World) : Prop := Lib.TabIs Tryd.prog w "internal/strconv.uint64pow10" .u64 Lib.pow10Tab
theorem TabOk.below {w w' : World} (h : TabOk w) (hb : Below w.heap.size w w') : TabOk w' := Lib.tabBelow_of_tabIs h w' hb
theorem below_grow' (w : World) (k : Nat) (os : Array Obj) : Below w.heap.size w (Go.Sort.grow (w.drewN k) os) :=
  ⟨rfl, rfl, rfl, by simp [Go.Sort.grow], fun i hi => by simp [Go.Sort.grow, Array.getElem?_append, hi]⟩
theorem itoa_eq (n : Int) (N : Nat) (hn : Hid (n = (N : Int))) (T : ByteArray) (hT : Hid (T.data.toList = Lib.decDigits N)) (h1 : n ≤ 9223372036854775807) (w : World) (ht : Hid (TabOk w)) :
    Calls Tryd.prog 42 #[.int .i64 n] w fun e w' => e = .returned (.string T) ∧ Below w.heap.size w w' := by
  have h0 := hn.out
  refine (Tryd.strconv_Itoa n (by omega) h1 w ht.out).mono fun e w' h => ?_
  obtain ⟨h2, k, os, rfl⟩ := h
  rw [h0, Lib.itoa_nonneg, ← hT.out, ← ba_eta] at h2
  exact ⟨h2, below_grow' w k os⟩
theorem itoa_one (n : Int) (h0 : 0 ≤ n) (h1 : n < 10) (T : ByteArray) (hT : Hid (T = ⟨[UInt8.ofNat (48 + n.toNat)].toArray⟩)) (w : World) :
    Calls Tryd.prog 42 #[.int .i64 n] w fun e w' => e = .returned (.string T) ∧ w = w' := by
  obtain ⟨N, rfl⟩ := Int.eq_ofNat_of_zero_le h0
  refine (Tryd.strconv_Itoa_small N (by omega) w).mono fun e w' h => ?_
  obtain ⟨h2, h3⟩ := h
  rw [Lib.decDigits_one (by omega)] at h2
  rw [hT.out, Int.toNat_natCast]
  exact ⟨h2, h3.symm⟩
theorem two_any (n : Int) (h0 : 0 ≤ n) (h1 : n < 100) (T : ByteArray) (hT : Hid (T.data.toList = Ck.two n.toNat)) (w : World) :
    Calls Tryd.prog 43 #[.int .i64 n] w fun e w' => e = .returned (.string T) ∧ w = w' := by
  obtain ⟨X, hX⟩ : ∃ X : ByteArray, X = ⟨[UInt8.ofNat (48 + (n / 10).toNat)].toArray⟩ := ⟨_, rfl⟩
  obtain ⟨Y, hY⟩ : ∃ X : ByteArray, X = ⟨[UInt8.ofNat (48 + (n % 10).toNat)].toArray⟩ := ⟨_, rfl⟩
  have hx : X.size = 1 := by rw [hX]; rfl
  have hy : Y.size = 1 := by rw [hY]; rfl
  have hE : Hid (X ++ Y = T) := by
    show _ = _
    apply ba_ext
    rw [hT.out, ByteArray.data_append, Array.toList_append, hX, hY]
    unfold Ck.two
    rw [show (n / 10).toNat = n.toNat / 10 by omega, show (n % 10).toNat = n.toNat % 10 by omega]
    rfl
  have HX := Lib.hid hX; have HY := Lib.hid hY
  have hcat : ¬ 9223372036854775807 < X.size + Y.size := by omega
  clear hX hY hx hy
  go_enter Tryd.func43, Tryd.ntmps43
  go_wp2_with fail
  (with_reducible refine (itoa_one _ (by omega) (by omega) _ HX _).mono ?_)
  rintro e w1 ⟨rfl, rfl⟩
  go_wp2_with fail
  (with_reducible refine (itoa_one _ (by omega) (by omega) _ HY _).mono ?_)
  rintro e w1 ⟨rfl, rfl⟩
  go_wp2_with fail
  go_ret
  exact ⟨ret_str hE.out, rfl⟩
theorem fm_bytes {D X Y : ByteArray} {t : Nat} (hD : D.data.toList = Lib.decDigits (t / 1440)) (hX : X.data.toList = Ck.two (t % 1440 / 60)) (hY : Y.data.toList = Ck.two (t % 60)) :
    (⟨#[100]⟩ : ByteArray) ++ D ++ ⟨#[32]⟩ ++ X ++ ⟨#[58]⟩ ++ Y = ⟨(Ck.fmN t).toArray⟩ := by
  apply ba_ext
  simp only [ByteArray.data_append, Array.toList_append, hD, hX, hY]
  unfold Ck.fmN
  simp
def FmtR (t : Int) (w : World) (e : Ending) (w' : World) : Prop := e = .returned (.string ⟨(Ck.fmT t).toArray⟩) ∧ Below w.heap.size w w'
set_option maxHeartbeats 2000000 in
theorem format_any (t : Int) (w : World) (htab : TabOk w) : Calls Tryd.prog 28 #[.int .i64 t] w (FmtR t w) := by
  by_cases ht : 0 ≤ t ∧ t ≤ 10000000
  · have hN : Ck.fmT t = Ck.fmN t.toNat := by unfold Ck.fmT; rw [if_pos ht]
    obtain ⟨D, hD⟩ : ∃ D : ByteArray, D.data.toList = Lib.decDigits (t.toNat / 1440) := ⟨⟨(Lib.decDigits (t.toNat / 1440)).toArray⟩, rfl⟩
    obtain ⟨X, hX⟩ : ∃ D : ByteArray, D.data.toList = Ck.two (t.toNat % 1440 / 60) := ⟨⟨(Ck.two (t.toNat % 1440 / 60)).toArray⟩, rfl⟩
    obtain ⟨Y, hY⟩ : ∃ D : ByteArray, D.data.toList = Ck.two (t.toNat % 60) := ⟨⟨(Ck.two (t.toNat % 60)).toArray⟩, rfl⟩
    have hE : Hid ((⟨#[100]⟩ : ByteArray) ++ D ++ ⟨#[32]⟩ ++ X ++ ⟨#[58]⟩ ++ Y = ⟨(Ck.fmT t).toArray⟩) := by show _ = _; rw [hN]; exact fm_bytes hD hX hY
    have hx : X.size = 2 := by rw [← list_len, hX]; rfl
    have hy : Y.size = 2 := by rw [← list_len, hY]; rfl
    have hd : D.size ≤ 20 := by rw [← list_len, hD, Lib.decDigits_length]; exact Lib.nDigits_le20 _ (by omega)
    have hx2 : (X.size : Int) ≤ 2 := by omega
    have hy2 : (Y.size : Int) ≤ 2 := by omega
    have hd2 : (D.size : Int) ≤ 20 := by omega
    have t0 := ht.1
    have t1 := ht.2
    clear hx hy hN
    have HD := Lib.hid hD
    have HX : Hid (X.data.toList = Ck.two (t % 1440 / 60).toNat) := by show _ = _; rw [hX]; congr 1; omega
    have HY : Hid (Y.data.toList = Ck.two (t % 60).toNat) := by show _ = _; rw [hY]; congr 1; omega
    have HDN : Hid (t / 1440 = ((t.toNat / 1440 : Nat) : Int)) := by show _ = _; omega
    have HTAB := Lib.hid htab
    clear hD hX hY htab
    go_enter Tryd.func28, Tryd.ntmps28
    go_wp2_with fail
    (with_reducible refine (tm_yes _ ht _).mono ?_)
    rintro e w1 ⟨rfl, rfl⟩
    go_wp2_with fail
    (with_reducible refine (itoa_eq _ _ HDN _ HD (by omega) _ HTAB).mono ?_)
    rintro e w1 ⟨rfl, hb⟩
    have HB := Lib.hid hb
    clear hb
    go_wp2_with fail
    (with_reducible refine (two_any _ (by omega) (by omega) _ HX _).mono ?_)
    rintro e w2 ⟨rfl, rfl⟩
    go_wp2_with fail
    have hsix : t % 1440 % 60 = t % 60 := by omega
    try rw [hsix]
    (with_reducible refine (two_any _ (by omega) (by omega) _ HY _).mono ?_)
    rintro e w2 ⟨rfl, rfl⟩
    go_wp2_with fail
    go_ret
    exact ⟨ret_str hE.out, HB.out⟩
  · have hE : Hid (Ck.fmT t = []) := by show _ = _; unfold Ck.fmT; rw [if_neg ht]
    go_enter Tryd.func28, Tryd.ntmps28
    go_wp2_with fail
    (with_reducible refine (tm_no _ ht _).mono ?_)
    rintro e w1 ⟨rfl, rfl⟩
    go_wp2_with fail
    go_ret
    exact ⟨ret_str (by rw [hE.out]), Below.refl _ _⟩
end Go.Proofs.YtieafjbngealoaaDoor
