/- The reference's two, Format, pair. -/
import Derived.Test.YtieafjbngealoaaDoorYF
import Derived.BigQuiet
namespace Go.Proofs.YtieafjbngealoaaDoor
open Go.RowKit
set_option linter.unusedVariables false
theorem two_conv (n : Int) (h0 : 0 ≤ n) (h1 : n < 100) (T : ByteArray) (hT : T.data.toList = Ck.two n.toNat) (w : World) :
    (convert 65 9 (.slice (some ⟨w.heap.size, 0, none⟩) 2 2)).run Tryd.prog (w.alloc (.cells #[.int .u8 (48 + n / 10), .int .u8 (48 + n % 10)] 5)) = .ok (.string T) (w.alloc (.cells #[.int .u8 (48 + n / 10), .int .u8 (48 + n % 10)] 5)) := by
  have hB := Blk.new w 5 #[.int .u8 (48 + n / 10), .int .u8 (48 + n % 10)]
  have h := run_convert_bytes_back (P := Tryd.prog) (w.alloc (.cells #[.int .u8 (48 + n / 10), .int .u8 (48 + n % 10)] 5)) 65 9 5 ⟨w.heap.size, 0, none⟩ 2 (Ck.two n.toNat) Tryd.underlying65 Tryd.underlying5 Tryd.underlying9 (fun j hj => by
    have hj2 : j < 2 := hj
    rw [Lib.add_plain, hB.cell]
    match j, hj2 with
    | 0, _ =>
      show some (Value.int .u8 (48 + n / 10)) = some (.int .u8 ((UInt8.ofNat (48 + n.toNat / 10)).toNat : Int))
      rw [UInt8.toNat_ofNat_of_lt' (by show _ < 256; omega)]
      congr 2
      omega
    | 1, _ =>
      show some (Value.int .u8 (48 + n % 10)) = some (.int .u8 ((UInt8.ofNat (48 + n.toNat % 10)).toNat : Int))
      rw [UInt8.toNat_ofNat_of_lt' (by show _ < 256; omega)]
      congr 2
      omega)
  rw [← hT, ← ba_eta] at h
  have hl : T.data.toList.length = 2 := by rw [hT]; rfl
  rw [hl] at h
  exact h
set_option maxHeartbeats 2000000 in
theorem rtwo_any (n : Int) (h0 : 0 ≤ n) (h1 : n < 100) (T : ByteArray) (hT : Hid (T.data.toList = Ck.two n.toNat)) (w : World) :
    Calls Tryd.prog 45 #[.int .i64 n] w fun e w' => e = .returned (.string T) ∧ Below w.heap.size w w' := by
  have hcv := two_conv n h0 h1 T hT.out w
  go_enter Tryd.func45, Tryd.ntmps45
  go_wp2_with fail
  go_ret
  exact ⟨rfl, (Below.refl _ _).alloc (Nat.le_refl _) _⟩
theorem rdec_eq (n : Int) (N : Nat) (hn : Hid (n = (N : Int))) (T : ByteArray) (hT : Hid (T.data.toList = Lib.decDigits N)) (h1 : n ≤ 9223372036854775807) (w : World) :
    Calls Tryd.prog 44 #[.int .i64 n, .int .i64 0] w fun e w' => e = .returned (.string T) ∧ Below w.heap.size w w' := by
  have h0 := hn.out
  refine (rdecimal_any n 0 w (by omega) h1).mono fun e w' h => ⟨?_, h.2⟩
  have e1 : (Un.clV 0 0 9).toNat = 0 := by decide +kernel
  have e2 : Un.decT n 0 = T.data.toList := by
    unfold Un.decT
    rw [if_neg (by omega), Ck.body_zero, hT.out]
    congr 1
    omega
  rw [h.1, e1, e2, ← ba_eta]
set_option maxHeartbeats 2000000 in
theorem rformat_any (t : Int) (w : World) : Calls Tryd.prog 29 #[.int .i64 t] w (FmtR t w) := by
  by_cases ht : 0 ≤ t ∧ t ≤ 10000000
  · have hN : Ck.fmT t = Ck.fmN t.toNat := by unfold Ck.fmT; rw [if_pos ht]
    obtain ⟨D, hD⟩ : ∃ D : ByteArray, D.data.toList = Lib.decDigits (t.toNat / 1440) := ⟨⟨(Lib.decDigits (t.toNat / 1440)).toArray⟩, rfl⟩
    obtain ⟨X, hX⟩ : ∃ D : ByteArray, D.data.toList = Ck.two (t.toNat % 1440 / 60) := ⟨⟨(Ck.two (t.toNat % 1440 / 60)).toArray⟩, rfl⟩
    obtain ⟨Y, hY⟩ : ∃ D : ByteArray, D.data.toList = Ck.two (t.toNat % 60) := ⟨⟨(Ck.two (t.toNat % 60)).toArray⟩, rfl⟩
    have hE : Hid ((⟨#[100]⟩ : ByteArray) ++ D ++ ⟨#[32]⟩ ++ X ++ ⟨#[58]⟩ ++ Y = ⟨(Ck.fmT t).toArray⟩) := by show _ = _; rw [hN]; exact fm_bytes hD hX hY
    have hx : X.size = 2 := by rw [← list_len, hX]; rfl
    have hy : Y.size = 2 := by rw [← list_len, hY]; rfl
    have hd : D.size ≤ 20 := by rw [← list_len, hD, Lib.decDigits_length]; exact Lib.nDigits_le20 _ (by omega)
    have hx2 : (X.size : Int) ≤ 2 := by omega
    have hy2 : (Y.size : Int) ≤ 2 := by omega
    have hd2 : (D.size : Int) ≤ 20 := by omega
    have t0 := ht.1
    have t1 := ht.2
    clear hx hy hN
    have HD := Lib.hid hD
    have HX : Hid (X.data.toList = Ck.two (t % 1440 / 60).toNat) := by show _ = _; rw [hX]; congr 1; omega
    have HY : Hid (Y.data.toList = Ck.two (t % 60).toNat) := by show _ = _; rw [hY]; congr 1; omega
    have HDN : Hid (t / 1440 = ((t.toNat / 1440 : Nat) : Int)) := by show _ = _; omega
    have HB := Lib.hid (Below.refl w.heap.size w)
    clear hD hX hY
    go_enter Tryd.func29, Tryd.ntmps29
    go_wp2_with fail
    (with_reducible refine (rtm_yes _ ht _).mono ?_)
    rintro e w1 ⟨rfl, rfl⟩
    go_wp2_with fail
    (with_reducible refine (rdec_eq _ _ HDN _ HD (by omega) _).mono ?_)
    rintro e u1 ⟨rfl, hb⟩
    have HB := Lib.hid (below_old HB.out hb)
    clear hb
    go_wp2_with fail
    (with_reducible refine (rtwo_any _ (by omega) (by omega) _ HX _).mono ?_)
    rintro e u2 ⟨rfl, hb⟩
    have HB := Lib.hid (below_old HB.out hb)
    clear hb
    go_wp2_with fail
    (with_reducible refine (rtwo_any _ (by omega) (by omega) _ HY _).mono ?_)
    rintro e u3 ⟨rfl, hb⟩
    have HB := Lib.hid (below_old HB.out hb)
    clear hb
    go_wp2_with fail
    go_ret
    exact ⟨ret_str hE.out, HB.out⟩
  · have hE : Hid (Ck.fmT t = []) := by show _ = _; unfold Ck.fmT; rw [if_neg ht]
    go_enter Tryd.func29, Tryd.ntmps29
    go_wp2_with fail
    (with_reducible refine (rtm_no _ ht _).mono ?_)
    rintro e w1 ⟨rfl, rfl⟩
    go_wp2_with fail
    go_ret
    exact ⟨ret_str (by rw [hE.out]), Below.refl _ _⟩
/-- The reference's pair. -/
def rpV (a b : Int) : Int := if 48 ≤ a ∧ a ≤ 57 ∧ 48 ≤ b ∧ b ≤ 57 then 10 * (a - 48) + (b - 48) else -1
theorem rpair_any (a b : Int) (ha : 0 ≤ a ∧ a ≤ 255) (hb : 0 ≤ b ∧ b ≤ 255) (v : Int) (hv : Hid (rpV a b = v)) (w : World) :
    Calls Tryd.prog 41 #[.int .u8 a, .int .u8 b] w fun e w' => e = .returned (.int .i64 v) ∧ w = w' := by
  by_cases g1 : a < 48
  · have hE : Hid (v = -1) := by show _ = _; rw [← hv.out]; unfold rpV; rw [if_neg (by omega)]
    go_enter Tryd.func41, Tryd.ntmps41
    go_wp2_with fail
    go_ret
    exact ⟨ret_i hE.out.symm, rfl⟩
  by_cases g2 : 57 < a
  · have hE : Hid (v = -1) := by show _ = _; rw [← hv.out]; unfold rpV; rw [if_neg (by omega)]
    go_enter Tryd.func41, Tryd.ntmps41
    go_wp2_with fail
    go_ret
    exact ⟨ret_i hE.out.symm, rfl⟩
  by_cases g3 : b < 48
  · have hE : Hid (v = -1) := by show _ = _; rw [← hv.out]; unfold rpV; rw [if_neg (by omega)]
    go_enter Tryd.func41, Tryd.ntmps41
    go_wp2_with fail
    go_ret
    exact ⟨ret_i hE.out.symm, rfl⟩
  by_cases g4 : 57 < b
  · have hE : Hid (v = -1) := by show _ = _; rw [← hv.out]; unfold rpV; rw [if_neg (by omega)]
    go_enter Tryd.func41, Tryd.ntmps41
    go_wp2_with fail
    go_ret
    exact ⟨ret_i hE.out.symm, rfl⟩
  have hE : Hid (v = 10 * (a - 48) + (b - 48)) := by show _ = _; rw [← hv.out]; unfold rpV; rw [if_pos (by omega)]
  go_enter Tryd.func41, Tryd.ntmps41
  go_wp2_with fail
  go_ret
  exact ⟨ret_i (by rw [hE.out]; omega), rfl⟩
end Go.Proofs.YtieafjbngealoaaDoor
