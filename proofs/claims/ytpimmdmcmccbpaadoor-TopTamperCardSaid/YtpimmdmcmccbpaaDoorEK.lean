/- custody: Root and Children. -/
import Derived.Test.YtpimmdmcmccbpaaDoorEJ
namespace Go.Proofs.YtpimmdmcmccbpaaDoor
open Go.RowKit
set_option linter.unusedVariables false
open Cu (Lk Ls)
/-- The root of an item. -/
def Cu.rtS (L : Ls) (s : ByteArray) : ByteArray := match (Cu.trc L s).getLast? with | none => ByteArray.empty | some e => e.it
theorem Cu.rtS_no {L : Ls} {s : ByteArray} (h : Cu.trc L s = []) : Cu.rtS L s = ByteArray.empty := by simp [Cu.rtS, h]
theorem Cu.rtS_yes {L : Ls} {s : ByteArray} (k : Nat) (h : (Cu.trc L s).length = k + 1) : Cu.rtS L s = ((Cu.trc L s)[k]'(by omega)).it := by
  have h2 : (Cu.trc L s).getLast? = some ((Cu.trc L s)[k]'(by omega)) := by
    rw [List.getLast?_eq_getElem?, List.getElem?_eq_getElem (by omega)]
    congr 2
    omega
  simp [Cu.rtS, h2]
set_option maxHeartbeats 4000000 in
theorem root_yes {B r : Nat} {L : Ls} {v : Value} {b1 b2 : Nat} (item : ByteArray) (his : (item.size : Int) ≤ 1000) (w : World) (HC : Hid (CReg w B r L v b1 b2)) (HO : Hid (Cu.Ord L)) (HP : Hid (∀ e ∈ L, (e.pa.size : Int) ≤ 1000)) (hl : (L.length : Int) ≤ 2000) (hi : Hid (Cu.ix item L < L.length)) :
    Calls Tryd.prog 24 #[.pointer (some ⟨r, 0, none⟩), .string item] w fun e w' => e = .returned (.tuple #[.string (Cu.rtS L item), .bool true]) ∧ Below w.heap.size w w' := by
  have HT := Lib.hid (trace_any item his w HC HO HP hl)
  have HE : Hid (Cu.trE L item = 0) := by show _ = _; rw [Cu.trE, if_pos hi.out]
  rw [HE.out] at HT
  have htl := Cu.trc_length L item
  have hy := HO.out.trc_yes hi.out
  obtain ⟨k, hk⟩ : ∃ k, (Cu.trc L item).length = k + 1 := ⟨(Cu.trc L (L[Cu.ix item L]'hi.out).pa).length, by rw [hy]; rfl⟩
  clear hy
  have HR : Hid (∃ h : k < (Cu.trc L item).length, Cu.rtS L item = ((Cu.trc L item)[k]'h).it) := ⟨by omega, Cu.rtS_yes k hk⟩
  have zk : (k : Int) ≤ 2000 := by omega
  have HK := Lib.hid hk
  have HKL : Hid (k < (Cu.trc L item).length) := by show _ < _; omega
  rw [hk] at HT
  clear hk htl
  go_enter Tryd.func24, Tryd.ntmps24
  go_wp2_with fail
  (with_reducible refine HT.out.mono ?_)
  rintro e w1 ⟨v1, rfl, hrow, hB⟩
  obtain ⟨A, c, hv⟩ := row_form hrow
  subst hv
  obtain ⟨bb, off, hA, hbl, p0, -⟩ := (row_slr hrow _ _ rfl).link HKL.out
  subst hA
  rw [← HR.out.2] at p0
  have HB := Lib.hid hB
  clear hrow hB
  go_wp2_with fail
  (try simp only [Exit.inBlock, Exit.then])
  exact bodyPost_ret (results_tmp2 rfl _ _ _) rfl ⟨rfl, HB.out⟩
set_option maxHeartbeats 4000000 in
theorem root_no {B r : Nat} {L : Ls} {v : Value} {b1 b2 : Nat} (item : ByteArray) (his : (item.size : Int) ≤ 1000) (w : World) (HC : Hid (CReg w B r L v b1 b2)) (hi : Hid (¬ Cu.ix item L < L.length)) :
    Calls Tryd.prog 24 #[.pointer (some ⟨r, 0, none⟩), .string item] w fun e w' => e = .returned (.tuple #[.string ByteArray.empty, .bool false]) ∧ w' = w := by
  go_enter Tryd.func24, Tryd.ntmps24
  go_wp2_with fail
  (with_reducible refine (trace_no item his w HC hi).mono ?_)
  rintro e w1 ⟨rfl, h⟩
  subst w1
  go_wp2_with fail
  (try simp only [Exit.inBlock, Exit.then])
  exact bodyPost_ret (results_tmp2 rfl _ _ _) rfl ⟨rfl, rfl⟩
theorem root_any {B r : Nat} {L : Ls} {v : Value} {b1 b2 : Nat} (item : ByteArray) (his : (item.size : Int) ≤ 1000) (w : World) (HC : Hid (CReg w B r L v b1 b2)) (HO : Hid (Cu.Ord L)) (HP : Hid (∀ e ∈ L, (e.pa.size : Int) ≤ 1000)) (hl : (L.length : Int) ≤ 2000) (x : Bool) (hx : Hid (x = decide (Cu.ix item L < L.length))) :
    Calls Tryd.prog 24 #[.pointer (some ⟨r, 0, none⟩), .string item] w fun e w' => e = .returned (.tuple #[.string (Cu.rtS L item), .bool x]) ∧ Below w.heap.size w w' := by
  by_cases h : Cu.ix item L < L.length
  · have e : x = true := by rw [hx.out]; simpa using h
    subst e
    exact root_yes item his w HC HO HP hl (Lib.hid h)
  · have e : x = false := by rw [hx.out]; simpa using h
    subst e
    rw [Cu.rtS_no (Cu.trc_no h)]
    exact (root_no item his w HC (Lib.hid h)).mono fun e w' ⟨h1, h2⟩ => ⟨h1, by rw [h2]; exact Below.refl _ _⟩
end Go.Proofs.YtpimmdmcmccbpaaDoor
