/- The reference of custody: at, volume. -/
import Derived.Test.YtpimmdmcmccbpaaDoorEM
namespace Go.Proofs.YtpimmdmcmccbpaaDoor
open Go.RowKit
set_option linter.unusedVariables false
open Cu (Lk Ls)
/-- The index of an item, or -1. -/
def Cu.atI (L : Ls) (s : ByteArray) : Int := if Cu.ix s L < L.length then (Cu.ix s L : Int) else -1
theorem Cu.atI_yes {L : Ls} {s : ByteArray} (h : Cu.ix s L < L.length) : Cu.atI L s = Cu.ix s L := if_pos h
theorem Cu.atI_no {L : Ls} {s : ByteArray} (h : ¬ Cu.ix s L < L.length) : Cu.atI L s = -1 := if_neg h
set_option maxHeartbeats 4000000 in
theorem rat_any (L : Ls) (A : Option Addr) (c : Nat) (s : ByteArray) (w : World) (HS : Hid (SlR w A (lrowL L))) (hl : (L.length : Int) ≤ 2000) :
    Calls Tryd.prog 53 #[.slice A L.length c, .string s] w fun e w' => e = .returned (.int .i64 (Cu.atI L s)) ∧ w' = w := by
  go_enter Tryd.func53, Tryd.ntmps53
  go_wp2_with fail
  go_loopw [5] (fun i wr => ∃ k : Nat, i = .int .i64 k ∧ k ≤ L.length ∧ Hid (k ≤ Cu.ix s L) ∧ wr = w) (fun i _ => L.length - (intOf i).toNat)
  case atStart => exact ⟨0, rfl, by omega, Nat.zero_le _, rfl⟩
  case round =>
    obtain ⟨k, rfl, hk, HK, hw⟩ := hrel
    subst wr
    by_cases h : k < L.length
    · obtain ⟨e, he⟩ : ∃ e, L[k] = e := ⟨_, rfl⟩
      have HEK := Lib.hid he
      clear he
      obtain ⟨bb, off, hA, hbl, p0, -⟩ := HS.out.link h
      subst hA
      rw [HEK.out] at p0
      have zk : (k : Int) < (L.length : Int) := by omega
      by_cases g : e.it = s
      · have q := seq_t g
        have HE : Hid (Cu.atI L s = k) := by
          show _ = _
          have h1 : Cu.ix s L = k := by
            rcases Nat.lt_or_ge k (Cu.ix s L) with g1 | g1
            · exact absurd (by rw [HEK.out]; exact g) (Cu.ix_first s L k h g1)
            · have := HK.out; omega
          rw [Cu.atI_yes (by omega), h1]
        clear g
        go_wp2_with fail
        go_ret
        exact ⟨ret_int' HE.out.symm, rfl⟩
      · have q := seq_f g
        have HK2 : Hid (k + 1 ≤ Cu.ix s L) := by
          show _ ≤ _
          rcases Nat.lt_or_ge k (Cu.ix s L) with g1 | g1
          · exact g1
          · exfalso
            have e1 : Cu.ix s L = k := by have := HK.out; omega
            have := Cu.ix_at s L (by omega)
            simp only [e1] at this
            rw [HEK.out] at this
            exact g this
        clear g
        go_wp2_with fail
        go_roundw
        case rel => exact ⟨k + 1, by go_num, by omega, HK2, trivial⟩
        case measure => simp [intOf]; omega
    · have HE : Hid (Cu.atI L s = -1) := Cu.atI_no (by have := HK.out; omega)
      have zk : (L.length : Int) ≤ (k : Int) := by omega
      go_wp2_with fail
      go_ret
      exact ⟨ret_int' HE.out.symm, rfl⟩
theorem Cu.gv_succ {L : Ls} {s : ByteArray} {k : Nat} (h : k < L.length) : Cu.gv s (L.take (k + 1)) = Cu.gv s (L.take k) + if (L[k]).pa = s then (L[k]).vo else 0 := by
  rw [List.take_succ_eq_append_getElem h, Cu.gv_append]
theorem Cu.Good.take {L : Ls} (h : Cu.Good L) : ∀ k, Cu.Good (L.take k) := by
  induction h with
  | nil => intro k; rw [List.take_nil]; exact .nil
  | @snoc L x h hc hh ih =>
    intro k
    rcases Nat.lt_or_ge L.length k with g | g
    · rw [List.take_of_length_le (by simp; omega)]; exact .snoc h hc hh
    · rw [List.take_append_of_le_length g]; exact ih k
set_option maxHeartbeats 4000000 in
theorem rvol_any (L : Ls) (A : Option Addr) (c : Nat) (s : ByteArray) (hs : s ≠ ByteArray.empty) (w : World) (HS : Hid (SlR w A (lrowL L))) (hl : (L.length : Int) ≤ 2000) (HG : Hid (Cu.Good L)) :
    Calls Tryd.prog 67 #[.slice A L.length c, .string s] w fun e w' => e = .returned (.int .i64 (Cu.gv s L)) ∧ w' = w := by
  have HGB : Hid (∀ k, 0 ≤ Cu.gv s (L.take k) ∧ Cu.gv s (L.take k) ≤ 1125899906842624) := fun k => ⟨(HG.out.take k).al.g0 s, (HG.out.take k).al.g1 s hs⟩
  have HVO : Hid (∀ k (h : k < L.length), 0 ≤ (L[k]).vo ∧ (L[k]).vo ≤ 1125899906842624) := fun k h => HG.out.al.vo _ (List.getElem_mem h)
  go_enter Tryd.func67, Tryd.ntmps67
  go_wp2_with fail
  go_loopw [5, 6] (fun n i wr => ∃ (k : Nat) (x : Int), n = .int .i64 x ∧ i = .int .i64 k ∧ k ≤ L.length ∧ Hid (x = Cu.gv s (L.take k)) ∧ wr = w) (fun _ i _ => L.length - (intOf i).toNat)
  case atStart => exact ⟨0, 0, rfl, rfl, by omega, by show (0 : Int) = _; simp [Cu.gv], rfl⟩
  case round =>
    obtain ⟨k, x, rfl, rfl, hk, HX, hw⟩ := hrel
    subst wr
    have hx := HGB.out k
    rw [← HX.out] at hx
    obtain ⟨x0, x1⟩ := hx
    by_cases h : k < L.length
    · have hvo := HVO.out k h
      have HS1 := Lib.hid (Cu.gv_succ (s := s) h)
      obtain ⟨e, he⟩ : ∃ e, L[k] = e := ⟨_, rfl⟩
      have HEK := Lib.hid he
      rw [he] at hvo
      clear he
      obtain ⟨v0, v1⟩ := hvo
      rw [HEK.out, ← HX.out] at HS1
      obtain ⟨bb, off, hA, hbl, p0, p1, p2, p3, -⟩ := HS.out.link h
      subst hA
      rw [HEK.out] at p0 p1 p2 p3
      clear p0 p2
      have zk : (k : Int) < (L.length : Int) := by omega
      by_cases g : e.pa = s
      · have q := seq_t g
        have HX2 : Hid (x + e.vo = Cu.gv s (L.take (k + 1))) := by show _ = _; rw [HS1.out, if_pos g]
        clear g
        go_wp2_with fail
        go_roundw
        case rel => exact ⟨k + 1, x + e.vo, rfl, by go_num, by omega, HX2, trivial⟩
        case measure => simp [intOf]; omega
      · have q := seq_f g
        have HX2 : Hid (x = Cu.gv s (L.take (k + 1))) := by show _ = _; rw [HS1.out, if_neg g]; omega
        clear g
        go_wp2_with fail
        go_roundw
        case rel => exact ⟨k + 1, x, rfl, by go_num, by omega, HX2, trivial⟩
        case measure => simp [intOf]; omega
    · have hE : L.take k = L := List.take_of_length_le (by omega)
      rw [hE] at HX
      clear hE
      have zk : (L.length : Int) ≤ (k : Int) := by omega
      go_wp2_with fail
      go_ret
      exact ⟨ret_int' HX.out, rfl⟩
end Go.Proofs.YtpimmdmcmccbpaaDoor
