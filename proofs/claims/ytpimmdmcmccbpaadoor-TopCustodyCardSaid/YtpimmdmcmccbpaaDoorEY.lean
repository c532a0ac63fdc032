/- law54: small, few, register; CustodyAdds, CustodyVerifies, CustodySound. -/
import Derived.Test.YtpimmdmcmccbpaaDoorGK
import Derived.Test.YtpimmdmcmccbpaaDoorEX
namespace Go.Proofs.YtpimmdmcmccbpaaDoor
open Go.RowKit
set_option linter.unusedVariables false
open Cu (Lk Ls)
def orowL (l : Ls) : List Value := l.flatMap ocells
/-- The cells of the i-th operation. -/
theorem SlR.op {w : World} {A : Option Addr} {l : Ls} (h : SlR w A (orowL l)) {i : Nat} (hi : i < l.length) :
    ∃ b off, A = some ⟨b, off, none⟩ ∧ b < w.heap.size ∧ w.cell? ⟨b, off + i * 5, none⟩ = some (.string (l[i]).it) ∧ w.cell? ⟨b, off + i * 5 + 1, none⟩ = some (.string (l[i]).pa) ∧
      w.cell? ⟨b, off + i * 5 + 2, none⟩ = some (.string (l[i]).sp) ∧ w.cell? ⟨b, off + i * 5 + 3, none⟩ = some (.int .i64 (l[i]).ti) ∧ w.cell? ⟨b, off + i * 5 + 4, none⟩ = some (.int .i64 (l[i]).vo) := by
  have hl : (orowL l).length = l.length * 5 := flat_length ocells (fun _ => rfl) l
  obtain ⟨b, off, e, hb, hc⟩ := h (by omega)
  have at_ : ∀ j, j < 5 → w.cell? ⟨b, off + i * 5 + j, none⟩ = (ocells l[i])[j]? := fun j hj => by
    have hlt : i * 5 + j < (orowL l).length := by omega
    have e1 := flat_at ocells (fun _ => rfl) l i j hi hj
    have e2 : (orowL l)[i * 5 + j]? = some (orowL l)[i * 5 + j] := List.getElem?_eq_getElem hlt
    rw [Nat.add_assoc, hc _ hlt, ← e2, ← e1]; rfl
  exact ⟨b, off, e, hb, at_ 0 (by omega), at_ 1 (by omega), at_ 2 (by omega), at_ 3 (by omega), at_ 4 (by omega)⟩
/-- At most 120, with short texts. -/
def shortB (l : Ls) : Bool := decide (l.length ≤ 120) && l.all fun e => decide (e.it.size ≤ 100 ∧ e.pa.size ≤ 100 ∧ e.sp.size ≤ 100)
theorem shortB_spec {l : Ls} (h : shortB l = true) : l.length ≤ 120 ∧ ∀ e ∈ l, e.it.size ≤ 100 ∧ e.pa.size ≤ 100 ∧ e.sp.size ≤ 100 := by
  simp only [shortB, Bool.and_eq_true, decide_eq_true_eq, List.all_eq_true] at h
  exact h
theorem shortB_long {l : Ls} (h : ¬ l.length ≤ 120) : shortB l = false := by simp [shortB, h]
theorem shortB_no {l : Ls} {k : Nat} (hk : k < l.length) (h : ¬ ((l[k]).it.size ≤ 100 ∧ (l[k]).pa.size ≤ 100 ∧ (l[k]).sp.size ≤ 100)) : shortB l = false := by
  cases hs : shortB l with
  | false => rfl
  | true => exact absurd ((shortB_spec hs).2 _ (List.getElem_mem hk)) h
theorem shortB_yes {l : Ls} (h : l.length ≤ 120) (ha : ∀ j (hj : j < l.length), (l[j]).it.size ≤ 100 ∧ (l[j]).pa.size ≤ 100 ∧ (l[j]).sp.size ≤ 100) : shortB l = true := by
  simp only [shortB, Bool.and_eq_true, decide_eq_true_eq, List.all_eq_true]
  refine ⟨h, fun e he => ?_⟩
  obtain ⟨i, hi, rfl⟩ := List.getElem_of_mem he
  exact ha i hi
set_option maxHeartbeats 8000000 in
theorem small_any (l : Ls) (A : Option Addr) (c : Nat) (w : World) (HS : Hid (SlR w A (orowL l))) (HO : Hid (∀ x ∈ l, LkOk x)) (hl : (l.length : Int) ≤ 9223372036854775807) (x : Bool) (hx : Hid (shortB l = x)) :
    Calls Tryd.prog 28 #[.slice A l.length c] w fun e w' => e = .returned (.bool x) ∧ w' = w := by
  by_cases h0 : l.length ≤ 120
  rotate_left
  · have e : x = false := by rw [← hx.out]; exact shortB_long h0
    subst e
    have z : (120 : Int) < (l.length : Int) := by omega
    go_enter Tryd.func28, Tryd.ntmps28
    go_wp2_with fail
    go_ret
    exact ⟨rfl, rfl⟩
  have z : (l.length : Int) ≤ 120 := by omega
  have H0 := Lib.hid h0
  clear h0
  go_enter Tryd.func28, Tryd.ntmps28
  go_wp2_with fail
  go_loopw [3] (fun i wr => ∃ k : Nat, i = .int .i64 k ∧ k ≤ l.length ∧ Hid (∀ j (hj : j < l.length), j < k → (l[j]).it.size ≤ 100 ∧ (l[j]).pa.size ≤ 100 ∧ (l[j]).sp.size ≤ 100) ∧ wr = w) (fun i _ => l.length - (intOf i).toNat)
  case atStart => exact ⟨0, rfl, by omega, fun j _ h => by omega, rfl⟩
  case round =>
    obtain ⟨k, rfl, hk, HP, hw⟩ := hrel
    subst wr
    by_cases h : k < l.length
    · have zk : (k : Int) < (l.length : Int) := by omega
      obtain ⟨e, he⟩ : ∃ e, l[k] = e := ⟨_, rfl⟩
      have HEK := Lib.hid he
      have HOK := Lib.hid (HO.out _ (List.getElem_mem h))
      rw [he] at HOK
      clear he
      obtain ⟨bb, off, hA, hbl, p0, p1, p2, p3, p4⟩ := HS.out.op h
      subst hA
      rw [HEK.out] at p0 p1 p2 p3 p4
      have o1 := HOK.out.it
      have o2 := HOK.out.pa
      have o3 := HOK.out.sp
      have HX : Hid (¬ (e.it.size ≤ 100 ∧ e.pa.size ≤ 100 ∧ e.sp.size ≤ 100) → x = false) := fun g => by rw [← hx.out]; exact shortB_no h (by rw [HEK.out]; exact g)
      by_cases g1 : (100 : Int) < (e.it.size : Int)
      · have ex := HX.out (by omega)
        subst ex
        go_wp2_with fail
        go_ret
        exact ⟨rfl, rfl⟩
      by_cases g2 : (100 : Int) < (e.pa.size : Int)
      · have ex := HX.out (by omega)
        subst ex
        go_wp2_with fail
        go_ret
        exact ⟨rfl, rfl⟩
      by_cases g3 : (100 : Int) < (e.sp.size : Int)
      · have ex := HX.out (by omega)
        subst ex
        go_wp2_with fail
        go_ret
        exact ⟨rfl, rfl⟩
      have HP2 : Hid (∀ j (hj : j < l.length), j < k + 1 → (l[j]).it.size ≤ 100 ∧ (l[j]).pa.size ≤ 100 ∧ (l[j]).sp.size ≤ 100) := fun j hj hlt => by
        rcases Nat.lt_or_ge j k with q | q
        · exact HP.out j hj q
        · have : j = k := by omega
          subst this
          rw [HEK.out]
          omega
      go_wp2_with fail
      go_roundw
      case rel => exact ⟨k + 1, by go_num, by omega, HP2, trivial⟩
      case measure => simp [intOf]; omega
    · have ex : x = true := by rw [← hx.out]; exact shortB_yes H0.out (fun j hj => HP.out j hj (by omega))
      subst ex
      have zk : (l.length : Int) ≤ (k : Int) := by omega
      go_wp2_with fail
      go_ret
      exact ⟨rfl, rfl⟩
set_option maxHeartbeats 8000000 in
theorem few_any (l : Ls) (A : Option Addr) (c : Nat) (w : World) (HS : Hid (SlR w A (lrowL l))) (HO : Hid (∀ x ∈ l, LkOk x)) (hl : (l.length : Int) ≤ 9223372036854775807) (x : Bool) (hx : Hid (shortB l = x)) :
    Calls Tryd.prog 32 #[.slice A l.length c] w fun e w' => e = .returned (.bool x) ∧ w' = w := by
  by_cases h0 : l.length ≤ 120
  rotate_left
  · have e : x = false := by rw [← hx.out]; exact shortB_long h0
    subst e
    have z : (120 : Int) < (l.length : Int) := by omega
    go_enter Tryd.func32, Tryd.ntmps32
    go_wp2_with fail
    go_ret
    exact ⟨rfl, rfl⟩
  have z : (l.length : Int) ≤ 120 := by omega
  have H0 := Lib.hid h0
  clear h0
  go_enter Tryd.func32, Tryd.ntmps32
  go_wp2_with fail
  go_loopw [3] (fun i wr => ∃ k : Nat, i = .int .i64 k ∧ k ≤ l.length ∧ Hid (∀ j (hj : j < l.length), j < k → (l[j]).it.size ≤ 100 ∧ (l[j]).pa.size ≤ 100 ∧ (l[j]).sp.size ≤ 100) ∧ wr = w) (fun i _ => l.length - (intOf i).toNat)
  case atStart => exact ⟨0, rfl, by omega, fun j _ h => by omega, rfl⟩
  case round =>
    obtain ⟨k, rfl, hk, HP, hw⟩ := hrel
    subst wr
    by_cases h : k < l.length
    · have zk : (k : Int) < (l.length : Int) := by omega
      obtain ⟨e, he⟩ : ∃ e, l[k] = e := ⟨_, rfl⟩
      have HEK := Lib.hid he
      have HOK := Lib.hid (HO.out _ (List.getElem_mem h))
      rw [he] at HOK
      clear he
      obtain ⟨bb, off, hA, hbl, p0, p1, p2, p3, p4, p5⟩ := HS.out.link h
      subst hA
      rw [HEK.out] at p0 p1 p2 p3 p4 p5
      have o1 := HOK.out.it
      have o2 := HOK.out.pa
      have o3 := HOK.out.sp
      have HX : Hid (¬ (e.it.size ≤ 100 ∧ e.pa.size ≤ 100 ∧ e.sp.size ≤ 100) → x = false) := fun g => by rw [← hx.out]; exact shortB_no h (by rw [HEK.out]; exact g)
      by_cases g1 : (100 : Int) < (e.it.size : Int)
      · have ex := HX.out (by omega)
        subst ex
        go_wp2_with fail
        go_ret
        exact ⟨rfl, rfl⟩
      by_cases g2 : (100 : Int) < (e.pa.size : Int)
      · have ex := HX.out (by omega)
        subst ex
        go_wp2_with fail
        go_ret
        exact ⟨rfl, rfl⟩
      by_cases g3 : (100 : Int) < (e.sp.size : Int)
      · have ex := HX.out (by omega)
        subst ex
        go_wp2_with fail
        go_ret
        exact ⟨rfl, rfl⟩
      have HP2 : Hid (∀ j (hj : j < l.length), j < k + 1 → (l[j]).it.size ≤ 100 ∧ (l[j]).pa.size ≤ 100 ∧ (l[j]).sp.size ≤ 100) := fun j hj hlt => by
        rcases Nat.lt_or_ge j k with q | q
        · exact HP.out j hj q
        · have : j = k := by omega
          subst this
          rw [HEK.out]
          omega
      go_wp2_with fail
      go_roundw
      case rel => exact ⟨k + 1, by go_num, by omega, HP2, trivial⟩
      case measure => simp [intOf]; omega
    · have ex : x = true := by rw [← hx.out]; exact shortB_yes H0.out (fun j hj => HP.out j hj (by omega))
      subst ex
      have zk : (l.length : Int) ≤ (k : Int) := by omega
      go_wp2_with fail
      go_ret
      exact ⟨rfl, rfl⟩
/-- The links of a register to which all was added. -/
noncomputable def Cu.reg : Ls → Ls → Ls
  | L, [] => L
  | L, x :: r => Cu.reg (Cu.adL L x) r
theorem Cu.reg_snoc (L : Ls) : ∀ (l : Ls) (x : Lk), Cu.reg L (l ++ [x]) = Cu.adL (Cu.reg L l) x := by
  intro l
  induction l generalizing L with
  | nil => intro x; rfl
  | cons a r ih => intro x; exact ih _ x
theorem Cu.reg_succ {l : Ls} {k : Nat} (h : k < l.length) : Cu.reg [] (l.take (k + 1)) = Cu.adL (Cu.reg [] (l.take k)) l[k] := by
  rw [List.take_succ_eq_append_getElem h, Cu.reg_snoc]
/-- Operations that are short have no hash of their own. -/
structure OpOk (x : Lk) : Prop where
  f : Fit_ x
  h : x.ha = 0
theorem op_eq {x : Lk} (h : OpOk x) : x = ⟨x.it, x.pa, x.ti, x.vo, x.sp, 0⟩ := by
  have := h.h
  cases x
  simp at this
  subst this
  rfl
theorem short_fit {l : Ls} (h : shortB l = true) (ho : ∀ x ∈ l, LkOk x) : ∀ e ∈ l, Fit_ e := fun e he => by
  have h1 := (shortB_spec h).2 e he
  have h2 := ho e he
  exact ⟨by omega, by omega, by omega, h2.t0, h2.t1, h2.v0, h2.v1⟩
end Go.Proofs.YtpimmdmcmccbpaaDoor
