/- units.Parse. -/
import Derived.Test.YtknfdnlmkjhmcaaDoorW4
namespace Go.Proofs.YtknfdnlmkjhmcaaDoor
open Go.RowKit
set_option linter.unusedVariables false

theorem trim_eq (L : List UInt8) : Lib.trimPrefix L [45] = Un.tlT L ∧ Lib.hasPrefix L [45] = Un.ngB L := by
  cases L with
  | nil => exact ⟨by simp [Lib.trimPrefix, Un.tlT, Lib.hasPrefix, List.isPrefixOf], by simp [Lib.hasPrefix, Un.ngB, List.isPrefixOf]⟩
  | cons x L =>
    by_cases h : x = 45
    · subst h
      exact ⟨by simp [Lib.trimPrefix, Un.tlT, Lib.hasPrefix, List.isPrefixOf], by simp [Lib.hasPrefix, Un.ngB, List.isPrefixOf]⟩
    · have h2 : ¬ (45 : UInt8) = x := fun e => h e.symm
      exact ⟨by simp [Lib.trimPrefix, Un.tlT, Lib.hasPrefix, List.isPrefixOf, h, h2], by simp [Lib.hasPrefix, Un.ngB, List.isPrefixOf, h, h2]⟩
theorem cut_eq (s t : ByteArray) (b : Bool) (ht : Hid (t.data.toList = Un.tlT s.data.toList)) (hb : Hid (Un.ngB s.data.toList = b)) (w : World) :
    Calls Tryd.prog 39 #[.string s, .string ⟨#[45]⟩] w fun e w' => e = .returned (.tuple #[.string t, .bool b]) ∧ w = w' := by
  refine (Tryd.strings_CutPrefix s ⟨#[45]⟩ w).mono fun e w' ⟨he, hw⟩ => ⟨?_, hw.symm⟩
  have e1 : (⟨#[45]⟩ : ByteArray).data.toList = [45] := rfl
  rw [he, e1, (trim_eq _).1, (trim_eq _).2, ← ht.out, hb.out, ← ba_eta]
theorem without_no (t : ByteArray) (k : Nat) (w : World) (hk9 : (k : Int) ≤ 9) (hs : (t.size : Int) ≤ 9223372036854775807) (h : Hid (Un.frB t.data.toList k = false)) :
    Calls Tryd.prog 40 #[.string t, .int .i64 k] w fun e w' => e = .returned (.tuple #[.string ⟨#[]⟩, .bool false]) ∧ ∃ n, w' = w.drewN n :=
  (without_any t k w hk9 hs).mono fun e w' ⟨he, hw⟩ => ⟨by rw [he, h.out]; rfl, hw⟩
theorem without_yes (t A : ByteArray) (k : Nat) (w : World) (hk9 : (k : Int) ≤ 9) (hs : (t.size : Int) ≤ 9223372036854775807) (h : Hid (Un.frB t.data.toList k = true)) (hA : Hid (A.data.toList = Un.frL t.data.toList k)) :
    Calls Tryd.prog 40 #[.string t, .int .i64 k] w fun e w' => e = .returned (.tuple #[.string A, .bool true]) ∧ ∃ n, w' = w.drewN n :=
  (without_any t k w hk9 hs).mono fun e w' ⟨he, hw⟩ => ⟨by rw [he, h.out, ← hA.out]; simp only [if_true], hw⟩

/-- The value of the first j digits. -/
def vl (A : ByteArray) (j : Nat) : Int := (Un.valL (A.data.toList.take j) : Int)
theorem vl_zero (A : ByteArray) : vl A 0 = 0 := by simp [vl, Un.valL]
theorem vl_step {A : ByteArray} {j : Nat} (hj : j < A.size) (h : 48 ≤ bt A j ∧ bt A j ≤ 57) : vl A (j + 1) = 10 * vl A j + (bt A j - 48) := by
  have hj' : j < A.data.toList.length := by rw [list_len]; exact hj
  unfold vl bt at *
  rw [List.take_succ_eq_append_getElem hj', Un.val_snoc]
  rw [List.getD_eq_getElem?_getD, List.getElem?_eq_getElem hj'] at *
  simp only [Option.getD_some] at *
  omega
theorem vl_all (A : ByteArray) (j : Nat) (hj : A.size ≤ j) : vl A j = (Un.valL A.data.toList : Int) := by
  unfold vl
  rw [List.take_of_length_le (by rw [list_len]; exact hj)]
theorem vl_le (A : ByteArray) (j : Nat) : 0 ≤ vl A j ∧ vl A j ≤ (Un.valL A.data.toList : Int) := by
  unfold vl
  have := Un.val_take_le A.data.toList j
  omega
theorem vl_dig {A : ByteArray} (h : A.data.toList.all Un.isDg = true) {j : Nat} (hj : j < A.size) : 48 ≤ bt A j ∧ bt A j ≤ 57 := by
  have hj' : j < A.data.toList.length := by rw [list_len]; exact hj
  have := List.all_eq_true.1 h _ (List.getElem_mem hj')
  simp only [Un.isDg, decide_eq_true_eq] at this
  unfold bt
  rw [List.getD_eq_getElem?_getD, List.getElem?_eq_getElem hj']
  simp only [Option.getD_some]
  omega
theorem fr_digits {L : List UInt8} {k : Nat} (h : Un.frB L k = true) : (Un.frL L k).all Un.isDg = true := by
  simp only [Un.frB, Bool.and_eq_true] at h
  exact h.2

/-- Parse's result. -/
def PaR (s : ByteArray) (k : Nat) (w : World) (e : Ending) (w' : World) : Prop :=
  e = .returned (.tuple #[.int .i64 (Un.paV s.data.toList k), .int .i64 (Un.paE s.data.toList k)]) ∧ ∃ n, w' = w.drewN n
theorem PaR.of {s : ByteArray} {k : Nat} {w : World} {v x : Int} (h : Un.paV s.data.toList k = v ∧ Un.paE s.data.toList k = x) (n : Nat) : PaR s k w (.returned (.tuple #[.int .i64 v, .int .i64 x])) (w.drewN n) :=
  ⟨by rw [h.1, h.2], n, rfl⟩
section
variable {L : List UInt8} {k : Nat}
theorem pa_short (h : L = []) : Un.paV L k = 0 ∧ Un.paE L k = 3 := by
  have e : Un.paE L k = 3 := by unfold Un.paE; rw [if_pos h]
  exact ⟨by unfold Un.paV; rw [e]; rfl, e⟩
theorem pa_form (h : L ≠ []) (h1 : Un.frB (Un.tlT L) k = false) : Un.paV L k = 0 ∧ Un.paE L k = 5 := by
  have e : Un.paE L k = 5 := by unfold Un.paE; rw [if_neg h, if_pos h1]
  exact ⟨by unfold Un.paV; rw [e]; rfl, e⟩
theorem pa_over (h : L ≠ []) (h1 : Un.frB (Un.tlT L) k = true) (h2 : Un.lim L < Un.valL (Un.frL (Un.tlT L) k)) : Un.paV L k = 0 ∧ Un.paE L k = 9 := by
  have e : Un.paE L k = 9 := by unfold Un.paE; rw [if_neg h, if_neg (by rw [h1]; simp), if_pos h2]
  exact ⟨by unfold Un.paV; rw [e]; rfl, e⟩
theorem pa_minus (h : L ≠ []) (h1 : Un.frB (Un.tlT L) k = true) (hn : Un.ngB L = true) (h2 : Un.valL (Un.frL (Un.tlT L) k) = 0) : Un.paV L k = 0 ∧ Un.paE L k = 5 := by
  have e : Un.paE L k = 5 := by unfold Un.paE; rw [if_neg h, if_neg (by rw [h1]; simp), if_neg (by omega), if_pos ⟨hn, h2⟩]
  exact ⟨by unfold Un.paV; rw [e]; rfl, e⟩
theorem pa_neg (h : L ≠ []) (h1 : Un.frB (Un.tlT L) k = true) (hn : Un.ngB L = true) (h2 : Un.valL (Un.frL (Un.tlT L) k) ≠ 0) (h3 : ¬ Un.lim L < Un.valL (Un.frL (Un.tlT L) k)) : Un.paV L k = -(Un.valL (Un.frL (Un.tlT L) k) : Int) ∧ Un.paE L k = 0 := by
  have e : Un.paE L k = 0 := by unfold Un.paE; rw [if_neg h, if_neg (by rw [h1]; simp), if_neg h3, if_neg (fun g => h2 g.2)]
  exact ⟨by unfold Un.paV; rw [e, hn]; rfl, e⟩
theorem pa_pos (h : L ≠ []) (h1 : Un.frB (Un.tlT L) k = true) (hn : Un.ngB L = false) (h3 : ¬ Un.lim L < Un.valL (Un.frL (Un.tlT L) k)) : Un.paV L k = (Un.valL (Un.frL (Un.tlT L) k) : Int) ∧ Un.paE L k = 0 := by
  have e : Un.paE L k = 0 := by unfold Un.paE; rw [if_neg h, if_neg (by rw [h1]; simp), if_neg h3, if_neg (fun g => by rw [hn] at g; cases g.1)]
  exact ⟨by unfold Un.paV; rw [e, hn]; rfl, e⟩
end
theorem neg_back (v : Int) (h0 : 0 ≤ v) (h1 : v ≤ 9223372036854775808) : wrap64 (IntKind.u64.wrap (-v)) = -v := by
  unfold wrap64; simp only [IntKind.wrap_u64]; omega

set_option maxHeartbeats 4000000 in
theorem parse_any (s : ByteArray) (d : Int) (w : World) (hs : (s.size : Int) ≤ 9223372036854775807) :
    Calls Tryd.prog 24 #[.string s, .int .i64 d] w (PaR s (Un.clV d 0 9).toNat w) := by
  have hcr := Un.clV_range (n := d) (l := 0) (h := 9) (by omega)
  obtain ⟨k, hk⟩ : ∃ k : Nat, Un.clV d 0 9 = (k : Int) := ⟨(Un.clV d 0 9).toNat, by omega⟩
  rw [hk] at hcr ⊢
  rw [Int.toNat_natCast]
  have HC := Lib.hid hk
  clear hk
  by_cases h0 : s.size = 0
  · have he := toList_none h0
    have hno := Lib.hid (pa_short (L := s.data.toList) (k := k) (List.eq_nil_of_length_eq_zero (by rw [list_len, h0])))
    clear h0
    go_enter Tryd.func24, Tryd.ntmps24
    go_wp2_with fail
    go_ret2
    exact PaR.of hno.out 0
  · obtain ⟨he1, he2⟩ := toList_some h0
    have HNE : Hid (s.data.toList ≠ []) := fun e => h0 (by rw [← list_len, e]; rfl)
    obtain ⟨t, ht⟩ : ∃ t : ByteArray, t.data.toList = Un.tlT s.data.toList := ⟨⟨(Un.tlT s.data.toList).toArray⟩, rfl⟩
    have hts : t.size ≤ s.size := by
      rw [← list_len, ← list_len, ht]
      unfold Un.tlT
      split <;> simp
    have HT := Lib.hid ht
    clear ht h0
    have hts2 : (t.size : Int) ≤ 9223372036854775807 := by omega
    cases hfr : Un.frB (Un.tlT s.data.toList) k with
    | false =>
      have hno := Lib.hid (pa_form HNE.out hfr)
      have HF : Hid (Un.frB t.data.toList k = false) := by show _ = _; rw [HT.out]; exact hfr
      obtain ⟨b, hb⟩ : ∃ b, Un.ngB s.data.toList = b := ⟨_, rfl⟩
      have HN := Lib.hid hb
      clear hfr hb
      go_enter Tryd.func24, Tryd.ntmps24
      go_wp2_with fail
      (with_reducible refine (cut_eq _ _ _ HT HN _).mono ?_)
      rintro e w1 ⟨rfl, rfl⟩
      go_wp2_with fail
      (with_reducible refine (places_eq _ _ HC _).mono ?_)
      rintro e w1 ⟨rfl, rfl⟩
      go_wp2_with fail
      (with_reducible refine (without_no _ _ _ (by omega) hts2 HF).mono ?_)
      rintro e w1 ⟨rfl, n, rfl⟩
      go_wp2_with fail
      go_ret2
      exact PaR.of hno.out n
    | true =>
      have HF := Lib.hid hfr
      have HF2 : Hid (Un.frB t.data.toList k = true) := by show _ = _; rw [HT.out]; exact hfr
      obtain ⟨A, hA⟩ : ∃ A : ByteArray, A.data.toList = Un.frL t.data.toList k := ⟨⟨(Un.frL t.data.toList k).toArray⟩, rfl⟩
      have HA := Lib.hid hA
      have HD : Hid (A.data.toList.all Un.isDg = true) := by show _ = _; rw [hA]; exact fr_digits HF2.out
      have hAs : A.size ≤ t.size := by
        rw [← list_len, ← list_len, hA]
        unfold Un.frL
        split
        · exact Nat.le_refl _
        · rw [List.length_append, List.length_take, List.length_drop]; omega
      have hAs2 : (A.size : Int) ≤ 9223372036854775807 := by omega
      clear hfr hA hAs
      cases hn : Un.ngB s.data.toList with
      | true =>
        have HN := Lib.hid hn
        have HL : Hid ((Un.lim s.data.toList : Int) = 9223372036854775808) := by show _ = _; unfold Un.lim; rw [hn]; rfl
        clear hn
        go_enter Tryd.func24, Tryd.ntmps24
        go_wp2_with fail
        (with_reducible refine (cut_eq _ _ _ HT HN _).mono ?_)
        rintro e w1 ⟨rfl, rfl⟩
        go_wp2_with fail
        (with_reducible refine (places_eq _ _ HC _).mono ?_)
        rintro e w1 ⟨rfl, rfl⟩
        go_wp2_with fail
        (with_reducible refine (without_yes _ _ _ _ (by omega) hts2 HF2 HA).mono ?_)
        rintro e w1 ⟨rfl, n, rfl⟩
        go_wp2_with fail
        go_loop [10, 11, 12] (fun n i d => ∃ j : Nat, i = .int .i64 j ∧ j ≤ A.size ∧ n = .int .u64 (vl A j) ∧ vl A j ≤ 9223372036854775808) (fun _ i _ => A.size - (intOf i).toNat)
        case atStart => exact ⟨0, rfl, by omega, by rw [vl_zero], by rw [vl_zero]; omega⟩
        case round =>
          obtain ⟨j, rfl, hj, rfl, hv1⟩ := hrel
          have hv0 := (vl_le A j).1
          by_cases hlt : j < A.size
          · have hg := bt_get A j hlt
            have hr := vl_dig HD.out hlt
            have hst := vl_step hlt hr
            have hle := (vl_le A (j + 1)).2
            obtain ⟨x, hx⟩ : ∃ x, bt A j = x := ⟨_, rfl⟩
            obtain ⟨v, hv⟩ : ∃ v, vl A j = v := ⟨_, rfl⟩
            rw [hx] at hg hr hst
            rw [hv] at hst hv0 hv1
            rw [hv]
            have HST := Lib.hid hst; have HLE := Lib.hid hle
            clear hx hv hst hle
            have zk : (j : Int) < (A.size : Int) := by omega
            by_cases g : (9223372036854775808 - (x - 48)) / 10 < v
            · have hno : Hid (Un.paV s.data.toList k = 0 ∧ Un.paE s.data.toList k = 9) := pa_over HNE.out HF.out (by
                have e1 := HST.out; have e2 := HLE.out
                have e3 := HL.out
                rw [HA.out, HT.out] at e2
                omega)
              go_wp2_with fail
              go_ret2
              exact PaR.of hno.out _
            · have hn2 : 10 * v + (x - 48) ≤ 9223372036854775808 := by omega
              go_wp2_with fail
              go_round
              case rel => exact ⟨j + 1, by go_num, by omega, by rw [HST.out]; go_num, by rw [HST.out]; exact hn2⟩
              case measure => simp [intOf]; omega
          · have he := vl_all A j (by omega)
            rw [HA.out, HT.out] at he
            obtain ⟨v, hv⟩ : ∃ v, vl A j = v := ⟨_, rfl⟩
            rw [hv] at he hv0 hv1
            rw [hv]
            have HE := Lib.hid he
            clear hv he
            by_cases h0 : v = 0
            · have hno := Lib.hid (pa_minus HNE.out HF.out HN.out (by have := HE.out; omega))
              subst h0
              go_wp2_with fail
              go_ret2
              exact PaR.of hno.out n
            · have h1 : (v == 0) = false := by simpa using h0
              have hyes := Lib.hid (pa_neg HNE.out HF.out HN.out (by have := HE.out; omega) (by have := HE.out; have := HL.out; omega))
              clear h0
              go_wp2_with fail
              go_ret2
              exact PaR.of ⟨by rw [hyes.out.1, ← HE.out]; exact (neg_back v hv0 hv1).symm, hyes.out.2⟩ n
      | false =>
        have HN := Lib.hid hn
        have HL : Hid ((Un.lim s.data.toList : Int) = 9223372036854775807) := by show _ = _; unfold Un.lim; rw [hn]; rfl
        clear hn
        go_enter Tryd.func24, Tryd.ntmps24
        go_wp2_with fail
        (with_reducible refine (cut_eq _ _ _ HT HN _).mono ?_)
        rintro e w1 ⟨rfl, rfl⟩
        go_wp2_with fail
        (with_reducible refine (places_eq _ _ HC _).mono ?_)
        rintro e w1 ⟨rfl, rfl⟩
        go_wp2_with fail
        (with_reducible refine (without_yes _ _ _ _ (by omega) hts2 HF2 HA).mono ?_)
        rintro e w1 ⟨rfl, n, rfl⟩
        go_wp2_with fail
        go_loop [10, 11, 12] (fun n i d => ∃ j : Nat, i = .int .i64 j ∧ j ≤ A.size ∧ n = .int .u64 (vl A j) ∧ vl A j ≤ 9223372036854775807) (fun _ i _ => A.size - (intOf i).toNat)
        case atStart => exact ⟨0, rfl, by omega, by rw [vl_zero], by rw [vl_zero]; omega⟩
        case round =>
          obtain ⟨j, rfl, hj, rfl, hv1⟩ := hrel
          have hv0 := (vl_le A j).1
          by_cases hlt : j < A.size
          · have hg := bt_get A j hlt
            have hr := vl_dig HD.out hlt
            have hst := vl_step hlt hr
            have hle := (vl_le A (j + 1)).2
            obtain ⟨x, hx⟩ : ∃ x, bt A j = x := ⟨_, rfl⟩
            obtain ⟨v, hv⟩ : ∃ v, vl A j = v := ⟨_, rfl⟩
            rw [hx] at hg hr hst
            rw [hv] at hst hv0 hv1
            rw [hv]
            have HST := Lib.hid hst; have HLE := Lib.hid hle
            clear hx hv hst hle
            have zk : (j : Int) < (A.size : Int) := by omega
            by_cases g : (9223372036854775807 - (x - 48)) / 10 < v
            · have hno : Hid (Un.paV s.data.toList k = 0 ∧ Un.paE s.data.toList k = 9) := pa_over HNE.out HF.out (by
                have e1 := HST.out; have e2 := HLE.out
                have e3 := HL.out
                rw [HA.out, HT.out] at e2
                omega)
              go_wp2_with fail
              go_ret2
              exact PaR.of hno.out _
            · have hn2 : 10 * v + (x - 48) ≤ 9223372036854775807 := by omega
              go_wp2_with fail
              go_round
              case rel => exact ⟨j + 1, by go_num, by omega, by rw [HST.out]; go_num, by rw [HST.out]; exact hn2⟩
              case measure => simp [intOf]; omega
          · have he := vl_all A j (by omega)
            rw [HA.out, HT.out] at he
            obtain ⟨v, hv⟩ : ∃ v, vl A j = v := ⟨_, rfl⟩
            rw [hv] at he hv0 hv1
            rw [hv]
            have HE := Lib.hid he
            clear hv he
            have hyes := Lib.hid (pa_pos HNE.out HF.out HN.out (by have := HE.out; have := HL.out; omega))
            go_wp2_with fail
            go_ret2
            exact PaR.of ⟨by rw [hyes.out.1, ← HE.out], hyes.out.2⟩ n
end Go.Proofs.YtknfdnlmkjhmcaaDoor
