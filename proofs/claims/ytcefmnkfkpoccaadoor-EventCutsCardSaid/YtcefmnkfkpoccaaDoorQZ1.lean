/- The reference's small functions of chapter 1; bytes of strings; what Parse answers. -/
import Derived.Test.YtcefmnkfkpoccaaDoorK
import Derived.Test.YtcefmnkfkpoccaaDoorV0
import Derived.Test.YtcefmnkfkpoccaaDoorV1
import Derived.Lib.ItoaLen
import Derived.BigCall
import Derived.BigGuard
namespace Go.Proofs.YtcefmnkfkpoccaaDoor.Zz
open Go.RowKit
set_option linter.unusedVariables false

theorem ret_int {k : IntKind} {a b : Int} (h : a = b) : Ending.returned (.int k a) = .returned (.int k b) := by rw [h]

theorem size_any (n : Int) (w : World) (h0 : -9223372036854775808 ≤ n) (h1 : n ≤ 9223372036854775807) :
    Calls Tryd.prog 87 #[.int .i64 n] w fun e w' => e = .returned (.int .u64 n.natAbs) ∧ w = w' := by
  by_cases h : n < 0
  · go_enter Tryd.func87, Tryd.ntmps87
    go_wp2
    go_ret
    exact ⟨ret_int (by omega), rfl⟩
  · go_enter Tryd.func87, Tryd.ntmps87
    go_wp2
    go_ret
    exact ⟨ret_int (by omega), rfl⟩

theorem rclamp_any (n l h : Int) (w : World) :
    Calls Tryd.prog 86 #[.int .i64 n, .int .i64 l, .int .i64 h] w fun e w' => e = .returned (.int .i64 (Un.clV n l h)) ∧ w = w' := by
  by_cases h1 : h < l
  · have hv : Hid (Un.clV n l h = l) := by show _ = _; unfold Un.clV; rw [if_pos (by omega)]
    go_enter Tryd.func86, Tryd.ntmps86
    go_wp2
    go_ret
    exact ⟨ret_int hv.out.symm, rfl⟩
  · by_cases h2 : n < l
    · have hv : Hid (Un.clV n l h = l) := by show _ = _; unfold Un.clV; rw [if_pos (by omega)]
      go_enter Tryd.func86, Tryd.ntmps86
      go_wp2
      go_ret
      exact ⟨ret_int hv.out.symm, rfl⟩
    · by_cases h3 : h < n
      · have hv : Hid (Un.clV n l h = h) := by show _ = _; unfold Un.clV; rw [if_neg (by omega), if_pos (by omega)]
        go_enter Tryd.func86, Tryd.ntmps86
        go_wp2
        go_ret
        exact ⟨ret_int hv.out.symm, rfl⟩
      · have hv : Hid (Un.clV n l h = n) := by show _ = _; unfold Un.clV; rw [if_neg (by omega), if_neg (by omega)]
        go_enter Tryd.func86, Tryd.ntmps86
        go_wp2
        go_ret
        exact ⟨ret_int hv.out.symm, rfl⟩
theorem rclamp_eq (n l h c : Int) (hc : Hid (Un.clV n l h = c)) (w : World) :
    Calls Tryd.prog 86 #[.int .i64 n, .int .i64 l, .int .i64 h] w fun e w' => e = .returned (.int .i64 c) ∧ w = w' := by
  have := rclamp_any n l h w
  rw [hc.out] at this
  exact this

theorem ba_ext {a b : ByteArray} (h : a.data.toList = b.data.toList) : a = b := by
  cases a; cases b
  congr 1
  exact Array.ext' h
theorem ba_app (l r : List UInt8) : (⟨l.toArray⟩ : ByteArray) ++ (⟨r.toArray⟩ : ByteArray) = ⟨(l ++ r).toArray⟩ := by
  apply ba_ext
  simp [ByteArray.data_append]
theorem ba_cut (l : List UInt8) (a b : Nat) : (⟨l.toArray⟩ : ByteArray).extract a b = ⟨((l.take b).drop a).toArray⟩ := by
  apply ba_ext
  simp [ByteArray.data_extract, List.drop_take]
theorem ba_size (l : List UInt8) : (⟨l.toArray⟩ : ByteArray).size = l.length := by show l.toArray.size = _; simp
theorem ret_str {s t : ByteArray} (h : s = t) : Ending.returned (.string s) = .returned (.string t) := by rw [h]
/-- The byte number j of a string, as a number; 0 behind its end. -/
def bt (s : ByteArray) (j : Nat) : Int := ((s.data.toList.getD j 0).toNat : Int)
theorem bt_get (s : ByteArray) (k : Nat) (h : k < s.size) : ((s[k]'h).toNat : Int) = bt s k := by
  have h' : k < s.data.size := h
  simp only [bt]
  congr 2
  show s.data[k] = _
  simp only [List.getD_eq_getElem?_getD, Array.getElem?_toList]
  rw [Array.getElem?_eq_getElem h']
  rfl
theorem bt_range (s : ByteArray) (j : Nat) : 0 ≤ bt s j ∧ bt s j ≤ 255 := by
  unfold bt
  have := (s.data.toList.getD j 0).toNat_lt
  omega


theorem fr_all {L : List UInt8} {k : Nat} (h1 : 1 ≤ Un.hd L k) (h2 : k = 0 ∨ L.getD (Un.hd L k) 0 = 46) (h3 : ¬ (1 < Un.hd L k ∧ L.getD 0 0 = 48)) : Un.frB L k = (Un.frL L k).all Un.isDg := by
  unfold Un.frB
  rw [decide_eq_true h1]
  have e2 : (decide (k = 0) || decide (L.getD (Un.hd L k) 0 = 46)) = true := by
    rcases h2 with h | h
    · rw [decide_eq_true h]; rfl
    · rw [decide_eq_true h]; simp
  have e3 : (decide (1 < Un.hd L k) && decide (L.getD 0 0 = 48)) = false := by
    rw [← Bool.not_eq_true]
    simpa using h3
  rw [e2, e3]
  simp
theorem fr_none {L : List UInt8} {k : Nat} (h : ¬ 1 ≤ Un.hd L k ∨ (k ≠ 0 ∧ L.getD (Un.hd L k) 0 ≠ 46) ∨ (1 < Un.hd L k ∧ L.getD 0 0 = 48)) : Un.frB L k = false := by
  rw [← Bool.not_eq_true]
  intro e
  simp only [Un.frB, Bool.and_eq_true, Bool.not_eq_true', Bool.and_eq_false_iff, decide_eq_true_eq, decide_eq_false_iff_not, Bool.or_eq_true] at e
  obtain ⟨⟨⟨e1, e2⟩, e3⟩, e4⟩ := e
  rcases h with h | h | h
  · exact h e1
  · rcases e2 with e2 | e2
    · exact h.1 e2
    · exact h.2 e2
  · rcases e3 with e3 | e3
    · exact e3 h.1
    · exact e3 h.2
theorem bt_eq {s : ByteArray} {j : Nat} {n : Nat} (hn : n < 256) : bt s j = (n : Int) ↔ s.data.toList.getD j 0 = UInt8.ofNat n := by
  unfold bt
  constructor
  · intro h
    have h2 : (s.data.toList.getD j 0).toNat = n := by omega
    apply UInt8.toNat_inj.1
    rw [h2, UInt8.toNat_ofNat_of_lt' (by show _ < 256; omega)]
  · intro h
    rw [h, UInt8.toNat_ofNat_of_lt' (by show _ < 256; omega)]
theorem all_yes {s : ByteArray} (h : ∀ j, j < s.size → 48 ≤ bt s j ∧ bt s j ≤ 57) : s.data.toList.all Un.isDg = true := by
  rw [List.all_eq_true]
  intro x hx
  obtain ⟨j, hj, rfl⟩ := List.mem_iff_getElem.1 hx
  have := h j (by simpa using hj)
  unfold bt at this
  rw [List.getD_eq_getElem?_getD, List.getElem?_eq_getElem hj] at this
  simp only [Un.isDg, decide_eq_true_eq]
  simp only [Option.getD_some] at this
  omega
theorem all_no {s : ByteArray} {j : Nat} (hj : j < s.size) (h : ¬ (48 ≤ bt s j ∧ bt s j ≤ 57)) : s.data.toList.all Un.isDg = false := by
  rw [← Bool.not_eq_true, List.all_eq_true]
  intro hh
  have hj' : j < s.data.toList.length := by simpa using hj
  have := hh _ (List.getElem_mem hj')
  apply h
  unfold bt
  rw [List.getD_eq_getElem?_getD, List.getElem?_eq_getElem hj']
  simp only [Un.isDg, decide_eq_true_eq] at this
  simp only [Option.getD_some]
  omega
theorem ba_eta (s : ByteArray) : s = ⟨s.data.toList.toArray⟩ := by apply ba_ext; simp
theorem cut_list (s : ByteArray) (a b : Nat) : (s.extract a b).data.toList = (s.data.toList.take b).drop a := by
  rw [ByteArray.data_extract]
  simp [List.drop_take]
theorem list_len (s : ByteArray) : s.data.toList.length = s.size := by simp
theorem toList_loop_len (bs : ByteArray) : ∀ (n i : Nat) (r : List UInt8), bs.size - i = n → (ByteArray.toList.loop bs i r).length = r.length + n := by
  intro n
  induction n with
  | zero =>
    intro i r h
    rw [ByteArray.toList.loop, if_neg (by omega)]
    simp
  | succ n ih =>
    intro i r h
    rw [ByteArray.toList.loop, if_pos (by omega), ih (i + 1) _ (by omega)]
    simp
    omega
theorem toList_len (bs : ByteArray) : bs.toList.length = bs.size := by
  unfold ByteArray.toList
  rw [toList_loop_len bs bs.size 0 [] (by omega)]
  simp
theorem toList_none {bs : ByteArray} (h : bs.size = 0) : bs.toList = [] := List.eq_nil_of_length_eq_zero (by rw [toList_len, h])
theorem toList_some {bs : ByteArray} (h : bs.size ≠ 0) : ¬ bs.toList = [] ∧ bs.toList.isEmpty = false := by
  have h2 : ¬ bs.toList = [] := fun e => h (by rw [← toList_len, e]; rfl)
  exact ⟨h2, by simpa using h2⟩


/-- The value of the first j digits. -/
def vl (A : ByteArray) (j : Nat) : Int := (Un.valL (A.data.toList.take j) : Int)
theorem vl_zero (A : ByteArray) : vl A 0 = 0 := by simp [vl, Un.valL]
theorem vl_step {A : ByteArray} {j : Nat} (hj : j < A.size) (h : 48 ≤ bt A j ∧ bt A j ≤ 57) : vl A (j + 1) = 10 * vl A j + (bt A j - 48) := by
  have hj' : j < A.data.toList.length := by rw [list_len]; exact hj
  unfold vl bt at *
  rw [List.take_succ_eq_append_getElem hj', Un.val_snoc]
  rw [List.getD_eq_getElem?_getD, List.getElem?_eq_getElem hj'] at *
  simp only [Option.getD_some] at *
  omega
theorem vl_all (A : ByteArray) (j : Nat) (hj : A.size ≤ j) : vl A j = (Un.valL A.data.toList : Int) := by
  unfold vl
  rw [List.take_of_length_le (by rw [list_len]; exact hj)]
theorem vl_le (A : ByteArray) (j : Nat) : 0 ≤ vl A j ∧ vl A j ≤ (Un.valL A.data.toList : Int) := by
  unfold vl
  have := Un.val_take_le A.data.toList j
  omega
theorem vl_dig {A : ByteArray} (h : A.data.toList.all Un.isDg = true) {j : Nat} (hj : j < A.size) : 48 ≤ bt A j ∧ bt A j ≤ 57 := by
  have hj' : j < A.data.toList.length := by rw [list_len]; exact hj
  have := List.all_eq_true.1 h _ (List.getElem_mem hj')
  simp only [Un.isDg, decide_eq_true_eq] at this
  unfold bt
  rw [List.getD_eq_getElem?_getD, List.getElem?_eq_getElem hj']
  simp only [Option.getD_some]
  omega
theorem fr_digits {L : List UInt8} {k : Nat} (h : Un.frB L k = true) : (Un.frL L k).all Un.isDg = true := by
  simp only [Un.frB, Bool.and_eq_true] at h
  exact h.2

section
variable {L : List UInt8} {k : Nat}
theorem pa_short (h : L = []) : Un.paV L k = 0 ∧ Un.paE L k = 3 := by
  have e : Un.paE L k = 3 := by unfold Un.paE; rw [if_pos h]
  exact ⟨by unfold Un.paV; rw [e]; rfl, e⟩
theorem pa_form (h : L ≠ []) (h1 : Un.frB (Un.tlT L) k = false) : Un.paV L k = 0 ∧ Un.paE L k = 5 := by
  have e : Un.paE L k = 5 := by unfold Un.paE; rw [if_neg h, if_pos h1]
  exact ⟨by unfold Un.paV; rw [e]; rfl, e⟩
theorem pa_over (h : L ≠ []) (h1 : Un.frB (Un.tlT L) k = true) (h2 : Un.lim L < Un.valL (Un.frL (Un.tlT L) k)) : Un.paV L k = 0 ∧ Un.paE L k = 9 := by
  have e : Un.paE L k = 9 := by unfold Un.paE; rw [if_neg h, if_neg (by rw [h1]; simp), if_pos h2]
  exact ⟨by unfold Un.paV; rw [e]; rfl, e⟩
theorem pa_minus (h : L ≠ []) (h1 : Un.frB (Un.tlT L) k = true) (hn : Un.ngB L = true) (h2 : Un.valL (Un.frL (Un.tlT L) k) = 0) : Un.paV L k = 0 ∧ Un.paE L k = 5 := by
  have e : Un.paE L k = 5 := by unfold Un.paE; rw [if_neg h, if_neg (by rw [h1]; simp), if_neg (by omega), if_pos ⟨hn, h2⟩]
  exact ⟨by unfold Un.paV; rw [e]; rfl, e⟩
theorem pa_neg (h : L ≠ []) (h1 : Un.frB (Un.tlT L) k = true) (hn : Un.ngB L = true) (h2 : Un.valL (Un.frL (Un.tlT L) k) ≠ 0) (h3 : ¬ Un.lim L < Un.valL (Un.frL (Un.tlT L) k)) : Un.paV L k = -(Un.valL (Un.frL (Un.tlT L) k) : Int) ∧ Un.paE L k = 0 := by
  have e : Un.paE L k = 0 := by unfold Un.paE; rw [if_neg h, if_neg (by rw [h1]; simp), if_neg h3, if_neg (fun g => h2 g.2)]
  exact ⟨by unfold Un.paV; rw [e, hn]; rfl, e⟩
theorem pa_pos (h : L ≠ []) (h1 : Un.frB (Un.tlT L) k = true) (hn : Un.ngB L = false) (h3 : ¬ Un.lim L < Un.valL (Un.frL (Un.tlT L) k)) : Un.paV L k = (Un.valL (Un.frL (Un.tlT L) k) : Int) ∧ Un.paE L k = 0 := by
  have e : Un.paE L k = 0 := by unfold Un.paE; rw [if_neg h, if_neg (by rw [h1]; simp), if_neg h3, if_neg (fun g => by rw [hn] at g; cases g.1)]
  exact ⟨by unfold Un.paV; rw [e, hn]; rfl, e⟩
end
theorem neg_back (v : Int) (h0 : 0 ≤ v) (h1 : v ≤ 9223372036854775808) : wrap64 (IntKind.u64.wrap (-v)) = -v := by
  unfold wrap64; simp only [IntKind.wrap_u64]; omega

end Go.Proofs.YtcefmnkfkpoccaaDoor.Zz
