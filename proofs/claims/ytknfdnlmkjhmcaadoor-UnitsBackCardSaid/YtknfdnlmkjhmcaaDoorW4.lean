/- units.withoutPoint and units.Parse. -/
import Derived.Test.YtknfdnlmkjhmcaaDoorW3
namespace Go.Proofs.YtknfdnlmkjhmcaaDoor
open Go.RowKit
set_option linter.unusedVariables false

/-- The byte number j of a string, as a number; 0 behind its end. -/
def bt (s : ByteArray) (j : Nat) : Int := ((s.data.toList.getD j 0).toNat : Int)
theorem bt_get (s : ByteArray) (k : Nat) (h : k < s.size) : ((s[k]'h).toNat : Int) = bt s k := by
  have h' : k < s.data.size := h
  simp only [bt]
  congr 2
  show s.data[k] = _
  simp only [List.getD_eq_getElem?_getD, Array.getElem?_toList]
  rw [Array.getElem?_eq_getElem h']
  rfl
theorem bt_range (s : ByteArray) (j : Nat) : 0 ≤ bt s j ∧ bt s j ≤ 255 := by
  unfold bt
  have := (s.data.toList.getD j 0).toNat_lt
  omega


theorem fr_all {L : List UInt8} {k : Nat} (h1 : 1 ≤ Un.hd L k) (h2 : k = 0 ∨ L.getD (Un.hd L k) 0 = 46) (h3 : ¬ (1 < Un.hd L k ∧ L.getD 0 0 = 48)) : Un.frB L k = (Un.frL L k).all Un.isDg := by
  unfold Un.frB
  rw [decide_eq_true h1]
  have e2 : (decide (k = 0) || decide (L.getD (Un.hd L k) 0 = 46)) = true := by
    rcases h2 with h | h
    · rw [decide_eq_true h]; rfl
    · rw [decide_eq_true h]; simp
  have e3 : (decide (1 < Un.hd L k) && decide (L.getD 0 0 = 48)) = false := by
    rw [← Bool.not_eq_true]
    simpa using h3
  rw [e2, e3]
  simp
theorem fr_none {L : List UInt8} {k : Nat} (h : ¬ 1 ≤ Un.hd L k ∨ (k ≠ 0 ∧ L.getD (Un.hd L k) 0 ≠ 46) ∨ (1 < Un.hd L k ∧ L.getD 0 0 = 48)) : Un.frB L k = false := by
  rw [← Bool.not_eq_true]
  intro e
  simp only [Un.frB, Bool.and_eq_true, Bool.not_eq_true', Bool.and_eq_false_iff, decide_eq_true_eq, decide_eq_false_iff_not, Bool.or_eq_true] at e
  obtain ⟨⟨⟨e1, e2⟩, e3⟩, e4⟩ := e
  rcases h with h | h | h
  · exact h e1
  · rcases e2 with e2 | e2
    · exact h.1 e2
    · exact h.2 e2
  · rcases e3 with e3 | e3
    · exact e3 h.1
    · exact e3 h.2
theorem bt_eq {s : ByteArray} {j : Nat} {n : Nat} (hn : n < 256) : bt s j = (n : Int) ↔ s.data.toList.getD j 0 = UInt8.ofNat n := by
  unfold bt
  constructor
  · intro h
    have h2 : (s.data.toList.getD j 0).toNat = n := by omega
    apply UInt8.toNat_inj.1
    rw [h2, UInt8.toNat_ofNat_of_lt' (by show _ < 256; omega)]
  · intro h
    rw [h, UInt8.toNat_ofNat_of_lt' (by show _ < 256; omega)]
theorem all_yes {s : ByteArray} (h : ∀ j, j < s.size → 48 ≤ bt s j ∧ bt s j ≤ 57) : s.data.toList.all Un.isDg = true := by
  rw [List.all_eq_true]
  intro x hx
  obtain ⟨j, hj, rfl⟩ := List.mem_iff_getElem.1 hx
  have := h j (by simpa using hj)
  unfold bt at this
  rw [List.getD_eq_getElem?_getD, List.getElem?_eq_getElem hj] at this
  simp only [Un.isDg, decide_eq_true_eq]
  simp only [Option.getD_some] at this
  omega
theorem all_no {s : ByteArray} {j : Nat} (hj : j < s.size) (h : ¬ (48 ≤ bt s j ∧ bt s j ≤ 57)) : s.data.toList.all Un.isDg = false := by
  rw [← Bool.not_eq_true, List.all_eq_true]
  intro hh
  have hj' : j < s.data.toList.length := by simpa using hj
  have := hh _ (List.getElem_mem hj')
  apply h
  unfold bt
  rw [List.getD_eq_getElem?_getD, List.getElem?_eq_getElem hj']
  simp only [Un.isDg, decide_eq_true_eq] at this
  simp only [Option.getD_some]
  omega
theorem ba_eta (s : ByteArray) : s = ⟨s.data.toList.toArray⟩ := by apply ba_ext; simp
theorem cut_list (s : ByteArray) (a b : Nat) : (s.extract a b).data.toList = (s.data.toList.take b).drop a := by
  rw [ByteArray.data_extract]
  simp [List.drop_take]
theorem list_len (s : ByteArray) : s.data.toList.length = s.size := by simp
theorem toList_loop_len (bs : ByteArray) : ∀ (n i : Nat) (r : List UInt8), bs.size - i = n → (ByteArray.toList.loop bs i r).length = r.length + n := by
  intro n
  induction n with
  | zero =>
    intro i r h
    rw [ByteArray.toList.loop, if_neg (by omega)]
    simp
  | succ n ih =>
    intro i r h
    rw [ByteArray.toList.loop, if_pos (by omega), ih (i + 1) _ (by omega)]
    simp
    omega
theorem toList_len (bs : ByteArray) : bs.toList.length = bs.size := by
  unfold ByteArray.toList
  rw [toList_loop_len bs bs.size 0 [] (by omega)]
  simp
theorem toList_none {bs : ByteArray} (h : bs.size = 0) : bs.toList = [] := List.eq_nil_of_length_eq_zero (by rw [toList_len, h])
theorem toList_some {bs : ByteArray} (h : bs.size ≠ 0) : ¬ bs.toList = [] ∧ bs.toList.isEmpty = false := by
  have h2 : ¬ bs.toList = [] := fun e => h (by rw [← toList_len, e]; rfl)
  exact ⟨h2, by simpa using h2⟩


/-- withoutPoint's result. -/
def WpR (s : ByteArray) (k : Nat) (w : World) (e : Ending) (w' : World) : Prop :=
  e = .returned (.tuple #[.string (if Un.frB s.data.toList k then ⟨(Un.frL s.data.toList k).toArray⟩ else ⟨#[]⟩), .bool (Un.frB s.data.toList k)]) ∧ ∃ n, w' = w.drewN n
theorem WpR.no {s : ByteArray} {k : Nat} {w : World} (h : Un.frB s.data.toList k = false) (n : Nat) : WpR s k w (.returned (.tuple #[.string ⟨#[]⟩, .bool false])) (w.drewN n) := by
  refine ⟨?_, n, rfl⟩
  rw [h]
  rfl
theorem WpR.yes {s A : ByteArray} {k : Nat} {w : World} (h : Un.frB s.data.toList k = true) (hA : A.data.toList = Un.frL s.data.toList k) (n : Nat) : WpR s k w (.returned (.tuple #[.string A, .bool true])) (w.drewN n) := by
  refine ⟨?_, n, rfl⟩
  rw [h, ← hA]
  simp only [if_true]

set_option maxHeartbeats 4000000 in
theorem without_any (s : ByteArray) (k : Nat) (w : World) (hk9 : (k : Int) ≤ 9) (hs : (s.size : Int) ≤ 9223372036854775807) :
    Calls Tryd.prog 40 #[.string s, .int .i64 k] w (WpR s k w) := by
  have hll := list_len s
  by_cases hk0 : k = 0
  · subst hk0
    rw [show ((0 : Nat) : Int) = (0 : Int) from rfl]
    have hhd : Un.hd s.data.toList 0 = s.size := by simp [Un.hd, hll]
    by_cases h0 : s.size = 0
    · have hno := Lib.hid (fr_none (L := s.data.toList) (k := 0) (.inl (by rw [hhd]; omega)))
      have he : s.toList = [] := toList_none h0
      clear hhd hll h0
      go_enter Tryd.func40, Tryd.ntmps40
      go_wp2_with fail
      go_ret2
      exact WpR.no hno.out 0
    · obtain ⟨he1, he2⟩ := toList_some h0
      have hA : (s ++ ⟨#[]⟩).data.toList = Un.frL s.data.toList 0 := by simp [Un.frL, ByteArray.data_append]
      have hAs : ((s ++ ⟨#[]⟩ : ByteArray).size : Int) ≤ 9223372036854775807 := by rw [ByteArray.size_append]; exact hs
      have z2 : 0 < s.size := by omega
      have z3 : (0 : Int) < (s.size : Int) := by omega
      have hg := bt_get s 0 z2
      have hr := bt_range s 0
      obtain ⟨c, hc⟩ : ∃ c, bt s 0 = c := ⟨_, rfl⟩
      rw [hc] at hg hr
      have HC := Lib.hid hc
      clear hc
      by_cases q1 : (1 : Int) < (s.size : Int)
      · by_cases q : c = 48
        · have q2 : (c == 48) = true := by simp [q]
          have hno := Lib.hid (fr_none (L := s.data.toList) (k := 0) (.inr (.inr ⟨by rw [hhd]; omega, (bt_eq (n := 48) (by omega)).1 (by rw [HC.out, q]; rfl)⟩)))
          clear q hhd hll h0 hA
          go_enter Tryd.func40, Tryd.ntmps40
          go_wp2_with fail
          go_ret2
          exact WpR.no hno.out 0
        · have q2 : (c == 48) = false := by simpa using q
          have HF := Lib.hid (fr_all (L := s.data.toList) (k := 0) (by rw [hhd]; omega) (.inl rfl) (fun g => q (by rw [← HC.out]; exact (bt_eq (n := 48) (by omega)).2 g.2)))
          have HA := Lib.hid hA
          clear q hhd hll h0 hA
          go_enter Tryd.func40, Tryd.ntmps40
          go_wp2_with fail
          generalize (s ++ ⟨#[]⟩ : ByteArray) = A at *
          go_loop [10] (fun i => ∃ j : Nat, i = .int .i64 j ∧ j ≤ A.size ∧ Hid (∀ t, t < j → 48 ≤ bt A t ∧ bt A t ≤ 57)) (fun i => A.size - (intOf i).toNat)
          case atStart => exact ⟨0, rfl, by omega, fun t ht => by omega⟩
          case round =>
            obtain ⟨j, rfl, hj, hall⟩ := hrel
            by_cases hlt : j < A.size
            · have hg := bt_get A j hlt
              have hr := bt_range A j
              obtain ⟨x, hx⟩ : ∃ x, bt A j = x := ⟨_, rfl⟩
              rw [hx] at hg hr
              have HX := Lib.hid hx
              clear hx
              have zk : (j : Int) < (A.size : Int) := by omega
              by_cases g1 : x < 48
              · have hno : Hid (Un.frB s.data.toList 0 = false) := by show _ = _; rw [HF.out, ← HA.out]; exact all_no hlt (by rw [HX.out]; omega)
                go_wp2_with fail
                go_ret2
                exact WpR.no hno.out 0
              · by_cases g2 : 57 < x
                · have hno : Hid (Un.frB s.data.toList 0 = false) := by show _ = _; rw [HF.out, ← HA.out]; exact all_no hlt (by rw [HX.out]; omega)
                  go_wp2_with fail
                  go_ret2
                  exact WpR.no hno.out 0
                · have hn : Hid (∀ t, t < j + 1 → 48 ≤ bt A t ∧ bt A t ≤ 57) := fun t ht => by
                    rcases Nat.lt_or_ge t j with h | h
                    · exact hall.out t h
                    · obtain rfl : t = j := by omega
                      rw [HX.out]; omega
                  go_wp2_with fail
                  go_round
                  case rel => exact ⟨j + 1, by go_num, by omega, hn⟩
                  case measure => simp [intOf]; omega
            · have hyes : Hid (Un.frB s.data.toList 0 = true) := by show _ = _; rw [HF.out, ← HA.out]; exact all_yes (fun t ht => hall.out t (by omega))
              go_wp2_with fail
              go_ret2
              exact WpR.yes hyes.out HA.out 0
      · have HF := Lib.hid (fr_all (L := s.data.toList) (k := 0) (by rw [hhd]; omega) (.inl rfl) (fun g => by rw [hhd] at g; omega))
        have HA := Lib.hid hA
        clear hhd hll h0 hA
        go_enter Tryd.func40, Tryd.ntmps40
        go_wp2_with fail
        generalize (s ++ ⟨#[]⟩ : ByteArray) = A at *
        go_loop [10] (fun i => ∃ j : Nat, i = .int .i64 j ∧ j ≤ A.size ∧ Hid (∀ t, t < j → 48 ≤ bt A t ∧ bt A t ≤ 57)) (fun i => A.size - (intOf i).toNat)
        case atStart => exact ⟨0, rfl, by omega, fun t ht => by omega⟩
        case round =>
          obtain ⟨j, rfl, hj, hall⟩ := hrel
          by_cases hlt : j < A.size
          · have hg := bt_get A j hlt
            have hr := bt_range A j
            obtain ⟨x, hx⟩ : ∃ x, bt A j = x := ⟨_, rfl⟩
            rw [hx] at hg hr
            have HX := Lib.hid hx
            clear hx
            have zk : (j : Int) < (A.size : Int) := by omega
            by_cases g1 : x < 48
            · have hno : Hid (Un.frB s.data.toList 0 = false) := by show _ = _; rw [HF.out, ← HA.out]; exact all_no hlt (by rw [HX.out]; omega)
              go_wp2_with fail
              go_ret2
              exact WpR.no hno.out 0
            · by_cases g2 : 57 < x
              · have hno : Hid (Un.frB s.data.toList 0 = false) := by show _ = _; rw [HF.out, ← HA.out]; exact all_no hlt (by rw [HX.out]; omega)
                go_wp2_with fail
                go_ret2
                exact WpR.no hno.out 0
              · have hn : Hid (∀ t, t < j + 1 → 48 ≤ bt A t ∧ bt A t ≤ 57) := fun t ht => by
                  rcases Nat.lt_or_ge t j with h | h
                  · exact hall.out t h
                  · obtain rfl : t = j := by omega
                    rw [HX.out]; omega
                go_wp2_with fail
                go_round
                case rel => exact ⟨j + 1, by go_num, by omega, hn⟩
                case measure => simp [intOf]; omega
          · have hyes : Hid (Un.frB s.data.toList 0 = true) := by show _ = _; rw [HF.out, ← HA.out]; exact all_yes (fun t ht => hall.out t (by omega))
            go_wp2_with fail
            go_ret2
            exact WpR.yes hyes.out HA.out 0
  · have hk1 : (0 : Int) < (k : Int) := by omega
    by_cases hp : (k : Int) + 1 ≤ (s.size : Int)
    · obtain ⟨p, hpe⟩ : ∃ p : Nat, s.size = p + k + 1 := ⟨s.size - k - 1, by omega⟩
      have hhd : Un.hd s.data.toList k = p := by simp only [Un.hd, hk0, if_false, hll]; omega
      have hpI : (s.size : Int) - (k : Int) - 1 = (p : Int) := by omega
      have z1 : (p : Int) < (s.size : Int) := by omega
      have z2 : p < s.size := by omega
      have hg := bt_get s p z2
      have hr := bt_range s p
      obtain ⟨c, hc⟩ : ∃ c, bt s p = c := ⟨_, rfl⟩
      rw [hc] at hg hr
      have HC := Lib.hid hc
      clear hc
      by_cases q : c = 46
      · have q1 : (c != 46) = false := by simp [q]
        have hdot : s.data.toList.getD (Un.hd s.data.toList k) 0 = 46 := by
          rw [hhd]
          exact (bt_eq (n := 46) (by omega)).1 (by rw [HC.out, q]; rfl)
        have hWl : (s.extract 0 p).data.toList = s.data.toList.take p := by rw [cut_list]; simp
        have hDl : (s.extract (p + 1) s.size).data.toList = s.data.toList.drop (p + 1) := by rw [cut_list, List.take_of_length_le (by rw [hll]; omega)]
        have hWs : (s.extract 0 p).size = p := by rw [← list_len, hWl, List.length_take, hll]; omega
        have hDs : (s.extract (p + 1) s.size).size = k := by rw [← list_len, hDl, List.length_drop, hll]; omega
        have hA : (s.extract 0 p ++ s.extract (p + 1) s.size).data.toList = Un.frL s.data.toList k := by
          rw [ByteArray.data_append, Array.toList_append, hWl, hDl]
          simp only [Un.frL, hk0, if_false, hhd]
        have HA := Lib.hid hA
        have hpp : (0 : Int) ≤ (p : Int) := by omega
        have hp1 : (p : Int) + 1 ≤ (s.size : Int) := by omega
        have hcat : ¬ 9223372036854775807 < (s.extract 0 p).size + (s.extract (p + 1) s.size).size := by omega
        clear hA hDl
        by_cases p0 : p = 0
        · have hno := Lib.hid (fr_none (L := s.data.toList) (k := k) (.inl (by rw [hhd]; omega)))
          have he1 : (s.extract 0 p).toList = [] := toList_none (by omega)
          clear q hhd hpe hll hdot hWl hWs hDs HA p0
          go_enter Tryd.func40, Tryd.ntmps40
          go_wp2_with fail
          go_quiet (fail)
          generalize s.extract 0 p = W at *
          generalize s.extract (p + 1) s.size = D at *
          go_wp2_with fail
          go_ret2
          exact WpR.no hno.out _
        · obtain ⟨he1, he2⟩ := toList_some (bs := s.extract 0 p) (by omega)
          have y2 : 0 < (s.extract 0 p).size := by omega
          have y3 : (0 : Int) < ((s.extract 0 p).size : Int) := by omega
          have hg0 := bt_get (s.extract 0 p) 0 y2
          have hr0 := bt_range (s.extract 0 p) 0
          have hbb : bt (s.extract 0 p) 0 = bt s 0 := by
            unfold bt
            rw [hWl, List.getD_eq_getElem?_getD, List.getElem?_take_of_lt (by omega), List.getD_eq_getElem?_getD]
          obtain ⟨c0, hc0⟩ : ∃ c, bt (s.extract 0 p) 0 = c := ⟨_, rfl⟩
          rw [hc0] at hg0 hr0 hbb
          have HB := Lib.hid hbb
          have hAs : ((s.extract 0 p ++ s.extract (p + 1) s.size).size : Int) ≤ 9223372036854775807 := by rw [ByteArray.size_append]; omega
          clear hc0 hbb
          by_cases q4 : (1 : Int) < ((s.extract 0 p).size : Int)
          · by_cases q5 : c0 = 48
            · have q6 : (c0 == 48) = true := by simp [q5]
              have hno := Lib.hid (fr_none (L := s.data.toList) (k := k) (.inr (.inr ⟨by rw [hhd]; omega, (bt_eq (n := 48) (by omega)).1 (by rw [← HB.out, q5]; rfl)⟩)))
              clear q hhd hpe hll hdot hWl hWs hDs HA p0 q5 hAs
              go_enter Tryd.func40, Tryd.ntmps40
              go_wp2_with fail
              go_quiet (fail)
              generalize s.extract 0 p = W at *
              generalize s.extract (p + 1) s.size = D at *
              go_wp2_with fail
              go_ret2
              exact WpR.no hno.out _
            · have q6 : (c0 == 48) = false := by simpa using q5
              have HF := Lib.hid (fr_all (L := s.data.toList) (k := k) (by rw [hhd]; omega) (.inr hdot) (fun g => q5 (by rw [HB.out]; exact (bt_eq (n := 48) (by omega)).2 g.2)))
              clear q hhd hpe hll hdot hWl hWs hDs p0 q5
              go_enter Tryd.func40, Tryd.ntmps40
              go_wp2_with fail
              go_quiet (fail)
              generalize s.extract 0 p = W at *
              generalize s.extract (p + 1) s.size = D at *
              go_wp2_with fail
              generalize W ++ D = A at *
              go_loop [10] (fun i => ∃ j : Nat, i = .int .i64 j ∧ j ≤ A.size ∧ Hid (∀ t, t < j → 48 ≤ bt A t ∧ bt A t ≤ 57)) (fun i => A.size - (intOf i).toNat)
              case atStart => exact ⟨0, rfl, by omega, fun t ht => by omega⟩
              case round =>
                obtain ⟨j, rfl, hj, hall⟩ := hrel
                by_cases hlt : j < A.size
                · have hg := bt_get A j hlt
                  have hr := bt_range A j
                  obtain ⟨x, hx⟩ : ∃ x, bt A j = x := ⟨_, rfl⟩
                  rw [hx] at hg hr
                  have HX := Lib.hid hx
                  clear hx
                  have zk : (j : Int) < (A.size : Int) := by omega
                  by_cases g1 : x < 48
                  · have hno : Hid (Un.frB s.data.toList k = false) := by show _ = _; rw [HF.out, ← HA.out]; exact all_no hlt (by rw [HX.out]; omega)
                    go_wp2_with fail
                    go_ret2
                    exact WpR.no hno.out _
                  · by_cases g2 : 57 < x
                    · have hno : Hid (Un.frB s.data.toList k = false) := by show _ = _; rw [HF.out, ← HA.out]; exact all_no hlt (by rw [HX.out]; omega)
                      go_wp2_with fail
                      go_ret2
                      exact WpR.no hno.out _
                    · have hn : Hid (∀ t, t < j + 1 → 48 ≤ bt A t ∧ bt A t ≤ 57) := fun t ht => by
                        rcases Nat.lt_or_ge t j with h | h
                        · exact hall.out t h
                        · obtain rfl : t = j := by omega
                          rw [HX.out]; omega
                      go_wp2_with fail
                      go_round
                      case rel => exact ⟨j + 1, by go_num, by omega, hn⟩
                      case measure => simp [intOf]; omega
                · have hyes : Hid (Un.frB s.data.toList k = true) := by show _ = _; rw [HF.out, ← HA.out]; exact all_yes (fun t ht => hall.out t (by omega))
                  go_wp2_with fail
                  go_ret2
                  exact WpR.yes hyes.out HA.out _
          · have HF := Lib.hid (fr_all (L := s.data.toList) (k := k) (by rw [hhd]; omega) (.inr hdot) (fun g => by rw [hhd] at g; omega))
            clear q hhd hpe hll hdot hWl hWs hDs p0
            go_enter Tryd.func40, Tryd.ntmps40
            go_wp2_with fail
            go_quiet (fail)
            generalize s.extract 0 p = W at *
            generalize s.extract (p + 1) s.size = D at *
            go_wp2_with fail
            generalize W ++ D = A at *
            go_loop [10] (fun i => ∃ j : Nat, i = .int .i64 j ∧ j ≤ A.size ∧ Hid (∀ t, t < j → 48 ≤ bt A t ∧ bt A t ≤ 57)) (fun i => A.size - (intOf i).toNat)
            case atStart => exact ⟨0, rfl, by omega, fun t ht => by omega⟩
            case round =>
              obtain ⟨j, rfl, hj, hall⟩ := hrel
              by_cases hlt : j < A.size
              · have hg := bt_get A j hlt
                have hr := bt_range A j
                obtain ⟨x, hx⟩ : ∃ x, bt A j = x := ⟨_, rfl⟩
                rw [hx] at hg hr
                have HX := Lib.hid hx
                clear hx
                have zk : (j : Int) < (A.size : Int) := by omega
                by_cases g1 : x < 48
                · have hno : Hid (Un.frB s.data.toList k = false) := by show _ = _; rw [HF.out, ← HA.out]; exact all_no hlt (by rw [HX.out]; omega)
                  go_wp2_with fail
                  go_ret2
                  exact WpR.no hno.out _
                · by_cases g2 : 57 < x
                  · have hno : Hid (Un.frB s.data.toList k = false) := by show _ = _; rw [HF.out, ← HA.out]; exact all_no hlt (by rw [HX.out]; omega)
                    go_wp2_with fail
                    go_ret2
                    exact WpR.no hno.out _
                  · have hn : Hid (∀ t, t < j + 1 → 48 ≤ bt A t ∧ bt A t ≤ 57) := fun t ht => by
                      rcases Nat.lt_or_ge t j with h | h
                      · exact hall.out t h
                      · obtain rfl : t = j := by omega
                        rw [HX.out]; omega
                    go_wp2_with fail
                    go_round
                    case rel => exact ⟨j + 1, by go_num, by omega, hn⟩
                    case measure => simp [intOf]; omega
              · have hyes : Hid (Un.frB s.data.toList k = true) := by show _ = _; rw [HF.out, ← HA.out]; exact all_yes (fun t ht => hall.out t (by omega))
                go_wp2_with fail
                go_ret2
                exact WpR.yes hyes.out HA.out _
      · have q1 : (c != 46) = true := by simpa using q
        have hno := Lib.hid (fr_none (L := s.data.toList) (k := k) (.inr (.inl ⟨hk0, by
          rw [hhd]
          intro e
          exact q (by rw [← HC.out]; exact (bt_eq (n := 46) (by omega)).2 e)⟩)))
        clear q hhd hpe hll
        go_enter Tryd.func40, Tryd.ntmps40
        go_wp2_with fail
        go_ret2
        exact WpR.no hno.out 0
    · have hhd : Un.hd s.data.toList k = 0 := by simp only [Un.hd, hk0, if_false, hll]; omega
      have hno := Lib.hid (fr_none (L := s.data.toList) (k := k) (.inl (by rw [hhd]; omega)))
      have hneg : (s.size : Int) - (k : Int) - 1 < 0 := by omega
      clear hhd hll
      go_enter Tryd.func40, Tryd.ntmps40
      go_wp2_with fail
      go_ret2
      exact WpR.no hno.out 0
end Go.Proofs.YtknfdnlmkjhmcaaDoor
