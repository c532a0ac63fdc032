/- The reference's form and Parse. -/
import Derived.Test.YtieafjbngealoaaDoorZ2
namespace Go.Proofs.YtieafjbngealoaaDoor
open Go.RowKit
set_option linter.unusedVariables false

theorem er_fr (L : List UInt8) (k : Nat) (h : 1 ≤ Un.hd L k) : Un.frL L k = L.eraseIdx (Un.hd L k) := by
  unfold Un.frL
  by_cases h0 : k = 0
  · rw [if_pos h0, List.eraseIdx_of_length_le]
    simp [Un.hd, h0]
  · rw [if_neg h0, List.eraseIdx_eq_take_drop_succ]
theorem er_same {L : List UInt8} {n : Nat} : (L.take (n + 1)).eraseIdx n = (L.take n).eraseIdx n := by
  rw [List.eraseIdx_of_length_le (l := L.take n) (by simp; omega), List.eraseIdx_eq_take_drop_succ, List.take_take, List.drop_of_length_le (by simp; omega)]
  simp
theorem er_next {L : List UInt8} {n j : Nat} (hj : j < L.length) (hne : j ≠ n) : (L.take (j + 1)).eraseIdx n = (L.take j).eraseIdx n ++ [L[j]] := by
  rw [List.take_succ_eq_append_getElem hj]
  have hl : (L.take j).length = j := by simp; omega
  rcases Nat.lt_or_ge n j with g | g
  · rw [List.eraseIdx_append_of_lt_length (by omega)]
  · rw [List.eraseIdx_append_of_length_le (by omega), List.eraseIdx_of_length_le (l := L.take j) (by omega), List.eraseIdx_of_length_le (l := [L[j]]) (by simp; omega)]
/-- The digits as numbers. -/
def sub48 (c : UInt8) : UInt8 := UInt8.ofNat (c.toNat - 48)
theorem sub48_nat (c : UInt8) (h : 48 ≤ c.toNat) : ((sub48 c).toNat : Int) = (c.toNat : Int) - 48 := by
  unfold sub48
  have := c.toNat_lt
  rw [UInt8.toNat_ofNat_of_lt' (by show _ < 256; omega)]
  omega
theorem er_all {s : ByteArray} {n : Nat} (h : ∀ t, t < s.size → t ≠ n → 48 ≤ bt s t ∧ bt s t ≤ 57) : (s.data.toList.eraseIdx n).all Un.isDg = true := by
  rw [List.all_eq_true]
  intro x hx
  obtain ⟨i, hi, he⟩ := List.mem_eraseIdx_iff_getElem?.1 hx
  obtain ⟨hlt, rfl⟩ := List.getElem?_eq_some_iff.1 he
  have := h i (by rw [← list_len]; exact hlt) hi
  unfold bt at this
  rw [List.getD_eq_getElem?_getD, he] at this
  simp only [Option.getD_some] at this
  simp only [Un.isDg, decide_eq_true_eq]
  omega
theorem er_not {s : ByteArray} {n t : Nat} (ht : t < s.size) (hne : t ≠ n) (h : ¬ (48 ≤ bt s t ∧ bt s t ≤ 57)) : (s.data.toList.eraseIdx n).all Un.isDg = false := by
  rw [← Bool.not_eq_true, List.all_eq_true]
  intro hh
  have ht' : t < s.data.toList.length := by rw [list_len]; exact ht
  have := hh _ (List.mem_eraseIdx_iff_getElem?.2 ⟨t, hne, List.getElem?_eq_getElem ht'⟩)
  apply h
  unfold bt
  rw [List.getD_eq_getElem?_getD, List.getElem?_eq_getElem ht']
  simp only [Un.isDg, decide_eq_true_eq] at this
  simp only [Option.getD_some]
  omega

theorem rdig_yes (c : Int) (h : 48 ≤ c ∧ c ≤ 57) (w : World) : Calls Tryd.prog 54 #[.int .u8 c] w fun e w' => e = .returned (.bool true) ∧ w = w' := by
  go_enter Tryd.func54, Tryd.ntmps54
  go_wp2
  go_ret
  exact ⟨rfl, rfl⟩
theorem rdig_no (c : Int) (h : ¬ (48 ≤ c ∧ c ≤ 57)) (w : World) : Calls Tryd.prog 54 #[.int .u8 c] w fun e w' => e = .returned (.bool false) ∧ w = w' := by
  by_cases h1 : 48 ≤ c
  · have h2 : ¬ c ≤ 57 := by omega
    clear h
    go_enter Tryd.func54, Tryd.ntmps54
    go_wp2
    go_ret
    exact ⟨rfl, rfl⟩
  · clear h
    go_enter Tryd.func54, Tryd.ntmps54
    go_wp2
    go_ret
    exact ⟨rfl, rfl⟩

/-- form's result. -/
def FmR (s : ByteArray) (k : Nat) (w : World) (e : Ending) (w' : World) : Prop :=
  (Un.frB s.data.toList k = false ∧ e = .returned (.tuple #[.slice none 0 0, .bool false]) ∨ Un.frB s.data.toList k = true ∧ ∃ v, e = .returned (.tuple #[v, .bool true]) ∧ OwnB w' w.heap.size v ((Un.frL s.data.toList k).map sub48)) ∧ Below w.heap.size w w'

set_option maxHeartbeats 4000000 in
theorem form_any (s : ByteArray) (k : Nat) (w : World) (hk9 : (k : Int) ≤ 9) (hs : (s.size : Int) ≤ 100) :
    Calls Tryd.prog 49 #[.string s, .int .i64 k] w (FmR s k w) := by
  have hll := list_len s
  obtain ⟨m, hm⟩ : ∃ m : Int, m = (if k = 0 then (s.size : Int) else (s.size : Int) - k - 1) := ⟨_, rfl⟩
  by_cases hm1 : m < 1
  · have hno : Hid (Un.frB s.data.toList k = false) := fr_none (.inl (by
      unfold Un.hd; rw [hll]
      split at hm
      · rename_i h0; rw [if_pos h0]; omega
      · rename_i h0; rw [if_neg h0]; omega))
    by_cases hk0 : k = 0
    · rw [if_pos hk0] at hm
      subst hk0
      rw [show ((0 : Nat) : Int) = (0 : Int) from rfl]
      have h1 : ¬ (1 : Int) ≤ (s.size : Int) := by omega
      have h2 : (s.size : Int) < 1 := by omega
      clear hm hm1 hll
      go_enter Tryd.func49, Tryd.ntmps49
      go_wp2_with fail
      go_ret2
      exact ⟨.inl ⟨hno.out, rfl⟩, Below.refl _ _⟩
    · rw [if_neg hk0] at hm
      have hk1 : (0 : Int) < (k : Int) := by omega
      have h2 : (s.size : Int) - (k : Int) - 1 < 1 := by omega
      clear hm hm1 hll
      go_enter Tryd.func49, Tryd.ntmps49
      go_wp2_with fail
      go_ret2
      exact ⟨.inl ⟨hno.out, rfl⟩, Below.refl _ _⟩
  · obtain ⟨n, hn⟩ : ∃ n : Nat, m = (n : Int) := ⟨m.toNat, by omega⟩
    subst hn
    have HHD : Hid (Un.hd s.data.toList k = n) := by
      show _ = _
      unfold Un.hd; rw [hll]
      split at hm
      · rename_i h0; rw [if_pos h0]; omega
      · rename_i h0; rw [if_neg h0]; omega
    have z2 : 0 < s.size := by split at hm <;> omega
    have z3 : (0 : Int) < (s.size : Int) := by omega
    have hg0 := bt_get s 0 z2
    have hr0 := bt_range s 0
    obtain ⟨c, hc⟩ : ∃ c, bt s 0 = c := ⟨_, rfl⟩
    rw [hc] at hg0 hr0
    have HC := Lib.hid hc
    clear hc
    by_cases hk0 : k = 0
    · rw [if_pos hk0] at hm
      subst hk0
      obtain rfl : n = s.size := by omega
      rw [show ((0 : Nat) : Int) = (0 : Int) from rfl]
      have h1 : ¬ (s.size : Int) < 1 := by omega
      clear hm hm1 hll
      by_cases q : c = 48
      · have q1 : (c == 48) = true := by simp [q]
        by_cases q2 : (1 : Int) < (s.size : Int)
        · have hno := Lib.hid (fr_none (L := s.data.toList) (k := 0) (.inr (.inr ⟨by rw [HHD.out]; omega, (bt_eq (n := 48) (by omega)).1 (by rw [HC.out, q]; rfl)⟩)))
          clear q
          go_enter Tryd.func49, Tryd.ntmps49
          go_wp2_with fail
          go_ret2
          exact ⟨.inl ⟨hno.out, rfl⟩, Below.refl _ _⟩
        · have HF := Lib.hid (fr_all (L := s.data.toList) (k := 0) (by rw [HHD.out]; omega) (.inl rfl) (fun g => by rw [HHD.out] at g; omega))
          clear q
          have HER := Lib.hid (er_fr s.data.toList 0 (by rw [HHD.out]; omega))
          have HB0 : Hid (OwnB w w.heap.size (.slice none 0 0) (((s.data.toList.take 0).eraseIdx s.size).map sub48)) := by show OwnB _ _ _ _; rw [List.take_zero]; simp; exact OwnB.nil _ _
          go_enter Tryd.func49, Tryd.ntmps49
          go_wp2_with fail
          go_loopw [7, 8] (fun v i wr => ∃ j : Nat, i = .int .i64 j ∧ j ≤ s.size ∧ Hid (∀ t, t < j → t ≠ s.size → 48 ≤ bt s t ∧ bt s t ≤ 57) ∧ Hid (OwnB wr w.heap.size v (((s.data.toList.take j).eraseIdx s.size).map sub48)) ∧ Below w.heap.size w wr) (fun _ i _ => s.size - (intOf i).toNat)
          case atStart => exact ⟨0, rfl, by omega, fun t ht => by omega, HB0, Below.refl _ _⟩
          case round =>
            obtain ⟨j, rfl, hj, hall, hown, hwr⟩ := hrel
            have hszw := hwr.size
            by_cases hlt : j < s.size
            · have zk : (j : Int) < (s.size : Int) := by omega
              by_cases hjn : j = s.size
              · have hb : ((j : Int) == ((s.size : Nat) : Int)) = true := by simp [hjn]
                have hn1 : Hid (∀ t, t < j + 1 → t ≠ s.size → 48 ≤ bt s t ∧ bt s t ≤ 57) := fun t ht hne => hall.out t (by omega) hne
                have hown1 : Hid (OwnB wr w.heap.size u7 (((s.data.toList.take (j + 1)).eraseIdx s.size).map sub48)) := by
                  show OwnB _ _ _ _
                  have := hown.out
                  rw [hjn] at this ⊢
                  rw [er_same]
                  exact this
                clear hjn hown
                go_wp2_with fail
                go_roundw
                case rel => exact ⟨j + 1, by go_num, by omega, hn1, hown1, hwr⟩
                case measure => simp [intOf]; omega
              · have hb : ((j : Int) == ((s.size : Nat) : Int)) = false := by simp; omega
                have hg := bt_get s j hlt
                have hr := bt_range s j
                have hjl : j < s.data.toList.length := by rw [list_len]; exact hlt
                have hnx := er_next (L := s.data.toList) (n := s.size) hjl hjn
                have hbx : bt s j = ((s.data.toList[j]).toNat : Int) := by
                  unfold bt
                  rw [List.getD_eq_getElem?_getD, List.getElem?_eq_getElem hjl]
                  rfl
                obtain ⟨x, hx⟩ : ∃ x, bt s j = x := ⟨_, rfl⟩
                rw [hx] at hg hr hbx
                have HX := Lib.hid hx; have HBX := Lib.hid hbx; have HNX := Lib.hid hnx; have HJN := Lib.hid hjn
                clear hx hbx hnx hjn
                by_cases hd : 48 ≤ x ∧ x ≤ 57
                · have hn1 : Hid (∀ t, t < j + 1 → t ≠ s.size → 48 ≤ bt s t ∧ bt s t ≤ 57) := fun t ht hne => by
                    rcases Nat.lt_or_ge t j with h | h
                    · exact hall.out t h hne
                    · obtain rfl : t = j := by omega
                      rw [HX.out]; exact hd
                  have hlen : (((s.data.toList.take j).eraseIdx s.size).map sub48).length ≤ 100 := by
                    rw [List.length_map]
                    have := List.length_eraseIdx_le (s.data.toList.take j) (s.size)
                    have : (s.data.toList.take j).length ≤ j := by simp; omega
                    omega
                  have hxs : x - 48 = ((sub48 s.data.toList[j]).toNat : Int) := by rw [sub48_nat _ (by have := HBX.out; omega), ← HBX.out]
                  have HXS := Lib.hid hxs
                  clear hxs
                  have hmp : ((s.data.toList.take (j + 1)).eraseIdx s.size).map sub48 = ((s.data.toList.take j).eraseIdx s.size).map sub48 ++ [sub48 s.data.toList[j]] := by rw [HNX.out, List.map_append]; rfl
                  have HMP := Lib.hid hmp
                  clear hmp HNX
                  generalize ((s.data.toList.take j).eraseIdx s.size).map sub48 = D at *
                  generalize s.data.toList[j] = bj at *
                  go_wp2_with (first | (go_at_call 54; (with_reducible refine (rdig_yes _ hd _).mono ?_); rintro e w' ⟨rfl, rfl⟩) | (
                    at_builtin; refine wpList_append_c rfl (.tmp 52) (.tmp 57) 65 rfl w.heap.size 5 (.int .u8 0) 1 1 Tryd.underlying65 infoByte rfl (by decide) _ _ _ rfl (hown.out.al _) ⟨wr.heap.size, 0, none⟩ 1 1 [.int .u8 (x - 48)] rfl rfl (cell_one _ _ _) (by intro u hu; simp at hu; subst hu; rfl) (by unfold maxLen; omega) (by omega) (by simp; omega) ?_
                    ))
                  intro v' w3 hown' hgrow
                  have hown3 := Lib.hid (OwnB.snoc HXS.out rfl hown')
                  have hwr3 := (hwr.alloc (by omega) _).grown hgrow (by simp; omega) hown.out.lt
                  clear hown' hgrow hown
                  go_wp2
                  go_roundw
                  case rel => exact ⟨j + 1, by go_num, by omega, hn1, by show OwnB _ _ _ _; rw [HMP.out]; exact hown3.out, hwr3⟩
                  case measure => simp [intOf]; omega
                · have hno : Hid (Un.frB s.data.toList 0 = false) := by
                    show _ = _
                    rw [HF.out, HER.out, HHD.out]
                    exact er_not hlt HJN.out (by rw [HX.out]; exact hd)
                  go_wp2_with (go_at_call 54; (with_reducible refine (rdig_no _ hd _).mono ?_); rintro e w' ⟨rfl, rfl⟩)
                  go_ret2
                  exact ⟨.inl ⟨hno.out, rfl⟩, hwr⟩
            · have hyes : Hid (Un.frB s.data.toList 0 = true) := by
                show _ = _
                rw [HF.out, HER.out, HHD.out]
                exact er_all (fun t ht hne => hall.out t (by omega) hne)
              have hown1 := hown.out
              rw [List.take_of_length_le (by rw [list_len]; omega), ← HHD.out, ← HER.out] at hown1
              have HO := Lib.hid hown1
              clear hown1 hown
              go_wp2_with fail
              go_ret2
              exact ⟨.inr ⟨hyes.out, _, rfl, HO.out⟩, hwr⟩
      · have q1 : (c == 48) = false := by simpa using q
        have HF := Lib.hid (fr_all (L := s.data.toList) (k := 0) (by rw [HHD.out]; omega) (.inl rfl) (fun g => q (by rw [← HC.out]; exact (bt_eq (n := 48) (by omega)).2 g.2)))
        clear q
        have HER := Lib.hid (er_fr s.data.toList 0 (by rw [HHD.out]; omega))
        have HB0 : Hid (OwnB w w.heap.size (.slice none 0 0) (((s.data.toList.take 0).eraseIdx s.size).map sub48)) := by show OwnB _ _ _ _; rw [List.take_zero]; simp; exact OwnB.nil _ _
        go_enter Tryd.func49, Tryd.ntmps49
        go_wp2_with fail
        go_loopw [7, 8] (fun v i wr => ∃ j : Nat, i = .int .i64 j ∧ j ≤ s.size ∧ Hid (∀ t, t < j → t ≠ s.size → 48 ≤ bt s t ∧ bt s t ≤ 57) ∧ Hid (OwnB wr w.heap.size v (((s.data.toList.take j).eraseIdx s.size).map sub48)) ∧ Below w.heap.size w wr) (fun _ i _ => s.size - (intOf i).toNat)
        case atStart => exact ⟨0, rfl, by omega, fun t ht => by omega, HB0, Below.refl _ _⟩
        case round =>
          obtain ⟨j, rfl, hj, hall, hown, hwr⟩ := hrel
          have hszw := hwr.size
          by_cases hlt : j < s.size
          · have zk : (j : Int) < (s.size : Int) := by omega
            by_cases hjn : j = s.size
            · have hb : ((j : Int) == ((s.size : Nat) : Int)) = true := by simp [hjn]
              have hn1 : Hid (∀ t, t < j + 1 → t ≠ s.size → 48 ≤ bt s t ∧ bt s t ≤ 57) := fun t ht hne => hall.out t (by omega) hne
              have hown1 : Hid (OwnB wr w.heap.size u7 (((s.data.toList.take (j + 1)).eraseIdx s.size).map sub48)) := by
                show OwnB _ _ _ _
                have := hown.out
                rw [hjn] at this ⊢
                rw [er_same]
                exact this
              clear hjn hown
              go_wp2_with fail
              go_roundw
              case rel => exact ⟨j + 1, by go_num, by omega, hn1, hown1, hwr⟩
              case measure => simp [intOf]; omega
            · have hb : ((j : Int) == ((s.size : Nat) : Int)) = false := by simp; omega
              have hg := bt_get s j hlt
              have hr := bt_range s j
              have hjl : j < s.data.toList.length := by rw [list_len]; exact hlt
              have hnx := er_next (L := s.data.toList) (n := s.size) hjl hjn
              have hbx : bt s j = ((s.data.toList[j]).toNat : Int) := by
                unfold bt
                rw [List.getD_eq_getElem?_getD, List.getElem?_eq_getElem hjl]
                rfl
              obtain ⟨x, hx⟩ : ∃ x, bt s j = x := ⟨_, rfl⟩
              rw [hx] at hg hr hbx
              have HX := Lib.hid hx; have HBX := Lib.hid hbx; have HNX := Lib.hid hnx; have HJN := Lib.hid hjn
              clear hx hbx hnx hjn
              by_cases hd : 48 ≤ x ∧ x ≤ 57
              · have hn1 : Hid (∀ t, t < j + 1 → t ≠ s.size → 48 ≤ bt s t ∧ bt s t ≤ 57) := fun t ht hne => by
                  rcases Nat.lt_or_ge t j with h | h
                  · exact hall.out t h hne
                  · obtain rfl : t = j := by omega
                    rw [HX.out]; exact hd
                have hlen : (((s.data.toList.take j).eraseIdx s.size).map sub48).length ≤ 100 := by
                  rw [List.length_map]
                  have := List.length_eraseIdx_le (s.data.toList.take j) (s.size)
                  have : (s.data.toList.take j).length ≤ j := by simp; omega
                  omega
                have hxs : x - 48 = ((sub48 s.data.toList[j]).toNat : Int) := by rw [sub48_nat _ (by have := HBX.out; omega), ← HBX.out]
                have HXS := Lib.hid hxs
                clear hxs
                have hmp : ((s.data.toList.take (j + 1)).eraseIdx s.size).map sub48 = ((s.data.toList.take j).eraseIdx s.size).map sub48 ++ [sub48 s.data.toList[j]] := by rw [HNX.out, List.map_append]; rfl
                have HMP := Lib.hid hmp
                clear hmp HNX
                generalize ((s.data.toList.take j).eraseIdx s.size).map sub48 = D at *
                generalize s.data.toList[j] = bj at *
                go_wp2_with (first | (go_at_call 54; (with_reducible refine (rdig_yes _ hd _).mono ?_); rintro e w' ⟨rfl, rfl⟩) | (
                  at_builtin; refine wpList_append_c rfl (.tmp 52) (.tmp 57) 65 rfl w.heap.size 5 (.int .u8 0) 1 1 Tryd.underlying65 infoByte rfl (by decide) _ _ _ rfl (hown.out.al _) ⟨wr.heap.size, 0, none⟩ 1 1 [.int .u8 (x - 48)] rfl rfl (cell_one _ _ _) (by intro u hu; simp at hu; subst hu; rfl) (by unfold maxLen; omega) (by omega) (by simp; omega) ?_
                  ))
                intro v' w3 hown' hgrow
                have hown3 := Lib.hid (OwnB.snoc HXS.out rfl hown')
                have hwr3 := (hwr.alloc (by omega) _).grown hgrow (by simp; omega) hown.out.lt
                clear hown' hgrow hown
                go_wp2
                go_roundw
                case rel => exact ⟨j + 1, by go_num, by omega, hn1, by show OwnB _ _ _ _; rw [HMP.out]; exact hown3.out, hwr3⟩
                case measure => simp [intOf]; omega
              · have hno : Hid (Un.frB s.data.toList 0 = false) := by
                  show _ = _
                  rw [HF.out, HER.out, HHD.out]
                  exact er_not hlt HJN.out (by rw [HX.out]; exact hd)
                go_wp2_with (go_at_call 54; (with_reducible refine (rdig_no _ hd _).mono ?_); rintro e w' ⟨rfl, rfl⟩)
                go_ret2
                exact ⟨.inl ⟨hno.out, rfl⟩, hwr⟩
          · have hyes : Hid (Un.frB s.data.toList 0 = true) := by
              show _ = _
              rw [HF.out, HER.out, HHD.out]
              exact er_all (fun t ht hne => hall.out t (by omega) hne)
            have hown1 := hown.out
            rw [List.take_of_length_le (by rw [list_len]; omega), ← HHD.out, ← HER.out] at hown1
            have HO := Lib.hid hown1
            clear hown1 hown
            go_wp2_with fail
            go_ret2
            exact ⟨.inr ⟨hyes.out, _, rfl, HO.out⟩, hwr⟩
    · rw [if_neg hk0] at hm
      have hk1 : (0 : Int) < (k : Int) := by omega
      have hpI : (s.size : Int) - (k : Int) - 1 = (n : Int) := by omega
      have h1 : ¬ (n : Int) < 1 := by omega
      have y1 : (n : Int) < (s.size : Int) := by omega
      have y2 : n < s.size := by omega
      have hg := bt_get s n y2
      have hr := bt_range s n
      obtain ⟨x, hx⟩ : ∃ x, bt s n = x := ⟨_, rfl⟩
      rw [hx] at hg hr
      have HX := Lib.hid hx
      have HK0 := Lib.hid hk0
      clear hm hm1 hll hx hk0
      by_cases q : c = 48 ∧ 1 < n
      · have q1 : (c == 48) = true := by simp [q.1]
        have q2 : (1 : Int) < (n : Int) := by omega
        have hno := Lib.hid (fr_none (L := s.data.toList) (k := k) (.inr (.inr ⟨by rw [HHD.out]; omega, (bt_eq (n := 48) (by omega)).1 (by rw [HC.out, q.1]; rfl)⟩)))
        clear q
        go_enter Tryd.func49, Tryd.ntmps49
        go_wp2_with fail
        go_ret2
        exact ⟨.inl ⟨hno.out, rfl⟩, Below.refl _ _⟩
      · have h3 : Hid (¬ (1 < Un.hd s.data.toList k ∧ s.data.toList.getD 0 0 = 48)) := fun g => q ⟨by rw [← HC.out]; exact (bt_eq (n := 48) (by omega)).2 g.2, by rw [HHD.out] at g; exact g.1⟩
        by_cases q3 : x = 46
        · have q4 : (x != 46) = false := by simp [q3]
          have HF := Lib.hid (fr_all (L := s.data.toList) (k := k) (by rw [HHD.out]; omega) (.inr (by rw [HHD.out]; exact (bt_eq (n := 46) (by omega)).1 (by rw [HX.out, q3]; rfl))) h3.out)
          clear q3
          by_cases q5 : c = 48
          · have q1 : (c == 48) = true := by simp [q5]
            have q2 : ¬ (1 : Int) < (n : Int) := by omega
            clear q q5
            have HER := Lib.hid (er_fr s.data.toList k (by rw [HHD.out]; omega))
            have HB0 : Hid (OwnB w w.heap.size (.slice none 0 0) (((s.data.toList.take 0).eraseIdx n).map sub48)) := by show OwnB _ _ _ _; rw [List.take_zero]; simp; exact OwnB.nil _ _
            go_enter Tryd.func49, Tryd.ntmps49
            go_wp2_with fail
            go_loopw [7, 8] (fun v i wr => ∃ j : Nat, i = .int .i64 j ∧ j ≤ s.size ∧ Hid (∀ t, t < j → t ≠ n → 48 ≤ bt s t ∧ bt s t ≤ 57) ∧ Hid (OwnB wr w.heap.size v (((s.data.toList.take j).eraseIdx n).map sub48)) ∧ Below w.heap.size w wr) (fun _ i _ => s.size - (intOf i).toNat)
            case atStart => exact ⟨0, rfl, by omega, fun t ht => by omega, HB0, Below.refl _ _⟩
            case round =>
              obtain ⟨j, rfl, hj, hall, hown, hwr⟩ := hrel
              have hszw := hwr.size
              by_cases hlt : j < s.size
              · have zk : (j : Int) < (s.size : Int) := by omega
                by_cases hjn : j = n
                · have hb : ((j : Int) == ((n : Nat) : Int)) = true := by simp [hjn]
                  have hn1 : Hid (∀ t, t < j + 1 → t ≠ n → 48 ≤ bt s t ∧ bt s t ≤ 57) := fun t ht hne => hall.out t (by omega) hne
                  have hown1 : Hid (OwnB wr w.heap.size u7 (((s.data.toList.take (j + 1)).eraseIdx n).map sub48)) := by
                    show OwnB _ _ _ _
                    have := hown.out
                    rw [hjn] at this ⊢
                    rw [er_same]
                    exact this
                  clear hjn hown
                  go_wp2_with fail
                  go_roundw
                  case rel => exact ⟨j + 1, by go_num, by omega, hn1, hown1, hwr⟩
                  case measure => simp [intOf]; omega
                · have hb : ((j : Int) == ((n : Nat) : Int)) = false := by simp; omega
                  have hg := bt_get s j hlt
                  have hr := bt_range s j
                  have hjl : j < s.data.toList.length := by rw [list_len]; exact hlt
                  have hnx := er_next (L := s.data.toList) (n := n) hjl hjn
                  have hbx : bt s j = ((s.data.toList[j]).toNat : Int) := by
                    unfold bt
                    rw [List.getD_eq_getElem?_getD, List.getElem?_eq_getElem hjl]
                    rfl
                  obtain ⟨x, hx⟩ : ∃ x, bt s j = x := ⟨_, rfl⟩
                  rw [hx] at hg hr hbx
                  have HX := Lib.hid hx; have HBX := Lib.hid hbx; have HNX := Lib.hid hnx; have HJN := Lib.hid hjn
                  clear hx hbx hnx hjn
                  by_cases hd : 48 ≤ x ∧ x ≤ 57
                  · have hn1 : Hid (∀ t, t < j + 1 → t ≠ n → 48 ≤ bt s t ∧ bt s t ≤ 57) := fun t ht hne => by
                      rcases Nat.lt_or_ge t j with h | h
                      · exact hall.out t h hne
                      · obtain rfl : t = j := by omega
                        rw [HX.out]; exact hd
                    have hlen : (((s.data.toList.take j).eraseIdx n).map sub48).length ≤ 100 := by
                      rw [List.length_map]
                      have := List.length_eraseIdx_le (s.data.toList.take j) (n)
                      have : (s.data.toList.take j).length ≤ j := by simp; omega
                      omega
                    have hxs : x - 48 = ((sub48 s.data.toList[j]).toNat : Int) := by rw [sub48_nat _ (by have := HBX.out; omega), ← HBX.out]
                    have HXS := Lib.hid hxs
                    clear hxs
                    have hmp : ((s.data.toList.take (j + 1)).eraseIdx n).map sub48 = ((s.data.toList.take j).eraseIdx n).map sub48 ++ [sub48 s.data.toList[j]] := by rw [HNX.out, List.map_append]; rfl
                    have HMP := Lib.hid hmp
                    clear hmp HNX
                    generalize ((s.data.toList.take j).eraseIdx n).map sub48 = D at *
                    generalize s.data.toList[j] = bj at *
                    go_wp2_with (first | (go_at_call 54; (with_reducible refine (rdig_yes _ hd _).mono ?_); rintro e w' ⟨rfl, rfl⟩) | (
                      at_builtin; refine wpList_append_c rfl (.tmp 52) (.tmp 57) 65 rfl w.heap.size 5 (.int .u8 0) 1 1 Tryd.underlying65 infoByte rfl (by decide) _ _ _ rfl (hown.out.al _) ⟨wr.heap.size, 0, none⟩ 1 1 [.int .u8 (x - 48)] rfl rfl (cell_one _ _ _) (by intro u hu; simp at hu; subst hu; rfl) (by unfold maxLen; omega) (by omega) (by simp; omega) ?_
                      ))
                    intro v' w3 hown' hgrow
                    have hown3 := Lib.hid (OwnB.snoc HXS.out rfl hown')
                    have hwr3 := (hwr.alloc (by omega) _).grown hgrow (by simp; omega) hown.out.lt
                    clear hown' hgrow hown
                    go_wp2
                    go_roundw
                    case rel => exact ⟨j + 1, by go_num, by omega, hn1, by show OwnB _ _ _ _; rw [HMP.out]; exact hown3.out, hwr3⟩
                    case measure => simp [intOf]; omega
                  · have hno : Hid (Un.frB s.data.toList k = false) := by
                      show _ = _
                      rw [HF.out, HER.out, HHD.out]
                      exact er_not hlt HJN.out (by rw [HX.out]; exact hd)
                    go_wp2_with (go_at_call 54; (with_reducible refine (rdig_no _ hd _).mono ?_); rintro e w' ⟨rfl, rfl⟩)
                    go_ret2
                    exact ⟨.inl ⟨hno.out, rfl⟩, hwr⟩
              · have hyes : Hid (Un.frB s.data.toList k = true) := by
                  show _ = _
                  rw [HF.out, HER.out, HHD.out]
                  exact er_all (fun t ht hne => hall.out t (by omega) hne)
                have hown1 := hown.out
                rw [List.take_of_length_le (by rw [list_len]; omega), ← HHD.out, ← HER.out] at hown1
                have HO := Lib.hid hown1
                clear hown1 hown
                go_wp2_with fail
                go_ret2
                exact ⟨.inr ⟨hyes.out, _, rfl, HO.out⟩, hwr⟩
          · have q1 : (c == 48) = false := by simpa using q5
            clear q q5
            have HER := Lib.hid (er_fr s.data.toList k (by rw [HHD.out]; omega))
            have HB0 : Hid (OwnB w w.heap.size (.slice none 0 0) (((s.data.toList.take 0).eraseIdx n).map sub48)) := by show OwnB _ _ _ _; rw [List.take_zero]; simp; exact OwnB.nil _ _
            go_enter Tryd.func49, Tryd.ntmps49
            go_wp2_with fail
            go_loopw [7, 8] (fun v i wr => ∃ j : Nat, i = .int .i64 j ∧ j ≤ s.size ∧ Hid (∀ t, t < j → t ≠ n → 48 ≤ bt s t ∧ bt s t ≤ 57) ∧ Hid (OwnB wr w.heap.size v (((s.data.toList.take j).eraseIdx n).map sub48)) ∧ Below w.heap.size w wr) (fun _ i _ => s.size - (intOf i).toNat)
            case atStart => exact ⟨0, rfl, by omega, fun t ht => by omega, HB0, Below.refl _ _⟩
            case round =>
              obtain ⟨j, rfl, hj, hall, hown, hwr⟩ := hrel
              have hszw := hwr.size
              by_cases hlt : j < s.size
              · have zk : (j : Int) < (s.size : Int) := by omega
                by_cases hjn : j = n
                · have hb : ((j : Int) == ((n : Nat) : Int)) = true := by simp [hjn]
                  have hn1 : Hid (∀ t, t < j + 1 → t ≠ n → 48 ≤ bt s t ∧ bt s t ≤ 57) := fun t ht hne => hall.out t (by omega) hne
                  have hown1 : Hid (OwnB wr w.heap.size u7 (((s.data.toList.take (j + 1)).eraseIdx n).map sub48)) := by
                    show OwnB _ _ _ _
                    have := hown.out
                    rw [hjn] at this ⊢
                    rw [er_same]
                    exact this
                  clear hjn hown
                  go_wp2_with fail
                  go_roundw
                  case rel => exact ⟨j + 1, by go_num, by omega, hn1, hown1, hwr⟩
                  case measure => simp [intOf]; omega
                · have hb : ((j : Int) == ((n : Nat) : Int)) = false := by simp; omega
                  have hg := bt_get s j hlt
                  have hr := bt_range s j
                  have hjl : j < s.data.toList.length := by rw [list_len]; exact hlt
                  have hnx := er_next (L := s.data.toList) (n := n) hjl hjn
                  have hbx : bt s j = ((s.data.toList[j]).toNat : Int) := by
                    unfold bt
                    rw [List.getD_eq_getElem?_getD, List.getElem?_eq_getElem hjl]
                    rfl
                  obtain ⟨x, hx⟩ : ∃ x, bt s j = x := ⟨_, rfl⟩
                  rw [hx] at hg hr hbx
                  have HX := Lib.hid hx; have HBX := Lib.hid hbx; have HNX := Lib.hid hnx; have HJN := Lib.hid hjn
                  clear hx hbx hnx hjn
                  by_cases hd : 48 ≤ x ∧ x ≤ 57
                  · have hn1 : Hid (∀ t, t < j + 1 → t ≠ n → 48 ≤ bt s t ∧ bt s t ≤ 57) := fun t ht hne => by
                      rcases Nat.lt_or_ge t j with h | h
                      · exact hall.out t h hne
                      · obtain rfl : t = j := by omega
                        rw [HX.out]; exact hd
                    have hlen : (((s.data.toList.take j).eraseIdx n).map sub48).length ≤ 100 := by
                      rw [List.length_map]
                      have := List.length_eraseIdx_le (s.data.toList.take j) (n)
                      have : (s.data.toList.take j).length ≤ j := by simp; omega
                      omega
                    have hxs : x - 48 = ((sub48 s.data.toList[j]).toNat : Int) := by rw [sub48_nat _ (by have := HBX.out; omega), ← HBX.out]
                    have HXS := Lib.hid hxs
                    clear hxs
                    have hmp : ((s.data.toList.take (j + 1)).eraseIdx n).map sub48 = ((s.data.toList.take j).eraseIdx n).map sub48 ++ [sub48 s.data.toList[j]] := by rw [HNX.out, List.map_append]; rfl
                    have HMP := Lib.hid hmp
                    clear hmp HNX
                    generalize ((s.data.toList.take j).eraseIdx n).map sub48 = D at *
                    generalize s.data.toList[j] = bj at *
                    go_wp2_with (first | (go_at_call 54; (with_reducible refine (rdig_yes _ hd _).mono ?_); rintro e w' ⟨rfl, rfl⟩) | (
                      at_builtin; refine wpList_append_c rfl (.tmp 52) (.tmp 57) 65 rfl w.heap.size 5 (.int .u8 0) 1 1 Tryd.underlying65 infoByte rfl (by decide) _ _ _ rfl (hown.out.al _) ⟨wr.heap.size, 0, none⟩ 1 1 [.int .u8 (x - 48)] rfl rfl (cell_one _ _ _) (by intro u hu; simp at hu; subst hu; rfl) (by unfold maxLen; omega) (by omega) (by simp; omega) ?_
                      ))
                    intro v' w3 hown' hgrow
                    have hown3 := Lib.hid (OwnB.snoc HXS.out rfl hown')
                    have hwr3 := (hwr.alloc (by omega) _).grown hgrow (by simp; omega) hown.out.lt
                    clear hown' hgrow hown
                    go_wp2
                    go_roundw
                    case rel => exact ⟨j + 1, by go_num, by omega, hn1, by show OwnB _ _ _ _; rw [HMP.out]; exact hown3.out, hwr3⟩
                    case measure => simp [intOf]; omega
                  · have hno : Hid (Un.frB s.data.toList k = false) := by
                      show _ = _
                      rw [HF.out, HER.out, HHD.out]
                      exact er_not hlt HJN.out (by rw [HX.out]; exact hd)
                    go_wp2_with (go_at_call 54; (with_reducible refine (rdig_no _ hd _).mono ?_); rintro e w' ⟨rfl, rfl⟩)
                    go_ret2
                    exact ⟨.inl ⟨hno.out, rfl⟩, hwr⟩
              · have hyes : Hid (Un.frB s.data.toList k = true) := by
                  show _ = _
                  rw [HF.out, HER.out, HHD.out]
                  exact er_all (fun t ht hne => hall.out t (by omega) hne)
                have hown1 := hown.out
                rw [List.take_of_length_le (by rw [list_len]; omega), ← HHD.out, ← HER.out] at hown1
                have HO := Lib.hid hown1
                clear hown1 hown
                go_wp2_with fail
                go_ret2
                exact ⟨.inr ⟨hyes.out, _, rfl, HO.out⟩, hwr⟩
        · have q4 : (x != 46) = true := by simpa using q3
          have hno := Lib.hid (fr_none (L := s.data.toList) (k := k) (.inr (.inl ⟨HK0.out, by
            rw [HHD.out]
            intro e
            exact q3 (by rw [← HX.out]; exact (bt_eq (n := 46) (by omega)).2 e)⟩)))
          clear q3
          by_cases q5 : c = 48
          · have q1 : (c == 48) = true := by simp [q5]
            have q2 : ¬ (1 : Int) < (n : Int) := by omega
            clear q q5
            go_enter Tryd.func49, Tryd.ntmps49
            go_wp2_with fail
            go_ret2
            exact ⟨.inl ⟨hno.out, rfl⟩, Below.refl _ _⟩
          · have q1 : (c == 48) = false := by simpa using q5
            clear q q5
            go_enter Tryd.func49, Tryd.ntmps49
            go_wp2_with fail
            go_ret2
            exact ⟨.inl ⟨hno.out, rfl⟩, Below.refl _ _⟩
end Go.Proofs.YtieafjbngealoaaDoor
