/- The reference's Decimal. -/
import Derived.Test.YtcefmnkfkpoccaaDoorQZ1
import Derived.Test.YtcefmnkfkpoccaaDoorQB
import Derived.Laws.IdiomCopy
namespace Go.Proofs.YtcefmnkfkpoccaaDoor.Zz
open Go.RowKit
set_option linter.unusedVariables false

theorem cell_one (w : World) (v : Value) (t : TypeId) : ∀ j u, [v][j]? = some u → (w.alloc (.cells #[v] t)).cell? ((⟨w.heap.size, 0, none⟩ : Addr).add j) = some u := by
  intro j u h
  cases j with
  | zero => simp at h; subst h; simp [Addr.add]
  | succ j => simp at h
theorem rsize_eq (n : Int) (m : Nat) (hm : Hid (n.natAbs = m)) (w : World) (h0 : -9223372036854775808 ≤ n) (h1 : n ≤ 9223372036854775807) :
    Calls Tryd.prog 87 #[.int .i64 n] w fun e w' => e = .returned (.int .u64 m) ∧ w = w' := by
  have := size_any n w h0 h1
  rw [hm.out] at this
  exact this
theorem bk_len (m k i : Nat) : (Un.bkL m k i).length ≤ 2 * i := by
  induction i with
  | zero => simp [Un.bkL]
  | succ i ih =>
    simp only [Un.bkL, List.length_append, List.length_singleton]
    split <;> simp <;> omega
theorem cnt_go {m k i : Nat} (h : 0 < m / 10 ^ i ∨ i ≤ k) : i < Un.cnt m k := by
  rcases h with h | h
  · have : 10 ^ i ≤ m := by
      rcases Nat.lt_or_ge m (10 ^ i) with g | g
      · rw [Nat.div_eq_of_lt g] at h; omega
      · exact g
    have := Un.lt_nd this
    unfold Un.cnt
    omega
  · unfold Un.cnt; omega
theorem cnt_end {m k i : Nat} (h0 : m / 10 ^ i = 0) (h : ¬ i ≤ k) : Un.cnt m k ≤ i := by
  have : m < 10 ^ i := by
    rcases Nat.lt_or_ge m (10 ^ i) with g | g
    · exact g
    · have := (Nat.one_le_div_iff (Nat.pow_pos (n := i) (show 0 < 10 by omega))).2 g
      omega
  have := Un.nd_le (c := i) (by omega) this
  unfold Un.cnt
  omega
theorem dig_cast {m i U : Nat} (h : m / 10 ^ i = U) : 48 + (U : Int) % 10 = ((Lib.dg m i).toNat : Int) := by
  rw [Un.dg_toNat, h]
  omega
theorem u_next {m i U : Nat} (h : m / 10 ^ i = U) : (U : Int) / 10 = ((m / 10 ^ (i + 1) : Nat) : Int) := by
  rw [Nat.pow_succ, ← Nat.div_div_eq_div_mul, h]
  omega

set_option maxHeartbeats 4000000 in
theorem rdecimal_any (n d : Int) (w : World) (h0 : -9223372036854775808 ≤ n) (h1 : n ≤ 9223372036854775807) :
    Calls Tryd.prog 75 #[.int .i64 n, .int .i64 d] w fun e w' => e = .returned (.string ⟨(Un.decT n (Un.clV d 0 9).toNat).toArray⟩) ∧ Below w.heap.size w w' := by
  have hcr := Un.clV_range (n := d) (l := 0) (h := 9) (by omega)
  obtain ⟨k, hk⟩ : ∃ k : Nat, Un.clV d 0 9 = (k : Int) := ⟨(Un.clV d 0 9).toNat, by omega⟩
  rw [hk] at hcr ⊢
  rw [Int.toNat_natCast]
  have HC := Lib.hid hk
  clear hk
  obtain ⟨m, hm⟩ : ∃ m : Nat, n.natAbs = m := ⟨_, rfl⟩
  have hm64 : m < 18446744073709551616 := by omega
  have HM := Lib.hid hm
  clear hm
  have hcn : Un.cnt m k ≤ 20 := by have := Lib.nDigits_le20 m hm64; unfold Un.cnt; omega
  generalize hcc : Un.cnt m k = C at hcn
  have HCC := Lib.hid hcc
  clear hcc
  go_enter Tryd.func75, Tryd.ntmps75
  go_wp2_with fail
  (with_reducible refine (rclamp_eq _ _ _ _ HC _).mono ?_)
  rintro e w1 ⟨rfl, rfl⟩
  go_wp2_with fail
  (with_reducible refine (rsize_eq _ _ HM _ h0 h1).mono ?_)
  rintro e w1 ⟨rfl, rfl⟩
  go_wp2_with fail
  go_loopw [6, 7, 8] (fun u v i wr => ∃ I U : Nat, i = .int .i64 I ∧ I ≤ C ∧ u = .int .u64 U ∧ Hid (m / 10 ^ I = U) ∧ Hid (OwnB wr w.heap.size v (Un.bkL m k I)) ∧ Below w.heap.size w wr) (fun _ _ i _ => C - (intOf i).toNat)
  case atStart => exact ⟨0, m, rfl, by omega, rfl, by show _ = _; simp, OwnB.nil _ _, Below.refl _ _⟩
  case round =>
    obtain ⟨I, U, rfl, hI, rfl, hU, hown, hwr⟩ := hrel
    have hU64 : (U : Int) ≤ 18446744073709551615 := by have := hU.out; have := Nat.div_le_self m (10 ^ I); omega
    have hsz := hwr.size
    have hlen := bk_len m k I
    by_cases hgo : 0 < U ∨ I ≤ k
    · have hlt : I < C := by rw [← HCC.out]; exact cnt_go (by rw [hU.out]; exact hgo)
      have hdg := Lib.hid (dig_cast hU.out)
      have hun := Lib.hid (u_next hU.out)
      have hb1 : Un.bkL m k (I + 1) = Un.bkL m k I ++ (if I = k ∧ 0 < k then [46] else []) ++ [Lib.dg m I] := rfl
      have HB1 := Lib.hid hb1
      clear hb1
      generalize Un.bkL m k I = L at *
      by_cases hik : I = k ∧ 0 < k
      · obtain ⟨rfl, hk0⟩ := hik
        have hk1 : (0 : Int) < (I : Int) := by omega
        have hL1 : Hid (Un.bkL m I (I + 1) = L ++ [46] ++ [Lib.dg m I]) := by show _ = _; rw [HB1.out, if_pos ⟨rfl, hk0⟩]
        clear hgo HB1
        by_cases hU0 : 0 < U
        · have hU1 : (0 : Int) < (U : Int) := by omega
          go_wp2_with (first | (
            at_builtin; refine wpList_append_c rfl (.tmp 31) (.tmp 32) 39 rfl w.heap.size 5 (.int .u8 0) 1 1 Tryd.underlying39 infoByte rfl (by decide) _ _ _ rfl (hown.out.al _) ⟨wr.heap.size, 0, none⟩ 1 1 [.int .u8 (46)] rfl rfl (cell_one _ _ _) (by intro u hu; simp at hu; subst hu; rfl) (by unfold maxLen; omega) (by omega) (by simp; omega) ?_
            intro v1 w1 hown' hgrow
            have hown1 := Lib.hid (OwnB.snoc (b := 46) rfl rfl hown')
            have hwr1 := (hwr.alloc (by omega) _).grown hgrow (by simp; omega) hown.out.lt
            have hsz1 := hwr1.size
            have hlen1 : (L ++ [46]).length ≤ 41 := by rw [List.length_append]; simp; omega
            clear hown' hgrow hown hwr) | (
            at_builtin; refine wpList_append_c rfl (.tmp 34) (.tmp 39) 39 rfl w.heap.size 5 (.int .u8 0) 1 1 Tryd.underlying39 infoByte rfl (by decide) _ _ _ rfl (hown1.out.al _) ⟨w1.heap.size, 0, none⟩ 1 1 [.int .u8 (48 + (U : Int) % 10)] rfl rfl (cell_one _ _ _) (by intro u hu; simp at hu; subst hu; rfl) (by unfold maxLen; omega) (by omega) (by simp; omega) ?_
            ))
          intro v' w2 hown' hgrow
          have hown2 := Lib.hid (OwnB.snoc (l := L ++ [46]) hdg.out (by simp) hown')
          have hwr2 := (hwr1.alloc (by omega) _).grown hgrow (by simp; omega) hown1.out.lt
          clear hown' hgrow hown1
          go_wp2
          go_roundw
          case rel => exact ⟨I + 1, _, by go_num, by omega, by rw [hun.out], by show _ = _; rfl, by show OwnB _ _ _ _; rw [hL1.out]; exact hown2.out, hwr2⟩
          case measure => simp [intOf]; omega
        · have hU1 : ¬ (0 : Int) < (U : Int) := by omega
          go_wp2_with (first | (
            at_builtin; refine wpList_append_c rfl (.tmp 31) (.tmp 32) 39 rfl w.heap.size 5 (.int .u8 0) 1 1 Tryd.underlying39 infoByte rfl (by decide) _ _ _ rfl (hown.out.al _) ⟨wr.heap.size, 0, none⟩ 1 1 [.int .u8 (46)] rfl rfl (cell_one _ _ _) (by intro u hu; simp at hu; subst hu; rfl) (by unfold maxLen; omega) (by omega) (by simp; omega) ?_
            intro v1 w1 hown' hgrow
            have hown1 := Lib.hid (OwnB.snoc (b := 46) rfl rfl hown')
            have hwr1 := (hwr.alloc (by omega) _).grown hgrow (by simp; omega) hown.out.lt
            have hsz1 := hwr1.size
            have hlen1 : (L ++ [46]).length ≤ 41 := by rw [List.length_append]; simp; omega
            clear hown' hgrow hown hwr) | (
            at_builtin; refine wpList_append_c rfl (.tmp 34) (.tmp 39) 39 rfl w.heap.size 5 (.int .u8 0) 1 1 Tryd.underlying39 infoByte rfl (by decide) _ _ _ rfl (hown1.out.al _) ⟨w1.heap.size, 0, none⟩ 1 1 [.int .u8 (48 + (U : Int) % 10)] rfl rfl (cell_one _ _ _) (by intro u hu; simp at hu; subst hu; rfl) (by unfold maxLen; omega) (by omega) (by simp; omega) ?_
            ))
          intro v' w2 hown' hgrow
          have hown2 := Lib.hid (OwnB.snoc (l := L ++ [46]) hdg.out (by simp) hown')
          have hwr2 := (hwr1.alloc (by omega) _).grown hgrow (by simp; omega) hown1.out.lt
          clear hown' hgrow hown1
          go_wp2
          go_roundw
          case rel => exact ⟨I + 1, _, by go_num, by omega, by rw [hun.out], by show _ = _; rfl, by show OwnB _ _ _ _; rw [hL1.out]; exact hown2.out, hwr2⟩
          case measure => simp [intOf]; omega
      · have hL1 : Hid (Un.bkL m k (I + 1) = L ++ [Lib.dg m I]) := by show _ = _; rw [HB1.out, if_neg hik]; simp
        clear HB1
        by_cases hq : I = k
        · obtain rfl := hq
          have hk1 : ¬ (0 : Int) < (I : Int) := by omega
          have hk2 : ¬ 0 < I := by omega
          have hII : (I : Int) ≤ (I : Int) := by omega
          clear hik hgo
          by_cases hU0 : 0 < U
          · have hU1 : (0 : Int) < (U : Int) := by omega
            go_wp2_with (
              at_builtin; refine wpList_append_c rfl (.tmp 34) (.tmp 39) 39 rfl w.heap.size 5 (.int .u8 0) 1 1 Tryd.underlying39 infoByte rfl (by decide) _ _ _ rfl (hown.out.al _) ⟨wr.heap.size, 0, none⟩ 1 1 [.int .u8 (48 + (U : Int) % 10)] rfl rfl (cell_one _ _ _) (by intro u hu; simp at hu; subst hu; rfl) (by unfold maxLen; omega) (by omega) (by simp; omega) ?_
              )
            intro v' w2 hown' hgrow
            have hown2 := Lib.hid (OwnB.snoc hdg.out rfl hown')
            have hwr2 := (hwr.alloc (by omega) _).grown hgrow (by simp; omega) hown.out.lt
            clear hown' hgrow hown
            go_wp2
            go_roundw
            case rel => exact ⟨I + 1, _, by go_num, by omega, by rw [hun.out], by show _ = _; rfl, by show OwnB _ _ _ _; rw [hL1.out]; exact hown2.out, hwr2⟩
            case measure => simp [intOf]; omega
          · have hU1 : ¬ (0 : Int) < (U : Int) := by omega
            go_wp2_with (
              at_builtin; refine wpList_append_c rfl (.tmp 34) (.tmp 39) 39 rfl w.heap.size 5 (.int .u8 0) 1 1 Tryd.underlying39 infoByte rfl (by decide) _ _ _ rfl (hown.out.al _) ⟨wr.heap.size, 0, none⟩ 1 1 [.int .u8 (48 + (U : Int) % 10)] rfl rfl (cell_one _ _ _) (by intro u hu; simp at hu; subst hu; rfl) (by unfold maxLen; omega) (by omega) (by simp; omega) ?_
              )
            intro v' w2 hown' hgrow
            have hown2 := Lib.hid (OwnB.snoc hdg.out rfl hown')
            have hwr2 := (hwr.alloc (by omega) _).grown hgrow (by simp; omega) hown.out.lt
            clear hown' hgrow hown
            go_wp2
            go_roundw
            case rel => exact ⟨I + 1, _, by go_num, by omega, by rw [hun.out], by show _ = _; rfl, by show OwnB _ _ _ _; rw [hL1.out]; exact hown2.out, hwr2⟩
            case measure => simp [intOf]; omega
        · have hq1 : ((I : Int) == (k : Int)) = false := by simp; omega
          clear hik
          by_cases hU0 : 0 < U
          · have hU1 : (0 : Int) < (U : Int) := by omega
            clear hgo
            go_wp2_with (
              at_builtin; refine wpList_append_c rfl (.tmp 34) (.tmp 39) 39 rfl w.heap.size 5 (.int .u8 0) 1 1 Tryd.underlying39 infoByte rfl (by decide) _ _ _ rfl (hown.out.al _) ⟨wr.heap.size, 0, none⟩ 1 1 [.int .u8 (48 + (U : Int) % 10)] rfl rfl (cell_one _ _ _) (by intro u hu; simp at hu; subst hu; rfl) (by unfold maxLen; omega) (by omega) (by simp; omega) ?_
              )
            intro v' w2 hown' hgrow
            have hown2 := Lib.hid (OwnB.snoc hdg.out rfl hown')
            have hwr2 := (hwr.alloc (by omega) _).grown hgrow (by simp; omega) hown.out.lt
            clear hown' hgrow hown
            go_wp2
            go_roundw
            case rel => exact ⟨I + 1, _, by go_num, by omega, by rw [hun.out], by show _ = _; rfl, by show OwnB _ _ _ _; rw [hL1.out]; exact hown2.out, hwr2⟩
            case measure => simp [intOf]; omega
          · have hU1 : ¬ (0 : Int) < (U : Int) := by omega
            have hIk : (I : Int) ≤ (k : Int) := by omega
            clear hgo
            go_wp2_with (
              at_builtin; refine wpList_append_c rfl (.tmp 34) (.tmp 39) 39 rfl w.heap.size 5 (.int .u8 0) 1 1 Tryd.underlying39 infoByte rfl (by decide) _ _ _ rfl (hown.out.al _) ⟨wr.heap.size, 0, none⟩ 1 1 [.int .u8 (48 + (U : Int) % 10)] rfl rfl (cell_one _ _ _) (by intro u hu; simp at hu; subst hu; rfl) (by unfold maxLen; omega) (by omega) (by simp; omega) ?_
              )
            intro v' w2 hown' hgrow
            have hown2 := Lib.hid (OwnB.snoc hdg.out rfl hown')
            have hwr2 := (hwr.alloc (by omega) _).grown hgrow (by simp; omega) hown.out.lt
            clear hown' hgrow hown
            go_wp2
            go_roundw
            case rel => exact ⟨I + 1, _, by go_num, by omega, by rw [hun.out], by show _ = _; rfl, by show OwnB _ _ _ _; rw [hL1.out]; exact hown2.out, hwr2⟩
            case measure => simp [intOf]; omega
    · have hIC : I = C := by
        have := cnt_end (m := m) (k := k) (i := I) (by rw [hU.out]; omega) (by omega)
        rw [HCC.out] at this
        omega
      have hU1 : ¬ (0 : Int) < (U : Int) := by omega
      have hU0 : ¬ 0 < U := by omega
      have hIk : ¬ (I : Int) ≤ (k : Int) := by omega
      have hIk' : ¬ I ≤ k := by omega
      have hbody := Un.bk_body m k
      rw [HCC.out, ← hIC] at hbody
      have hlen2 : (Un.bkL m k I).length ≤ 40 := by omega
      have hne : Un.bkL m k I ≠ [] := by
        intro e
        rw [e] at hbody
        have := (Un.body_form m k).2.2.2
        exact this hbody.symm
      generalize Un.bkL m k I = L at *
      have HBY := Lib.hid hbody
      clear hbody hgo hIC hlen hI
      by_cases hn : n < 0
      · have hT : Hid ((L ++ [45]).reverse = Un.decT n k) := by
          show _ = _
          rw [List.reverse_append, HBY.out, ← HM.out]
          simp [Un.decT, hn]
        go_wp2_with (
          at_builtin; refine wpList_append_c rfl (.tmp 45) (.tmp 46) 39 rfl w.heap.size 5 (.int .u8 0) 1 1 Tryd.underlying39 infoByte rfl (by decide) _ _ _ rfl (hown.out.al _) ⟨wr.heap.size, 0, none⟩ 1 1 [.int .u8 (45)] rfl rfl (cell_one _ _ _) (by intro u hu; simp at hu; subst hu; rfl) (by unfold maxLen; omega) (by omega) (by simp; omega) ?_
          )
        intro v1 w1 hown' hgrow
        have hown1 := OwnB.snoc (b := 45) rfl rfl hown'
        have hwr1 := (hwr.alloc (by omega) _).grown hgrow (by simp; omega) hown.out.lt
        have hlen3 : (L ++ [45]).length ≤ 41 := by rw [List.length_append]; simp; omega
        have hne2 : L ++ [45] ≠ [] := by simp
        clear hown' hgrow hown hwr hne hlen2
        generalize L ++ [45] = M at *
        obtain ⟨g, cp, rfl, hg, hg2, hcell⟩ := hown1.form hne2
        have hM0 : 0 < M.length := List.length_pos_iff.2 hne2
        have HCELL := Lib.hid hcell
        have hM1 : (0 : Int) < (M.length : Int) := by omega
        have hM2 : (M.length : Int) ≤ 41 := by omega
        clear hcell hown1
        obtain ⟨R, hR⟩ : ∃ R, M.reverse = R := ⟨_, rfl⟩
        have hRl : R.length = M.length := by rw [← hR]; simp
        have hRM : ∀ r j (h1 : r + 1 + j = M.length) (h2 : r < M.length) (h3 : j < R.length), R[j] = M[r] := by
          intro r j h1 h2 h3
          subst hR
          rw [List.getElem_reverse]
          congr 1
          omega
        have HRM := Lib.hid hRM
        have HRL := Lib.hid hRl
        rw [hR] at hT
        have hB0 : OwnB w1 w1.heap.size (.slice none 0 0) (R.take 0) := by rw [List.take_zero]; exact OwnB.nil _ _
        have HB0 := Lib.hid hB0
        clear hR hRl hRM hB0
        go_wp2_with fail
        go_loopw [9, 10] (fun v i wr => ∃ r j : Nat, i = .int .i64 ((r : Int) - 1) ∧ r + j = M.length ∧ Hid (OwnB wr w1.heap.size v (R.take j)) ∧ Below w1.heap.size w1 wr) (fun _ i _ => (intOf i + 1).toNat)
        case atStart => exact ⟨M.length, 0, rfl, by omega, HB0, Below.refl _ _⟩
        case round =>
          obtain ⟨r, j, rfl, hrj, hown, hwr2⟩ := hrel
          have hsz2 := hwr2.size
          cases r with
          | zero =>
            have hj : R.take j = R := List.take_of_length_le (by have := HRL.out; omega)
            have hown2 := hown.out
            rw [hj] at hown2
            obtain ⟨g', c', rfl, _, _, hcell⟩ := hown2.form (by intro e; rw [e] at HRL; have := HRL.out; simp at this; omega)
            have hcv := conv_row (c := c') hcell
            clear hcell hown2 hown hj
            rw [show ((0 : Nat) : Int) - 1 = -1 from rfl]
            go_wp2_with fail
            go_ret
            exact ⟨ret_str (by rw [hT.out]), hwr1.trans (hwr2.mono hwr1.size)⟩
          | succ r =>
            have hr1 : r < M.length := by omega
            have hj1 : j < R.length := by have := HRL.out; omega
            have hcl := HCELL.out r hr1
            rw [← hwr2.cell (p := ⟨g, r, none⟩) hg2] at hcl
            have hRj := HRM.out r j (by omega) hr1 hj1
            have htk := List.take_succ_eq_append_getElem hj1
            rw [hRj] at htk
            have hlt : (R.take j).length ≤ 41 := by have := HRL.out; simp; omega
            generalize M[r] = b at *
            have HTK := Lib.hid htk
            generalize R.take j = Rj at *
            obtain ⟨x, hx⟩ : ∃ x : Int, (b.toNat : Int) = x := ⟨_, rfl⟩
            rw [hx] at hcl
            have HX := Lib.hid hx
            clear hRj htk hx hj1
            rw [show ((r + 1 : Nat) : Int) - 1 = (r : Int) by omega]
            have hrI : (r : Int) < (M.length : Int) := by omega
            go_wp2_with (
              at_builtin; refine wpList_append_c rfl (.tmp 55) (.tmp 60) 39 rfl w1.heap.size 5 (.int .u8 0) 1 1 Tryd.underlying39 infoByte rfl (by decide) _ _ _ rfl (hown.out.al _) ⟨wr.heap.size, 0, none⟩ 1 1 [.int .u8 (x)] rfl rfl (cell_one _ _ _) (by intro u hu; simp at hu; subst hu; rfl) (by unfold maxLen; omega) (by omega) (by simp; omega) ?_
              )
            intro v' w3 hown' hgrow
            have hown3 := Lib.hid (OwnB.snoc HX.out.symm rfl hown')
            have hwr3 := (hwr2.alloc (by omega) _).grown hgrow (by simp; omega) hown.out.lt
            clear hown' hgrow hown
            go_wp2
            go_roundw
            case rel => exact ⟨r, j + 1, rfl, by omega, by show OwnB _ _ _ _; rw [HTK.out]; exact hown3.out, hwr3⟩
            case measure => first | (simp [intOf]; done) | (simp [intOf]; omega)
      · have hT : Hid (L.reverse = Un.decT n k) := by
          show _ = _
          rw [HBY.out, ← HM.out]
          simp [Un.decT, hn]
        have hown1 := hown.out
        have hwr1 := hwr
        have hlen3 : L.length ≤ 41 := by omega
        have hne2 := hne
        clear hown hwr hne hlen2
        generalize L = M at *
        obtain ⟨w1, hw1⟩ : ∃ w1, w1 = wr := ⟨_, rfl⟩
        subst hw1
        obtain ⟨g, cp, rfl, hg, hg2, hcell⟩ := hown1.form hne2
        have hM0 : 0 < M.length := List.length_pos_iff.2 hne2
        have HCELL := Lib.hid hcell
        have hM1 : (0 : Int) < (M.length : Int) := by omega
        have hM2 : (M.length : Int) ≤ 41 := by omega
        clear hcell hown1
        obtain ⟨R, hR⟩ : ∃ R, M.reverse = R := ⟨_, rfl⟩
        have hRl : R.length = M.length := by rw [← hR]; simp
        have hRM : ∀ r j (h1 : r + 1 + j = M.length) (h2 : r < M.length) (h3 : j < R.length), R[j] = M[r] := by
          intro r j h1 h2 h3
          subst hR
          rw [List.getElem_reverse]
          congr 1
          omega
        have HRM := Lib.hid hRM
        have HRL := Lib.hid hRl
        rw [hR] at hT
        have hB0 : OwnB w1 w1.heap.size (.slice none 0 0) (R.take 0) := by rw [List.take_zero]; exact OwnB.nil _ _
        have HB0 := Lib.hid hB0
        clear hR hRl hRM hB0
        go_wp2_with fail
        go_loopw [9, 10] (fun v i wr => ∃ r j : Nat, i = .int .i64 ((r : Int) - 1) ∧ r + j = M.length ∧ Hid (OwnB wr w1.heap.size v (R.take j)) ∧ Below w1.heap.size w1 wr) (fun _ i _ => (intOf i + 1).toNat)
        case atStart => exact ⟨M.length, 0, rfl, by omega, HB0, Below.refl _ _⟩
        case round =>
          obtain ⟨r, j, rfl, hrj, hown, hwr2⟩ := hrel
          have hsz2 := hwr2.size
          cases r with
          | zero =>
            have hj : R.take j = R := List.take_of_length_le (by have := HRL.out; omega)
            have hown2 := hown.out
            rw [hj] at hown2
            obtain ⟨g', c', rfl, _, _, hcell⟩ := hown2.form (by intro e; rw [e] at HRL; have := HRL.out; simp at this; omega)
            have hcv := conv_row (c := c') hcell
            clear hcell hown2 hown hj
            rw [show ((0 : Nat) : Int) - 1 = -1 from rfl]
            go_wp2_with fail
            go_ret
            exact ⟨ret_str (by rw [hT.out]), hwr1.trans (hwr2.mono hwr1.size)⟩
          | succ r =>
            have hr1 : r < M.length := by omega
            have hj1 : j < R.length := by have := HRL.out; omega
            have hcl := HCELL.out r hr1
            rw [← hwr2.cell (p := ⟨g, r, none⟩) hg2] at hcl
            have hRj := HRM.out r j (by omega) hr1 hj1
            have htk := List.take_succ_eq_append_getElem hj1
            rw [hRj] at htk
            have hlt : (R.take j).length ≤ 41 := by have := HRL.out; simp; omega
            generalize M[r] = b at *
            have HTK := Lib.hid htk
            generalize R.take j = Rj at *
            obtain ⟨x, hx⟩ : ∃ x : Int, (b.toNat : Int) = x := ⟨_, rfl⟩
            rw [hx] at hcl
            have HX := Lib.hid hx
            clear hRj htk hx hj1
            rw [show ((r + 1 : Nat) : Int) - 1 = (r : Int) by omega]
            have hrI : (r : Int) < (M.length : Int) := by omega
            go_wp2_with (
              at_builtin; refine wpList_append_c rfl (.tmp 55) (.tmp 60) 39 rfl w1.heap.size 5 (.int .u8 0) 1 1 Tryd.underlying39 infoByte rfl (by decide) _ _ _ rfl (hown.out.al _) ⟨wr.heap.size, 0, none⟩ 1 1 [.int .u8 (x)] rfl rfl (cell_one _ _ _) (by intro u hu; simp at hu; subst hu; rfl) (by unfold maxLen; omega) (by omega) (by simp; omega) ?_
              )
            intro v' w3 hown' hgrow
            have hown3 := Lib.hid (OwnB.snoc HX.out.symm rfl hown')
            have hwr3 := (hwr2.alloc (by omega) _).grown hgrow (by simp; omega) hown.out.lt
            clear hown' hgrow hown
            go_wp2
            go_roundw
            case rel => exact ⟨r, j + 1, rfl, by omega, by show OwnB _ _ _ _; rw [HTK.out]; exact hown3.out, hwr3⟩
            case measure => first | (simp [intOf]; done) | (simp [intOf]; omega)
end Go.Proofs.YtcefmnkfkpoccaaDoor.Zz
