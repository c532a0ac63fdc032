/- The reference's Parse. -/
import Derived.Test.YtieafjbngealoaaDoorZ3
namespace Go.Proofs.YtieafjbngealoaaDoor
open Go.RowKit
set_option linter.unusedVariables false

theorem form_no (t : ByteArray) (k : Nat) (w : World) (hk9 : (k : Int) ≤ 9) (hs : (t.size : Int) ≤ 100) (h : Hid (Un.frB t.data.toList k = false)) :
    Calls Tryd.prog 49 #[.string t, .int .i64 k] w fun e w' => e = .returned (.tuple #[.slice none 0 0, .bool false]) ∧ Below w.heap.size w w' :=
  (form_any t k w hk9 hs).mono fun e w' ⟨he, hw⟩ => by
    refine ⟨?_, hw⟩
    rcases he with ⟨_, he⟩ | ⟨g, _⟩
    · exact he
    · rw [h.out] at g; exact absurd g (by simp)
def FmY (D : List UInt8) (w : World) (e : Ending) (w' : World) : Prop :=
  ∃ g c : Nat, e = .returned (.tuple #[.slice (some ⟨g, 0, none⟩) D.length c, .bool true]) ∧ (∀ j (hj : j < D.length), w'.cell? ⟨g, j, none⟩ = some (.int .u8 ((sub48 D[j]).toNat : Int))) ∧ Below w.heap.size w w'
theorem form_yes (t A : ByteArray) (k : Nat) (w : World) (hk9 : (k : Int) ≤ 9) (hs : (t.size : Int) ≤ 100) (h : Hid (Un.frB t.data.toList k = true)) (hA : Hid (A.data.toList = Un.frL t.data.toList k)) (h0 : A.size ≠ 0) :
    Calls Tryd.prog 49 #[.string t, .int .i64 k] w (FmY A.data.toList w) :=
  (form_any t k w hk9 hs).mono fun e w' ⟨he, hw⟩ => by
    rcases he with ⟨g, _⟩ | ⟨_, v, he, ho⟩
    · rw [h.out] at g; cases g
    · rw [← hA.out] at ho
      obtain ⟨g, c, hv, _, _, hc⟩ := ho.form (by
        intro e
        have := congrArg List.length e
        rw [List.length_map, list_len] at this
        exact h0 this)
      rw [List.length_map] at hv
      refine ⟨g, c, by rw [he, hv], fun j hj => ?_, hw⟩
      have := hc j (by rw [List.length_map]; exact hj)
      rw [List.getElem_map] at this
      exact this
theorem dig_val {A : ByteArray} (h : A.data.toList.all Un.isDg = true) {j : Nat} (hj : j < A.data.toList.length) : ((sub48 A.data.toList[j]).toNat : Int) = bt A j - 48 := by
  have h1 := vl_dig h (j := j) (by rw [← list_len]; exact hj)
  have h2 : bt A j = (A.data.toList[j].toNat : Int) := by
    unfold bt
    rw [List.getD_eq_getElem?_getD, List.getElem?_eq_getElem hj]
    rfl
  rw [sub48_nat _ (by omega), h2]
theorem back_neg (v : Int) (h0 : 1 ≤ v) (h1 : v ≤ 9223372036854775808) : -(v - 1) - 1 = -v := by omega

theorem fr_size {L : List UInt8} {k : Nat} {A : ByteArray} (h : Un.frB L k = true) (hA : A.data.toList = Un.frL L k) (hl : L.length ≤ 100) : A.size ≠ 0 ∧ A.size ≤ 100 := by
  have h1 : 1 ≤ Un.hd L k := by
    simp only [Un.frB, Bool.and_eq_true, decide_eq_true_eq] at h
    exact h.1.1.1
  have h2 := Un.frL_length h1
  rw [← hA, list_len] at h2
  have h3 : Un.hd L k + k ≤ 100 := by
    unfold Un.hd at *
    split at h1
    · rename_i h0; rw [if_pos h0]; omega
    · rename_i h0; rw [if_neg h0]; omega
  omega
/-- What the reference's loop keeps. -/
structure RpI (A : ByteArray) (j : Nat) (u : Int) (o z : Bool) : Prop where
  u0 : 0 ≤ u
  u1 : u ≤ 9223372036854775808
  zr : z = decide (vl A j = 0)
  no : o = false → u = vl A j
  yes : o = true → 9223372036854775808 < vl A j
theorem RpI.start (A : ByteArray) : RpI A 0 0 false true := ⟨by omega, by omega, by rw [vl_zero]; rfl, fun _ => (vl_zero A).symm, fun h => by cases h⟩
theorem RpI.over {A : ByteArray} {j : Nat} {u y : Int} {z z' : Bool} (h : RpI A j u true z) (hs : vl A (j + 1) = 10 * vl A j + y) (hy : 0 ≤ y) (hz : z' = (z && (y == 0))) : RpI A (j + 1) u true z' := by
  obtain ⟨a, b, c, d, e⟩ := h
  have e' := e rfl
  refine ⟨a, b, ?_, (fun g => by cases g), fun _ => by rw [hs]; omega⟩
  rw [hz, c, hs]
  have : decide (vl A j = 0) = false := decide_eq_false (by omega)
  rw [this]
  symm
  rw [Bool.false_and]
  exact decide_eq_false (by omega)
theorem RpI.past {A : ByteArray} {j : Nat} {u y : Int} {z z' : Bool} (h : RpI A j u false z) (hs : vl A (j + 1) = 10 * vl A j + y) (hy : 0 ≤ y ∧ y ≤ 9) (hz : z' = (z && (y == 0))) (hg : (9223372036854775808 - y) / 10 < u) : RpI A (j + 1) u true z' := by
  obtain ⟨a, b, c, d, e⟩ := h
  have d' := d rfl
  refine ⟨a, b, ?_, (fun g => by cases g), fun _ => by rw [hs]; omega⟩
  rw [hz, c, hs]
  have : decide (vl A j = 0) = false := decide_eq_false (by omega)
  rw [this]
  symm
  rw [Bool.false_and]
  exact decide_eq_false (by omega)
theorem RpI.next {A : ByteArray} {j : Nat} {u y : Int} {z z' : Bool} (h : RpI A j u false z) (hs : vl A (j + 1) = 10 * vl A j + y) (hy : 0 ≤ y ∧ y ≤ 9) (hz : z' = (z && (y == 0))) (hg : ¬ (9223372036854775808 - y) / 10 < u) : RpI A (j + 1) (10 * u + y) false z' := by
  obtain ⟨a, b, c, d, e⟩ := h
  have d' := d rfl
  refine ⟨by omega, by omega, ?_, (fun _ => by rw [hs, ← d']), fun g => by cases g⟩
  rw [hz, c, hs, ← d']
  by_cases g1 : u = 0
  · subst g1
    by_cases g2 : y = 0
    · subst g2; rfl
    · have e1 : (y == 0) = false := by simpa using g2
      rw [e1, Bool.and_false]
      exact (decide_eq_false (by omega)).symm
  · rw [decide_eq_false g1, Bool.false_and]
    exact (decide_eq_false (by omega)).symm

/-- Parse's result, of the reference. -/
def RpR (s : ByteArray) (k : Nat) (w : World) (e : Ending) (w' : World) : Prop :=
  e = .returned (.tuple #[.int .i64 (Un.paV s.data.toList k), .int .i64 (Un.paE s.data.toList k)]) ∧ Below w.heap.size w w'
theorem RpR.of {s : ByteArray} {k : Nat} {w w' : World} {v x : Int} (h : Un.paV s.data.toList k = v ∧ Un.paE s.data.toList k = x) (hb : Below w.heap.size w w') : RpR s k w (.returned (.tuple #[.int .i64 v, .int .i64 x])) w' :=
  ⟨by rw [h.1, h.2], hb⟩
set_option maxHeartbeats 8000000 in
theorem rparse_neg (s t : ByteArray) (k : Nat) (d : Int) (w : World) (hs : (s.size : Int) ≤ 100) (hk9 : (k : Int) ≤ 9) (HC : Hid (Un.clV d 0 9 = (k : Int))) (h0 : s.size ≠ 0) (hn : Un.ngB s.data.toList = true) :
    Calls Tryd.prog 40 #[.string s, .int .i64 d] w (RpR s k w) := by
  obtain ⟨he1, he2⟩ := toList_some h0
  have HNE : Hid (s.data.toList ≠ []) := fun e => h0 (by rw [← list_len, e]; rfl)
  have HN := Lib.hid hn
  have z2 : 0 < s.size := by omega
  have z3 : (0 : Int) < (s.size : Int) := by omega
  have hg := bt_get s 0 z2
  have hc45 : bt s 0 = 45 := by
    refine (bt_eq (n := 45) (by omega)).2 ?_
    unfold Un.ngB at hn
    simp only [decide_eq_true_eq] at hn
    rw [List.getD_eq_getElem?_getD, ← List.head?_eq_getElem?, hn]
    rfl
  rw [hc45] at hg
  have hT : (s.extract 1 s.size).data.toList = Un.tlT s.data.toList := by
    rw [cut_list, List.take_of_length_le (by rw [list_len]; omega)]
    unfold Un.ngB at hn
    simp only [decide_eq_true_eq] at hn
    unfold Un.tlT
    rw [if_pos hn]
    simp
  have HT := Lib.hid hT
  have hts : ((s.extract 1 s.size).size : Int) ≤ 100 := by
    have : (s.extract 1 s.size).size ≤ s.size := by
      rw [← list_len, hT, ← list_len]
      unfold Un.tlT
      split <;> simp
    omega
  have hL1 : (1 : Int) ≤ (s.size : Int) := by omega
  clear hT hn hc45 h0
  cases hfr : Un.frB (Un.tlT s.data.toList) k with
  | false =>
    have hno := Lib.hid (pa_form HNE.out hfr)
    have HF : Hid (Un.frB (s.extract 1 s.size).data.toList k = false) := by show _ = _; rw [HT.out]; exact hfr
    clear hfr
    go_enter Tryd.func40, Tryd.ntmps40
    go_wp2_with fail
    generalize s.extract 1 s.size = t at *
    (with_reducible refine (rclamp_eq _ _ _ _ HC _).mono ?_)
    rintro e w1 ⟨rfl, rfl⟩
    go_wp2_with fail
    (with_reducible refine (form_no _ _ _ hk9 hts HF).mono ?_)
    rintro e w1 ⟨rfl, hb⟩
    go_wp2_with fail
    go_ret2
    exact RpR.of hno.out hb
  | true =>
    have HF := Lib.hid hfr
    have HF2 : Hid (Un.frB (s.extract 1 s.size).data.toList k = true) := by show _ = _; rw [HT.out]; exact hfr
    obtain ⟨A, hA⟩ : ∃ A : ByteArray, A.data.toList = Un.frL (s.extract 1 s.size).data.toList k := ⟨⟨(Un.frL (s.extract 1 s.size).data.toList k).toArray⟩, rfl⟩
    have HA := Lib.hid hA
    have HD : Hid (A.data.toList.all Un.isDg = true) := by show _ = _; rw [hA]; exact fr_digits HF2.out
    have hA0 := fr_size HF2.out hA (by rw [← list_len] at hts; omega)
    have hA1 := hA0.1
    have hA2 : (A.data.toList.length : Int) ≤ 100 := by rw [list_len]; omega
    have HL : Hid ((Un.lim s.data.toList : Int) = 9223372036854775808) := by show _ = _; unfold Un.lim; rw [HN.out]; rfl
    clear hA hfr hA0
    go_enter Tryd.func40, Tryd.ntmps40
    go_wp2_with fail
    generalize s.extract 1 s.size = t at *
    (with_reducible refine (rclamp_eq _ _ _ _ HC _).mono ?_)
    rintro e w1 ⟨rfl, rfl⟩
    go_wp2_with fail
    (with_reducible refine (form_yes _ _ _ _ hk9 hts HF2 HA hA1).mono ?_)
    rintro e w1 ⟨g, c, rfl, hcl, hb⟩
    have HCL := Lib.hid hcl
    have HB := Lib.hid hb
    clear hcl hb
    go_wp2_with fail
    go_loop [9, 10, 11, 12] (fun a b c i => ∃ (j : Nat) (u : Int) (o z : Bool), i = .int .i64 j ∧ j ≤ A.data.toList.length ∧ a = .int .u64 u ∧ b = .bool o ∧ c = .bool z ∧ Hid (RpI A j u o z)) (fun _ _ _ i => A.data.toList.length - (intOf i).toNat)
    case atStart => exact ⟨0, 0, false, true, rfl, by omega, rfl, rfl, rfl, RpI.start A⟩
    case round =>
      obtain ⟨j, u, o, z, rfl, hj, rfl, rfl, rfl, hI⟩ := hrel
      by_cases hlt : j < A.data.toList.length
      · have hcl := HCL.out j hlt
        have hdv := dig_val HD.out hlt
        have hjs : j < A.size := by rw [← list_len]; exact hlt
        have hr := vl_dig HD.out hjs
        have hst := vl_step hjs hr
        rw [← hdv] at hst
        obtain ⟨y, hyy⟩ : ∃ y : Int, ((sub48 A.data.toList[j]).toNat : Int) = y := ⟨_, rfl⟩
        rw [hyy] at hcl hst hdv
        have hy : 0 ≤ y ∧ y ≤ 9 := by omega
        have HST := Lib.hid hst
        clear hst hdv hr hyy hjs
        have zk : (j : Int) < (A.data.toList.length : Int) := by omega
        cases hy0 : (y == 0) with
        | true =>
          cases z with
          | true =>
            cases o with
            | true =>
              have hI2 := Lib.hid (hI.out.over HST.out hy.1 (z' := true) (by simp [hy0]))
              go_wp2_with fail
              go_round
              case rel => exact ⟨j + 1, _, _, _, by go_num, by omega, rfl, rfl, rfl, hI2⟩
              case measure => simp [intOf]; omega
            | false =>
              have hu0 := hI.out.u0
              have hu1 := hI.out.u1
              by_cases g : (9223372036854775808 - y) / 10 < u
              · have hI2 := Lib.hid (hI.out.past HST.out hy (z' := true) (by simp [hy0]) g)
                go_wp2_with fail
                go_round
                case rel => exact ⟨j + 1, _, _, _, by go_num, by omega, rfl, rfl, rfl, hI2⟩
                case measure => simp [intOf]; omega
              · have hI2 := Lib.hid (hI.out.next HST.out hy (z' := true) (by simp [hy0]) g)
                have hg2 : 10 * u + y ≤ 9223372036854775808 := by omega
                go_wp2_with fail
                go_round
                case rel => exact ⟨j + 1, _, _, _, by go_num, by omega, rfl, rfl, rfl, hI2⟩
                case measure => simp [intOf]; omega
          | false =>
            cases o with
            | true =>
              have hI2 := Lib.hid (hI.out.over HST.out hy.1 (z' := false) (by simp [hy0]))
              go_wp2_with fail
              go_round
              case rel => exact ⟨j + 1, _, _, _, by go_num, by omega, rfl, rfl, rfl, hI2⟩
              case measure => simp [intOf]; omega
            | false =>
              have hu0 := hI.out.u0
              have hu1 := hI.out.u1
              by_cases g : (9223372036854775808 - y) / 10 < u
              · have hI2 := Lib.hid (hI.out.past HST.out hy (z' := false) (by simp [hy0]) g)
                go_wp2_with fail
                go_round
                case rel => exact ⟨j + 1, _, _, _, by go_num, by omega, rfl, rfl, rfl, hI2⟩
                case measure => simp [intOf]; omega
              · have hI2 := Lib.hid (hI.out.next HST.out hy (z' := false) (by simp [hy0]) g)
                have hg2 : 10 * u + y ≤ 9223372036854775808 := by omega
                go_wp2_with fail
                go_round
                case rel => exact ⟨j + 1, _, _, _, by go_num, by omega, rfl, rfl, rfl, hI2⟩
                case measure => simp [intOf]; omega
        | false =>
          cases z with
          | true =>
            cases o with
            | true =>
              have hI2 := Lib.hid (hI.out.over HST.out hy.1 (z' := false) (by simp [hy0]))
              go_wp2_with fail
              go_round
              case rel => exact ⟨j + 1, _, _, _, by go_num, by omega, rfl, rfl, rfl, hI2⟩
              case measure => simp [intOf]; omega
            | false =>
              have hu0 := hI.out.u0
              have hu1 := hI.out.u1
              by_cases g : (9223372036854775808 - y) / 10 < u
              · have hI2 := Lib.hid (hI.out.past HST.out hy (z' := false) (by simp [hy0]) g)
                go_wp2_with fail
                go_round
                case rel => exact ⟨j + 1, _, _, _, by go_num, by omega, rfl, rfl, rfl, hI2⟩
                case measure => simp [intOf]; omega
              · have hI2 := Lib.hid (hI.out.next HST.out hy (z' := false) (by simp [hy0]) g)
                have hg2 : 10 * u + y ≤ 9223372036854775808 := by omega
                go_wp2_with fail
                go_round
                case rel => exact ⟨j + 1, _, _, _, by go_num, by omega, rfl, rfl, rfl, hI2⟩
                case measure => simp [intOf]; omega
          | false =>
            cases o with
            | true =>
              have hI2 := Lib.hid (hI.out.over HST.out hy.1 (z' := false) (by simp [hy0]))
              go_wp2_with fail
              go_round
              case rel => exact ⟨j + 1, _, _, _, by go_num, by omega, rfl, rfl, rfl, hI2⟩
              case measure => simp [intOf]; omega
            | false =>
              have hu0 := hI.out.u0
              have hu1 := hI.out.u1
              by_cases g : (9223372036854775808 - y) / 10 < u
              · have hI2 := Lib.hid (hI.out.past HST.out hy (z' := false) (by simp [hy0]) g)
                go_wp2_with fail
                go_round
                case rel => exact ⟨j + 1, _, _, _, by go_num, by omega, rfl, rfl, rfl, hI2⟩
                case measure => simp [intOf]; omega
              · have hI2 := Lib.hid (hI.out.next HST.out hy (z' := false) (by simp [hy0]) g)
                have hg2 : 10 * u + y ≤ 9223372036854775808 := by omega
                go_wp2_with fail
                go_round
                case rel => exact ⟨j + 1, _, _, _, by go_num, by omega, rfl, rfl, rfl, hI2⟩
                case measure => simp [intOf]; omega
      · have he := vl_all A j (by rw [← list_len]; omega)
        rw [HA.out, HT.out] at he
        have hz := hI.out.zr; have hno := hI.out.no; have hov := hI.out.yes
        rw [he] at hz hno hov
        have hu0 := hI.out.u0; have hu1 := hI.out.u1
        have HZ := Lib.hid hz; have HNO := Lib.hid hno; have HOV := Lib.hid hov
        clear hI he hz hno hov
        obtain ⟨V, hV⟩ : ∃ V : Nat, Un.valL (Un.frL (Un.tlT s.data.toList) k) = V := ⟨_, rfl⟩
        rw [hV] at HZ HNO HOV
        by_cases hV0 : V = 0
        · have hres := Lib.hid (pa_minus HNE.out HF.out HN.out (by rw [hV]; exact hV0))
          have hzt : z = true := by rw [HZ.out, hV0]; rfl
          subst hzt
          clear hV hV0 HZ HNO HOV
          go_wp2_with fail
          go_ret2
          exact RpR.of hres.out HB.out
        · have hzf : z = false := by rw [HZ.out]; exact decide_eq_false (by omega)
          subst hzf
          cases o with
          | true =>
            have hres := Lib.hid (pa_over HNE.out HF.out (by rw [hV]; have := HOV.out rfl; have := HL.out; omega))
            clear hV hV0 HZ HNO HOV
            go_wp2_with fail
            go_ret2
            exact RpR.of hres.out HB.out
          | false =>
            have hu : u = (V : Int) := HNO.out rfl
            have hres := Lib.hid (pa_neg HNE.out HF.out HN.out (by rw [hV]; exact hV0) (by rw [hV]; have := HL.out; omega))
            have hu2 : 1 ≤ u := by omega
            have HU := Lib.hid hu
            have HV := Lib.hid hV
            clear hu hV hV0 HZ HNO HOV
            by_cases hm : 9223372036854775807 < u
            all_goals
              go_wp2_with fail
              go_ret2
              exact RpR.of ⟨by rw [hres.out.1, HV.out, ← HU.out]; omega, hres.out.2⟩ HB.out
set_option maxHeartbeats 8000000 in
theorem rparse_pos (s : ByteArray) (k : Nat) (d : Int) (w : World) (hs : (s.size : Int) ≤ 100) (hk9 : (k : Int) ≤ 9) (HC : Hid (Un.clV d 0 9 = (k : Int))) (h0 : s.size ≠ 0) (hn : Un.ngB s.data.toList = false) :
    Calls Tryd.prog 40 #[.string s, .int .i64 d] w (RpR s k w) := by
  obtain ⟨he1, he2⟩ := toList_some h0
  have HNE : Hid (s.data.toList ≠ []) := fun e => h0 (by rw [← list_len, e]; rfl)
  have HN := Lib.hid hn
  have z2 : 0 < s.size := by omega
  have z3 : (0 : Int) < (s.size : Int) := by omega
  have hg := bt_get s 0 z2
  have hh : ¬ s.data.toList.head? = some 45 := by
    unfold Un.ngB at hn
    simpa using hn
  have hc45 : bt s 0 ≠ 45 := by
    intro e
    have := (bt_eq (n := 45) (by omega)).1 e
    apply hh
    rw [List.head?_eq_getElem?]
    have hl : 0 < s.data.toList.length := by rw [list_len]; exact z2
    rw [List.getD_eq_getElem?_getD, List.getElem?_eq_getElem hl] at this
    rw [List.getElem?_eq_getElem hl]
    exact congrArg some this
  have hr := bt_range s 0
  obtain ⟨c, hc⟩ : ∃ c, bt s 0 = c := ⟨_, rfl⟩
  rw [hc] at hg hr hc45
  have hc2 : (c == 45) = false := by simpa using hc45
  have hT : s.data.toList = Un.tlT s.data.toList := by
    unfold Un.tlT
    rw [if_neg hh]
  have HT := Lib.hid hT
  clear hT hn hc45 h0 hh hc
  cases hfr : Un.frB (Un.tlT s.data.toList) k with
  | false =>
    have hno := Lib.hid (pa_form HNE.out hfr)
    have HF : Hid (Un.frB s.data.toList k = false) := by show _ = _; rw [HT.out]; exact hfr
    clear hfr
    go_enter Tryd.func40, Tryd.ntmps40
    go_wp2_with fail
    skip
    (with_reducible refine (rclamp_eq _ _ _ _ HC _).mono ?_)
    rintro e w1 ⟨rfl, rfl⟩
    go_wp2_with fail
    (with_reducible refine (form_no _ _ _ hk9 hs HF).mono ?_)
    rintro e w1 ⟨rfl, hb⟩
    go_wp2_with fail
    go_ret2
    exact RpR.of hno.out hb
  | true =>
    have HF := Lib.hid hfr
    have HF2 : Hid (Un.frB s.data.toList k = true) := by show _ = _; rw [HT.out]; exact hfr
    obtain ⟨A, hA⟩ : ∃ A : ByteArray, A.data.toList = Un.frL s.data.toList k := ⟨⟨(Un.frL s.data.toList k).toArray⟩, rfl⟩
    have HA := Lib.hid hA
    have HD : Hid (A.data.toList.all Un.isDg = true) := by show _ = _; rw [hA]; exact fr_digits HF2.out
    have hA0 := fr_size HF2.out hA (by rw [list_len]; omega)
    have hA1 := hA0.1
    have hA2 : (A.data.toList.length : Int) ≤ 100 := by rw [list_len]; omega
    have HL : Hid ((Un.lim s.data.toList : Int) = 9223372036854775807) := by show _ = _; unfold Un.lim; rw [HN.out]; rfl
    clear hA hfr hA0
    go_enter Tryd.func40, Tryd.ntmps40
    go_wp2_with fail
    skip
    (with_reducible refine (rclamp_eq _ _ _ _ HC _).mono ?_)
    rintro e w1 ⟨rfl, rfl⟩
    go_wp2_with fail
    (with_reducible refine (form_yes _ _ _ _ hk9 hs HF2 HA hA1).mono ?_)
    rintro e w1 ⟨g, c, rfl, hcl, hb⟩
    have HCL := Lib.hid hcl
    have HB := Lib.hid hb
    clear hcl hb
    go_wp2_with fail
    go_loop [9, 10, 11, 12] (fun a b c i => ∃ (j : Nat) (u : Int) (o z : Bool), i = .int .i64 j ∧ j ≤ A.data.toList.length ∧ a = .int .u64 u ∧ b = .bool o ∧ c = .bool z ∧ Hid (RpI A j u o z)) (fun _ _ _ i => A.data.toList.length - (intOf i).toNat)
    case atStart => exact ⟨0, 0, false, true, rfl, by omega, rfl, rfl, rfl, RpI.start A⟩
    case round =>
      obtain ⟨j, u, o, z, rfl, hj, rfl, rfl, rfl, hI⟩ := hrel
      by_cases hlt : j < A.data.toList.length
      · have hcl := HCL.out j hlt
        have hdv := dig_val HD.out hlt
        have hjs : j < A.size := by rw [← list_len]; exact hlt
        have hr := vl_dig HD.out hjs
        have hst := vl_step hjs hr
        rw [← hdv] at hst
        obtain ⟨y, hyy⟩ : ∃ y : Int, ((sub48 A.data.toList[j]).toNat : Int) = y := ⟨_, rfl⟩
        rw [hyy] at hcl hst hdv
        have hy : 0 ≤ y ∧ y ≤ 9 := by omega
        have HST := Lib.hid hst
        clear hst hdv hr hyy hjs
        have zk : (j : Int) < (A.data.toList.length : Int) := by omega
        cases hy0 : (y == 0) with
        | true =>
          cases z with
          | true =>
            cases o with
            | true =>
              have hI2 := Lib.hid (hI.out.over HST.out hy.1 (z' := true) (by simp [hy0]))
              go_wp2_with fail
              go_round
              case rel => exact ⟨j + 1, _, _, _, by go_num, by omega, rfl, rfl, rfl, hI2⟩
              case measure => simp [intOf]; omega
            | false =>
              have hu0 := hI.out.u0
              have hu1 := hI.out.u1
              by_cases g : (9223372036854775808 - y) / 10 < u
              · have hI2 := Lib.hid (hI.out.past HST.out hy (z' := true) (by simp [hy0]) g)
                go_wp2_with fail
                go_round
                case rel => exact ⟨j + 1, _, _, _, by go_num, by omega, rfl, rfl, rfl, hI2⟩
                case measure => simp [intOf]; omega
              · have hI2 := Lib.hid (hI.out.next HST.out hy (z' := true) (by simp [hy0]) g)
                have hg2 : 10 * u + y ≤ 9223372036854775808 := by omega
                go_wp2_with fail
                go_round
                case rel => exact ⟨j + 1, _, _, _, by go_num, by omega, rfl, rfl, rfl, hI2⟩
                case measure => simp [intOf]; omega
          | false =>
            cases o with
            | true =>
              have hI2 := Lib.hid (hI.out.over HST.out hy.1 (z' := false) (by simp [hy0]))
              go_wp2_with fail
              go_round
              case rel => exact ⟨j + 1, _, _, _, by go_num, by omega, rfl, rfl, rfl, hI2⟩
              case measure => simp [intOf]; omega
            | false =>
              have hu0 := hI.out.u0
              have hu1 := hI.out.u1
              by_cases g : (9223372036854775808 - y) / 10 < u
              · have hI2 := Lib.hid (hI.out.past HST.out hy (z' := false) (by simp [hy0]) g)
                go_wp2_with fail
                go_round
                case rel => exact ⟨j + 1, _, _, _, by go_num, by omega, rfl, rfl, rfl, hI2⟩
                case measure => simp [intOf]; omega
              · have hI2 := Lib.hid (hI.out.next HST.out hy (z' := false) (by simp [hy0]) g)
                have hg2 : 10 * u + y ≤ 9223372036854775808 := by omega
                go_wp2_with fail
                go_round
                case rel => exact ⟨j + 1, _, _, _, by go_num, by omega, rfl, rfl, rfl, hI2⟩
                case measure => simp [intOf]; omega
        | false =>
          cases z with
          | true =>
            cases o with
            | true =>
              have hI2 := Lib.hid (hI.out.over HST.out hy.1 (z' := false) (by simp [hy0]))
              go_wp2_with fail
              go_round
              case rel => exact ⟨j + 1, _, _, _, by go_num, by omega, rfl, rfl, rfl, hI2⟩
              case measure => simp [intOf]; omega
            | false =>
              have hu0 := hI.out.u0
              have hu1 := hI.out.u1
              by_cases g : (9223372036854775808 - y) / 10 < u
              · have hI2 := Lib.hid (hI.out.past HST.out hy (z' := false) (by simp [hy0]) g)
                go_wp2_with fail
                go_round
                case rel => exact ⟨j + 1, _, _, _, by go_num, by omega, rfl, rfl, rfl, hI2⟩
                case measure => simp [intOf]; omega
              · have hI2 := Lib.hid (hI.out.next HST.out hy (z' := false) (by simp [hy0]) g)
                have hg2 : 10 * u + y ≤ 9223372036854775808 := by omega
                go_wp2_with fail
                go_round
                case rel => exact ⟨j + 1, _, _, _, by go_num, by omega, rfl, rfl, rfl, hI2⟩
                case measure => simp [intOf]; omega
          | false =>
            cases o with
            | true =>
              have hI2 := Lib.hid (hI.out.over HST.out hy.1 (z' := false) (by simp [hy0]))
              go_wp2_with fail
              go_round
              case rel => exact ⟨j + 1, _, _, _, by go_num, by omega, rfl, rfl, rfl, hI2⟩
              case measure => simp [intOf]; omega
            | false =>
              have hu0 := hI.out.u0
              have hu1 := hI.out.u1
              by_cases g : (9223372036854775808 - y) / 10 < u
              · have hI2 := Lib.hid (hI.out.past HST.out hy (z' := false) (by simp [hy0]) g)
                go_wp2_with fail
                go_round
                case rel => exact ⟨j + 1, _, _, _, by go_num, by omega, rfl, rfl, rfl, hI2⟩
                case measure => simp [intOf]; omega
              · have hI2 := Lib.hid (hI.out.next HST.out hy (z' := false) (by simp [hy0]) g)
                have hg2 : 10 * u + y ≤ 9223372036854775808 := by omega
                go_wp2_with fail
                go_round
                case rel => exact ⟨j + 1, _, _, _, by go_num, by omega, rfl, rfl, rfl, hI2⟩
                case measure => simp [intOf]; omega
      · have he := vl_all A j (by rw [← list_len]; omega)
        rw [HA.out, HT.out] at he
        have hz := hI.out.zr; have hno := hI.out.no; have hov := hI.out.yes
        rw [he] at hz hno hov
        have hu0 := hI.out.u0; have hu1 := hI.out.u1
        have HZ := Lib.hid hz; have HNO := Lib.hid hno; have HOV := Lib.hid hov
        clear hI he hz hno hov
        obtain ⟨V, hV⟩ : ∃ V : Nat, Un.valL (Un.frL (Un.tlT s.data.toList) k) = V := ⟨_, rfl⟩
        rw [hV] at HZ HNO HOV
        cases o with
        | true =>
          have hres := Lib.hid (pa_over HNE.out HF.out (by rw [hV]; have := HOV.out rfl; have := HL.out; omega))
          clear hV HZ HNO HOV
          go_wp2_with fail
          go_ret2
          exact RpR.of hres.out HB.out
        | false =>
          have hu : u = (V : Int) := HNO.out rfl
          by_cases hm : 9223372036854775807 < u
          · have hres := Lib.hid (pa_over HNE.out HF.out (by rw [hV]; have := HL.out; omega))
            clear hu hV HZ HNO HOV
            go_wp2_with fail
            go_ret2
            exact RpR.of hres.out HB.out
          · have hres := Lib.hid (pa_pos HNE.out HF.out HN.out (by rw [hV]; have := HL.out; omega))
            have HU := Lib.hid hu
            have HV := Lib.hid hV
            clear hu hV HZ HNO HOV
            go_wp2_with fail
            go_ret2
            exact RpR.of ⟨by rw [hres.out.1, HV.out, ← HU.out], hres.out.2⟩ HB.out
theorem rparse_any (s : ByteArray) (d : Int) (w : World) (hs : (s.size : Int) ≤ 100) :
    Calls Tryd.prog 40 #[.string s, .int .i64 d] w (RpR s (Un.clV d 0 9).toNat w) := by
  have hcr := Un.clV_range (n := d) (l := 0) (h := 9) (by omega)
  obtain ⟨k, hk⟩ : ∃ k : Nat, Un.clV d 0 9 = (k : Int) := ⟨(Un.clV d 0 9).toNat, by omega⟩
  rw [hk] at hcr ⊢
  rw [Int.toNat_natCast]
  have HC := Lib.hid hk
  clear hk
  by_cases h0 : s.size = 0
  · have he := toList_none h0
    have hno := Lib.hid (pa_short (L := s.data.toList) (k := k) (List.eq_nil_of_length_eq_zero (by rw [list_len, h0])))
    clear h0
    go_enter Tryd.func40, Tryd.ntmps40
    go_wp2_with fail
    go_ret2
    exact RpR.of hno.out (Below.refl _ _)
  · cases hn : Un.ngB s.data.toList with
    | true => exact rparse_neg s ⟨#[]⟩ k d w hs hcr.2 HC h0 hn
    | false => exact rparse_pos s k d w hs hcr.2 HC h0 hn
end Go.Proofs.YtieafjbngealoaaDoor
