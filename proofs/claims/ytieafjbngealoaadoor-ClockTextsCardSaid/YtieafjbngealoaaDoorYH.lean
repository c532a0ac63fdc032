/- The reference's Parse of a time; the walk of ClockTexts. -/
import Derived.Test.YtieafjbngealoaaDoorYG
namespace Go.Proofs.YtieafjbngealoaaDoor
open Go.RowKit
set_option linter.unusedVariables false
theorem pa_cases (D : List UInt8) : (Ck.dyB D = true ∧ Un.paE D 0 = 0 ∧ Un.paV D 0 = (Un.valL D : Int) ∧ Un.valL D ≤ 1099511627776) ∨ (Ck.dyB D = false ∧ (Un.paE D 0 ≠ 0 ∨ Un.paV D 0 < 0 ∨ 1099511627776 < Un.paV D 0)) := by
  by_cases h : D = []
  · have := (pa_short (L := D) (k := 0) h).2
    subst h
    exact .inr ⟨rfl, .inl (by omega)⟩
  cases hn : Un.ngB D with
  | true =>
    refine .inr ⟨dy_form ?_, ?_⟩
    · cases hf : Un.frB D 0 with
      | false => rfl
      | true =>
        exfalso
        simp only [Un.frB, Bool.and_eq_true] at hf
        have hd := hf.2
        rw [frl_zero] at hd
        unfold Un.ngB at hn
        simp only [decide_eq_true_eq] at hn
        cases D with
        | nil => cases hn
        | cons a r =>
          simp at hn
          subst hn
          simp [Un.isDg] at hd
    · cases hf : Un.frB (Un.tlT D) 0 with
      | false => have := (pa_form h hf).2; exact .inl (by omega)
      | true =>
        by_cases ho : Un.lim D < Un.valL (Un.frL (Un.tlT D) 0)
        · have := (pa_over h hf ho).2; exact .inl (by omega)
        · by_cases hz : Un.valL (Un.frL (Un.tlT D) 0) = 0
          · have := (pa_minus h hf hn hz).2; exact .inl (by omega)
          · have := (pa_neg h hf hn hz ho).1; exact .inr (.inl (by omega))
  | false =>
    have ht : Un.tlT D = D := by
      unfold Un.ngB at hn
      simp only [decide_eq_false_iff_not] at hn
      unfold Un.tlT
      rw [if_neg hn]
    cases hf : Un.frB D 0 with
    | false => have := (pa_form (L := D) (k := 0) h (by rw [ht]; exact hf)).2; exact .inr ⟨dy_form hf, .inl (by omega)⟩
    | true =>
      have hf2 : Un.frB (Un.tlT D) 0 = true := by rw [ht]; exact hf
      have hl : Un.lim D = 9223372036854775807 := by unfold Un.lim; rw [hn]; rfl
      by_cases ho : Un.lim D < Un.valL (Un.frL (Un.tlT D) 0)
      · have := (pa_over h hf2 ho).2
        rw [ht, frl_zero] at ho
        exact .inr ⟨dy_great (by omega), .inl (by omega)⟩
      · obtain ⟨e1, e2⟩ := pa_pos h hf2 hn ho
        rw [ht, frl_zero] at e1
        by_cases hg : 1099511627776 < Un.valL D
        · exact .inr ⟨dy_great hg, .inr (.inr (by omega))⟩
        · refine .inl ⟨?_, e2, e1, by omega⟩
          unfold Ck.dyB
          rw [hf, decide_eq_true (by omega)]
          rfl
theorem rpc_char {s : ByteArray} {n : Nat} (hs : s.size = n + 6) (hn : 1 ≤ n) (h0 : bt s 0 = 100) :
    Ck.pcB s.data.toList = (decide (bt s n = 32) && decide (bt s (n + 3) = 58) && Ck.dyB (s.extract 1 n).data.toList && prB (bt s (n + 1)) (bt s (n + 2)) 24 && prB (bt s (n + 4)) (bt s (n + 5)) 60) ∧
    (Ck.pcB s.data.toList = true → (Ck.pcN s.data.toList : Int) = (Un.valL (s.extract 1 n).data.toList : Int) * 1440 + (10 * (bt s (n + 1) - 48) + (bt s (n + 2) - 48)) * 60 + (10 * (bt s (n + 4) - 48) + (bt s (n + 5) - 48))) := by
  obtain ⟨e, rfl⟩ : ∃ e, n = e + 1 := ⟨n - 1, by omega⟩
  have hL0 : s.data.toList.length = e + 7 := by rw [list_len]; omega
  obtain ⟨T, hT⟩ : ∃ T : ByteArray, T.data.toList = s.data.toList.tail := ⟨⟨s.data.toList.tail.toArray⟩, rfl⟩
  have hL : s.data.toList = 100 :: T.data.toList := by
    rw [hT]
    cases q : s.data.toList with
    | nil => rw [q] at hL0; simp at hL0
    | cons x l =>
      have : (x.toNat : Int) = 100 := by unfold bt at h0; rw [q] at h0; exact h0
      have : x = 100 := UInt8.toNat_inj.1 (by show x.toNat = 100; omega)
      rw [this]
      rfl
  have hTs : T.size = e + 6 := by
    have := congrArg List.length hL
    rw [hL0, List.length_cons, list_len] at this
    omega
  have hb : ∀ j, bt T j = bt s (j + 1) := fun j => by unfold bt; rw [hL, List.getD_cons_succ]
  have hD : (T.extract 0 e).data.toList = (s.extract 1 (e + 1)).data.toList := by
    rw [cut_list, cut_list, hL, List.take_succ_cons]
    rfl
  have c1 := pc_char hL hTs
  have c2 := fun h => pc_num hL hTs h
  rw [hD, hb, hb, hb, hb, hb, hb] at c1
  rw [hD, hb, hb, hb, hb] at c2
  exact ⟨c1, c2⟩
theorem pr_rp (a b l : Int) (hl : 0 < l) : prB a b l = decide (0 ≤ rpV a b ∧ rpV a b < l) ∧ (prB a b l = true → 10 * (a - 48) + (b - 48) = rpV a b) := by
  unfold prB rpV
  by_cases h : 48 ≤ a ∧ a ≤ 57 ∧ 48 ≤ b ∧ b ≤ 57
  · rw [if_pos h, decide_eq_true h, Bool.true_and]
    refine ⟨?_, fun _ => rfl⟩
    by_cases g : 10 * (a - 48) + (b - 48) < l
    · rw [decide_eq_true g]; exact (decide_eq_true ⟨by omega, g⟩).symm
    · rw [decide_eq_false g]; exact (decide_eq_false fun q => g q.2).symm
  · rw [if_neg h, decide_eq_false h, Bool.false_and]
    exact ⟨(decide_eq_false (by omega)).symm, fun g => by cases g⟩
theorem rpar_eq (D : ByteArray) (v x : Int) (hv : Hid (Un.paV D.data.toList 0 = v)) (hx : Hid (Un.paE D.data.toList 0 = x)) (w : World) (hs : (D.size : Int) ≤ 100) :
    Calls Tryd.prog 40 #[.string D, .int .i64 0] w fun e w' => e = .returned (.tuple #[.int .i64 v, .int .i64 x]) ∧ Below w.heap.size w w' := by
  have e1 : (Un.clV 0 0 9).toNat = 0 := by decide +kernel
  refine (rparse_any D 0 w hs).mono fun e w' h => ⟨?_, h.2⟩
  rw [h.1, e1, hv.out, hx.out]
theorem rpair_q (a b : Int) (ha : 0 ≤ a ∧ a ≤ 255) (hb : 0 ≤ b ∧ b ≤ 255) (v : Int) (hv : Hid (rpV a b = v)) (w : World) :
    Calls Tryd.prog 41 #[.int .u8 a, .int .u8 b] w fun e w' => e = .returned (.int .i64 v) ∧ w' = w :=
  (rpair_any a b ha hb v hv w).mono fun e w' h => ⟨h.1, h.2.symm⟩
theorem below_dn {w u : World} (h : Below w.heap.size w u) (n : Nat) : Below w.heap.size w (u.drewN n) := below_drewN h n
set_option maxRecDepth 100000 in
set_option maxHeartbeats 8000000 in
theorem rparse07_any (s : ByteArray) (w : World) (hs : (s.size : Int) ≤ 100) : Calls Tryd.prog 27 #[.string s] w (PcR s w) := by
  by_cases h8 : s.size < 8
  · have hno : Hid (Ck.pcB s.data.toList = false) := by
      show _ = _
      unfold Ck.pcB
      rw [decide_eq_false, Bool.false_and, Bool.false_and, Bool.false_and, Bool.false_and, Bool.false_and, Bool.false_and]
      rw [list_len]
      omega
    have h8' : (s.size : Int) - 6 < 2 := by omega
    go_enter Tryd.func27, Tryd.ntmps27
    go_wp2_with fail
    go_ret2
    exact PcR.no hno.out (Below.refl _ _)
  obtain ⟨n, he⟩ : ∃ n : Nat, s.size = n + 6 := ⟨s.size - 6, by omega⟩
  have hn2 : 2 ≤ n := by omega
  have hni : (2 : Int) ≤ (n : Int) := by omega
  have hn100 : (n : Int) ≤ 94 := by omega
  have hcz : (s.size : Int) - 6 = (n : Int) := by omega
  have hce : (s.size : Int) = (n : Int) + 6 := by omega
  have z0 : 0 < s.size := by omega
  have z1 : n < s.size := by omega
  obtain ⟨n1, hn1⟩ : ∃ x, n + 1 = x := ⟨_, rfl⟩
  have z2 : n1 < s.size := by omega
  have y2 : (n1 : Int) < (n : Int) + 6 := by omega
  have x2 : (n1 : Int) < (s.size : Int) := by omega
  have k1 : IntKind.i64.wrap ((n : Int) + 1) = (n1 : Int) := by simp only [IntKind.wrap_i64]; omega
  obtain ⟨n2, hn2'⟩ : ∃ x, n + 2 = x := ⟨_, rfl⟩
  have z3 : n2 < s.size := by omega
  have y3 : (n2 : Int) < (n : Int) + 6 := by omega
  have x3 : (n2 : Int) < (s.size : Int) := by omega
  have k2 : IntKind.i64.wrap ((n : Int) + 2) = (n2 : Int) := by simp only [IntKind.wrap_i64]; omega
  have z4 : n + 3 < s.size := by omega
  obtain ⟨n4, hn4⟩ : ∃ x, n + 4 = x := ⟨_, rfl⟩
  have z5 : n4 < s.size := by omega
  have y5 : (n4 : Int) < (n : Int) + 6 := by omega
  have x5 : (n4 : Int) < (s.size : Int) := by omega
  have k4 : IntKind.i64.wrap ((n : Int) + 4) = (n4 : Int) := by simp only [IntKind.wrap_i64]; omega
  obtain ⟨n5, hn5⟩ : ∃ x, n + 5 = x := ⟨_, rfl⟩
  have z6 : n5 < s.size := by omega
  have y6 : (n5 : Int) < (n : Int) + 6 := by omega
  have x6 : (n5 : Int) < (s.size : Int) := by omega
  have k5 : IntKind.i64.wrap ((n : Int) + 5) = (n5 : Int) := by simp only [IntKind.wrap_i64]; omega
  have g0 := bt_get s 0 z0
  have g1 := bt_get s n z1
  have g2 := bt_get s n1 z2
  have g3 := bt_get s n2 z3
  have g4 := bt_get s (n + 3) z4
  have g5 := bt_get s n4 z5
  have g6 := bt_get s n5 z6
  have r0 := bt_range s 0
  have r1 := bt_range s n
  have r2 := bt_range s n1
  have r3 := bt_range s n2
  have r4 := bt_range s (n + 3)
  have r5 := bt_range s n4
  have r6 := bt_range s n5
  have hch := fun h => Lib.hid (rpc_char he (by omega) h)
  rw [hn1, hn2', hn4, hn5] at hch
  clear hn1 hn2' hn4 hn5
  have hno0 : bt s 0 ≠ 100 → Ck.pcB s.data.toList = false := fun h => by
    have : decide (Ck.gt s.data.toList 0 = 100) = false := decide_eq_false fun g => h (by
      unfold Ck.gt at g
      unfold bt
      omega)
    unfold Ck.pcB
    rw [this]
    simp
  have hds : ((s.extract 1 n).size : Int) ≤ 100 := by rw [cut_size _ _ _ (by omega)]; omega
  obtain ⟨D, hD⟩ : ∃ D, s.extract 1 n = D := ⟨_, rfl⟩
  rw [hD] at hch hds
  generalize bt s 0 = b0 at *
  generalize bt s n = b1 at *
  generalize bt s n1 = b2 at *
  generalize bt s n2 = b3 at *
  generalize bt s (n + 3) = b4 at *
  generalize bt s n4 = b5 at *
  generalize bt s n5 = b6 at *
  by_cases q0 : b0 = 100
  rotate_left
  · have q0' : (b0 != 100) = true := by simp [q0]
    have hno := Lib.hid (hno0 q0)
    clear hch hno0
    go_enter Tryd.func27, Tryd.ntmps27
    go_wp2_with fail
    go_ret2
    exact PcR.no hno.out (Below.refl _ _)
  have hcq := hch q0
  clear hno0 hch
  have q0' : (b0 != 100) = false := by simp [q0]
  by_cases q1 : b1 = 32
  rotate_left
  · have q1' : (b1 != 32) = true := by simp [q1]
    have hno : Hid (Ck.pcB s.data.toList = false) := by show _ = _; rw [hcq.out.1, decide_eq_false q1]; simp
    clear hcq
    go_enter Tryd.func27, Tryd.ntmps27
    go_wp2_with fail
    go_ret2
    exact PcR.no hno.out (Below.refl _ _)
  by_cases q4 : b4 = 58
  rotate_left
  · have q4' : (b4 != 58) = true := by simp [q4]
    have hno : Hid (Ck.pcB s.data.toList = false) := by show _ = _; rw [hcq.out.1, decide_eq_false q4]; simp
    clear hcq
    go_enter Tryd.func27, Tryd.ntmps27
    go_wp2_with fail
    go_ret2
    exact PcR.no hno.out (Below.refl _ _)
  have q1' : (b1 != 32) = false := by simp [q1]
  have q4' : (b4 != 58) = false := by simp [q4]
  have hpc := pa_cases D.data.toList
  obtain ⟨p1, p2⟩ := pr_rp b2 b3 24 (by omega)
  obtain ⟨p3, p4⟩ := pr_rp b5 b6 60 (by omega)
  obtain ⟨h, hh⟩ : ∃ h, rpV b2 b3 = h := ⟨_, rfl⟩
  obtain ⟨m, hm⟩ : ∃ h, rpV b5 b6 = h := ⟨_, rfl⟩
  obtain ⟨v, hv⟩ : ∃ h, Un.paV D.data.toList 0 = h := ⟨_, rfl⟩
  obtain ⟨x, hx⟩ : ∃ h, Un.paE D.data.toList 0 = h := ⟨_, rfl⟩
  rw [hh] at p1 p2
  rw [hm] at p3 p4
  rw [hv, hx] at hpc
  have HH := Lib.hid hh; have HM := Lib.hid hm; have HV := Lib.hid hv; have HX := Lib.hid hx
  have P1 := Lib.hid p1; have P2 := Lib.hid p2; have P3 := Lib.hid p3; have P4 := Lib.hid p4; have HPC := Lib.hid hpc
  clear hh hm hv hx p1 p2 p3 p4 hpc he h8
  have HB := Lib.hid (Below.refl w.heap.size w)
  go_enter Tryd.func27, Tryd.ntmps27
  go_wp2_with fail
  (with_reducible refine (rpar_eq D _ _ HV HX _ hds).mono ?_)
  rintro e u1 ⟨rfl, hb⟩
  have HB := Lib.hid (below_old HB.out hb)
  clear hb
  go_wp2_with fail
  go_quiet ((go_at_call 41; (first | (with_reducible exact Calls.quiet_of_same (rpair_q b2 b3 r2 r3 _ HH _)) | (with_reducible exact Calls.quiet_of_same (rpair_q b5 b6 r5 r6 _ HM _)))))
  clear k1 k2 k4 k5
  have HDN : Hid (x ≠ 0 ∨ v < 0 ∨ 1099511627776 < v → Ck.pcB s.data.toList = false) := fun g => by
    rcases HPC.out with ⟨_, a1, a2, a3⟩ | ⟨a1, _⟩
    · omega
    · rw [hcq.out.1, a1]; simp
  have HHN : Hid (h < 0 ∨ 23 < h → Ck.pcB s.data.toList = false) := fun g => by rw [hcq.out.1, P1.out, decide_eq_false (show ¬ (0 ≤ h ∧ h < 24) by omega)]; simp
  have HMN : Hid (m < 0 ∨ 59 < m → Ck.pcB s.data.toList = false) := fun g => by rw [hcq.out.1, P3.out, decide_eq_false (show ¬ (0 ≤ m ∧ m < 60) by omega)]; simp
  by_cases c1 : x = 0
  rotate_left
  · have c1' : (x != 0) = true := by simpa using c1
    have hno := Lib.hid (HDN.out (.inl c1))
    clear c1
    go_wp2_with fail
    go_ret2
    exact PcR.no hno.out (below_dn HB.out _)
  have c1' : (x != 0) = false := by simp [c1]
  by_cases c2 : v < 0
  · have hno := Lib.hid (HDN.out (.inr (.inl c2)))
    clear c1
    go_wp2_with fail
    go_ret2
    exact PcR.no hno.out (below_dn HB.out _)
  by_cases c3 : 1099511627776 < v
  · have hno := Lib.hid (HDN.out (.inr (.inr c3)))
    clear c1
    go_wp2_with fail
    go_ret2
    exact PcR.no hno.out (below_dn HB.out _)
  by_cases c4 : h < 0
  · have hno := Lib.hid (HHN.out (.inl c4))
    clear c1
    go_wp2_with fail
    go_ret2
    exact PcR.no hno.out (below_dn HB.out _)
  by_cases c5 : 23 < h
  · have hno := Lib.hid (HHN.out (.inr c5))
    clear c1
    go_wp2_with fail
    go_ret2
    exact PcR.no hno.out (below_dn HB.out _)
  by_cases c6 : m < 0
  · have hno := Lib.hid (HMN.out (.inl c6))
    clear c1
    go_wp2_with fail
    go_ret2
    exact PcR.no hno.out (below_dn HB.out _)
  by_cases c7 : 59 < m
  · have hno := Lib.hid (HMN.out (.inr c7))
    clear c1
    go_wp2_with fail
    go_ret2
    exact PcR.no hno.out (below_dn HB.out _)
  have hpB : Hid (Ck.pcB s.data.toList = true) := by
    show _ = _
    rcases HPC.out with ⟨a1, _⟩ | ⟨_, a1⟩
    · rw [hcq.out.1, a1, P1.out, P3.out, decide_eq_true q1, decide_eq_true q4, decide_eq_true (show 0 ≤ h ∧ h < 24 by omega), decide_eq_true (show 0 ≤ m ∧ m < 60 by omega)]
      rfl
    · omega
  have hpN : Hid ((Ck.pcN s.data.toList : Int) = v * 1440 + h * 60 + m) := by
    show _ = _
    rcases HPC.out with ⟨_, _, a2, _⟩ | ⟨_, a1⟩
    · have e1 := P2.out (by rw [P1.out]; exact decide_eq_true (by omega))
      have e2 := P4.out (by rw [P3.out]; exact decide_eq_true (by omega))
      rw [hcq.out.2 hpB.out, e1, e2, a2]
    · omega
  clear c1
  by_cases c8 : 10000000 < v
  · have hl : Hid (¬ (0 ≤ v * 1440 + h * 60 + m ∧ v * 1440 + h * 60 + m ≤ 10000000)) := by show ¬ _; omega
    go_wp2_with fail
    go_ret2
    exact PcR.late hpB.out hpN.out hl.out (below_dn HB.out _)
  by_cases ht : 0 ≤ v * 1440 + h * 60 + m ∧ v * 1440 + h * 60 + m ≤ 10000000
  · go_wp2_with fail
    (with_reducible refine (rtm_yes _ ht _).mono ?_)
    rintro e w1 ⟨rfl, rfl⟩
    go_wp2_with fail
    go_ret2
    exact PcR.yes hpB.out hpN.out ht (below_dn HB.out _)
  · go_wp2_with fail
    (with_reducible refine (rtm_no _ ht _).mono ?_)
    rintro e w1 ⟨rfl, rfl⟩
    go_wp2_with fail
    go_ret2
    exact PcR.late hpB.out hpN.out ht (below_dn HB.out _)
theorem rparse07_eq (s : ByteArray) (v x : Int) (hv : Hid (Ck.pcV s.data.toList = v)) (hx : Hid (Ck.pcE s.data.toList = x)) (w : World) (hs : (s.size : Int) ≤ 100) : Calls Tryd.prog 27 #[.string s] w fun e w' => e = .returned (.tuple #[.int .i64 v, .int .i64 x]) ∧ Below w.heap.size w w' :=
  (rparse07_any s w hs).mono fun e w' h => ⟨by rw [h.1, hv.out, hx.out], h.2⟩
theorem rformat_eq (t : Int) (T : ByteArray) (hT : Hid (Ck.fmT t = T.data.toList)) (w : World) : Calls Tryd.prog 29 #[.int .i64 t] w fun e w' => e = .returned (.string T) ∧ Below w.heap.size w w' :=
  (rformat_any t w).mono fun e w' h => ⟨by rw [h.1, hT.out, ← ba_eta], h.2⟩
set_option maxHeartbeats 2000000 in
theorem clockTexts_walk (t : Int) (s : ByteArray) (wt : (Lit.int .i64 t).wf = true) (hs9 : (s.size : Int) ≤ 9223372036854775807) (w : World) (ht : TabOk w) : Calls Tryd.prog 7 #[.int .i64 t, .string s] w (LawR w) := by
  have HTAB := Lib.hid ht
  have HB := Lib.hid (Below.refl w.heap.size w)
  clear ht wt
  by_cases h100 : (100 : Int) < (s.size : Int)
  · go_enter Tryd.func7, Tryd.ntmps7
    go_wp2_with fail
    (with_reducible refine (awake_any _ (Lib.hid (HTAB.out.below HB.out))).mono ?_)
    rintro e uz ⟨rfl, hb⟩
    have HB := Lib.hid (below_old HB.out hb)
    clear hb
    go_wp2_with fail
    go_ret
    exact ⟨rfl, HB.out⟩
  have hs : (s.size : Int) ≤ 100 := by omega
  obtain ⟨T, HT⟩ : ∃ T : ByteArray, Hid (Ck.fmT t = T.data.toList) := ⟨⟨(Ck.fmT t).toArray⟩, rfl⟩
  obtain ⟨v, HV⟩ : ∃ v, Hid (Ck.pcV s.data.toList = v) := ⟨_, rfl⟩
  obtain ⟨x, HX⟩ : ∃ v, Hid (Ck.pcE s.data.toList = v) := ⟨_, rfl⟩
  go_enter Tryd.func7, Tryd.ntmps7
  go_wp2_with fail
  (with_reducible refine (parse_eq s _ _ HV HX _ hs9).mono ?_)
  rintro e u1 ⟨rfl, hb⟩
  have HB := Lib.hid (below_old HB.out hb)
  clear hb
  go_wp2_with fail
  (with_reducible refine (rparse07_eq s _ _ HV HX _ hs).mono ?_)
  rintro e u2 ⟨rfl, hb⟩
  have HB := Lib.hid (below_old HB.out hb)
  clear hb
  go_wp2_with fail
  (with_reducible refine (format_eq _ T HT _ (Lib.hid (HTAB.out.below HB.out))).mono ?_)
  rintro e u3 ⟨rfl, hb⟩
  have HB := Lib.hid (below_old HB.out hb)
  clear hb
  go_wp2_with fail
  (with_reducible refine (rformat_eq _ T HT _).mono ?_)
  rintro e u4 ⟨rfl, hb⟩
  have HB := Lib.hid (below_old HB.out hb)
  clear hb
  go_wp2_with fail
  (with_reducible refine (awake_any _ (Lib.hid (HTAB.out.below HB.out))).mono ?_)
  rintro e uz ⟨rfl, hb⟩
  have HB := Lib.hid (below_old HB.out hb)
  clear hb
  go_wp2_with fail
  go_ret
  exact ⟨rfl, HB.out⟩
end Go.Proofs.YtieafjbngealoaaDoor
