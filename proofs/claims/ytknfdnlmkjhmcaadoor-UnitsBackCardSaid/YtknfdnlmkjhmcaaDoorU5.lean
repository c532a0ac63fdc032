/- The reference's MulDiv returns the same as the program's. -/
import Derived.Test.YtknfdnlmkjhmcaaDoorU4
namespace Go.Proofs.YtknfdnlmkjhmcaaDoor
open Go.RowKit
set_option linter.unusedVariables false

theorem scaled_rel (a b c q r : Int) (o : Bool) (ha0 : 0 ≤ a) (ha1 : a ≤ 9223372036854775808) (hb0 : 0 ≤ b) (hb1 : b ≤ 9223372036854775808) (hc0 : 0 < c) (hc1 : c ≤ 9223372036854775807)
    (hq : Hid (scQ a b c = q)) (hr : Hid (scR a b c = r)) (ho : Hid (scOk a b c = o)) (w : World) :
    Calls Tryd.prog 36 #[.int .u64 a, .int .u64 b, .int .u64 c] w fun e w' => e = .returned (.tuple #[.int .u64 q, .int .u64 r, .bool o]) ∧ w = w' := by
  have h := scaled_any a b c ha0 ha1 hb0 hb1 hc0 hc1 w
  rw [hq.out, hr.out, ho.out] at h
  exact h

/-- What the reference's three results say of the quotient. -/
theorem sc_says (a b c : Int) (hc : 0 < c) : (scOk a.natAbs b.natAbs c = false ∧ scQ a.natAbs b.natAbs c = 0 ∧ scR a.natAbs b.natAbs c = 0 ∧ 9223372036854775808 < (a.natAbs : Int) * b.natAbs / c) ∨
    (scOk a.natAbs b.natAbs c = true ∧ ∃ q r : Nat, scQ a.natAbs b.natAbs c = q ∧ scR a.natAbs b.natAbs c = r ∧ (q : Int) ≤ 9223372036854775808 ∧ c.toNat * q + r = a.natAbs * b.natAbs ∧ r < c.toNat) := by
  by_cases h : (a.natAbs : Int) * b.natAbs / c ≤ 9223372036854775808
  · refine .inr ?_
    have h3 : scOk a.natAbs b.natAbs c = true := decide_eq_true h
    have hq : 0 ≤ (a.natAbs : Int) * b.natAbs / c := Int.ediv_nonneg (by rw [← Int.natCast_mul]; omega) (by omega)
    have hr : 0 ≤ (a.natAbs : Int) * b.natAbs % c := Int.emod_nonneg _ (by omega)
    have hr1 : (a.natAbs : Int) * b.natAbs % c < c := Int.emod_lt_of_pos _ hc
    have he := Int.mul_ediv_add_emod ((a.natAbs : Int) * b.natAbs) c
    obtain ⟨q, eq⟩ := Int.eq_ofNat_of_zero_le hq
    obtain ⟨r, er⟩ := Int.eq_ofNat_of_zero_le hr
    rw [eq, er] at he
    refine ⟨h3, q, r, by simp only [scQ, h3, if_true]; exact eq, by simp only [scR, h3, if_true]; exact er, by omega, ?_, by omega⟩
    have hc' : ((c.toNat : Nat) : Int) = c := by omega
    have : (((c.toNat * q + r : Nat)) : Int) = ((a.natAbs * b.natAbs : Nat) : Int) := by rw [Int.natCast_add, Int.natCast_mul, Int.natCast_mul, hc']; exact he
    exact Int.ofNat.inj this
  · have h3 : scOk a.natAbs b.natAbs c = false := decide_eq_false h
    exact .inl ⟨h3, by simp [scQ, h3], by simp [scR, h3], by omega⟩

set_option maxRecDepth 100000 in
set_option maxHeartbeats 4000000 in
theorem rmuldiv_any (a b c : Int) (ha0 : -9223372036854775808 ≤ a) (ha1 : a ≤ 9223372036854775807) (hb0 : -9223372036854775808 ≤ b) (hb1 : b ≤ 9223372036854775807) (hc1 : c ≤ 9223372036854775807) (w : World) :
    Calls Tryd.prog 18 #[.int .i64 a, .int .i64 b, .int .i64 c] w fun e w' => e = .returned (.tuple #[.int .i64 (mdV a b c), .int .i64 (mdE a b c)]) ∧ w = w' := by
  by_cases hc : c ≤ 0
  · obtain ⟨hV, hE⟩ := md_no (a := a) (b := b) (c := c) (by omega)
    have HV := Lib.hid hV; have HE := Lib.hid hE
    clear hV hE
    go_enter Tryd.func18, Tryd.ntmps18
    go_wp2
    go_ret2
    exact ⟨ret_two HV.out.symm HE.out.symm, rfl⟩
  · have hA0 : 0 ≤ (a.natAbs : Int) := by omega
    have hA1 : (a.natAbs : Int) ≤ 9223372036854775808 := by omega
    have hB0 : 0 ≤ (b.natAbs : Int) := by omega
    have hB1 : (b.natAbs : Int) ≤ 9223372036854775808 := by omega
    have hc0 : 0 < c := by omega
    rcases sc_says a b c hc0 with ⟨s1, s2, s3, s4⟩ | ⟨s1, q, r, s2, s3, s4, s5, s6⟩
    · have hno : Hid (mdV a b c = 0 ∧ mdE a b c = 9) := by
        refine md_no fun hh => ?_
        have e1 := Int.mul_ediv_add_emod ((a.natAbs : Int) * b.natAbs) c
        have e2 := Int.emod_nonneg ((a.natAbs : Int) * b.natAbs) (show c ≠ 0 by omega)
        have e3 := Int.emod_lt_of_pos ((a.natAbs : Int) * b.natAbs) hc0
        obtain ⟨q, eq⟩ := Int.eq_ofNat_of_zero_le (show 0 ≤ (a.natAbs : Int) * b.natAbs / c by omega)
        obtain ⟨r, er⟩ := Int.eq_ofNat_of_zero_le e2
        rw [eq, er] at e1
        rw [eq] at s4
        rw [er] at e3
        obtain ⟨C, hC⟩ := Int.eq_ofNat_of_zero_le (show 0 ≤ c by omega)
        have e4 : C * q + r = a.natAbs * b.natAbs := by
          have : (((C * q + r : Nat)) : Int) = ((a.natAbs * b.natAbs : Nat) : Int) := by rw [Int.natCast_add, Int.natCast_mul, Int.natCast_mul, ← hC]; exact e1
          exact Int.ofNat.inj this
        by_cases hs : (a < 0) = (b < 0)
        · rw [Md.same (Md.pos_of a b hs) hC (by omega) e4 (by omega)] at hh; omega
        · rcases Nat.eq_zero_or_pos r with h0 | h0
          · rw [Md.other0 (Md.neg_of a b hs) hC (by omega) (by rw [h0] at e4; exact e4)] at hh; omega
          · rw [Md.other1 (Md.neg_of a b hs) hC h0 e4 (by omega)] at hh; omega
      have S1 := Lib.hid s1; have S2 := Lib.hid s2; have S3 := Lib.hid s3
      clear s1 s2 s3 s4
      go_enter Tryd.func18, Tryd.ntmps18
      go_wp2_with (first | (go_at_call 37; refine (size_any _ _ (by omega) (by omega)).mono ?_; rintro e w' ⟨rfl, rfl⟩) | (go_at_call 36; refine (scaled_rel _ _ _ _ _ _ hA0 hA1 hB0 hB1 hc0 hc1 S2 S3 S1 _).mono ?_; rintro e w' ⟨rfl, rfl⟩))
      go_ret2
      exact ⟨ret_two hno.out.1.symm hno.out.2.symm, rfl⟩
    · obtain ⟨C, hC⟩ := Int.eq_ofNat_of_zero_le (show 0 ≤ c by omega)
      have hCt : c.toNat = C := by omega
      rw [hCt] at s5 s6
      obtain ⟨z, hz⟩ : ∃ z : Int, z = (q : Int) := ⟨_, rfl⟩
      obtain ⟨t, ht⟩ : ∃ t : Int, t = (r : Int) := ⟨_, rfl⟩
      rw [← hz] at s2 s4
      rw [← ht] at s3
      have hz0 : 0 ≤ z := by omega
      have ht0 : 0 ≤ t := by omega
      have S1 := Lib.hid s1; have S2 := Lib.hid s2; have S3 := Lib.hid s3; have S5 := Lib.hid s5; have S6 := Lib.hid s6; have HC := Lib.hid hC; have HZ := Lib.hid hz; have HT := Lib.hid ht
      have ht1 : t < c := by omega
      clear s1 s2 s3 s5 s6 hC hCt hz ht
      by_cases hs : (a < 0) = (b < 0)
      · have hv := Lib.hid (Md.same (Md.pos_of a b hs) HC.out (by have := HC.out; omega) S5.out S6.out)
        have hd : (decide (a < 0) == decide (b < 0)) = true := by rw [beq_iff_eq, decide_eq_decide, hs]
        clear hs
        by_cases hm : 9223372036854775807 < z
        · have hno := Lib.hid (md_no (a := a) (b := b) (c := c) (by rw [hv.out]; have := HZ.out; omega))
          go_enter Tryd.func18, Tryd.ntmps18
          go_wp2_with (first | (go_at_call 37; refine (size_any _ _ (by omega) (by omega)).mono ?_; rintro e w' ⟨rfl, rfl⟩) | (go_at_call 36; refine (scaled_rel _ _ _ _ _ _ hA0 hA1 hB0 hB1 hc0 hc1 S2 S3 S1 _).mono ?_; rintro e w' ⟨rfl, rfl⟩))
          go_ret2
          exact ⟨ret_two hno.out.1.symm hno.out.2.symm, rfl⟩
        · have hok := Lib.hid (md_ok (a := a) (b := b) (c := c) hc0 (by rw [hv.out]; omega) (by rw [hv.out]; have := HZ.out; omega))
          go_enter Tryd.func18, Tryd.ntmps18
          go_wp2_with (first | (go_at_call 37; refine (size_any _ _ (by omega) (by omega)).mono ?_; rintro e w' ⟨rfl, rfl⟩) | (go_at_call 36; refine (scaled_rel _ _ _ _ _ _ hA0 hA1 hB0 hB1 hc0 hc1 S2 S3 S1 _).mono ?_; rintro e w' ⟨rfl, rfl⟩))
          go_ret2
          exact ⟨ret_two (by rw [hok.out.1, hv.out]; exact HZ.out) hok.out.2.symm, rfl⟩
      · have hn := Lib.hid (Md.neg_of a b hs)
        have hd : (decide (a < 0) == decide (b < 0)) = false := by rw [beq_eq_false_iff_ne, ne_eq, decide_eq_decide]; exact fun h => hs (propext h)
        clear hs
        by_cases h0 : t = 0
        · have hr0 : r = 0 := by have := HT.out; omega
          have hv := Lib.hid (Md.other0 hn.out HC.out (by have := HC.out; omega) (by have := S5.out; rw [hr0] at this; exact this))
          have hok := Lib.hid (md_ok (a := a) (b := b) (c := c) hc0 (by rw [hv.out]; have := HZ.out; omega) (by rw [hv.out]; omega))
          subst h0
          by_cases h1 : z = 0
          · subst h1
            go_enter Tryd.func18, Tryd.ntmps18
            go_wp2_with (first | (go_at_call 37; refine (size_any _ _ (by omega) (by omega)).mono ?_; rintro e w' ⟨rfl, rfl⟩) | (go_at_call 36; refine (scaled_rel _ _ _ _ _ _ hA0 hA1 hB0 hB1 hc0 hc1 S2 S3 S1 _).mono ?_; rintro e w' ⟨rfl, rfl⟩))
            go_ret2
            exact ⟨ret_two (by rw [hok.out.1, hv.out, ← HZ.out]; rfl) hok.out.2.symm, rfl⟩
          · have h2 : (z == 0) = false := by rw [beq_eq_false_iff_ne]; exact h1
            have h3 : 0 < z := by omega
            clear h1 hr0
            go_enter Tryd.func18, Tryd.ntmps18
            go_wp2_with (first | (go_at_call 37; refine (size_any _ _ (by omega) (by omega)).mono ?_; rintro e w' ⟨rfl, rfl⟩) | (go_at_call 36; refine (scaled_rel _ _ _ _ _ _ hA0 hA1 hB0 hB1 hc0 hc1 S2 S3 S1 _).mono ?_; rintro e w' ⟨rfl, rfl⟩))
            go_ret2
            exact ⟨ret_two (by rw [hok.out.1, hv.out, ← HZ.out]; omega) hok.out.2.symm, rfl⟩
        · have ht2 : 0 < t := by omega
          have h2 : (t == 0) = false := by rw [beq_eq_false_iff_ne]; exact h0
          have hv := Lib.hid (Md.other1 hn.out HC.out (by have := HT.out; omega) S5.out S6.out)
          clear h0
          by_cases hm : 9223372036854775808 < z + 1
          · have hno := Lib.hid (md_no (a := a) (b := b) (c := c) (by rw [hv.out]; have := HZ.out; omega))
            by_cases h3 : (z == 0) = true
            all_goals
              go_enter Tryd.func18, Tryd.ntmps18
              go_wp2_with (first | (go_at_call 37; refine (size_any _ _ (by omega) (by omega)).mono ?_; rintro e w' ⟨rfl, rfl⟩) | (go_at_call 36; refine (scaled_rel _ _ _ _ _ _ hA0 hA1 hB0 hB1 hc0 hc1 S2 S3 S1 _).mono ?_; rintro e w' ⟨rfl, rfl⟩))
              go_ret2
              exact ⟨ret_two hno.out.1.symm hno.out.2.symm, rfl⟩
          · have hok := Lib.hid (md_ok (a := a) (b := b) (c := c) hc0 (by rw [hv.out]; have := HZ.out; omega) (by rw [hv.out]; omega))
            by_cases h3 : (z == 0) = true
            all_goals
              go_enter Tryd.func18, Tryd.ntmps18
              go_wp2_with (first | (go_at_call 37; refine (size_any _ _ (by omega) (by omega)).mono ?_; rintro e w' ⟨rfl, rfl⟩) | (go_at_call 36; refine (scaled_rel _ _ _ _ _ _ hA0 hA1 hB0 hB1 hc0 hc1 S2 S3 S1 _).mono ?_; rintro e w' ⟨rfl, rfl⟩))
              go_ret2
              exact ⟨ret_two (by have e := hok.out.1.trans hv.out; have := HZ.out; omega) hok.out.2.symm, rfl⟩
end Go.Proofs.YtknfdnlmkjhmcaaDoor
