/- wire: number; the reference's. -/
import Derived.Test.YtcefmnkfkpoccaaDoorG4
namespace Go.Proofs.YtcefmnkfkpoccaaDoor
open Go.RowKit
set_option linter.unusedVariables false
open Wi Evn
theorem and127 {c : Int} (h0 : 0 ≤ c) (h1 : c ≤ 255) : bits .and .u8 c 127 = c % 128 := by
  obtain ⟨n, rfl⟩ := Int.eq_ofNat_of_zero_le h0
  have h : ∀ x, x < 256 → bits .and .u8 ((x : Nat) : Int) 127 = ((x : Nat) : Int) % 128 := by decide +kernel
  exact h n (by omega)
theorem or_add {v y i : Nat} (hv : v < 128 ^ i) (hy : ∃ c, y = c * 128 ^ i) (h : v + y < 18446744073709551616) : bits .or .u64 (v : Int) (y : Int) = ((v + y : Nat) : Int) := by
  obtain ⟨c, rfl⟩ := hy
  rw [bits_or_u64_nat _ _ (by omega) (by omega), Nat.or_comm]
  have e : (128 : Nat) ^ i = 2 ^ (7 * i) := by rw [Nat.pow_mul]
  rw [e] at hv ⊢
  rw [← Nat.shiftLeft_eq, ← Nat.shiftLeft_add_eq_or_of_lt hv]
  congr 1
  omega
theorem bl_drop {s : ByteArray} {p : Nat} (h : p < s.size) : (bl s).drop p = s[p] :: (bl s).drop (p + 1) := by
  have h' : p < (bl s).length := h
  rw [List.drop_eq_getElem_cons h']
  rfl
/-- The numbers of a step of reading. -/
theorem rd_step {v i c : Nat} (hi : i ≤ 9) (hv : v < 128 ^ i) (hc : c < 256) (h9 : ¬ (i = 9 ∧ 1 < c)) : v + (c % 128) * 128 ^ i < 18446744073709551616 ∧ v + (c % 128) * 128 ^ i < 128 ^ (i + 1) := by
  have h1 : v + (c % 128) * 128 ^ i < 128 ^ (i + 1) := by
    have h2 : (c % 128 + 1) * 128 ^ i ≤ 128 * 128 ^ i := Nat.mul_le_mul_right _ (by omega)
    rw [Nat.pow_succ, Nat.mul_comm (128 ^ i)]
    rw [Nat.add_mul, Nat.one_mul] at h2
    omega
  refine ⟨?_, h1⟩
  rcases Nat.lt_or_ge i 9 with q | q
  · have h3 : 128 ^ (i + 1) ≤ 128 ^ 9 := Nat.pow_le_pow_right (by decide) (by omega)
    rw [pow9] at h3
    omega
  · have : i = 9 := by omega
    subst this
    rw [pow9] at hv ⊢
    have : ¬ 1 < c := fun g => h9 ⟨rfl, g⟩
    omega
set_option maxRecDepth 100000 in
set_option maxHeartbeats 8000000 in
theorem number_any (b : Nat) (s : ByteArray) (p : Nat) (hp : p ≤ s.size) (hs : (s.size : Int) ≤ 1000000) (u q : Nat) (x : Int) (h : Hid (numR (bl s) p = (u, q, x))) (w : World) (hc : w.cell? ⟨b, 0, none⟩ = some (.string s)) :
    Calls Tryd.prog 83 #[.pointer (some ⟨b, 0, none⟩), .int .i64 p] w fun e w' => e = .returned (.tuple #[.int .u64 u, .int .i64 (if x = 0 then (q : Int) else 0), .int .i64 x]) ∧ w' = w := by
  have H : Hid (∀ r k y, rdL ((bl s).drop p) 0 0 = (r, k, y) → u = r ∧ q = p + k ∧ x = y) := fun r k y e => by
    have := h.out
    unfold numR at this
    rw [e] at this
    simp only [Prod.mk.injEq] at this
    exact ⟨this.1.symm, this.2.1.symm, this.2.2.symm⟩
  clear h
  go_enter Tryd.func83, Tryd.ntmps83
  go_wp2_with fail
  go_loopw [7, 8] (fun n i wr => ∃ (k v  : Nat), n = .int .u64 v ∧ i = .int .i64 k ∧  k ≤ 9 ∧ Hid (v < 128 ^ k) ∧ p + k ≤ s.size ∧ Hid (rdL ((bl s).drop p) 0 0 = rdL ((bl s).drop (p + k)) k v) ∧ wr = w) (fun _ i _ => 10 - (intOf i).toNat)
  case atStart => exact ⟨0, 0,  rfl, rfl,  by omega, by show 0 < _; decide, by omega, rfl, rfl⟩
  case round =>
    obtain ⟨k, v,  rfl, rfl,  hk, HV, hpk, HR, hw⟩ := hrel
    subst wr
    have zk : (k : Int) ≤ 9 := by omega
    by_cases hlt : p + k < s.size
    · have hd := bl_drop hlt
      rw [hd] at HR
      obtain ⟨c, hcc⟩ : ∃ c, s[p + k] = c := ⟨_, rfl⟩
      rw [hcc] at HR hd
      have hcl := c.toNat_lt
      have z1 : (p : Int) + (k : Int) < (s.size : Int) := by omega
      have z2 : ((p : Int) + (k : Int)).toNat = p + k := by omega
      by_cases h9 : k = 9 ∧ 1 < c.toNat
      · obtain ⟨h9a, h9b⟩ := h9
        subst h9a
        obtain ⟨e1, e2, e3⟩ := H.out _ _ _ (HR.out.trans (rdL_nine ⟨rfl, h9b⟩))
        subst e1 e3
        have z3 : (1 : Int) < (c.toNat : Int) := by omega
        rw [show ((9 : Nat) : Int) = 9 from rfl] at *
        clear H HR hd
        go_wp2_with fail
        go_ret3
        exact ⟨ret_three rfl (by first | rfl | omega) rfl, rfl⟩
      · obtain ⟨g1, g2⟩ := rd_step hk HV.out (by omega : c.toNat < 256) h9
        obtain ⟨m, hm⟩ : ∃ m, c.toNat % 128 = m := ⟨_, rfl⟩
        obtain ⟨y, hy⟩ : ∃ y, m * 128 ^ k = y := ⟨_, rfl⟩
        obtain ⟨v', hv'⟩ : ∃ v', v + y = v' := ⟨_, rfl⟩
        have hm128 : m < 128 := by omega
        rw [hm, hy, hv'] at g1 g2
        have a1 : bits .and .u8 (c.toNat : Int) 127 = (m : Int) := by rw [and127 (by omega) (by omega)]; omega
        have a0 : IntKind.u64.wrap (m : Int) = (m : Int) := by rw [IntKind.wrap_u64]; omega
        have a2 : IntKind.u64.wrap ((m : Int) * 2 ^ (7 * k)) = (y : Int) := by
          have e2 : ((m : Int) * 2 ^ (7 * k)) = ((m * 128 ^ k : Nat) : Int) := by
            rw [show (128 : Nat) ^ k = 2 ^ (7 * k) by rw [Nat.pow_mul]]
            push_cast
            rfl
          rw [e2, hy, IntKind.wrap_u64]
          omega
        have a3 : bits .or .u64 (v : Int) (y : Int) = (v' : Int) := by rw [or_add HV.out ⟨m, hy.symm⟩ (by omega), hv']
        have k7 : 7 * (k : Int) ≤ 64 := by omega
        have k8 : (0 : Int) ≤ 7 * (k : Int) := by omega
        have HV2 := Lib.hid g2
        have HVE : Hid (v + c.toNat % 128 * 128 ^ k = v') := by show _ = _; rw [hm, hy, hv']
        have HVF : Hid (c.toNat < 128 → v + c.toNat * 128 ^ k = v') := fun g => by rw [← HVE.out, Nat.mod_eq_of_lt g]
        clear g1 g2 hy hv' hm
        by_cases h128 : c.toNat < 128
        · have z3 : (c.toNat : Int) < 128 := by omega
          by_cases h0 : c.toNat = 0 ∧ 0 < k
          · obtain ⟨e1, e2, e3⟩ := H.out _ _ _ (HR.out.trans (rdL_zero h9 h128 h0))
            subst e1 e3
            obtain ⟨h0a, h0b⟩ := h0
            have z4 : ((c.toNat : Int) == 0) = true := beq_iff_eq.2 (by omega)
            have z5 : (0 : Int) < (k : Int) := by omega
            clear H HR hd h0a
            by_cases k9 : k = 9
            · subst k9
              rw [show ((9 : Nat) : Int) = 9 from rfl] at *
              go_wp2_with fail
              go_ret3
              exact ⟨ret_three rfl (by first | rfl | omega) rfl, rfl⟩
            · have z6 : ((k : Int) == 9) = false := beq_eq_false_iff_ne.2 (by omega)
              clear k9
              go_wp2_with fail
              go_ret3
              exact ⟨ret_three rfl (by first | rfl | omega) rfl, rfl⟩
          · have hE := HR.out.trans (rdL_end h9 h128 h0)
            obtain ⟨e1, e2, e3⟩ := H.out _ _ _ hE
            rw [HVF.out h128] at e1
            subst e1 e2 e3
            clear H HR hd hE HVE HVF
            by_cases k9 : k = 9
            · subst k9
              have z4 : ¬ (1 : Int) < (c.toNat : Int) := by omega
              have z5 : ¬ (c.toNat : Int) = 0 := by omega
              have z6 : ((c.toNat : Int) == 0) = false := beq_eq_false_iff_ne.2 z5
              clear h9 h0
              have a4 : IntKind.u64.wrap ((m : Int) * 9223372036854775808) = (y : Int) := by rw [← a2]; rfl
              rw [show ((9 : Nat) : Int) = 9 from rfl] at *
              go_wp2_with fail
              go_ret3
              exact ⟨ret_three rfl (by first | rfl | (push_cast; omega)) rfl, rfl⟩
            · have z6 : ((k : Int) == 9) = false := beq_eq_false_iff_ne.2 (by omega)
              clear k9 h9
              by_cases c0 : c.toNat = 0
              · have z4 : ((c.toNat : Int) == 0) = true := beq_iff_eq.2 (by omega)
                have z5 : ¬ (0 : Int) < (k : Int) := by omega
                clear h0 c0
                go_wp2_with fail
                go_ret3
                exact ⟨ret_three rfl (by first | rfl | (push_cast; omega)) rfl, rfl⟩
              · have z4 : ((c.toNat : Int) == 0) = false := beq_eq_false_iff_ne.2 (by omega)
                clear h0 c0
                go_wp2_with fail
                go_ret3
                exact ⟨ret_three rfl (by first | rfl | (push_cast; omega)) rfl, rfl⟩
        · have HR2 : Hid (rdL ((bl s).drop p) 0 0 = rdL ((bl s).drop (p + (k + 1))) (k + 1) v') := by
            show _ = _
            rw [HR.out, rdL_more h9 h128, HVE.out]
            rfl
          have hk8 : k ≤ 8 := by
            rcases Nat.lt_or_ge k 9 with q | q
            · omega
            · exact absurd ⟨by omega, by omega⟩ h9
          have z3 : (k : Int) ≤ 8 := by omega
          have z4 : ((k : Int) == 9) = false := beq_eq_false_iff_ne.2 (by omega)
          have z5 : (128 : Int) ≤ (c.toNat : Int) := by omega
          clear h9 h128 HR H HVE HVF hd
          skip
          go_wp2_with fail
          go_roundw
          case rel => exact ⟨k + 1, v',  rfl, by go_num,  by omega, HV2, by omega, HR2, trivial⟩
          case measure => simp [intOf]; omega
    · have hE : (bl s).drop (p + k) = [] := List.drop_eq_nil_of_le (by show s.size ≤ _; omega)
      rw [hE] at HR
      obtain ⟨e1, e2, e3⟩ := H.out _ _ _ (HR.out.trans (rdL_nil _ _))
      subst e1 e3
      have z1 : (s.size : Int) ≤ (p : Int) + (k : Int) := by omega
      clear H HR hE
      go_wp2_with fail
      go_ret3
      exact ⟨ret_three rfl (by first | rfl | omega) rfl, rfl⟩
set_option maxRecDepth 100000 in
set_option maxHeartbeats 8000000 in
theorem rnumber_any  (s : ByteArray) (p : Nat) (hp : p ≤ s.size) (hs : (s.size : Int) ≤ 1000000) (u q : Nat) (x : Int) (h : Hid (numR (bl s) p = (u, q, x))) (w : World)  :
    Calls Tryd.prog 69 #[.string s, .int .i64 p] w fun e w' => e = .returned (.tuple #[.int .u64 u, .int .i64 (q : Int), .int .i64 x]) ∧ w' = w := by
  have H : Hid (∀ r k y, rdL ((bl s).drop p) 0 0 = (r, k, y) → u = r ∧ q = p + k ∧ x = y) := fun r k y e => by
    have := h.out
    unfold numR at this
    rw [e] at this
    simp only [Prod.mk.injEq] at this
    exact ⟨this.1.symm, this.2.1.symm, this.2.2.symm⟩
  clear h
  go_enter Tryd.func69, Tryd.ntmps69
  go_wp2_with fail
  go_loopw [7, 8, 9] (fun n un i wr => ∃ (k v U : Nat), n = .int .u64 v ∧ i = .int .i64 k ∧ un = .int .u64 (U : Int) ∧ Hid (U = 128 ^ k) ∧ k ≤ 9 ∧ Hid (v < 128 ^ k) ∧ p + k ≤ s.size ∧ Hid (rdL ((bl s).drop p) 0 0 = rdL ((bl s).drop (p + k)) k v) ∧ wr = w) (fun _ _ i _ => 10 - (intOf i).toNat)
  case atStart => exact ⟨0, 0, 1, rfl, rfl, rfl, rfl, by omega, by show 0 < _; decide, by omega, rfl, rfl⟩
  case round =>
    obtain ⟨k, v, U, rfl, rfl, rfl, HU, hk, HV, hpk, HR, hw⟩ := hrel
    subst wr
    have zk : (k : Int) ≤ 9 := by omega
    by_cases hlt : p + k < s.size
    · have hd := bl_drop hlt
      rw [hd] at HR
      obtain ⟨c, hcc⟩ : ∃ c, s[p + k] = c := ⟨_, rfl⟩
      rw [hcc] at HR hd
      have hcl := c.toNat_lt
      have z1 : (p : Int) + (k : Int) < (s.size : Int) := by omega
      have z2 : ((p : Int) + (k : Int)).toNat = p + k := by omega
      by_cases h9 : k = 9 ∧ 1 < c.toNat
      · obtain ⟨h9a, h9b⟩ := h9
        subst h9a
        obtain ⟨e1, e2, e3⟩ := H.out _ _ _ (HR.out.trans (rdL_nine ⟨rfl, h9b⟩))
        subst e1 e3
        have z3 : (1 : Int) < (c.toNat : Int) := by omega
        rw [show ((9 : Nat) : Int) = 9 from rfl] at *
        clear H HR hd
        go_wp2_with fail
        go_ret3
        exact ⟨ret_three rfl (by first | rfl | omega) rfl, rfl⟩
      · obtain ⟨g1, g2⟩ := rd_step hk HV.out (by omega : c.toNat < 256) h9
        obtain ⟨m, hm⟩ : ∃ m, c.toNat % 128 = m := ⟨_, rfl⟩
        obtain ⟨y, hy⟩ : ∃ y, m * 128 ^ k = y := ⟨_, rfl⟩
        obtain ⟨v', hv'⟩ : ∃ v', v + y = v' := ⟨_, rfl⟩
        have hm128 : m < 128 := by omega
        rw [hm, hy, hv'] at g1 g2
        have b1 : (c.toNat : Int).tmod 128 = (m : Int) := by rw [Int.tmod_eq_emod_of_nonneg (by omega)]; omega
        have b1' : (c.toNat : Int) % 128 = (m : Int) := by omega
        have a0 : IntKind.u64.wrap (m : Int) = (m : Int) := by rw [IntKind.wrap_u64]; omega
        have a5 : IntKind.u64.wrap (c.toNat : Int) = (c.toNat : Int) := by rw [IntKind.wrap_u64]; omega
        have b2 : IntKind.u64.wrap ((m : Int) * (U : Int)) = (y : Int) := by
          have e2 : ((m : Int) * (U : Int)) = (y : Int) := by
            rw [← hy, ← HU.out]
            push_cast
            rfl
          rw [e2, IntKind.wrap_u64]
          omega
        have b3 : IntKind.u64.wrap ((v : Int) + (y : Int)) = (v' : Int) := by rw [IntKind.wrap_u64]; omega
        obtain ⟨U2, hU2⟩ : ∃ U2 : Int, IntKind.u64.wrap ((U : Int) * 128) = U2 := ⟨_, rfl⟩
        have HV2 := Lib.hid g2
        have HVE : Hid (v + c.toNat % 128 * 128 ^ k = v') := by show _ = _; rw [hm, hy, hv']
        have HVF : Hid (c.toNat < 128 → v + c.toNat * 128 ^ k = v') := fun g => by rw [← HVE.out, Nat.mod_eq_of_lt g]
        clear g1 g2 hy hv' hm
        by_cases h128 : c.toNat < 128
        · have z3 : (c.toNat : Int) < 128 := by omega
          by_cases h0 : c.toNat = 0 ∧ 0 < k
          · obtain ⟨e1, e2, e3⟩ := H.out _ _ _ (HR.out.trans (rdL_zero h9 h128 h0))
            subst e1 e3
            obtain ⟨h0a, h0b⟩ := h0
            have z4 : ((c.toNat : Int) == 0) = true := beq_iff_eq.2 (by omega)
            have z5 : (0 : Int) < (k : Int) := by omega
            clear H HR hd h0a
            by_cases k9 : k = 9
            · subst k9
              rw [show ((9 : Nat) : Int) = 9 from rfl] at *
              go_wp2_with fail
              go_ret3
              exact ⟨ret_three rfl (by first | rfl | omega) rfl, rfl⟩
            · have z6 : ((k : Int) == 9) = false := beq_eq_false_iff_ne.2 (by omega)
              clear k9
              go_wp2_with fail
              go_ret3
              exact ⟨ret_three rfl (by first | rfl | omega) rfl, rfl⟩
          · have hE := HR.out.trans (rdL_end h9 h128 h0)
            obtain ⟨e1, e2, e3⟩ := H.out _ _ _ hE
            rw [HVF.out h128] at e1
            subst e1 e2 e3
            clear H HR hd hE HVE HVF
            by_cases k9 : k = 9
            · subst k9
              have z4 : ¬ (1 : Int) < (c.toNat : Int) := by omega
              have z5 : ¬ (c.toNat : Int) = 0 := by omega
              have z6 : ((c.toNat : Int) == 0) = false := beq_eq_false_iff_ne.2 z5
              clear h9 h0
              skip
              rw [show ((9 : Nat) : Int) = 9 from rfl] at *
              go_wp2_with fail
              go_ret3
              exact ⟨ret_three rfl (by first | rfl | (push_cast; omega)) rfl, rfl⟩
            · have z6 : ((k : Int) == 9) = false := beq_eq_false_iff_ne.2 (by omega)
              clear k9 h9
              by_cases c0 : c.toNat = 0
              · have z4 : ((c.toNat : Int) == 0) = true := beq_iff_eq.2 (by omega)
                have z5 : ¬ (0 : Int) < (k : Int) := by omega
                clear h0 c0
                go_wp2_with fail
                go_ret3
                exact ⟨ret_three rfl (by first | rfl | (push_cast; omega)) rfl, rfl⟩
              · have z4 : ((c.toNat : Int) == 0) = false := beq_eq_false_iff_ne.2 (by omega)
                clear h0 c0
                go_wp2_with fail
                go_ret3
                exact ⟨ret_three rfl (by first | rfl | (push_cast; omega)) rfl, rfl⟩
        · have HR2 : Hid (rdL ((bl s).drop p) 0 0 = rdL ((bl s).drop (p + (k + 1))) (k + 1) v') := by
            show _ = _
            rw [HR.out, rdL_more h9 h128, HVE.out]
            rfl
          have hk8 : k ≤ 8 := by
            rcases Nat.lt_or_ge k 9 with q | q
            · omega
            · exact absurd ⟨by omega, by omega⟩ h9
          have z3 : (k : Int) ≤ 8 := by omega
          have z4 : ((k : Int) == 9) = false := beq_eq_false_iff_ne.2 (by omega)
          have z5 : (128 : Int) ≤ (c.toNat : Int) := by omega
          clear h9 h128 HR H HVE HVF hd
          have hU3 : U2 = ((128 ^ (k + 1) : Nat) : Int) := by
            have e3 : ((U : Int) * 128) = ((128 ^ (k + 1) : Nat) : Int) := by
              rw [HU.out, Nat.pow_succ]
              push_cast
              rfl
            have h3 : 128 ^ (k + 1) ≤ 128 ^ 9 := Nat.pow_le_pow_right (by decide) (by omega)
            rw [pow9] at h3
            rw [← hU2, e3, IntKind.wrap_u64]
            omega
          obtain ⟨U3, hU4⟩ : ∃ U3, 128 ^ (k + 1) = U3 := ⟨_, rfl⟩
          rw [hU4] at hU3
          subst hU3
          have HU4 : Hid (U3 = 128 ^ (k + 1)) := hU4.symm
          clear hU4
          go_wp2_with fail
          go_roundw
          case rel => exact ⟨k + 1, v', U3, rfl, by go_num, rfl, HU4, by omega, HV2, by omega, HR2, trivial⟩
          case measure => simp [intOf]; omega
    · have hE : (bl s).drop (p + k) = [] := List.drop_eq_nil_of_le (by show s.size ≤ _; omega)
      rw [hE] at HR
      obtain ⟨e1, e2, e3⟩ := H.out _ _ _ (HR.out.trans (rdL_nil _ _))
      subst e1 e3
      have z1 : (s.size : Int) ≤ (p : Int) + (k : Int) := by omega
      clear H HR hE
      go_wp2_with fail
      go_ret3
      exact ⟨ret_three rfl (by first | rfl | omega) rfl, rfl⟩
end Go.Proofs.YtcefmnkfkpoccaaDoor
