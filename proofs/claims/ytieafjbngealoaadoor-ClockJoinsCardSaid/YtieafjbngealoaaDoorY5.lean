/- The reference of chapter 7: Check, Open, Next, before, until, Work. -/
import Derived.Test.YtieafjbngealoaaDoorY4
namespace Go.Proofs.YtieafjbngealoaaDoor
open Go.RowKit
set_option linter.unusedVariables false

/-- A slice of shifts. -/
def SlA (w : World) (A : Option Addr) (S : Ck.Sh) : Prop := 0 < S.length → ∃ b off, A = some ⟨b, off, none⟩ ∧ b < w.heap.size ∧ ∀ i (hi : i < S.length), w.cell? ⟨b, off + i * 2, none⟩ = some (.int .i64 S[i].1) ∧ w.cell? ⟨b, off + i * 2 + 1, none⟩ = some (.int .i64 S[i].2)
theorem SlA.below {w w' : World} {A : Option Addr} {S : Ck.Sh} (h : SlA w A S) (hb : Below w.heap.size w w') : SlA w' A S := fun h0 => by
  obtain ⟨b, off, hA, hl, hc⟩ := h h0
  exact ⟨b, off, hA, Nat.lt_of_lt_of_le hl hb.size, fun i hi => ⟨(hb.cell (p := ⟨b, off + i * 2, none⟩) hl).trans (hc i hi).1, (hb.cell (p := ⟨b, off + i * 2 + 1, none⟩) hl).trans (hc i hi).2⟩⟩
theorem SlA.drew {w : World} {A : Option Addr} {S : Ck.Sh} (h : SlA w A S) (n : Nat) : SlA (w.drewN n) A S := h.below (below_drewN (Below.refl _ _) n)
theorem ck_cons (last : Int) (s : Int × Int) (r : Ck.Sh) : Ck.ck last (s :: r) = if s.1 < 0 ∨ s.2 ≤ s.1 ∨ 10080 < s.2 then 9 else if s.1 < last then 11 else Ck.ck s.2 r := rfl
set_option maxHeartbeats 4000000 in
theorem rcheck07_any (A : Option Addr) (c : Nat) (S : Ck.Sh) (w : World) (HA : Hid (SlA w A S)) (hl : (S.length : Int) ≤ 1000) :
    Calls Tryd.prog 16 #[.slice A S.length c] w fun e w' => e = .returned (.int .i64 (Ck.chk S)) ∧ Below w.heap.size w w' := by
  by_cases h0 : S.length = 0
  · have hres : Hid (Ck.chk S = 3) := by show _ = _; unfold Ck.chk; rw [if_pos h0]
    have h1 : ((S.length : Int) == 0) = true := by rw [beq_iff_eq]; omega
    clear h0
    go_enter Tryd.func16, Tryd.ntmps16
    go_wp2_with fail
    go_ret
    exact ⟨ret_i hres.out.symm, Below.refl _ _⟩
  · have h1 : ((S.length : Int) == 0) = false := by rw [beq_eq_false_iff_ne]; omega
    by_cases h21 : 21 < S.length
    · have hres : Hid (Ck.chk S = 4) := by show _ = _; unfold Ck.chk; rw [if_neg h0, if_pos h21]
      have h2 : (21 : Int) < (S.length : Int) := by omega
      clear h0 h21
      go_enter Tryd.func16, Tryd.ntmps16
      go_wp2_with fail
      go_ret
      exact ⟨ret_i hres.out.symm, Below.refl _ _⟩
    · have hE : Hid (Ck.chk S = Ck.ck 0 S) := by show _ = _; unfold Ck.chk; rw [if_neg h0, if_neg h21]
      have h2 : ¬ (21 : Int) < (S.length : Int) := by omega
      clear h0 h21
      go_enter Tryd.func16, Tryd.ntmps16
      go_wp2_with fail
      go_loopw [3, 4] (fun v i wr => ∃ (k : Nat) (l : Int), i = .int .i64 k ∧ k ≤ S.length ∧ v = .int .i64 l ∧ Hid (Ck.chk S = Ck.ck l (S.drop k)) ∧ ∃ n, wr = w.drewN n) (fun _ i _ => S.length - (intOf i).toNat)
      case atStart => exact ⟨0, 0, rfl, by omega, rfl, by simpa using hE, 0, rfl⟩
      case round =>
        obtain ⟨k, l, rfl, hk, rfl, hR, n, rfl⟩ := hrel
        by_cases hlt : k < S.length
        · obtain ⟨b, off, rfl, hbl, hcc⟩ := HA.out (by omega)
          obtain ⟨c0, c1⟩ := hcc k hlt
          clear hcc
          have zk : (k : Int) < (S.length : Int) := by omega
          have hdr := drop_at hlt
          have hR2 : Hid (Ck.chk S = if S[k].1 < 0 ∨ S[k].2 ≤ S[k].1 ∨ 10080 < S[k].2 then 9 else if S[k].1 < l then 11 else Ck.ck S[k].2 (S.drop (k + 1))) := by show _ = _; rw [hR.out, hdr, ck_cons]
          clear hdr hR
          generalize S[k].1 = x at *
          generalize S[k].2 = y at *
          by_cases g1 : x < 0
          · have hres : Hid (Ck.chk S = 9) := by show _ = _; rw [hR2.out, if_pos (.inl g1)]
            have d1 : decide (x < 0) = true := decide_eq_true g1
            go_wp2_with fail
            go_quiet (fail)
            go_wp2_with fail
            go_ret
            exact ⟨ret_i hres.out.symm, (by first | exact below_drewN (Below.refl _ _) _ | exact below_drewN (below_drewN (Below.refl _ _) _) _)⟩
          · have d1 : decide (x < 0) = false := decide_eq_false g1
            by_cases g2 : y ≤ x
            · have hres : Hid (Ck.chk S = 9) := by show _ = _; rw [hR2.out, if_pos (.inr (.inl g2))]
              have d2 : decide (y ≤ x) = true := decide_eq_true g2
              go_wp2_with fail
              go_quiet (fail)
              go_wp2_with fail
              go_ret
              exact ⟨ret_i hres.out.symm, (by first | exact below_drewN (Below.refl _ _) _ | exact below_drewN (below_drewN (Below.refl _ _) _) _)⟩
            · have d2 : decide (y ≤ x) = false := decide_eq_false g2
              by_cases g3 : 10080 < y
              · have hres : Hid (Ck.chk S = 9) := by show _ = _; rw [hR2.out, if_pos (.inr (.inr g3))]
                go_wp2_with fail
                go_quiet (fail)
                go_wp2_with fail
                go_ret
                exact ⟨ret_i hres.out.symm, (by first | exact below_drewN (Below.refl _ _) _ | exact below_drewN (below_drewN (Below.refl _ _) _) _)⟩
              · by_cases g4 : x < l
                · have hres : Hid (Ck.chk S = 11) := by show _ = _; rw [hR2.out, if_neg (by omega), if_pos g4]
                  go_wp2_with fail
                  go_quiet (fail)
                  go_wp2_with fail
                  go_ret
                  exact ⟨ret_i hres.out.symm, (by first | exact below_drewN (Below.refl _ _) _ | exact below_drewN (below_drewN (Below.refl _ _) _) _)⟩
                · have hres : Hid (Ck.chk S = Ck.ck y (S.drop (k + 1))) := by show _ = _; rw [hR2.out, if_neg (by omega), if_neg g4]
                  go_wp2_with fail
                  go_quiet (fail)
                  go_wp2_with fail
                  go_roundw
                  case rel => exact ⟨k + 1, y, by go_num, by omega, rfl, hres, _, rfl⟩
                  case measure => simp [intOf]; omega
        · have he : S.drop k = [] := List.drop_of_length_le (by omega)
          have hres : Hid (Ck.chk S = 0) := by show _ = _; rw [hR.out, he]; rfl
          go_wp2_with fail
          go_ret
          exact ⟨ret_i hres.out.symm, below_drewN (Below.refl _ _) _⟩

set_option maxHeartbeats 2000000 in
theorem ropen07_any (A : Option Addr) (c : Nat) (S : Ck.Sh) (t : Int) (w : World) (HA : Hid (SlA w A S)) (hl : (S.length : Int) ≤ 1000) :
    Calls Tryd.prog 21 #[.slice A S.length c, .int .i64 t] w fun e w' => e = .returned (.bool (opB S t)) ∧ w = w' := by
  by_cases ht : 0 ≤ t ∧ t ≤ 10000000
  · have hE : Hid (opB S t = Ck.opm S (t % 10080)) := by show _ = _; unfold opB tmB Ck.op; rw [decide_eq_true ht]; rfl
    obtain ⟨t0, t1⟩ := ht
    have ht2 : 0 ≤ t ∧ t ≤ 10000000 := ⟨t0, t1⟩
    obtain ⟨m, hm⟩ : ∃ m, t % 10080 = m := ⟨_, rfl⟩
    rw [hm] at hE
    go_enter Tryd.func21, Tryd.ntmps21
    go_wp2_with fail
    (with_reducible refine (rtm_yes _ ht2 _).mono ?_)
    rintro e w1 ⟨rfl, rfl⟩
    go_wp2_with fail
    simp only [hm]
    go_loop [6] (fun i => ∃ k : Nat, i = .int .i64 k ∧ k ≤ S.length ∧ Hid (∀ j (hj : j < S.length), j < k → ¬ (S[j].1 ≤ m ∧ m < S[j].2))) (fun i => S.length - (intOf i).toNat)
    case atStart => exact ⟨0, rfl, by omega, fun j _ hj => by omega⟩
    case round =>
      obtain ⟨k, rfl, hk, hall⟩ := hrel
      clear hm
      by_cases hlt : k < S.length
      · obtain ⟨b, off, rfl, hbl, hcc⟩ := HA.out (by omega)
        obtain ⟨c0, c1⟩ := hcc k hlt
        clear hcc
        have zk : (k : Int) < (S.length : Int) := by omega
        by_cases g : S[k].1 ≤ m ∧ m < S[k].2
        · have hyes := Lib.hid (opm_yes hlt g)
          obtain ⟨g1, g2⟩ := g
          generalize S[k].1 = x at *
          generalize S[k].2 = y at *
          go_wp2_with fail
          go_ret
          exact ⟨ret_bool (by rw [hE.out, hyes.out]), rfl⟩
        · have hn : Hid (∀ j (hj : j < S.length), j < k + 1 → ¬ (S[j].1 ≤ m ∧ m < S[j].2)) := fun j hj hj2 => by
            rcases Nat.lt_or_ge j k with h | h
            · exact hall.out j hj h
            · obtain rfl : j = k := by omega
              exact g
          generalize S[k].1 = x at *
          generalize S[k].2 = y at *
          by_cases g1 : x ≤ m
          · have g2 : ¬ m < y := fun h => g ⟨g1, h⟩
            clear g
            go_wp2_with fail
            go_round
            case rel => exact ⟨k + 1, by go_num, by omega, hn⟩
            case measure => simp [intOf]; omega
          · clear g
            go_wp2_with fail
            go_round
            case rel => exact ⟨k + 1, by go_num, by omega, hn⟩
            case measure => simp [intOf]; omega
      · have hno := Lib.hid (opm_no (S := S) (m := m) (fun j hj => hall.out j hj (by omega)))
        go_wp2_with fail
        go_ret
        exact ⟨ret_bool (by rw [hE.out, hno.out]), rfl⟩
  · have hE : Hid (opB S t = false) := by show _ = _; unfold opB tmB; rw [decide_eq_false ht]; rfl
    go_enter Tryd.func21, Tryd.ntmps21
    go_wp2_with fail
    (with_reducible refine (rtm_no _ ht _).mono ?_)
    rintro e w1 ⟨rfl, rfl⟩
    go_wp2_with fail
    go_ret
    exact ⟨ret_bool hE.out.symm, rfl⟩

set_option maxHeartbeats 2000000 in
theorem before_any (A : Option Addr) (c : Nat) (S : Ck.Sh) (m : Int) (w : World) (HA : Hid (SlA w A S)) (HOK : Hid (Ck.Ok 0 S)) (hl : (S.length : Int) ≤ 1000) (m0 : 0 ≤ m) (m1 : m ≤ 10080) :
    Calls Tryd.prog 47 #[.slice A S.length c, .int .i64 m] w fun e w' => e = .returned (.int .i64 (Ck.bf S m)) ∧ ∃ n, w' = w.drewN n := by
  go_enter Tryd.func47, Tryd.ntmps47
  go_wp2_with fail
  go_loopw [5, 6] (fun s i wr => ∃ k : Nat, i = .int .i64 k ∧ k ≤ S.length ∧ s = .int .i64 (Ck.bf (S.take k) m) ∧ ∃ n, wr = w.drewN n) (fun _ i _ => S.length - (intOf i).toNat)
  case atStart => exact ⟨0, rfl, by omega, by simp [Ck.bf], 0, rfl⟩
  case round =>
    obtain ⟨k, rfl, hk, rfl, n, rfl⟩ := hrel
    have hw1 := bf_take k m HOK.out
    by_cases hlt : k < S.length
    · obtain ⟨b, off, rfl, hbl, hcc⟩ := HA.out (by omega)
      obtain ⟨c0, c1⟩ := hcc k hlt
      clear hcc
      have zk : (k : Int) < (S.length : Int) := by omega
      obtain ⟨r0, r1, r2⟩ := sh_range HOK.out k hlt
      have hst := Lib.hid (bf_snoc S m k hlt)
      have hw2 := bf_take (k + 1) m HOK.out
      rw [hst.out] at hw2
      generalize S[k].1 = x at *
      generalize S[k].2 = y at *
      generalize Ck.bf (S.take k) m = v' at *
      go_wp2_with fail
      go_quiet (fail)
      go_wp2_with fail
      go_roundw
      case rel => exact ⟨k + 1, by go_num, by omega, by rw [hst.out]; go_num, _, rfl⟩
      case measure => simp [intOf]; omega
    · have he : S.take k = S := List.take_of_length_le (by omega)
      rw [he]
      go_wp2_with fail
      go_ret
      exact ⟨rfl, n, rfl⟩
end Go.Proofs.YtieafjbngealoaaDoor
