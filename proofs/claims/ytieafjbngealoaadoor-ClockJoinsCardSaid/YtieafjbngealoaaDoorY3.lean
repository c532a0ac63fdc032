/- Package clock: Open, passed, Work, reached, Add, Next. -/
import Derived.Test.YtieafjbngealoaaDoorY2
namespace Go.Proofs.YtieafjbngealoaaDoor
open Go.RowKit
set_option linter.unusedVariables false

theorem opm_yes {S : Ck.Sh} {m : Int} {k : Nat} (hk : k < S.length) (h : S[k].1 ≤ m ∧ m < S[k].2) : Ck.opm S m = true := by
  unfold Ck.opm
  rw [List.any_eq_true]
  exact ⟨S[k], List.getElem_mem hk, by simp [h.1, h.2]⟩
theorem opm_no {S : Ck.Sh} {m : Int} (h : ∀ k (hk : k < S.length), ¬ (S[k].1 ≤ m ∧ m < S[k].2)) : Ck.opm S m = false := by
  rw [← Bool.not_eq_true]
  unfold Ck.opm
  rw [List.any_eq_true]
  rintro ⟨x, hx, hh⟩
  obtain ⟨k, hk, rfl⟩ := List.mem_iff_getElem.1 hx
  exact h k hk (by simpa using hh)
def opB (S : Ck.Sh) (t : Int) : Bool := tmB t && Ck.op S t
set_option maxHeartbeats 2000000 in
theorem open_any (b : Nat) (S : Ck.Sh) (t : Int) (w : World) (HC : Hid (Cal w b S)) (HOK : Hid (Ck.Ok 0 S)) :
    Calls Tryd.prog 20 #[.pointer (some ⟨b, 0, none⟩), .int .i64 t] w fun e w' => e = .returned (.bool (opB S t)) ∧ Below w.heap.size w w' := by
  have hl := HC.out.len
  have hl2 : (S.length : Int) ≤ 21 := by omega
  by_cases ht : 0 ≤ t ∧ t ≤ 10000000
  · have hE : Hid (opB S t = Ck.opm S (t % 10080)) := by show _ = _; unfold opB tmB Ck.op; rw [decide_eq_true ht]; rfl
    obtain ⟨t0, t1⟩ := ht
    have ht2 : 0 ≤ t ∧ t ≤ 10000000 := ⟨t0, t1⟩
    obtain ⟨m, hm⟩ : ∃ m, t % 10080 = m := ⟨_, rfl⟩
    rw [hm] at hE
    go_enter Tryd.func20, Tryd.ntmps20
    go_wp2_with fail
    (with_reducible refine (tm_yes _ ht2 _).mono ?_)
    rintro e w1 ⟨rfl, rfl⟩
    go_wp2_with fail
    (with_reducible refine (list_any _ _ _ HC).mono ?_)
    rintro e w1 ⟨rfl, n, rfl⟩
    go_wp2_with fail
    go_loopw [20] (fun i wr => ∃ k : Nat, i = .int .i64 k ∧ k ≤ S.length ∧ Hid (∀ j (hj : j < S.length), j < k → ¬ (S[j].1 ≤ m ∧ m < S[j].2)) ∧ Below w.heap.size w wr) (fun i _ => S.length - (intOf i).toNat)
    case atStart => exact ⟨0, rfl, by omega, fun j _ hj => by omega, below_drewN (Below.refl _ _) n⟩
    case round =>
      obtain ⟨k, rfl, hk, hall, hB⟩ := hrel
      by_cases hlt : k < S.length
      · obtain ⟨c0, c1⟩ := HC.out.at_ hB k hlt
        obtain ⟨r0, r1, r2⟩ := sh_range HOK.out k hlt
        have zk : (k : Int) < (S.length : Int) := by omega
        have hbw : b < wr.heap.size := Nat.lt_of_lt_of_le HC.out.lt hB.size
        have hszw := hB.size
        have hne : b ≠ wr.heap.size := by omega
        by_cases g : S[k].1 ≤ m ∧ m < S[k].2
        · have hyes := Lib.hid (opm_yes hlt g)
          obtain ⟨g1, g2⟩ := g
          generalize S[k].1 = x at *
          generalize S[k].2 = y at *
          clear hm
          go_wp2_with fail
          go_ret
          exact ⟨ret_bool (by rw [hE.out, hyes.out]), hB.alloc hszw _⟩
        · have hn : Hid (∀ j (hj : j < S.length), j < k + 1 → ¬ (S[j].1 ≤ m ∧ m < S[j].2)) := fun j hj hj2 => by
            rcases Nat.lt_or_ge j k with h | h
            · exact hall.out j hj h
            · obtain rfl : j = k := by omega
              exact g
          generalize S[k].1 = x at *
          generalize S[k].2 = y at *
          clear hm
          by_cases g1 : x ≤ m
          · have g2 : ¬ m < y := fun h => g ⟨g1, h⟩
            clear g
            go_wp2_with fail
            go_roundw
            case rel => exact ⟨k + 1, by go_num, by omega, hn, hB.alloc hszw _⟩
            case measure => simp [intOf]; omega
          · clear g
            go_wp2_with fail
            go_roundw
            case rel => exact ⟨k + 1, by go_num, by omega, hn, hB.alloc hszw _⟩
            case measure => simp [intOf]; omega
      · have hno := Lib.hid (opm_no (S := S) (m := m) (fun j hj => hall.out j hj (by omega)))
        clear hm
        go_wp2_with fail
        go_ret
        exact ⟨ret_bool (by rw [hE.out, hno.out]), hB⟩
  · have hE : Hid (opB S t = false) := by show _ = _; unfold opB tmB; rw [decide_eq_false ht]; rfl
    go_enter Tryd.func20, Tryd.ntmps20
    go_wp2_with fail
    (with_reducible refine (tm_no _ ht _).mono ?_)
    rintro e w1 ⟨rfl, rfl⟩
    go_wp2_with fail
    go_ret
    exact ⟨ret_bool hE.out.symm, Below.refl _ _⟩

theorem weekly_eq (b : Nat) (S : Ck.Sh) (v : Int) (hv : Hid (Ck.wk S = v)) (w : World) (HC : Hid (Cal w b S)) (HOK : Hid (Ck.Ok 0 S)) :
    Calls Tryd.prog 46 #[.pointer (some ⟨b, 0, none⟩)] w fun e w' => e = .returned (.int .i64 v) ∧ Below w.heap.size w w' := by
  have := weekly_any b S w HC HOK
  rw [hv.out] at this
  exact this
set_option maxHeartbeats 2000000 in
theorem passed_any (b : Nat) (S : Ck.Sh) (t : Int) (w : World) (HC : Hid (Cal w b S)) (HOK : Hid (Ck.Ok 0 S)) (t0 : 0 ≤ t) (t1 : t ≤ 10000000) :
    Calls Tryd.prog 34 #[.pointer (some ⟨b, 0, none⟩), .int .i64 t] w fun e w' => e = .returned (.int .i64 (Ck.pas S t)) ∧ Below w.heap.size w w' := by
  have hl := HC.out.len
  have hl2 : (S.length : Int) ≤ 21 := by omega
  have hwk := wk_take S.length HOK.out
  rw [List.take_length] at hwk
  have hp0 : 0 ≤ t / 10080 * Ck.wk S := Int.mul_nonneg (by omega) hwk.1
  have hp1 : t / 10080 * Ck.wk S ≤ 1000 * 10080 := Int.mul_le_mul (by omega) hwk.2 hwk.1 (by omega)
  obtain ⟨v, hv⟩ : ∃ v, Ck.wk S = v := ⟨_, rfl⟩
  obtain ⟨p, hp⟩ : ∃ p, t / 10080 * v = p := ⟨_, rfl⟩
  obtain ⟨m, hm⟩ : ∃ m, t % 10080 = m := ⟨_, rfl⟩
  have hE : Hid (Ck.pas S t = p + Ck.bf S m) := by show _ = _; unfold Ck.pas; rw [hv, hp, hm]
  rw [hv, hp] at hp0 hp1
  have HV := Lib.hid hv
  clear hv hwk
  have hm0 : 0 ≤ m ∧ m < 10080 := by omega
  have h0 := HC.out
  go_enter Tryd.func34, Tryd.ntmps34
  clear h0
  go_wp2_with fail
  (with_reducible refine (weekly_eq _ _ _ HV _ HC HOK).mono ?_)
  rintro e w1 ⟨rfl, hb⟩
  have HC1 := Lib.hid (HC.out.below hb)
  have HB1 := Lib.hid hb
  clear hb
  go_wp2_with fail
  (with_reducible refine (list_any _ _ _ HC1).mono ?_)
  rintro e w2 ⟨rfl, n, rfl⟩
  go_wp2_with fail
  go_loopw [5, 19] (fun s i wr => ∃ k : Nat, i = .int .i64 k ∧ k ≤ S.length ∧ s = .int .i64 (p + Ck.bf (S.take k) m) ∧ Below w.heap.size w wr) (fun _ i _ => S.length - (intOf i).toNat)
  case atStart => exact ⟨0, rfl, by omega, by simp [Ck.bf], below_drewN HB1.out n⟩
  case round =>
    obtain ⟨k, rfl, hk, rfl, hB⟩ := hrel
    have hw1 := bf_take k m HOK.out
    clear hp hm
    by_cases hlt : k < S.length
    · obtain ⟨c0, c1⟩ := HC.out.at_ hB k hlt
      obtain ⟨r0, r1, r2⟩ := sh_range HOK.out k hlt
      have zk : (k : Int) < (S.length : Int) := by omega
      have hbw : b < wr.heap.size := Nat.lt_of_lt_of_le HC.out.lt hB.size
      have hszw := hB.size
      have hne : b ≠ wr.heap.size := by omega
      have hst := Lib.hid (bf_snoc S m k hlt)
      have hw2 := bf_take (k + 1) m HOK.out
      rw [hst.out] at hw2
      generalize S[k].1 = x at *
      generalize S[k].2 = y at *
      generalize Ck.bf (S.take k) m = v' at *
      go_wp2_with fail
      go_roundw
      case rel => exact ⟨k + 1, by go_num, by omega, by rw [hst.out]; go_num, hB.alloc hszw _⟩
      case measure => simp [intOf]; omega
    · have he : S.take k = S := List.take_of_length_le (by omega)
      rw [he] at hw1 ⊢
      go_wp2_with fail
      go_ret
      exact ⟨ret_i hE.out.symm, hB⟩
def wrV (S : Ck.Sh) (a b : Int) : Int := if tmB a = true ∧ tmB b = true ∧ a ≤ b then Ck.pas S b - Ck.pas S a else 0
theorem passed_eq (b : Nat) (S : Ck.Sh) (t v : Int) (hv : Hid (Ck.pas S t = v)) (w : World) (HC : Hid (Cal w b S)) (HOK : Hid (Ck.Ok 0 S)) (t0 : 0 ≤ t) (t1 : t ≤ 10000000) :
    Calls Tryd.prog 34 #[.pointer (some ⟨b, 0, none⟩), .int .i64 t] w fun e w' => e = .returned (.int .i64 v) ∧ Below w.heap.size w w' := by
  have := passed_any b S t w HC HOK t0 t1
  rw [hv.out] at this
  exact this
set_option maxHeartbeats 2000000 in
theorem work_any (b : Nat) (S : Ck.Sh) (x y : Int) (w : World) (HC : Hid (Cal w b S)) (HOK : Hid (Ck.Ok 0 S)) :
    Calls Tryd.prog 22 #[.pointer (some ⟨b, 0, none⟩), .int .i64 x, .int .i64 y] w fun e w' => e = .returned (.int .i64 (wrV S x y)) ∧ Below w.heap.size w w' := by
  by_cases hx : 0 ≤ x ∧ x ≤ 10000000
  · by_cases hy : 0 ≤ y ∧ y ≤ 10000000
    · by_cases hxy : x ≤ y
      · have hE : Hid (wrV S x y = Ck.pas S y - Ck.pas S x) := by show _ = _; unfold wrV tmB; rw [if_pos ⟨decide_eq_true hx, decide_eq_true hy, hxy⟩]
        have p1 := Ck.pas_range HOK.out hx.1 hx.2
        have p2 := Ck.pas_range HOK.out hy.1 hy.2
        obtain ⟨v, hv⟩ : ∃ v, Ck.pas S x = v := ⟨_, rfl⟩
        obtain ⟨u, hu⟩ : ∃ v, Ck.pas S y = v := ⟨_, rfl⟩
        rw [hv] at p1 hE
        rw [hu] at p2 hE
        have HV := Lib.hid hv; have HU := Lib.hid hu
        clear hv hu
        go_enter Tryd.func22, Tryd.ntmps22
        go_wp2_with fail
        (with_reducible refine (tm_yes _ hx _).mono ?_)
        rintro e w1 ⟨rfl, rfl⟩
        go_wp2_with fail
        (with_reducible refine (tm_yes _ hy _).mono ?_)
        rintro e w1 ⟨rfl, rfl⟩
        go_wp2_with fail
        (with_reducible refine (passed_eq _ _ _ _ HU _ HC HOK hy.1 hy.2).mono ?_)
        rintro e w1 ⟨rfl, hb⟩
        have HC1 := Lib.hid (HC.out.below hb)
        have HB1 := Lib.hid hb
        clear hb
        go_wp2_with fail
        (with_reducible refine (passed_eq _ _ _ _ HV _ HC1 HOK hx.1 hx.2).mono ?_)
        rintro e w2 ⟨rfl, hb⟩
        have HB2 := Lib.hid (below_old HB1.out hb)
        clear hb
        go_wp2_with fail
        go_ret
        exact ⟨ret_i hE.out.symm, HB2.out⟩
      · have hE : Hid (wrV S x y = 0) := by show _ = _; unfold wrV; rw [if_neg (fun h => hxy h.2.2)]
        go_enter Tryd.func22, Tryd.ntmps22
        go_wp2_with fail
        (with_reducible refine (tm_yes _ hx _).mono ?_)
        rintro e w1 ⟨rfl, rfl⟩
        go_wp2_with fail
        (with_reducible refine (tm_yes _ hy _).mono ?_)
        rintro e w1 ⟨rfl, rfl⟩
        go_wp2_with fail
        go_ret
        exact ⟨ret_i hE.out.symm, Below.refl _ _⟩
    · have hE : Hid (wrV S x y = 0) := by show _ = _; unfold wrV tmB; rw [if_neg (fun h => hy (by simpa using h.2.1))]
      go_enter Tryd.func22, Tryd.ntmps22
      go_wp2_with fail
      (with_reducible refine (tm_yes _ hx _).mono ?_)
      rintro e w1 ⟨rfl, rfl⟩
      go_wp2_with fail
      (with_reducible refine (tm_no _ hy _).mono ?_)
      rintro e w1 ⟨rfl, rfl⟩
      go_wp2_with fail
      go_ret
      exact ⟨ret_i hE.out.symm, Below.refl _ _⟩
  · have hE : Hid (wrV S x y = 0) := by show _ = _; unfold wrV tmB; rw [if_neg (fun h => hx (by simpa using h.1))]
    go_enter Tryd.func22, Tryd.ntmps22
    go_wp2_with fail
    (with_reducible refine (tm_no _ hx _).mono ?_)
    rintro e w1 ⟨rfl, rfl⟩
    go_wp2_with fail
    go_ret
    exact ⟨ret_i hE.out.symm, Below.refl _ _⟩
end Go.Proofs.YtieafjbngealoaaDoor
