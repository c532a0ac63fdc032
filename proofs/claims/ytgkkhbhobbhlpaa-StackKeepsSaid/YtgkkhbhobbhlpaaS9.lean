/- The walk of the law StackKeeps. -/
import Derived.Test.YtgkkhbhobbhlpaaS5
namespace Go.Proofs.Ytgkkhbhobbhlpaa
open Go.RowKit
set_option linter.unusedVariables false

theorem splF_props (p : Int) (hp : 1 ≤ p) : ∀ (f : Nat) (n : Int), 0 ≤ n → n ≤ (f : Int) →
    (splF p f n).sum = n ∧ (splF p f n).length ≤ f ∧ (∀ i, i < (splF p f n).length → 1 ≤ (splF p f n).getD i 0 ∧ (splF p f n).getD i 0 ≤ p) ∧ (∀ i, i + 1 < (splF p f n).length → (splF p f n).getD i 0 = p) := by
  intro f
  induction f with
  | zero => intro n h0 h1; simp [splF]; omega
  | succ f ih =>
    intro n h0 h1
    by_cases hn : n ≤ 0
    · rw [splF_nil p _ n hn]; simp; omega
    · rw [splF_cons p f n (by omega)]
      obtain ⟨i1, i2, i3, i4⟩ := ih (n - min n p) (by omega) (by omega)
      refine ⟨by simp [i1]; omega, by simp; omega, fun i hi => ?_, fun i hi => ?_⟩
      · cases i with
        | zero => simp; omega
        | succ i => simpa using i3 i (by simpa using hi)
      · cases i with
        | zero =>
          simp
          have : 0 < (splF p f (n - min n p)).length := by simpa using hi
          have h2 : ¬ n - min n p ≤ 0 := fun h => by rw [splF_nil p f _ h] at this; simp at this
          omega
        | succ i => simpa using i4 i (by simpa using hi)

theorem sum_take_succ (T : List Int) (k : Nat) (h : k < T.length) : (T.take (k + 1)).sum = (T.take k).sum + T.getD k 0 := by
  rw [List.take_succ_eq_append_getElem h, List.sum_append]
  simp [h]
theorem sum_take_le (T : List Int) (h : ∀ i, i < T.length → 1 ≤ T.getD i 0) : ∀ k, 0 ≤ (T.take k).sum ∧ (T.take k).sum ≤ T.sum := by
  induction T with
  | nil => simp
  | cons x T ih =>
    intro k
    have hx := h 0 (by simp)
    have := ih (fun i hi => by simpa using h (i + 1) (by simpa using hi))
    cases k with
    | zero => have := this T.length; simp at *; omega
    | succ k => have := this k; simp at *; omega

/-- The law's two shapes in boxes. -/
def BoxK (w w1 : World) (b5 : Nat) (a b c : Int) : Prop :=
  (w1.cell? ⟨w.heap.size, 0, none⟩ = some (.int .i64 a) ∧ w1.cell? ⟨w.heap.size, 1, none⟩ = some (.int .i64 b) ∧ w1.cell? ⟨w.heap.size, 2, none⟩ = some (.int .i64 c)) ∧
  (w1.cell? ⟨b5, 0, none⟩ = some (.int .i64 a) ∧ w1.cell? ⟨b5, 1, none⟩ = some (.int .i64 b) ∧ w1.cell? ⟨b5, 2, none⟩ = some (.int .i64 c)) ∧ w.heap.size < b5 ∧ b5 < w1.heap.size ∧ Below w.heap.size w w1
theorem BoxK.next {w w1 w2 : World} {b5 : Nat} {a b c : Int} (h : BoxK w w1 b5 a b c) (hb : Below w1.heap.size w1 w2) : BoxK w w2 b5 a b c := by
  obtain ⟨⟨a0, a1, a2⟩, ⟨b0, b1, b2⟩, hs, hs2, hB⟩ := h
  have e : ∀ o, w2.cell? ⟨w.heap.size, o, none⟩ = w1.cell? ⟨w.heap.size, o, none⟩ := fun o => hb.cell (by show w.heap.size < _; omega)
  have f : ∀ o, w2.cell? ⟨b5, o, none⟩ = w1.cell? ⟨b5, o, none⟩ := fun o => hb.cell (by show b5 < _; omega)
  exact ⟨⟨by rw [e]; exact a0, by rw [e]; exact a1, by rw [e]; exact a2⟩, ⟨by rw [f]; exact b0, by rw [f]; exact b1, by rw [f]; exact b2⟩, hs, Nat.lt_of_lt_of_le hs2 hb.size, below_old hB hb⟩
theorem BoxK.drewN {w w1 : World} {b5 : Nat} {a b c : Int} (h : BoxK w w1 b5 a b c) (n : Nat) : BoxK w (w1.drewN n) b5 a b c := h.next (below_drewN (Below.refl _ _) n)

set_option maxRecDepth 100000 in
set_option maxHeartbeats 4000000 in
theorem stackKeeps_walk (a b c n : Int) (w : World) :
    Calls Try.prog 12 #[.agg #[.int .i64 a, .int .i64 b, .int .i64 c], .int .i64 n] w fun e w' => e = .returned (.bool true) ∧ Below w.heap.size w w' := by
  by_cases hok : (1 ≤ a ∧ a ≤ 8 ∧ 1 ≤ b ∧ b ≤ 8 ∧ 0 ≤ c ∧ c ≤ 50) ∧ 0 ≤ n ∧ n ≤ 512
  · have hk := Lib.hid (chk_ok hok.1)
    have hs := spl_ok hok
    have hpr := prod8 ⟨hok.1.1, hok.1.2.1, hok.1.2.2.1, hok.1.2.2.2.1⟩
    obtain ⟨t1, t2, t3, t4⟩ := splF_props (a * b) (by omega) 512 n hok.2.1 (by omega)
    rw [← hs.1] at t1 t2 t3 t4
    obtain ⟨T, hT⟩ : ∃ T, splL a b c n = T := ⟨_, rfl⟩
    rw [hT] at hs t1 t2 t3 t4
    have hsp : Hid (splL a b c n = T ∧ splE a b c n = 0) := ⟨hT, hs.2⟩
    obtain ⟨p, hp⟩ : ∃ p, a * b = p := ⟨_, rfl⟩
    rw [hp] at t3 t4 hpr
    have hpl := fun (i : Int) (h0 : 0 ≤ i) (h1 : i < p) => plc_ok (a := a) (b := b) (c := c) (i := i) ⟨hok.1, h0, by rw [hp]; exact h1⟩
    have hpe := plc_no (a := a) (b := b) (c := c) (i := p) (by rw [hp]; omega)
    have hpb : p / a = b := by rw [← hp]; exact Int.mul_ediv_cancel_left b (by omega)
    have HPB := Lib.hid hpb; have HPE := Lib.hid hpe; have HPL := Lib.hid hpl
    have T1 := Lib.hid t1; have T3 := Lib.hid t3; have T4 := Lib.hid t4
    have hlen : (T.length : Int) ≤ 512 := by omega
    clear hT hs t1 t2 t3 t4 hpb hpe hpl
    go_enter Try.func12, Try.ntmps12
    go_wp2_with fail
    (with_reducible refine (shape_any _ _ _ _).mono ?_)
    rintro e w1 ⟨rfl, hb⟩
    obtain ⟨c0, c1, c2, hlt, hbel⟩ := box_cells hb
    clear hb
    have hB : BoxK w (w1.alloc (.cells #[.int .i64 a, .int .i64 b, .int .i64 c] 57)) w1.heap.size a b c := by
      refine ⟨⟨?_, ?_, ?_⟩, ⟨?_, ?_, ?_⟩, hlt, by simp, hbel.alloc (by omega) _⟩
      · rw [World.cell?_alloc_lt _ _ _ hlt]; exact c0
      · rw [World.cell?_alloc_lt _ _ _ hlt]; exact c1
      · rw [World.cell?_alloc_lt _ _ _ hlt]; exact c2
      all_goals simp [go_sem]
    have HB := Lib.hid hB
    clear hB
    go_wp2_with fail
    (with_reducible refine (split_eq _ _ _ _ _ _ hsp _).mono ?_)
    rintro e w2 ⟨v, rfl, ho, hb⟩
    have HB2 := Lib.hid (HB.out.next hb)
    have hrd := ho.rd
    generalize w1.heap.size = b5 at *
    clear ho hb HB c0 c1 c2 hlt hbel
    obtain ⟨⟨a0, a1, a2⟩, ⟨b0, b1, b2⟩, hs, hs2, hB⟩ := HB2.out
    go_wp2_with fail
    (with_reducible refine (rcheck_eq _ _ _ _ hk _).mono ?_)
    rintro e w3 ⟨rfl, hb⟩
    have HB3 := Lib.hid (HB2.out.next hb)
    have HR3 := Lib.hid (hrd.below hb)
    clear hb hrd a0 a1 a2 b0 b1 b2 hs hs2 hB HB2
    obtain ⟨A, cap, rfl, hcell⟩ := HR3.out
    have HC := Lib.hid hcell
    clear hcell HR3
    obtain ⟨⟨a0, a1, a2⟩, ⟨b0, b1, b2⟩, hs, hs2, hB⟩ := HB3.out
    go_wp2_with fail
    go_loopw [8, 9] (fun s i wr => ∃ k : Nat, i = .int .i64 k ∧ k ≤ T.length ∧ s = .int .i64 (T.take k).sum ∧ ∃ m, wr = w3.drewN m) (fun _ i _ => T.length - (intOf i).toNat)
    case atStart => exact ⟨0, rfl, Nat.zero_le _, by simp, 0, rfl⟩
    case round =>
      obtain ⟨k, rfl, hkl, rfl, m, rfl⟩ := hrel
      have hsum := sum_take_le T (fun i hi => (T3.out i hi).1) k
      rw [T1.out] at hsum
      by_cases hlt : k < T.length
      · obtain ⟨b1', o1, rfl, g1, d1⟩ := HC.out k hlt
        have z1 : (k : Int) < (T.length : Int) := by omega
        have hst := sum_take_succ T k hlt
        have q1 := T3.out k hlt
        have q2 := T4.out k
        generalize T.getD k 0 = t at *
        have Hst := Lib.hid hst
        clear hst
        have r1 : decide (t < 1) = false := by simp; omega
        have r2 : decide (p < t) = false := by simp; omega
        by_cases hl : (k : Int) < (T.length : Int) - 1
        · have r3 : decide ((k : Int) < (T.length : Int) - 1) = true := by simpa using hl
          have q3 := q2 (by omega)
          have Q3 := Lib.hid q3
          clear q2
          subst q3
          go_wp2_with fail
          go_quiet (fail)
          go_wp2_with fail
          go_roundw
          case rel => exact ⟨k + 1, by go_num, by omega, by rw [Hst.out], _, rfl⟩
          case measure => simp [intOf]; omega
        · have r3 : decide ((k : Int) < (T.length : Int) - 1) = false := by simpa using hl
          clear q2
          go_wp2_with fail
          go_quiet (fail)
          go_wp2_with fail
          go_roundw
          case rel => exact ⟨k + 1, by go_num, by omega, by rw [Hst.out], _, rfl⟩
          case measure => simp [intOf]; omega
      · have hkT : k = T.length := by omega
        have hsn : Hid ((T.take k).sum = n) := by show _ = _; rw [hkT, List.take_length]; exact T1.out
        have ha0 : (a == 0) = false := by rw [beq_eq_false_iff_ne]; omega
        generalize (T.take k).sum = sm at *
        obtain rfl : sm = n := hsn.out
        clear hsn hkT hsum T1 T3 T4 HC
        have HB4 := Lib.hid (HB3.out.drewN m)
        generalize w3.drewN m = w4 at *
        clear a0 a1 a2 b0 b1 b2 hs hs2 hB HB3
        obtain ⟨⟨a0, a1, a2⟩, ⟨b0, b1, b2⟩, hs, hs2, hB⟩ := HB4.out
        go_wp2_with fail
        clear a0 a1 a2 b0 b1 b2 hs hs2 hB
        go_loopw [10, 11, 12] (fun sq sr si wr => ∃ i q r : Int, si = .int .i64 i ∧ sq = .int .i64 q ∧ sr = .int .i64 r ∧ 0 ≤ i ∧ i ≤ p ∧ 0 ≤ r ∧ r < a ∧ 0 ≤ q ∧ q ≤ i ∧ Hid (a * q + r = i) ∧ Hid (BoxK w wr b5 a b c)) (fun _ _ si _ => (p - intOf si).toNat)
        case atStart => exact ⟨0, 0, 0, rfl, rfl, rfl, by omega, by omega, by omega, by omega, by omega, by omega, by show _ = _; simp, HB4⟩
        case round =>
          obtain ⟨i, q, r, rfl, rfl, rfl, hi0, hi1, hr0, hr1, hq0, hq1, he, HBr⟩ := hrel
          obtain ⟨⟨a0, a1, a2⟩, ⟨b0, b1, b2⟩, hs, hs2, hB⟩ := HBr.out
          have hdv : Hid (i / a = q) := Md.floor_of (by omega) he.out hr0 hr1
          by_cases hip : i < p
          · have hpl : Hid (plcC a b c i = q ∧ plcP a b c i = r ∧ plcE a b c i = 0) := by
              have h1 := HPL.out i hi0 hip
              have h2 := Int.mul_ediv_add_emod i a
              have h3 := he.out
              rw [hdv.out] at h1 h2
              exact ⟨h1.1, by rw [h1.2.1]; omega, h1.2.2⟩
            have hdiv : Hid (a * (q + 1) + 0 = i + 1 ∨ r + 1 ≠ a) := by
              by_cases hh : r + 1 = a
              · left; have := he.out; rw [Int.mul_add]; omega
              · right; exact hh
            by_cases hra : (r + 1 == a) = true
            · have hra' : r + 1 = a := by simpa using hra
              have hnew : Hid (a * (q + 1) + 0 = i + 1) := by show _ = _; rcases hdiv.out with h | h; exact h; exact absurd hra' h
              have Hra := Lib.hid hra'
              clear hra' hdiv
              go_wp2_with fail
              (with_reducible refine (place_eq _ _ _ _ _ _ _ (by omega) (by omega) hpl _).mono ?_)
              rintro e w5 ⟨rfl, hb⟩
              have HB5 := Lib.hid (HBr.out.next hb)
              clear hb a0 a1 a2 b0 b1 b2 hs hs2 hB HBr
              obtain ⟨⟨a0, a1, a2⟩, ⟨b0, b1, b2⟩, hs, hs2, hB⟩ := HB5.out
              go_wp2_with fail
              go_roundw
              case rel => exact ⟨i + 1, q + 1, 0, by go_num, by go_num, by go_num, by omega, by omega, by omega, by omega, by omega, by omega, hnew, HB5⟩
              case measure => simp [intOf]; omega
            · have hra' : ¬ r + 1 = a := by simpa using hra
              have hra2 : r + 1 < a := by omega
              have hra3 : (r + 1 == a) = false := by simpa using hra
              have hnew : Hid (a * q + (r + 1) = i + 1) := by show _ = _; have := he.out; omega
              clear hra hra' hdiv
              go_wp2_with fail
              (with_reducible refine (place_eq _ _ _ _ _ _ _ (by omega) (by omega) hpl _).mono ?_)
              rintro e w5 ⟨rfl, hb⟩
              have HB5 := Lib.hid (HBr.out.next hb)
              clear hb a0 a1 a2 b0 b1 b2 hs hs2 hB HBr
              obtain ⟨⟨a0, a1, a2⟩, ⟨b0, b1, b2⟩, hs, hs2, hB⟩ := HB5.out
              go_wp2_with fail
              go_roundw
              case rel => exact ⟨i + 1, q, r + 1, by go_num, by go_num, by go_num, by omega, by omega, by omega, by omega, by omega, by omega, hnew, HB5⟩
              case measure => simp [intOf]; omega
          · obtain rfl : i = p := by omega
            obtain rfl : q = b := hdv.out.symm.trans HPB.out
            go_wp2_with fail
            (with_reducible refine (place_eq _ _ _ _ _ _ _ (by omega) (by omega) HPE _).mono ?_)
            rintro e w5 ⟨rfl, hb⟩
            have HB5 := Lib.hid (HBr.out.next hb)
            clear hb a0 a1 a2 b0 b1 b2 hs hs2 hB HBr
            obtain ⟨⟨a0, a1, a2⟩, ⟨b0, b1, b2⟩, hs, hs2, hB⟩ := HB5.out
            go_wp2_with fail
            (with_reducible refine (awake_any _).mono ?_)
            rintro e w6 ⟨rfl, hb⟩
            go_wp2_with fail
            go_ret
            exact ⟨rfl, below_old hB hb⟩
  · have hsp := Lib.hid (spl_no hok)
    go_enter Try.func12, Try.ntmps12
    go_wp2_with fail
    (with_reducible refine (shape_any _ _ _ _).mono ?_)
    rintro e w1 ⟨rfl, hb⟩
    obtain ⟨c0, c1, c2, hlt, hbel⟩ := box_cells hb
    clear hb
    have hB : BoxK w (w1.alloc (.cells #[.int .i64 a, .int .i64 b, .int .i64 c] 57)) w1.heap.size a b c := by
      refine ⟨⟨?_, ?_, ?_⟩, ⟨?_, ?_, ?_⟩, hlt, by simp, hbel.alloc (by omega) _⟩
      · rw [World.cell?_alloc_lt _ _ _ hlt]; exact c0
      · rw [World.cell?_alloc_lt _ _ _ hlt]; exact c1
      · rw [World.cell?_alloc_lt _ _ _ hlt]; exact c2
      all_goals simp [go_sem]
    have HB := Lib.hid hB
    clear hB
    go_wp2_with fail
    (with_reducible refine (split_eq _ _ _ _ _ _ hsp _).mono ?_)
    rintro e w2 ⟨v, rfl, ho, hb⟩
    have HB2 := Lib.hid (HB.out.next hb)
    obtain ⟨A, cap, rfl, _⟩ := ho.rd
    generalize w1.heap.size = b5 at *
    clear ho hb HB c0 c1 c2 hlt hbel
    obtain ⟨⟨a0, a1, a2⟩, ⟨b0, b1, b2⟩, hs, hs2, hB⟩ := HB2.out
    by_cases hck : 1 ≤ a ∧ a ≤ 8 ∧ 1 ≤ b ∧ b ≤ 8 ∧ 0 ≤ c ∧ c ≤ 50
    · have hk := Lib.hid (chk_ok hck)
      by_cases hn0 : n < 0
      all_goals
        go_wp2_with fail
        (with_reducible refine (check_eq _ _ _ _ hk _).mono ?_)
        rintro e w5 ⟨rfl, hb⟩
        have HB5 := Lib.hid (HB2.out.next hb)
        clear hb
        go_wp2_with fail
        (with_reducible refine (awake_any _).mono ?_)
        rintro e w6 ⟨rfl, hb⟩
        go_wp2_with fail
        go_ret
        first | exact ⟨rfl, below_old HB5.out.2.2.2.2 hb⟩ | exact ⟨ret_bool (by simp; omega), below_old HB5.out.2.2.2.2 hb⟩
    · have hk := Lib.hid (chk_no hck)
      clear hok hck
      go_wp2_with fail
      (with_reducible refine (check_eq _ _ _ _ hk _).mono ?_)
      rintro e w5 ⟨rfl, hb⟩
      have HB5 := Lib.hid (HB2.out.next hb)
      clear hb
      go_wp2_with fail
      (with_reducible refine (awake_any _).mono ?_)
      rintro e w6 ⟨rfl, hb⟩
      go_wp2_with fail
      go_ret
      exact ⟨rfl, below_old HB5.out.2.2.2.2 hb⟩
end Go.Proofs.Ytgkkhbhobbhlpaa
