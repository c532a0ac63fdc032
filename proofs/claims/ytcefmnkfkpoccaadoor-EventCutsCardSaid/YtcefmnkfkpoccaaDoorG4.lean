/- The reference of wire: Uint, Zigzag, Int, Text. -/
import Derived.Test.YtcefmnkfkpoccaaDoorG3
import Derived.Test.YtcefmnkfkpoccaaDoorR2
import Derived.Test.YtcefmnkfkpoccaaDoorC1
namespace Go.Proofs.YtcefmnkfkpoccaaDoor
open Go.RowKit
set_option linter.unusedVariables false
open Wi Evn
theorem tm {x : Act} {e : Nat} {v : Value} (h : x.eval (.tmp e) = v) : x.tmps[e]?.getD undef = v := by
  rw [← h]; simp [Act.eval]
theorem conv_at (W : World) (b : Nat) (x : Int) (h : W.cell? ⟨b, 0, none⟩ = some (.int .u8 x)) : (convert 39 9 (.slice (some ⟨b, 0, none⟩) 1 1)).run Tryd.prog W = .ok (.string (strOfNums [x])) W := by
  refine run_convert_bytes_arg _ 39 5 Tryd.underlying39 Tryd.underlying5 b 0 1 1 [x] rfl (fun i hi => ?_) 9 Tryd.underlying9
  have : i = 0 := by omega
  subst this
  exact h
def ruV (n : Nat) (r c : Int) (m : Nat) (T X : ByteArray) (b : Nat) : Nat → Value
  | 0 => .int .u64 n
  | 1 => .int .u64 r
  | 2 => .int .u64 c
  | 3 => .int .u8 c
  | 4 => .slice (some ⟨b, 0, none⟩) 1 1
  | 5 => .string (strOfNums [c])
  | 6 => .int .u64 n
  | 7 => .int .u64 m
  | 8 => .string T
  | _ => .string X
theorem ruV_ne {n : Nat} {r c : Int} {m : Nat} {T X : ByteArray} {b b' j : Nat} (h : j ≠ 4) : ruV n r c m T X b' j = ruV n r c m T X b j := by
  match j, h with
  | 0, _ => rfl | 1, _ => rfl | 2, _ => rfl | 3, _ => rfl | 4, h => exact absurd rfl h | 5, _ => rfl | 6, _ => rfl | 7, _ => rfl | 8, _ => rfl | _ + 9, _ => rfl
def ruD : List (Nat × Nat) := [(9, 0), (10, 1), (11, 2), (12, 3), (13, 4), (14, 5), (15, 6), (16, 7), (17, 8), (18, 9), (2, 10)]
def ruW (W0 : World) (k : Int) (L : Nat → Bool) (b : Nat) (w' : World) : Prop :=
  Below W0.heap.size W0 w' ∧ (L 4 = true → w'.cell? ⟨b, 0, none⟩ = some (.int .u8 k) ∧ b < w'.heap.size)
theorem ruW.next {W0 w' w'' : World} {k : Int} {L : Nat → Bool} {b i : Nat} (h : ruW W0 k L b w') (hi : i ≠ 4) (hb : Below w'.heap.size w' w'') : ruW W0 k (fun j => j == i || L j) b w'' := by
  refine ⟨below_old h.1 hb, fun h1 => ?_⟩
  have h2 : L 4 = true := by simpa [Ne.symm hi] using h1
  obtain ⟨h3, h4⟩ := h.2 h2
  exact ⟨by rw [hb.cell h4]; exact h3, Nat.lt_of_lt_of_le h4 hb.size⟩
theorem uv_one {x : Nat} (h : x < 256) : strOfNums [(x : Int)] = lb [UInt8.ofNat x] := by
  rw [← nums_lb]
  congr 1
  simp
  omega
set_option maxRecDepth 100000 in
set_option maxHeartbeats 4000000 in
theorem ruint_any : ∀ (f n : Nat), n < 128 ^ f → n < 18446744073709551616 → ∀ w : World, Calls Tryd.prog 81 #[.int .u64 n] w fun e w' => e = .returned (.string (lb (uvL n))) ∧ Below w.heap.size w w' := by
  intro f
  induction f with
  | zero =>
    intro n h h64 w
    have h0 : n = 0 := by simpa using h
    subst h0
    have hcv := conv_one
    have HE : Hid (strOfNums [0] = lb (uvL 0)) := by show _ = _; decide +kernel
    rw [show ((0 : Nat) : Int) = 0 from rfl]
    go_enter Tryd.func81, Tryd.ntmps81
    go_wp2_with fail
    go_ret
    exact ⟨ret_st HE.out, (Below.refl _ _).alloc (Nat.le_refl _) _⟩
  | succ f ih =>
    intro n h h64 w
    by_cases hs : n < 128
    · have hcv := conv_one
      have hz : (n : Int) < 128 := by omega
      have HE : Hid (strOfNums [(n : Int)] = lb (uvL n)) := by show _ = _; rw [uvL_small hs, uv_one (by omega)]
      go_enter Tryd.func81, Tryd.ntmps81
      go_wp2_with fail
      go_ret
      exact ⟨ret_st HE.out, (Below.refl _ _).alloc (Nat.le_refl _) _⟩
    · have hz : ¬ (n : Int) < 128 := by omega
      obtain ⟨m, hm⟩ : ∃ m, n / 128 = m := ⟨_, rfl⟩
      obtain ⟨r, hr⟩ : ∃ r : Int, (n : Int) % 128 = r := ⟨_, rfl⟩
      have hr2 : 0 ≤ r ∧ r < 128 := by omega
      have hmf : m < 128 ^ f := by
        rw [← hm, Nat.div_lt_iff_lt_mul (by decide)]
        rw [Nat.pow_succ] at h
        exact h
      have HIH := Lib.hid (ih m hmf (by omega))
      obtain ⟨T, hT⟩ : ∃ T, lb (uvL m) = T := ⟨_, rfl⟩
      rw [hT] at HIH
      obtain ⟨c, hc⟩ : ∃ c : Int, 128 + r = c := ⟨_, rfl⟩
      have HX : Hid (strOfNums [c] ++ T = lb (uvL n)) := by
        show _ = _
        have e1 : c = ((128 + n % 128 : Nat) : Int) := by omega
        rw [uvL_big hs h64, hm, ← hT, e1, uv_one (by omega)]
        apply ByteArray.ext
        apply Array.ext'
        simp [lb]
      have hts : T.size ≤ 10 := by rw [← hT]; exact (uvL_len m).2
      have hcat : ¬ 9223372036854775807 < (strOfNums [c]).size + T.size := by rw [strOfNums_size]; simp; omega
      have f1 : (n : Int).tmod 128 = r := by rw [Int.tmod_eq_emod_of_nonneg (by omega)]; exact hr
      have f2 : (n : Int).tdiv 128 = (m : Int) := by rw [Int.tdiv_eq_ediv_of_nonneg (by omega)]; omega
      have f3 : IntKind.u64.wrap c = c := by rw [IntKind.wrap_u64]; omega
      have f4 : IntKind.u8.wrap c = c := by rw [IntKind.wrap_u8]; omega
      have f5 : IntKind.u64.wrap (m : Int) = m := by rw [IntKind.wrap_u64]; omega
      clear hT hm hr
      go_enter Tryd.func81, Tryd.ntmps81
      go_wp2_with fail
      refine wp_region_fr (G := Nat) (by kernel_rfl) (by kernel_rfl) ruD (by kernel_rfl) (ruV n r c m T (strOfNums [c] ++ T)) (ruW w c) 0 ⟨(Below.refl _ _).drew, fun h => by cases h⟩ ?_ ?_
      · intro i o L a' w' b ho hLi hpre hF hW
        have put := fun (d i : Nat) (v : Value) (hd : ruD.lookup d = some i) (hin : d < 19) (hv : ruV n r c m T (strOfNums [c] ++ T) b i = v) => hF.put (V' := ruV n r c m T (strOfNums [c] ++ T) b) hd (fun e he => lookup_inj (D := ruD) (by decide) hd he) hin (fun _ _ _ => rfl) hv
        have HWW := Lib.hid hW
        have stay := fun (i : Nat) (hi : i ≠ 4) => HWW.out.next hi (Below.refl _ _)
        match i, ho, hLi, hpre with
        | 0, ho, hLi, hpre =>
          obtain rfl := Option.some.inj ho; clear ho
          refine wpOp_want rfl rfl ?_
          simp [go_sem, tm (show a'.eval (.tmp 0) = .int .u64 n from hF.old rfl)]
          exact ⟨b, put 9 0 _ rfl (by decide) rfl, stay 0 (by decide)⟩
        | 1, ho, hLi, hpre =>
          obtain rfl := Option.some.inj ho; clear ho
          refine wpOp_want rfl rfl ?_
          simp [go_sem, tm (show a'.eval (.tmp 9) = .int .u64 n from hF.get rfl (hpre ⟨0, .data⟩ (by simp) rfl)), f1]
          exact ⟨b, put 10 1 _ rfl (by decide) rfl, stay 1 (by decide)⟩
        | 2, ho, hLi, hpre =>
          obtain rfl := Option.some.inj ho; clear ho
          refine wpOp_want rfl rfl ?_
          simp [go_sem, tm (show a'.eval (.tmp 10) = .int .u64 r from hF.get rfl (hpre ⟨1, .data⟩ (by simp) rfl)), hc, f3]
          exact ⟨b, put 11 2 _ rfl (by decide) rfl, stay 2 (by decide)⟩
        | 3, ho, hLi, hpre =>
          obtain rfl := Option.some.inj ho; clear ho
          refine wpOp_want rfl rfl ?_
          simp [go_sem, tm (show a'.eval (.tmp 11) = .int .u64 c from hF.get rfl (hpre ⟨2, .data⟩ (by simp) rfl)), f4]
          exact ⟨b, put 12 3 _ rfl (by decide) rfl, stay 3 (by decide)⟩
        | 4, ho, hLi, hpre =>
          obtain rfl := Option.some.inj ho; clear ho
          have e1 := tm <| show a'.eval (.tmp 12) = .int .u8 c from hF.get rfl (hpre ⟨3, .data⟩ (by simp) rfl)
          refine wpOp_want rfl rfl ?_
          simp [go_sem, e1]
          exact ⟨w'.heap.size, hF.put (V' := ruV n r c m T (strOfNums [c] ++ T) w'.heap.size) (d := 13) (i := 4) rfl (fun e he => lookup_inj (D := ruD) (by decide) rfl he) (show 13 < 19 by decide) (fun j hj _ => ruV_ne hj) rfl, (hW.1.alloc (hW.1.size) _), fun _ => ⟨by simp [go_sem], by simp⟩⟩
        | 5, ho, hLi, hpre =>
          obtain rfl := Option.some.inj ho; clear ho
          have e1 := tm <| show a'.eval (.tmp 13) = .slice (some ⟨b, 0, none⟩) 1 1 from hF.get rfl (hpre ⟨4, .data⟩ (by simp) rfl)
          have hcell := hW.2 (hpre ⟨4, .data⟩ (by simp) rfl)
          refine wpOp_want rfl rfl ?_
          simp [go_sem, e1, conv_at w' b c hcell.1]
          exact ⟨b, put 14 5 _ rfl (by decide) rfl, stay 5 (by decide)⟩
        | 6, ho, hLi, hpre =>
          obtain rfl := Option.some.inj ho; clear ho
          refine wpOp_want rfl rfl ?_
          simp [go_sem, tm (show a'.eval (.tmp 0) = .int .u64 n from hF.old rfl)]
          exact ⟨b, put 15 6 _ rfl (by decide) rfl, stay 6 (by decide)⟩
        | 7, ho, hLi, hpre =>
          obtain rfl := Option.some.inj ho; clear ho
          refine wpOp_want rfl rfl ?_
          simp [go_sem, tm (show a'.eval (.tmp 15) = .int .u64 n from hF.get rfl (hpre ⟨6, .data⟩ (by simp) rfl)), f2, f5]
          exact ⟨b, put 16 7 _ rfl (by decide) rfl, stay 7 (by decide)⟩
        | 8, ho, hLi, hpre =>
          obtain rfl := Option.some.inj ho; clear ho
          have e1 := tm <| show a'.eval (.tmp 16) = .int .u64 m from hF.get rfl (hpre ⟨7, .data⟩ (by simp) rfl)
          refine wpOp_want rfl rfl ?_
          simp [go_sem, e1]
          (with_reducible refine (HIH.out _).mono ?_)
          rintro e w'' ⟨rfl, hb⟩
          exact ⟨b, put 17 8 _ rfl (by decide) rfl, hW.next (by decide) hb⟩
        | 9, ho, hLi, hpre =>
          obtain rfl := Option.some.inj ho; clear ho
          refine wpOp_want rfl rfl ?_
          simp [go_sem, tm (show a'.eval (.tmp 14) = .string (strOfNums [c]) from hF.get rfl (hpre ⟨5, .data⟩ (by simp) rfl)), tm (show a'.eval (.tmp 17) = .string T from hF.get rfl (hpre ⟨8, .data⟩ (by simp) rfl)), hcat]
          exact ⟨b, put 18 9 _ rfl (by decide) rfl, stay 9 (by decide)⟩
        | 10, ho, hLi, hpre =>
          obtain rfl := Option.some.inj ho; clear ho
          refine wpOp_want rfl rfl ?_
          simp [go_sem, tm (show a'.eval (.tmp 18) = .string (strOfNums [c] ++ T) from hF.get rfl (hpre ⟨9, .data⟩ (by simp) rfl))]
          exact ⟨b, put 2 10 _ rfl (by decide) rfl, stay 10 (by decide)⟩
        | i + 11, ho, hLi, hpre => exact absurd ho (by simp)
      · intro L b w' hall hW
        have hBw := Lib.hid hW.1
        clear hW hall
        simp only [ruD, List.foldl, ruV, Act.put, List.setIfInBounds_toArray, List.set_cons_succ, List.set_cons_zero]
        go_wp2_with fail
        go_ret
        exact ⟨ret_st HX.out, hBw.out⟩
theorem ruint_eq (x : Int) (n : Nat) (hx : Hid (x = (n : Int))) (hn : n < 18446744073709551616) (T : ByteArray) (hT : Hid (lb (uvL n) = T)) (w : World) : Calls Tryd.prog 81 #[.int .u64 x] w fun e w' => e = .returned (.string T) ∧ Below w.heap.size w w' := by
  have := ruint_any 10 n (by have : (128 : Nat) ^ 10 = 1180591620717411303424 := by decide
                             omega) hn w
  rw [← hx.out, hT.out] at this
  exact this
theorem rzig_any (n : Int) (h0 : -9223372036854775808 ≤ n) (h1 : n ≤ 9223372036854775807) (w : World) : Calls Tryd.prog 82 #[.int .i64 n] w fun e w' => e = .returned (.int .u64 (zz n)) ∧ w' = w := by
  by_cases h : n < 0
  · have HZ : Hid (2 * (-(n + 1)) + 1 = ((zz n : Nat) : Int)) := by show _ = _; unfold zz; rw [if_neg (by omega)]; omega
    go_enter Tryd.func82, Tryd.ntmps82
    go_wp2_with fail
    go_ret
    exact ⟨ret_int' (by rw [← HZ.out]), rfl⟩
  · have HZ : Hid (2 * n = ((zz n : Nat) : Int)) := by show _ = _; unfold zz; rw [if_pos (by omega)]; omega
    go_enter Tryd.func82, Tryd.ntmps82
    go_wp2_with fail
    go_ret
    exact ⟨ret_int' HZ.out, rfl⟩
theorem rint_any (n : Int) (h0 : -9223372036854775808 ≤ n) (h1 : n ≤ 9223372036854775807) (T : ByteArray) (hT : Hid (lb (inL n) = T)) (w : World) : Calls Tryd.prog 58 #[.int .i64 n] w fun e w' => e = .returned (.string T) ∧ Below w.heap.size w w' := by
  have hz := zz_lt h0 h1
  unfold inL at hT
  go_enter Tryd.func58, Tryd.ntmps58
  go_wp2_with fail
  (with_reducible refine (rzig_any n h0 h1 _).mono ?_)
  rintro e w1 ⟨rfl, rfl⟩
  go_wp2_with fail
  (with_reducible refine (ruint_eq _ _ (Lib.hid rfl) hz T hT _).mono ?_)
  rintro e w1 ⟨rfl, hb⟩
  go_wp2_with fail
  go_ret
  exact ⟨rfl, hb⟩
theorem rtext_any (s : ByteArray) (hs : (s.size : Int) ≤ 1000000) (T : ByteArray) (hT : Hid (lb (txL (bl s)) = T)) (w : World) : Calls Tryd.prog 59 #[.string s] w fun e w' => e = .returned (.string T) ∧ Below w.heap.size w w' := by
  obtain ⟨U, hU⟩ : ∃ U, lb (uvL s.size) = U := ⟨_, rfl⟩
  have HU := Lib.hid hU
  have hus : (U.size : Int) ≤ 10 := by rw [← hU]; have := (uvL_len s.size).2; show (((uvL s.size).length : Nat) : Int) ≤ 10; omega
  have HE : Hid (U ++ s = T) := by
    show _ = _
    rw [← hT.out, ← hU]
    apply ByteArray.ext
    apply Array.ext'
    simp [lb, bl, txL]
  clear hU
  go_enter Tryd.func59, Tryd.ntmps59
  go_wp2_with fail
  (with_reducible refine (ruint_eq _ s.size (Lib.hid rfl) (by omega) U HU _).mono ?_)
  rintro e w1 ⟨rfl, hb⟩
  go_wp2_with fail
  go_ret
  exact ⟨ret_st HE.out, hb⟩
end Go.Proofs.YtcefmnkfkpoccaaDoor
