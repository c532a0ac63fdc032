/- ident.Code: the walk. -/
import Derived.Test.YtlhjneeccjkaoaaDoorC2
namespace Go.Proofs.YtlhjneeccjkaoaaDoor
open Go.RowKit
set_option linter.unusedVariables false

abbrev TabOk (w : World) : Prop := Lib.TabIs Tryd.prog w "internal/strconv.uint64pow10" .u64 Lib.pow10Tab
theorem TabOk.below {w w' : World} (h : TabOk w) (hb : Below w.heap.size w w') : TabOk w' := Lib.tabBelow_of_tabIs h w' hb
theorem below_grow' (w : World) (k : Nat) (os : Array Obj) : Below w.heap.size w (Go.Sort.grow (w.drewN k) os) :=
  ⟨rfl, rfl, rfl, by simp [Go.Sort.grow], fun i hi => by simp [Go.Sort.grow, Array.getElem?_append, hi]⟩
theorem itoa_any (N : Nat) (h1 : (N : Int) ≤ 999999) (w : World) (ht : TabOk w) :
    Calls Tryd.prog 28 #[.int .i64 N] w fun e w' => e = .returned (.string ⟨(Lib.decDigits N).toArray⟩) ∧ Below w.heap.size w w' := by
  refine (Tryd.strconv_Itoa (N : Int) (by omega) (by omega) w ht).mono fun e w' h => ?_
  obtain ⟨h2, k, os, rfl⟩ := h
  rw [Lib.itoa_nonneg] at h2
  exact ⟨h2, below_grow' w k os⟩

theorem tm {x : Act} {e : Nat} {v : Value} (h : x.eval (.tmp e) = v) : x.tmps[e]?.getD undef = v := by
  rw [← h]; simp [Act.eval]
theorem conv_at (W : World) (b : Nat) (x : Int) (h : W.cell? ⟨b, 0, none⟩ = some (.int .u8 x)) : (convert 35 9 (.slice (some ⟨b, 0, none⟩) 1 1)).run Tryd.prog W = .ok (.string (strOfNums [x])) W := by
  refine run_convert_bytes_arg _ 35 5 Tryd.underlying35 Tryd.underlying5 b 0 1 1 [x] rfl (fun i hi => ?_) 9 Tryd.underlying9
  have : i = 0 := by omega
  subst this
  exact h
/-- What the operations of the region fill in. -/
def cdV (k : Int) (num zs : ByteArray) (m c : Nat) (b : Nat) : Nat → Value
  | 0 => .int .u8 k
  | 1 => .slice (some ⟨b, 0, none⟩) 1 1
  | 2 => .string (strOfNums [k])
  | 3 => .string num
  | 4 => .int .i64 m
  | 5 => .int .i64 c
  | 6 => .string zs
  | 7 => .string (strOfNums [k] ++ zs)
  | 8 => .string num
  | _ => .string (strOfNums [k] ++ zs ++ num)
theorem cdV_ne {k : Int} {num zs : ByteArray} {m c b b' j : Nat} (h : j ≠ 1) : cdV k num zs m c b' j = cdV k num zs m c b j := by
  match j, h with
  | 0, _ => rfl | 1, h => exact absurd rfl h | 2, _ => rfl | 3, _ => rfl | 4, _ => rfl | 5, _ => rfl | 6, _ => rfl | 7, _ => rfl | 8, _ => rfl | _ + 9, _ => rfl
def cdD : List (Nat × Nat) := [(19, 0), (20, 1), (21, 2), (22, 3), (23, 4), (24, 5), (25, 6), (26, 7), (27, 8), (28, 9), (7, 10)]
def cdW (W0 : World) (k : Int) (L : Nat → Bool) (b : Nat) (w' : World) : Prop :=
  Below W0.heap.size W0 w' ∧ (L 1 = true → w'.cell? ⟨b, 0, none⟩ = some (.int .u8 k) ∧ b < w'.heap.size)
theorem cdW.next {W0 w' w'' : World} {k : Int} {L : Nat → Bool} {b i : Nat} (h : cdW W0 k L b w') (hi : i ≠ 1) (hb : Below w'.heap.size w' w'') : cdW W0 k (fun j => j == i || L j) b w'' := by
  refine ⟨below_old h.1 hb, fun h1 => ?_⟩
  have h2 : L 1 = true := by simpa [Ne.symm hi] using h1
  obtain ⟨h3, h4⟩ := h.2 h2
  exact ⟨by rw [hb.cell h4]; exact h3, Nat.lt_of_lt_of_le h4 hb.size⟩

set_option maxRecDepth 100000 in
set_option maxHeartbeats 4000000 in
theorem code_any (k n : Int) (w : World) (ht : TabOk w) :
    Calls Tryd.prog 16 #[.int .u8 k, .int .i64 n] w fun e w' => e = .returned (.tuple #[.string (codT k n), .int .i64 (codB k n)]) ∧ Below w.heap.size w w' := by
  by_cases hk : 65 ≤ k ∧ k ≤ 90
  · by_cases hn : 0 ≤ n ∧ n ≤ 999999
    · have hv := Lib.hid (cod_ok hk hn)
      obtain ⟨N, rfl⟩ := Int.eq_ofNat_of_zero_le hn.1
      have hp := Lib.hid (pad_list N (by omega))
      have hpb := pad_body k N (by omega)
      obtain ⟨num, hnum⟩ : ∃ num : ByteArray, (⟨(Lib.decDigits N).toArray⟩ : ByteArray) = num := ⟨_, rfl⟩
      obtain ⟨m, hm⟩ : ∃ m, (Lib.decDigits N).length = m := ⟨_, rfl⟩
      have hms : num.size = m := by rw [← hnum, ← hm]; simp [ByteArray.size]
      have hm1 : 1 ≤ m ∧ m ≤ 6 := by rw [← hm]; exact ⟨hp.out.2.1, hp.out.1⟩
      obtain ⟨c, hc⟩ : ∃ c, 6 - m = c := ⟨_, rfl⟩
      have hcm : (6 : Int) - (m : Int) = (c : Int) := by omega
      obtain ⟨zs, hzs⟩ : ∃ zs : ByteArray, (⟨(Lib.repeatL [48] c).toArray⟩ : ByteArray) = zs := ⟨_, rfl⟩
      have hzz : zs.size = c := by rw [← hzs]; simp [ByteArray.size, Lib.repeatL_length]
      rw [hm, hnum, hc, hzs] at hpb
      have hIt := fun W (hT : TabOk W) => itoa_any N (by omega) W hT
      rw [hnum] at hIt
      have hRp := fun W => Tryd.strings_Repeat ⟨#[48]⟩ c W (by omega) (by show 1 * c ≤ _; omega)
      have hz1 : (⟨(Lib.repeatL (⟨#[48]⟩ : ByteArray).data.toList c).toArray⟩ : ByteArray) = zs := hzs
      rw [hz1] at hRp
      have HIt := Lib.hid hIt; have HRp := Lib.hid hRp; have HT := Lib.hid ht; have HPB := Lib.hid hpb
      have hc6 : c ≤ 5 := by omega
      have hwc : IntKind.i64.wrap (c : Int) = c := by rw [IntKind.wrap_i64]; omega
      have hcat1 : ¬ 9223372036854775807 < (strOfNums [k]).size + zs.size := by rw [strOfNums_size, hzz]; simp; omega
      have hcat2 : ¬ 9223372036854775807 < (strOfNums [k]).size + zs.size + num.size := by rw [strOfNums_size, hzz, hms]; simp; omega
      clear hIt hRp hz1 hzs hnum hm hp hc ht hpb
      go_enter Tryd.func16, Tryd.ntmps16
      go_wp2_with (go_at_call 27; (with_reducible refine (cap_yes _ hk _).mono ?_); rintro e w' ⟨rfl, rfl⟩)
      (with_reducible refine (HIt.out _ HT.out).mono ?_)
      rintro e w1 ⟨rfl, hb⟩
      have HB1 := Lib.hid hb
      clear hb
      go_wp2_with fail
      refine wp_region_fr (G := Nat) (by kernel_rfl) (by kernel_rfl) cdD (by kernel_rfl) (cdV k num zs m c) (cdW w1 k) 0 ⟨(Below.refl _ _).drew, fun h => by cases h⟩ ?_ ?_
      · intro i o L a' w' b ho hLi hpre hF hW
        have put := fun (d i : Nat) (v : Value) (hd : cdD.lookup d = some i) (hin : d < 35) (hv : cdV k num zs m c b i = v) => hF.put (V' := cdV k num zs m c b) hd (fun e he => lookup_inj (D := cdD) (by decide) hd he) hin (fun _ _ _ => rfl) hv
        have HWW := Lib.hid hW
        have stay := fun (i : Nat) (hi : i ≠ 1) => HWW.out.next hi (Below.refl _ _)
        match i, ho, hLi, hpre with
        | 0, ho, hLi, hpre =>
          obtain rfl := Option.some.inj ho; clear ho
          refine wpOp_want rfl rfl ?_
          simp [go_sem, tm (show a'.eval (.tmp 0) = .int .u8 k from hF.old rfl)]
          exact ⟨b, put 19 0 _ rfl (by decide) rfl, stay 0 (by decide)⟩
        | 1, ho, hLi, hpre =>
          obtain rfl := Option.some.inj ho; clear ho
          have e1 := tm <| show a'.eval (.tmp 19) = .int .u8 k from hF.get rfl (hpre ⟨0, .data⟩ (by simp) rfl)
          refine wpOp_want rfl rfl ?_
          simp [go_sem, e1]
          exact ⟨w'.heap.size, hF.put (V' := cdV k num zs m c w'.heap.size) (d := 20) (i := 1) rfl (fun e he => lookup_inj (D := cdD) (by decide) rfl he) (show 20 < 35 by decide) (fun j hj _ => cdV_ne hj) rfl, (hW.1.alloc (hW.1.size) _), fun _ => ⟨by simp [go_sem], by simp⟩⟩
        | 2, ho, hLi, hpre =>
          obtain rfl := Option.some.inj ho; clear ho
          have e1 := tm <| show a'.eval (.tmp 20) = .slice (some ⟨b, 0, none⟩) 1 1 from hF.get rfl (hpre ⟨1, .data⟩ (by simp) rfl)
          have hcell := hW.2 (hpre ⟨1, .data⟩ (by simp) rfl)
          refine wpOp_want rfl rfl ?_
          simp [go_sem, e1, conv_at w' b k hcell.1]
          exact ⟨b, put 21 2 _ rfl (by decide) rfl, stay 2 (by decide)⟩
        | 3, ho, hLi, hpre =>
          obtain rfl := Option.some.inj ho; clear ho
          refine wpOp_want rfl rfl ?_
          simp [go_sem, tm (show a'.eval (.tmp 6) = .string num from hF.old rfl)]
          exact ⟨b, put 22 3 _ rfl (by decide) rfl, stay 3 (by decide)⟩
        | 4, ho, hLi, hpre =>
          obtain rfl := Option.some.inj ho; clear ho
          refine wpOp_want rfl rfl ?_
          simp [go_sem, tm (show a'.eval (.tmp 22) = .string num from hF.get rfl (hpre ⟨3, .data⟩ (by simp) rfl)), hms]
          exact ⟨b, put 23 4 _ rfl (by decide) rfl, stay 4 (by decide)⟩
        | 5, ho, hLi, hpre =>
          obtain rfl := Option.some.inj ho; clear ho
          refine wpOp_want rfl rfl ?_
          simp [go_sem, tm (show a'.eval (.tmp 23) = .int .i64 m from hF.get rfl (hpre ⟨4, .data⟩ (by simp) rfl)), hcm, hwc]
          exact ⟨b, put 24 5 _ rfl (by decide) rfl, stay 5 (by decide)⟩
        | 6, ho, hLi, hpre =>
          obtain rfl := Option.some.inj ho; clear ho
          have e1 := tm <| show a'.eval (.tmp 24) = .int .i64 c from hF.get rfl (hpre ⟨5, .data⟩ (by simp) rfl)
          refine wpOp_want rfl rfl ?_
          simp [go_sem, e1]
          (with_reducible refine (HRp.out _).mono ?_)
          rintro e w'' ⟨rfl, hb⟩
          exact ⟨b, put 25 6 _ rfl (by decide) rfl, hW.next (by decide) hb⟩
        | 7, ho, hLi, hpre =>
          obtain rfl := Option.some.inj ho; clear ho
          refine wpOp_want rfl rfl ?_
          simp [go_sem, tm (show a'.eval (.tmp 21) = .string (strOfNums [k]) from hF.get rfl (hpre ⟨2, .data⟩ (by simp) rfl)), tm (show a'.eval (.tmp 25) = .string zs from hF.get rfl (hpre ⟨6, .data⟩ (by simp) rfl)), hcat1]
          exact ⟨b, put 26 7 _ rfl (by decide) rfl, stay 7 (by decide)⟩
        | 8, ho, hLi, hpre =>
          obtain rfl := Option.some.inj ho; clear ho
          refine wpOp_want rfl rfl ?_
          simp [go_sem, tm (show a'.eval (.tmp 6) = .string num from hF.old rfl)]
          exact ⟨b, put 27 8 _ rfl (by decide) rfl, stay 8 (by decide)⟩
        | 9, ho, hLi, hpre =>
          obtain rfl := Option.some.inj ho; clear ho
          refine wpOp_want rfl rfl ?_
          simp [go_sem, tm (show a'.eval (.tmp 26) = .string (strOfNums [k] ++ zs) from hF.get rfl (hpre ⟨7, .data⟩ (by simp) rfl)), tm (show a'.eval (.tmp 27) = .string num from hF.get rfl (hpre ⟨8, .data⟩ (by simp) rfl)), hcat2]
          exact ⟨b, put 28 9 _ rfl (by decide) rfl, stay 9 (by decide)⟩
        | 10, ho, hLi, hpre =>
          obtain rfl := Option.some.inj ho; clear ho
          refine wpOp_want rfl rfl ?_
          simp [go_sem, tm (show a'.eval (.tmp 28) = .string (strOfNums [k] ++ zs ++ num) from hF.get rfl (hpre ⟨9, .data⟩ (by simp) rfl))]
          exact ⟨b, put 7 10 _ rfl (by decide) rfl, stay 10 (by decide)⟩
        | i + 11, ho, hLi, hpre => exact absurd ho (by simp)
      · intro L b w' hall hW
        have hBw := Lib.hid hW.1
        clear hW hall
        simp only [cdD, List.foldl, cdV, Act.put]
        rw [HPB.out]
        have hs7 : (body k N 6).size = 7 := body_size k N 6 (by omega)
        obtain ⟨l, hl⟩ : ∃ l, letN (body k N 6) 7 = l := ⟨_, rfl⟩
        have hlr := letN_range (body k N 6) 7
        have hlc := (letter_any (body k N 6) (by rw [hs7]; omega))
        rw [hs7, hl] at hlc
        rw [hl] at hlr
        have HC := Lib.hid (body_code k N l hl)
        have HL := Lib.hid hlc
        have hcat : ¬ 9223372036854775807 < (body k N 6).size + (strOfNums [65 + l]).size := by rw [hs7, strOfNums_size]; simp
        clear hl hlc hs7
        have hcv := conv_one
        clear HPB
        generalize body k N 6 = bd at *
        go_wp2_with fail
        (with_reducible refine (HL.out _).mono ?_)
        rintro e w2 ⟨rfl, rfl⟩
        go_wp2_with fail
        go_ret2
        exact ⟨ret_sE (by rw [hv.out.1]; exact HC.out) hv.out.2.symm, (below_old HB1.out hBw.out).alloc (below_old HB1.out hBw.out).size _⟩
    · have hv := Lib.hid (cod_range hk hn)
      by_cases hn0 : n < 0
      all_goals
        go_enter Tryd.func16, Tryd.ntmps16
        go_wp2_with (go_at_call 27; (with_reducible refine (cap_yes _ hk _).mono ?_); rintro e w' ⟨rfl, rfl⟩)
        go_ret2
        exact ⟨ret_sE hv.out.1.symm hv.out.2.symm, Below.refl _ _⟩
  · have hv := Lib.hid (cod_kind (n := n) hk)
    go_enter Tryd.func16, Tryd.ntmps16
    go_wp2_with (go_at_call 27; (with_reducible refine (cap_no _ hk _).mono ?_); rintro e w' ⟨rfl, rfl⟩)
    go_ret2
    exact ⟨ret_sE hv.out.1.symm hv.out.2.symm, Below.refl _ _⟩
end Go.Proofs.YtlhjneeccjkaoaaDoor
