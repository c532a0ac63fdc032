/- Package stack and its reference: contracts of Size and Weight. -/
import Derived.Test.YtgkkhbhobbhlpaaS1
namespace Go.Proofs.Ytgkkhbhobbhlpaa
open Go.RowKit
set_option linter.unusedVariables false

theorem mulB {a b : Int} (m n : Int) (ha : 0 ≤ a ∧ a ≤ m) (hb : 0 ≤ b ∧ b ≤ n) : 0 ≤ a * b ∧ a * b ≤ m * n :=
  ⟨Int.mul_nonneg ha.1 hb.1, Int.mul_le_mul ha.2 hb.2 hb.1 (by omega)⟩

def iszB (n : Int) : Bool := decide (1 ≤ n ∧ n ≤ 600)
theorem isz_yes (n : Int) (h : 1 ≤ n ∧ n ≤ 600) (w : World) : Calls Try.prog 51 #[.int .i64 n] w fun e w' => e = .returned (.bool true) ∧ w = w' := by
  go_enter Try.func51, Try.ntmps51
  go_wp2
  go_ret
  exact ⟨rfl, rfl⟩
theorem isz_no (n : Int) (h : ¬ (1 ≤ n ∧ n ≤ 600)) (w : World) : Calls Try.prog 51 #[.int .i64 n] w fun e w' => e = .returned (.bool false) ∧ w = w' := by
  by_cases h1 : 1 ≤ n
  · have h2 : ¬ n ≤ 600 := by omega
    clear h
    go_enter Try.func51, Try.ntmps51
    go_wp2
    go_ret
    exact ⟨rfl, rfl⟩
  · clear h
    go_enter Try.func51, Try.ntmps51
    go_wp2
    go_ret
    exact ⟨rfl, rfl⟩

def sizB (a b c x y n : Int) : Bool := decide ((1 ≤ a ∧ a ≤ 8 ∧ 1 ≤ b ∧ b ≤ 8 ∧ 0 ≤ c ∧ c ≤ 50) ∧ (1 ≤ x ∧ x ≤ 600) ∧ (1 ≤ y ∧ y ≤ 600) ∧ 1 ≤ n ∧ n ≤ a * b)
def sizW (a b c x y n : Int) : Int := if sizB a b c x y n then min n a * y else 0
def sizH (a b c x y n : Int) : Int := if sizB a b c x y n then (n + a - 1) / a * x + ((n + a - 1) / a - 1) * c else 0
def sizE (a b c x y n : Int) : Int := if sizB a b c x y n then 0 else 9
theorem siz_ok {a b c x y n : Int} (h : (1 ≤ a ∧ a ≤ 8 ∧ 1 ≤ b ∧ b ≤ 8 ∧ 0 ≤ c ∧ c ≤ 50) ∧ (1 ≤ x ∧ x ≤ 600) ∧ (1 ≤ y ∧ y ≤ 600) ∧ 1 ≤ n ∧ n ≤ a * b) :
    sizW a b c x y n = min n a * y ∧ sizH a b c x y n = (n + a - 1) / a * x + ((n + a - 1) / a - 1) * c ∧ sizE a b c x y n = 0 := by
  have : sizB a b c x y n = true := decide_eq_true h
  simp [sizW, sizH, sizE, this]
theorem siz_no {a b c x y n : Int} (h : ¬ ((1 ≤ a ∧ a ≤ 8 ∧ 1 ≤ b ∧ b ≤ 8 ∧ 0 ≤ c ∧ c ≤ 50) ∧ (1 ≤ x ∧ x ≤ 600) ∧ (1 ≤ y ∧ y ≤ 600) ∧ 1 ≤ n ∧ n ≤ a * b)) :
    sizW a b c x y n = 0 ∧ sizH a b c x y n = 0 ∧ sizE a b c x y n = 9 := by
  have : sizB a b c x y n = false := decide_eq_false h
  simp [sizW, sizH, sizE, this]

set_option maxHeartbeats 2000000 in
theorem size_pkg (a b c x y n : Int) (w : World) :
    Calls Try.prog 35 #[.agg #[.int .i64 a, .int .i64 b, .int .i64 c], .agg #[.string ⟨#[]⟩, .int .i64 x, .int .i64 y, .int .i64 0, .int .i64 0, .slice none 0 0, .slice none 0 0], .int .i64 n] w
      fun e w' => e = .returned (.tuple #[.int .i64 (sizW a b c x y n), .int .i64 (sizH a b c x y n), .int .i64 (sizE a b c x y n)]) ∧ Below w.heap.size w w' := by
  by_cases h : 1 ≤ a ∧ a ≤ 8 ∧ 1 ≤ b ∧ b ≤ 8 ∧ 0 ≤ c ∧ c ≤ 50
  · have hk := Lib.hid (chk_ok h)
    have hp := prod8 ⟨h.1, h.2.1, h.2.2.1, h.2.2.2.1⟩
    obtain ⟨p, hpe⟩ : ∃ p, a * b = p := ⟨_, rfl⟩
    have hp1 : 1 ≤ p ∧ p ≤ 64 := by omega
    have HPE := Lib.hid hpe
    clear hp
    by_cases hx : 1 ≤ x ∧ x ≤ 600
    · by_cases hy : 1 ≤ y ∧ y ≤ 600
      · by_cases hn : 1 ≤ n ∧ n ≤ p
        · have hv := Lib.hid (siz_ok (x := x) (y := y) (n := n) ⟨h, hx, hy, by rw [HPE.out]; exact hn⟩)
          have ha0 : (a == 0) = false := by rw [beq_eq_false_iff_ne]; omega
          obtain ⟨k, hke⟩ : ∃ k, (n + a - 1) / a = k := ⟨_, rfl⟩
          have hk0 : 0 ≤ k := by rw [← hke]; exact Int.ediv_nonneg (by omega) (by omega)
          have hk1 : k ≤ 71 := by rw [← hke]; exact Int.le_trans (Int.ediv_le_self _ (by omega)) (by omega)
          obtain ⟨q, hq⟩ : ∃ q, min n a = q := ⟨_, rfl⟩
          have hq0 : 0 ≤ q ∧ q ≤ 8 := by omega
          obtain ⟨r1, hr1⟩ : ∃ r, k * x = r := ⟨_, rfl⟩
          obtain ⟨r2, hr2⟩ : ∃ r, (k - 1) * c = r := ⟨_, rfl⟩
          obtain ⟨r3, hr3⟩ : ∃ r, q * y = r := ⟨_, rfl⟩
          have b1 : 0 ≤ r1 ∧ r1 ≤ 71 * 600 := by rw [← hr1]; exact mulB 71 600 ⟨hk0, hk1⟩ (by omega)
          have hk2 : 1 ≤ k := by rw [← hke]; exact Int.le_ediv_of_mul_le (by omega) (by omega)
          have b2 : 0 ≤ r2 ∧ r2 ≤ 71 * 50 := by rw [← hr2]; exact mulB 71 50 (by omega) (by omega)
          have b3 : 0 ≤ r3 ∧ r3 ≤ 8 * 600 := by rw [← hr3]; exact mulB 8 600 hq0 (by omega)
          have Hke := Lib.hid hke; have Hq := Lib.hid hq; have H1 := Lib.hid hr1; have H2 := Lib.hid hr2; have H3 := Lib.hid hr3
          go_enter Try.func35, Try.ntmps35
          go_wp2_with (first | (go_at_call 32; refine (check_eq _ _ _ _ hk _).mono ?_; rintro e w1 ⟨rfl, hb⟩; obtain ⟨hc, hf⟩ := bcell hb; have hbel := below_old (((Below.refl w.heap.size w).alloc (by simp) _).alloc (by simp) _) hb) | (go_at_call 51; refine (isz_yes _ (by assumption) _).mono ?_; rintro e w' ⟨rfl, rfl⟩) | (go_at_call 51; refine (isz_no _ (by assumption) _).mono ?_; rintro e w' ⟨rfl, rfl⟩))
          go_ret3
          exact ⟨ret_three (by rw [hv.out.1, Hq.out, H3.out]) (by rw [hv.out.2.1, Hke.out, H1.out, H2.out]) hv.out.2.2.symm, hbel⟩
        · have hv := Lib.hid (siz_no (a := a) (b := b) (c := c) (x := x) (y := y) (n := n) (by rw [HPE.out]; omega))
          by_cases hn2 : n < 1
          all_goals
            go_enter Try.func35, Try.ntmps35
            go_wp2_with (first | (go_at_call 32; refine (check_eq _ _ _ _ hk _).mono ?_; rintro e w1 ⟨rfl, hb⟩; obtain ⟨hc, hf⟩ := bcell hb; have hbel := below_old (((Below.refl w.heap.size w).alloc (by simp) _).alloc (by simp) _) hb) | (go_at_call 51; refine (isz_yes _ (by assumption) _).mono ?_; rintro e w' ⟨rfl, rfl⟩) | (go_at_call 51; refine (isz_no _ (by assumption) _).mono ?_; rintro e w' ⟨rfl, rfl⟩))
            go_ret3
            exact ⟨ret_three hv.out.1.symm hv.out.2.1.symm hv.out.2.2.symm, hbel⟩
      · have hv := Lib.hid (siz_no (a := a) (b := b) (c := c) (x := x) (y := y) (n := n) (by omega))
        by_cases hn2 : y < 1
        all_goals
          go_enter Try.func35, Try.ntmps35
          go_wp2_with (first | (go_at_call 32; refine (check_eq _ _ _ _ hk _).mono ?_; rintro e w1 ⟨rfl, hb⟩; obtain ⟨hc, hf⟩ := bcell hb; have hbel := below_old (((Below.refl w.heap.size w).alloc (by simp) _).alloc (by simp) _) hb) | (go_at_call 51; refine (isz_yes _ (by assumption) _).mono ?_; rintro e w' ⟨rfl, rfl⟩) | (go_at_call 51; refine (isz_no _ (by assumption) _).mono ?_; rintro e w' ⟨rfl, rfl⟩))
          go_ret3
          exact ⟨ret_three hv.out.1.symm hv.out.2.1.symm hv.out.2.2.symm, hbel⟩
    · have hv := Lib.hid (siz_no (a := a) (b := b) (c := c) (x := x) (y := y) (n := n) (by omega))
      by_cases hn2 : x < 1
      all_goals
        go_enter Try.func35, Try.ntmps35
        go_wp2_with (first | (go_at_call 32; refine (check_eq _ _ _ _ hk _).mono ?_; rintro e w1 ⟨rfl, hb⟩; obtain ⟨hc, hf⟩ := bcell hb; have hbel := below_old (((Below.refl w.heap.size w).alloc (by simp) _).alloc (by simp) _) hb) | (go_at_call 51; refine (isz_yes _ (by assumption) _).mono ?_; rintro e w' ⟨rfl, rfl⟩) | (go_at_call 51; refine (isz_no _ (by assumption) _).mono ?_; rintro e w' ⟨rfl, rfl⟩))
        go_ret3
        exact ⟨ret_three hv.out.1.symm hv.out.2.1.symm hv.out.2.2.symm, hbel⟩
  · have hk := Lib.hid (chk_no h)
    have hv := Lib.hid (siz_no (a := a) (b := b) (c := c) (x := x) (y := y) (n := n) (fun h' => h h'.1))
    clear h
    go_enter Try.func35, Try.ntmps35
    go_wp2_with (first | (go_at_call 32; refine (check_eq _ _ _ _ hk _).mono ?_; rintro e w1 ⟨rfl, hb⟩; obtain ⟨hc, hf⟩ := bcell hb; have hbel := below_old (((Below.refl w.heap.size w).alloc (by simp) _).alloc (by simp) _) hb) | (go_at_call 51; refine (isz_yes _ (by assumption) _).mono ?_; rintro e w' ⟨rfl, rfl⟩) | (go_at_call 51; refine (isz_no _ (by assumption) _).mono ?_; rintro e w' ⟨rfl, rfl⟩))
    go_ret3
    exact ⟨ret_three hv.out.1.symm hv.out.2.1.symm hv.out.2.2.symm, hbel⟩

set_option maxHeartbeats 2000000 in
theorem rsize_pkg (a b c x y n : Int) (w : World) :
    Calls Try.prog 36 #[.agg #[.int .i64 a, .int .i64 b, .int .i64 c], .agg #[.string ⟨#[]⟩, .int .i64 x, .int .i64 y, .int .i64 0, .int .i64 0, .slice none 0 0, .slice none 0 0], .int .i64 n] w
      fun e w' => e = .returned (.tuple #[.int .i64 (sizW a b c x y n), .int .i64 (sizH a b c x y n), .int .i64 (sizE a b c x y n)]) ∧ Below w.heap.size w w' := by
  by_cases h : 1 ≤ a ∧ a ≤ 8 ∧ 1 ≤ b ∧ b ≤ 8 ∧ 0 ≤ c ∧ c ≤ 50
  · have hk := Lib.hid (chk_ok h)
    have hp := prod8 ⟨h.1, h.2.1, h.2.2.1, h.2.2.2.1⟩
    obtain ⟨p, hpe⟩ : ∃ p, a * b = p := ⟨_, rfl⟩
    have hp1 : 1 ≤ p ∧ p ≤ 64 := by omega
    have HPE := Lib.hid hpe
    clear hp
    by_cases hx : 1 ≤ x ∧ x ≤ 600
    · by_cases hy : 1 ≤ y ∧ y ≤ 600
      · by_cases hn : 1 ≤ n ∧ n ≤ p
        · have hv := Lib.hid (siz_ok (x := x) (y := y) (n := n) ⟨h, hx, hy, by rw [HPE.out]; exact hn⟩)
          have ha0 : (a == 0) = false := by rw [beq_eq_false_iff_ne]; omega
          obtain ⟨k, hke⟩ : ∃ k, (n + a - 1) / a = k := ⟨_, rfl⟩
          have hk0 : 0 ≤ k := by rw [← hke]; exact Int.ediv_nonneg (by omega) (by omega)
          have hk1 : k ≤ 71 := by rw [← hke]; exact Int.le_trans (Int.ediv_le_self _ (by omega)) (by omega)
          obtain ⟨q, hq⟩ : ∃ q, min n a = q := ⟨_, rfl⟩
          have hq0 : 0 ≤ q ∧ q ≤ 8 := by omega
          obtain ⟨r1, hr1⟩ : ∃ r, k * x = r := ⟨_, rfl⟩
          obtain ⟨r2, hr2⟩ : ∃ r, (k - 1) * c = r := ⟨_, rfl⟩
          obtain ⟨r3, hr3⟩ : ∃ r, q * y = r := ⟨_, rfl⟩
          have b1 : 0 ≤ r1 ∧ r1 ≤ 71 * 600 := by rw [← hr1]; exact mulB 71 600 ⟨hk0, hk1⟩ (by omega)
          have hk2 : 1 ≤ k := by rw [← hke]; exact Int.le_ediv_of_mul_le (by omega) (by omega)
          have b2 : 0 ≤ r2 ∧ r2 ≤ 71 * 50 := by rw [← hr2]; exact mulB 71 50 (by omega) (by omega)
          have b3 : 0 ≤ r3 ∧ r3 ≤ 8 * 600 := by rw [← hr3]; exact mulB 8 600 hq0 (by omega)
          have Hke := Lib.hid hke; have Hq := Lib.hid hq; have H1 := Lib.hid hr1; have H2 := Lib.hid hr2; have H3 := Lib.hid hr3
          go_enter Try.func36, Try.ntmps36
          go_wp2_with (go_at_call 33; refine (rcheck_eq _ _ _ _ hk _).mono ?_; rintro e w1 ⟨rfl, hb⟩; obtain ⟨hc, hf⟩ := bcell hb; have hbel := below_old (((Below.refl w.heap.size w).alloc (by simp) _).alloc (by simp) _) hb)
          go_quiet (fail)
          go_wp2
          go_ret3
          exact ⟨ret_three (by rw [hv.out.1, Hq.out, H3.out]) (by rw [hv.out.2.1, Hke.out, H1.out, H2.out]) hv.out.2.2.symm, below_drewN hbel _⟩
        · have hv := Lib.hid (siz_no (a := a) (b := b) (c := c) (x := x) (y := y) (n := n) (by rw [HPE.out]; omega))
          by_cases hn2 : n < 1
          all_goals
            go_enter Try.func36, Try.ntmps36
            go_wp2_with (go_at_call 33; refine (rcheck_eq _ _ _ _ hk _).mono ?_; rintro e w1 ⟨rfl, hb⟩; obtain ⟨hc, hf⟩ := bcell hb; have hbel := below_old (((Below.refl w.heap.size w).alloc (by simp) _).alloc (by simp) _) hb)
            go_ret3
            exact ⟨ret_three hv.out.1.symm hv.out.2.1.symm hv.out.2.2.symm, hbel⟩
      · have hv := Lib.hid (siz_no (a := a) (b := b) (c := c) (x := x) (y := y) (n := n) (by omega))
        by_cases hn2 : y < 1
        all_goals
          go_enter Try.func36, Try.ntmps36
          go_wp2_with (go_at_call 33; refine (rcheck_eq _ _ _ _ hk _).mono ?_; rintro e w1 ⟨rfl, hb⟩; obtain ⟨hc, hf⟩ := bcell hb; have hbel := below_old (((Below.refl w.heap.size w).alloc (by simp) _).alloc (by simp) _) hb)
          go_ret3
          exact ⟨ret_three hv.out.1.symm hv.out.2.1.symm hv.out.2.2.symm, hbel⟩
    · have hv := Lib.hid (siz_no (a := a) (b := b) (c := c) (x := x) (y := y) (n := n) (by omega))
      by_cases hn2 : x < 1
      all_goals
        go_enter Try.func36, Try.ntmps36
        go_wp2_with (go_at_call 33; refine (rcheck_eq _ _ _ _ hk _).mono ?_; rintro e w1 ⟨rfl, hb⟩; obtain ⟨hc, hf⟩ := bcell hb; have hbel := below_old (((Below.refl w.heap.size w).alloc (by simp) _).alloc (by simp) _) hb)
        go_ret3
        exact ⟨ret_three hv.out.1.symm hv.out.2.1.symm hv.out.2.2.symm, hbel⟩
  · have hk := Lib.hid (chk_no h)
    have hv := Lib.hid (siz_no (a := a) (b := b) (c := c) (x := x) (y := y) (n := n) (fun h' => h h'.1))
    clear h
    go_enter Try.func36, Try.ntmps36
    go_wp2_with (go_at_call 33; refine (rcheck_eq _ _ _ _ hk _).mono ?_; rintro e w1 ⟨rfl, hb⟩; obtain ⟨hc, hf⟩ := bcell hb; have hbel := below_old (((Below.refl w.heap.size w).alloc (by simp) _).alloc (by simp) _) hb)
    go_ret3
    exact ⟨ret_three hv.out.1.symm hv.out.2.1.symm hv.out.2.2.symm, hbel⟩

/-! ### Weight -/
def wtB (v d m : Int) : Bool := decide ((0 ≤ v ∧ v ≤ 1000000000000) ∧ (0 ≤ d ∧ d ≤ 2000) ∧ 0 ≤ m ∧ m ≤ 20000)
def wtV (v d m : Int) : Int := if wtB v d m then v * d * (10000 + m) / 10000000000 else 0
theorem wt_ok {v d m : Int} (h : (0 ≤ v ∧ v ≤ 1000000000000) ∧ (0 ≤ d ∧ d ≤ 2000) ∧ 0 ≤ m ∧ m ≤ 20000) : wtV v d m = v * d * (10000 + m) / 10000000000 := by
  have : wtB v d m = true := decide_eq_true h
  simp [wtV, this]
theorem wt_no {v d m : Int} (h : ¬ ((0 ≤ v ∧ v ≤ 1000000000000) ∧ (0 ≤ d ∧ d ≤ 2000) ∧ 0 ≤ m ∧ m ≤ 20000)) : wtV v d m = 0 := by
  have : wtB v d m = false := decide_eq_false h
  simp [wtV, this]
theorem wt_bound {v d m : Int} (h : (0 ≤ v ∧ v ≤ 1000000000000) ∧ (0 ≤ d ∧ d ≤ 2000) ∧ 0 ≤ m ∧ m ≤ 20000) :
    (0 ≤ v * d ∧ v * d ≤ 2000000000000000) ∧ (0 ≤ d * (10000 + m) ∧ d * (10000 + m) ≤ 60000000) ∧ 0 ≤ v * d * (10000 + m) / 10000000000 ∧ v * d * (10000 + m) / 10000000000 ≤ 6000000000 := by
  have h1 := mulB 1000000000000 2000 h.1 h.2.1
  have h2 := mulB 2000 30000 h.2.1 (b := 10000 + m) (by omega)
  have h3 := mulB 2000000000000000 30000 (a := v * d) (b := 10000 + m) (by omega) (by omega)
  refine ⟨by omega, by omega, ?_⟩
  omega

theorem muldiv_eq (a b c : Int) (ha0 : -9223372036854775808 ≤ a) (ha1 : a ≤ 9223372036854775807) (hb0 : -9223372036854775808 ≤ b) (hb1 : b ≤ 9223372036854775807) (hc1 : c ≤ 9223372036854775807) (v e : Int) (h : Hid (mdV a b c = v ∧ mdE a b c = e)) (w : World) :
    Calls Try.prog 52 #[.int .i64 a, .int .i64 b, .int .i64 c] w fun x w' => x = .returned (.tuple #[.int .i64 v, .int .i64 e]) ∧ ∃ n, w' = w.drewN n := by
  have := muldiv_any a b c ha0 ha1 hb0 hb1 hc1 w
  rw [h.out.1, h.out.2] at this
  exact this
theorem rmuldiv_eq (a b c : Int) (ha0 : -9223372036854775808 ≤ a) (ha1 : a ≤ 9223372036854775807) (hb0 : -9223372036854775808 ≤ b) (hb1 : b ≤ 9223372036854775807) (hc1 : c ≤ 9223372036854775807) (v e : Int) (h : Hid (mdV a b c = v ∧ mdE a b c = e)) (w : World) :
    Calls Try.prog 53 #[.int .i64 a, .int .i64 b, .int .i64 c] w fun x w' => x = .returned (.tuple #[.int .i64 v, .int .i64 e]) ∧ w = w' := by
  have := rmuldiv_any a b c ha0 ha1 hb0 hb1 hc1 w
  rw [h.out.1, h.out.2] at this
  exact this

set_option maxHeartbeats 2000000 in
theorem weight_any (v d m : Int) (w : World) :
    Calls Try.prog 37 #[.int .i64 v, .int .i64 d, .int .i64 m] w fun e w' => e = .returned (.int .i64 (wtV v d m)) ∧ ∃ n, w' = w.drewN n := by
  by_cases h : (0 ≤ v ∧ v ≤ 1000000000000) ∧ (0 ≤ d ∧ d ≤ 2000) ∧ 0 ≤ m ∧ m ≤ 20000
  · have hv := Lib.hid (wt_ok h)
    obtain ⟨⟨a1, a2⟩, ⟨a3, a4⟩, a5, a6⟩ := wt_bound h
    have hm := Lib.hid (md_ok (a := v * d) (b := 10000 + m) (c := 10000000000) (by omega) (by omega) (by omega))
    obtain ⟨q, hq⟩ : ∃ q, v * d * (10000 + m) / 10000000000 = q := ⟨_, rfl⟩
    rw [hq] at hv hm
    clear hq a3 a4 a5 a6
    obtain ⟨p, hp⟩ : ∃ p, v * d = p := ⟨_, rfl⟩
    rw [hp] at hm a1 a2
    go_enter Try.func37, Try.ntmps37
    go_wp2_with (go_at_call 52; (with_reducible refine (muldiv_eq _ _ _ (by omega) (by omega) (by omega) (by omega) (by omega) _ _ hm _).mono ?_); rintro e w' ⟨rfl, n, rfl⟩)
    go_ret
    exact ⟨ret_int hv.out.symm, n, rfl⟩
  · have hv := Lib.hid (wt_no h)
    have h0 := Lib.hid h
    clear h
    by_cases c1 : v < 0
    · go_enter Try.func37, Try.ntmps37
      go_wp2_with fail
      go_ret
      exact ⟨ret_int hv.out.symm, 0, rfl⟩
    · by_cases c2 : 1000000000000 < v
      · go_enter Try.func37, Try.ntmps37
        go_wp2_with fail
        go_ret
        exact ⟨ret_int hv.out.symm, 0, rfl⟩
      · by_cases c3 : d < 0
        · go_enter Try.func37, Try.ntmps37
          go_wp2_with fail
          go_ret
          exact ⟨ret_int hv.out.symm, 0, rfl⟩
        · by_cases c4 : 2000 < d
          · go_enter Try.func37, Try.ntmps37
            go_wp2_with fail
            go_ret
            exact ⟨ret_int hv.out.symm, 0, rfl⟩
          · by_cases c5 : m < 0
            · go_enter Try.func37, Try.ntmps37
              go_wp2_with fail
              go_ret
              exact ⟨ret_int hv.out.symm, 0, rfl⟩
            · have c6 : 20000 < m := by have := h0.out; omega
              go_enter Try.func37, Try.ntmps37
              go_wp2_with fail
              go_ret
              exact ⟨ret_int hv.out.symm, 0, rfl⟩

set_option maxHeartbeats 2000000 in
theorem rweight_any (v d m : Int) (w : World) :
    Calls Try.prog 38 #[.int .i64 v, .int .i64 d, .int .i64 m] w fun e w' => e = .returned (.int .i64 (wtV v d m)) ∧ w = w' := by
  by_cases h : (0 ≤ v ∧ v ≤ 1000000000000) ∧ (0 ≤ d ∧ d ≤ 2000) ∧ 0 ≤ m ∧ m ≤ 20000
  · have hv := Lib.hid (wt_ok h)
    obtain ⟨⟨a1, a2⟩, ⟨a3, a4⟩, a5, a6⟩ := wt_bound h
    rw [Int.mul_assoc] at hv a5 a6
    have hm := Lib.hid (md_ok (a := v) (b := d * (10000 + m)) (c := 10000000000) (by omega) (by omega) (by omega))
    obtain ⟨q, hq⟩ : ∃ q, v * (d * (10000 + m)) / 10000000000 = q := ⟨_, rfl⟩
    rw [hq] at hv hm
    clear hq a1 a2 a5 a6
    obtain ⟨p, hp⟩ : ∃ p, d * (10000 + m) = p := ⟨_, rfl⟩
    rw [hp] at hm a3 a4
    go_enter Try.func38, Try.ntmps38
    go_wp2_with (go_at_call 53; (with_reducible refine (rmuldiv_eq _ _ _ (by omega) (by omega) (by omega) (by omega) (by omega) _ _ hm _).mono ?_); rintro e w' ⟨rfl, rfl⟩)
    go_ret
    exact ⟨ret_int hv.out.symm, rfl⟩
  · have hv := Lib.hid (wt_no h)
    have h0 := Lib.hid h
    clear h
    by_cases c1 : v < 0
    · go_enter Try.func38, Try.ntmps38
      go_wp2_with fail
      go_ret
      exact ⟨ret_int hv.out.symm, rfl⟩
    · by_cases c2 : 1000000000000 < v
      · go_enter Try.func38, Try.ntmps38
        go_wp2_with fail
        go_ret
        exact ⟨ret_int hv.out.symm, rfl⟩
      · by_cases c3 : d < 0
        · go_enter Try.func38, Try.ntmps38
          go_wp2_with fail
          go_ret
          exact ⟨ret_int hv.out.symm, rfl⟩
        · by_cases c4 : 2000 < d
          · go_enter Try.func38, Try.ntmps38
            go_wp2_with fail
            go_ret
            exact ⟨ret_int hv.out.symm, rfl⟩
          · by_cases c5 : m < 0
            · go_enter Try.func38, Try.ntmps38
              go_wp2_with fail
              go_ret
              exact ⟨ret_int hv.out.symm, rfl⟩
            · have c6 : 20000 < m := by have := h0.out; omega
              go_enter Try.func38, Try.ntmps38
              go_wp2_with fail
              go_ret
              exact ⟨ret_int hv.out.symm, rfl⟩
end Go.Proofs.Ytgkkhbhobbhlpaa
