/- The reference of event: codes, named, shaped, Check, Name. -/
import Derived.Test.YtcefmnkfkpoccaaDoorME
import Derived.Test.YtcefmnkfkpoccaaDoorI6
namespace Go.Proofs.YtcefmnkfkpoccaaDoor
open Go.RowKit
set_option linter.unusedVariables false
open Wi Evn
theorem ret_two {k l : IntKind} {a b c d : Int} (h : a = b) (h' : c = d) : Ending.returned (.tuple #[.int k a, .int l c]) = .returned (.tuple #[.int k b, .int l d]) := by rw [h, h']
set_option maxHeartbeats 4000000 in
theorem rcodes_any (k : Int) (hk : 1 ≤ k ∧ k ≤ 14) (w : World) : Calls Tryd.prog 27 #[.int .i64 k] w fun e w' => e = .returned (.tuple #[.int .u8 (kIt k), .int .u8 (kOf k)]) ∧ w' = w := by
  have h : k = 1 ∨ k = 2 ∨ k = 3 ∨ k = 4 ∨ k = 5 ∨ k = 6 ∨ k = 7 ∨ k = 8 ∨ k = 9 ∨ k = 10 ∨ k = 11 ∨ k = 12 ∨ k = 13 ∨ k = 14 := by omega
  clear hk
  rcases h with h | h | h | h | h | h | h | h | h | h | h | h | h | h
  · subst h
    go_enter Tryd.func27, Tryd.ntmps27
    go_wp2_with fail
    go_ret2
    exact ⟨rfl, rfl⟩
  · subst h
    go_enter Tryd.func27, Tryd.ntmps27
    go_wp2_with fail
    go_ret2
    exact ⟨rfl, rfl⟩
  · subst h
    go_enter Tryd.func27, Tryd.ntmps27
    go_wp2_with fail
    go_ret2
    exact ⟨rfl, rfl⟩
  · subst h
    go_enter Tryd.func27, Tryd.ntmps27
    go_wp2_with fail
    go_ret2
    exact ⟨rfl, rfl⟩
  · subst h
    go_enter Tryd.func27, Tryd.ntmps27
    go_wp2_with fail
    go_ret2
    exact ⟨rfl, rfl⟩
  · subst h
    go_enter Tryd.func27, Tryd.ntmps27
    go_wp2_with fail
    go_ret2
    exact ⟨rfl, rfl⟩
  · subst h
    go_enter Tryd.func27, Tryd.ntmps27
    go_wp2_with fail
    go_ret2
    exact ⟨rfl, rfl⟩
  · subst h
    go_enter Tryd.func27, Tryd.ntmps27
    go_wp2_with fail
    go_ret2
    exact ⟨rfl, rfl⟩
  · subst h
    go_enter Tryd.func27, Tryd.ntmps27
    go_wp2_with fail
    go_ret2
    exact ⟨rfl, rfl⟩
  · subst h
    go_enter Tryd.func27, Tryd.ntmps27
    go_wp2_with fail
    go_ret2
    exact ⟨rfl, rfl⟩
  · subst h
    go_enter Tryd.func27, Tryd.ntmps27
    go_wp2_with fail
    go_ret2
    exact ⟨rfl, rfl⟩
  · subst h
    go_enter Tryd.func27, Tryd.ntmps27
    go_wp2_with fail
    go_ret2
    exact ⟨rfl, rfl⟩
  · subst h
    go_enter Tryd.func27, Tryd.ntmps27
    go_wp2_with fail
    go_ret2
    exact ⟨rfl, rfl⟩
  · subst h
    go_enter Tryd.func27, Tryd.ntmps27
    go_wp2_with fail
    go_ret2
    exact ⟨rfl, rfl⟩
theorem rnamed_any (s : ByteArray) (hsz : (s.size : Int) ≤ 9223372036854775807) (c : Int) (x : Bool) (hx : Hid (namB s c = x)) (w : World) : Calls Tryd.prog 28 #[.string s, .int .u8 c] w fun e w' => e = .returned (.bool x) ∧ Below w.heap.size w w' := by
  have h' := hx.out
  unfold namB at h'
  by_cases h : c = 0
  · subst h
    rw [if_pos rfl] at h'
    have q : (s.toList == []) = x := by rw [sempty]; exact h'
    clear h'
    go_enter Tryd.func28, Tryd.ntmps28
    go_wp2_with fail
    go_ret
    exact ⟨ret_bool (by first | rfl | exact q), Below.refl _ _⟩
  · rw [if_neg h] at h'
    have q : (c == 0) = false := by simpa using h
    have HC := Lib.hid (ris_any s hsz c)
    rw [h'] at HC
    clear h h'
    go_enter Tryd.func28, Tryd.ntmps28
    go_wp2_with fail
    (with_reducible refine (HC.out _).mono ?_)
    rintro e w1 ⟨rfl, hb⟩
    go_wp2_with fail
    go_ret
    exact ⟨rfl, hb⟩
set_option maxRecDepth 100000 in
set_option maxHeartbeats 8000000 in
theorem rshaped_any (e : Ev) (A : Option Addr) (c : Nat) (HO : Hid (EvOk e)) (hk : 1 ≤ e.ki ∧ e.ki ≤ 14) (x : Bool) (hx : Hid (shpB e.ki e.nn = x)) (w : World) (HS : Hid (SlR w A (i64c e.nn))) :
    Calls Tryd.prog 29 #[agE e A c] w fun r w' => r = .returned (.bool x) ∧ Below w.heap.size w w' := by
  have hl := HO.out.nl
  have HAL := Lib.hid ((Below.refl w.heap.size w).alloc (Nat.le_refl _) (.cells #[.int .i64 e.ki, .int .i64 e.ti, .string e.it, .string e.of_, .slice A e.nn.length c, .string e.tx] 24))
  obtain ⟨ki, ti, it, of_, nn, tx⟩ := e
  simp only at hk hx HS HAL hl ⊢
  have h : ki = 1 ∨ ki = 2 ∨ ki = 3 ∨ ki = 4 ∨ ki = 5 ∨ ki = 6 ∨ ki = 7 ∨ ki = 8 ∨ ki = 9 ∨ ki = 10 ∨ ki = 11 ∨ ki = 12 ∨ ki = 13 ∨ ki = 14 := by omega
  clear hk
  rcases h with h | h | h | h | h | h | h | h | h | h | h | h | h | h
  · subst h
    have h' := hx.out
    rw [← shp_1] at h'
    have q : ((nn.length : Int) == 3) = x := by rw [← h']; rfl
    clear h' hx
    go_enter Tryd.func29, Tryd.ntmps29
    go_wp2_with fail
    go_ret
    exact ⟨ret_bool (by first | rfl | exact q), HAL.out⟩
  · subst h
    have h' := hx.out
    rw [← shp_2] at h'
    have q : ((nn.length : Int) == 0) = x := by rw [← h']; rfl
    clear h' hx
    go_enter Tryd.func29, Tryd.ntmps29
    go_wp2_with fail
    go_ret
    exact ⟨ret_bool (by first | rfl | exact q), HAL.out⟩
  · subst h
    have h' := hx.out
    rw [← shp_3] at h'
    have q : ((nn.length : Int) == 0) = x := by rw [← h']; rfl
    clear h' hx
    go_enter Tryd.func29, Tryd.ntmps29
    go_wp2_with fail
    go_ret
    exact ⟨ret_bool (by first | rfl | exact q), HAL.out⟩
  · subst h
    have h' := hx.out
    rw [← shp_4] at h'
    have q : decide ((2 : Int) ≤ (nn.length : Int)) = x := h'
    clear h' hx
    go_enter Tryd.func29, Tryd.ntmps29
    go_wp2_with fail
    go_ret
    exact ⟨ret_bool (by first | rfl | exact q), HAL.out⟩
  · subst h
    have h' := hx.out
    rw [← shp_5] at h'
    have ex : x = true := by rw [← h']; exact decide_eq_true (by omega)
    subst ex
    have q : True := trivial
    clear h' hx
    go_enter Tryd.func29, Tryd.ntmps29
    go_wp2_with fail
    go_ret
    exact ⟨ret_bool (by first | rfl | exact q), HAL.out⟩
  · subst h
    have h' := hx.out
    rw [← shp_6] at h'
    rcases nn with _ | ⟨a, l⟩
    · have ex : x = false := h'.symm
      subst ex
      have q : True := trivial
      clear h' hx
      go_enter Tryd.func29, Tryd.ntmps29
      go_wp2_with fail
      go_ret
      exact ⟨ret_bool (by first | rfl | exact q), HAL.out⟩
    rcases l with _ | ⟨y, r⟩
    · have ex : x = false := h'.symm
      subst ex
      have q : True := trivial
      clear h' hx
      go_enter Tryd.func29, Tryd.ntmps29
      go_wp2_with fail
      go_ret
      exact ⟨ret_bool (by first | rfl | exact q), HAL.out⟩
    rw [dry_cons] at h'
    obtain ⟨bb, off, hA, hbl, -⟩ := int_cells HS.out (i := 1) (x := y) (by simp) rfl
    subst hA
    have c1 := int_cell (HS.out.below HAL.out) (i := 1) (x := y) (by simp) rfl
    obtain ⟨n, hn⟩ : ∃ n, r.length = n := ⟨_, rfl⟩
    simp only [agE, List.length_cons] at hl c1 HAL ⊢
    rw [hn] at h' hl HAL c1 ⊢
    have z1 : (2 : Int) ≤ ((n + 1 + 1 : Nat) : Int) := by omega
    have z2 : (1 : Int) < ((n + 1 + 1 : Nat) : Int) := by omega
    obtain ⟨m, hm⟩ : ∃ m, n + 1 + 1 = m := ⟨_, rfl⟩
    rw [hm] at z1 z2 hl HAL c1 ⊢
    have hmn : (m : Int) - 2 = (n : Int) := by omega
    have hni : (n : Int) ≤ 100000 := by omega
    clear hn HS hx
    by_cases h1 : 0 ≤ y
    · by_cases h2 : y ≤ (n : Int)
      · have t3 : ((n : Int) - y).tmod 3 = ((n : Int) - y) % 3 := Int.tmod_eq_emod_of_nonneg (by omega)
        obtain ⟨d, hd⟩ : ∃ d, ((n : Int) - y) % 3 = d := ⟨_, rfl⟩
        have q : (d == 0) = x := by
          rw [← h', hd]
          by_cases g : d = 0
          · rw [decide_eq_true ⟨h1, h2, g⟩]; exact beq_iff_eq.2 g
          · rw [decide_eq_false (fun q => g q.2.2)]; exact beq_eq_false_iff_ne.2 g
        clear h' hm
        go_enter Tryd.func29, Tryd.ntmps29
        go_wp2_with fail
        go_ret
        exact ⟨ret_bool (by first | rfl | exact q), HAL.out⟩
      · have ex : x = false := by rw [← h', decide_eq_false (fun q => h2 q.2.1)]
        subst ex
        have q : True := trivial
        clear h' hm
        go_enter Tryd.func29, Tryd.ntmps29
        go_wp2_with fail
        go_ret
        exact ⟨ret_bool (by first | rfl | exact q), HAL.out⟩
    · have ex : x = false := by rw [← h', decide_eq_false (fun q => h1 q.1)]
      subst ex
      have q : True := trivial
      clear h' hm
      go_enter Tryd.func29, Tryd.ntmps29
      go_wp2_with fail
      go_ret
      exact ⟨ret_bool (by first | rfl | exact q), HAL.out⟩
  · subst h
    have h' := hx.out
    rw [← shp_7] at h'
    have q : ((nn.length : Int) == 1) = x := by rw [← h']; rfl
    clear h' hx
    go_enter Tryd.func29, Tryd.ntmps29
    go_wp2_with fail
    go_ret
    exact ⟨ret_bool (by first | rfl | exact q), HAL.out⟩
  · subst h
    have h' := hx.out
    rw [← shp_8] at h'
    have q : ((nn.length : Int) == 0) = x := by rw [← h']; rfl
    clear h' hx
    go_enter Tryd.func29, Tryd.ntmps29
    go_wp2_with fail
    go_ret
    exact ⟨ret_bool (by first | rfl | exact q), HAL.out⟩
  · subst h
    have h' := hx.out
    rw [← shp_9] at h'
    have t2 : (nn.length : Int).tmod 2 = (nn.length : Int) % 2 := Int.tmod_eq_emod_of_nonneg (by omega)
    have q : ((nn.length : Int) % 2 == 0) = x := by
      rw [← h']
      have h : nn.length % 2 = 0 ∨ nn.length % 2 = 1 := by omega
      rcases h with h | h
      · have g : (nn.length : Int) % 2 = 0 := by omega
        simp [h, g]
      · have g : (nn.length : Int) % 2 = 1 := by omega
        simp [h, g]
    clear h' hx
    go_enter Tryd.func29, Tryd.ntmps29
    go_wp2_with fail
    go_ret
    exact ⟨ret_bool (by first | rfl | exact q), HAL.out⟩
  · subst h
    have h' := hx.out
    rw [← shp_10] at h'
    have q : ((nn.length : Int) == 0) = x := by rw [← h']; rfl
    clear h' hx
    go_enter Tryd.func29, Tryd.ntmps29
    go_wp2_with fail
    go_ret
    exact ⟨ret_bool (by first | rfl | exact q), HAL.out⟩
  · subst h
    have h' := hx.out
    rw [← shp_11] at h'
    have q : ((nn.length : Int) == 2) = x := by rw [← h']; rfl
    clear h' hx
    go_enter Tryd.func29, Tryd.ntmps29
    go_wp2_with fail
    go_ret
    exact ⟨ret_bool (by first | rfl | exact q), HAL.out⟩
  · subst h
    have h' := hx.out
    rw [← shp_12] at h'
    have q : ((nn.length : Int) == 0) = x := by rw [← h']; rfl
    clear h' hx
    go_enter Tryd.func29, Tryd.ntmps29
    go_wp2_with fail
    go_ret
    exact ⟨ret_bool (by first | rfl | exact q), HAL.out⟩
  · subst h
    have h' := hx.out
    rw [← shp_13] at h'
    have t2 : (nn.length : Int).tmod 2 = (nn.length : Int) % 2 := Int.tmod_eq_emod_of_nonneg (by omega)
    have q : ((nn.length : Int) % 2 == 1) = x := by
      rw [← h']
      have h : nn.length % 2 = 0 ∨ nn.length % 2 = 1 := by omega
      rcases h with h | h
      · have g : (nn.length : Int) % 2 = 0 := by omega
        simp [h, g]
      · have g : (nn.length : Int) % 2 = 1 := by omega
        simp [h, g]
    clear h' hx
    go_enter Tryd.func29, Tryd.ntmps29
    go_wp2_with fail
    go_ret
    exact ⟨ret_bool (by first | rfl | exact q), HAL.out⟩
  · subst h
    have h' := hx.out
    rw [← shp_14] at h'
    have q : decide ((1 : Int) ≤ (nn.length : Int)) = x := h'
    clear h' hx
    go_enter Tryd.func29, Tryd.ntmps29
    go_wp2_with fail
    go_ret
    exact ⟨ret_bool (by first | rfl | exact q), HAL.out⟩
theorem ristime_any (t : Int) (x : Bool) (hx : Hid (decide (0 ≤ t ∧ t ≤ 10000000) = x)) (w : World) : Calls Tryd.prog 26 #[.int .i64 t] w fun e w' => e = .returned (.bool x) ∧ w' = w := by
  have h' := hx.out
  by_cases h1 : 0 ≤ t
  · by_cases h2 : t ≤ 10000000
    · rw [decide_eq_true ⟨h1, h2⟩] at h'
      subst h'
      go_enter Tryd.func26, Tryd.ntmps26
      go_wp2_with fail
      go_ret
      exact ⟨rfl, rfl⟩
    · rw [decide_eq_false (fun g => h2 g.2)] at h'
      subst h'
      go_enter Tryd.func26, Tryd.ntmps26
      go_wp2_with fail
      go_ret
      exact ⟨rfl, rfl⟩
  · rw [decide_eq_false (fun g => h1 g.1)] at h'
    subst h'
    go_enter Tryd.func26, Tryd.ntmps26
    go_wp2_with fail
    go_ret
    exact ⟨rfl, rfl⟩
set_option maxRecDepth 100000 in
set_option maxHeartbeats 8000000 in
theorem rname_any (k : Int) (w : World) : Calls Tryd.prog 14 #[.int .i64 k] w fun e w' => e = .returned (.string (nmS k)) ∧ Below w.heap.size w w' := by
  by_cases hk : 1 ≤ k ∧ k ≤ 14
  · have h : k = 1 ∨ k = 2 ∨ k = 3 ∨ k = 4 ∨ k = 5 ∨ k = 6 ∨ k = 7 ∨ k = 8 ∨ k = 9 ∨ k = 10 ∨ k = 11 ∨ k = 12 ∨ k = 13 ∨ k = 14 := by omega
    clear hk
    rcases h with h | h | h | h | h | h | h | h | h | h | h | h | h | h
    · subst h
      go_enter Tryd.func14, Tryd.ntmps14
      go_wp2_with fail
      go_ret
      exact ⟨rfl, (Below.refl _ _).alloc (Nat.le_refl _) _⟩
    · subst h
      go_enter Tryd.func14, Tryd.ntmps14
      go_wp2_with fail
      go_ret
      exact ⟨rfl, (Below.refl _ _).alloc (Nat.le_refl _) _⟩
    · subst h
      go_enter Tryd.func14, Tryd.ntmps14
      go_wp2_with fail
      go_ret
      exact ⟨rfl, (Below.refl _ _).alloc (Nat.le_refl _) _⟩
    · subst h
      go_enter Tryd.func14, Tryd.ntmps14
      go_wp2_with fail
      go_ret
      exact ⟨rfl, (Below.refl _ _).alloc (Nat.le_refl _) _⟩
    · subst h
      go_enter Tryd.func14, Tryd.ntmps14
      go_wp2_with fail
      go_ret
      exact ⟨rfl, (Below.refl _ _).alloc (Nat.le_refl _) _⟩
    · subst h
      go_enter Tryd.func14, Tryd.ntmps14
      go_wp2_with fail
      go_ret
      exact ⟨rfl, (Below.refl _ _).alloc (Nat.le_refl _) _⟩
    · subst h
      go_enter Tryd.func14, Tryd.ntmps14
      go_wp2_with fail
      go_ret
      exact ⟨rfl, (Below.refl _ _).alloc (Nat.le_refl _) _⟩
    · subst h
      go_enter Tryd.func14, Tryd.ntmps14
      go_wp2_with fail
      go_ret
      exact ⟨rfl, (Below.refl _ _).alloc (Nat.le_refl _) _⟩
    · subst h
      go_enter Tryd.func14, Tryd.ntmps14
      go_wp2_with fail
      go_ret
      exact ⟨rfl, (Below.refl _ _).alloc (Nat.le_refl _) _⟩
    · subst h
      go_enter Tryd.func14, Tryd.ntmps14
      go_wp2_with fail
      go_ret
      exact ⟨rfl, (Below.refl _ _).alloc (Nat.le_refl _) _⟩
    · subst h
      go_enter Tryd.func14, Tryd.ntmps14
      go_wp2_with fail
      go_ret
      exact ⟨rfl, (Below.refl _ _).alloc (Nat.le_refl _) _⟩
    · subst h
      go_enter Tryd.func14, Tryd.ntmps14
      go_wp2_with fail
      go_ret
      exact ⟨rfl, (Below.refl _ _).alloc (Nat.le_refl _) _⟩
    · subst h
      go_enter Tryd.func14, Tryd.ntmps14
      go_wp2_with fail
      go_ret
      exact ⟨rfl, (Below.refl _ _).alloc (Nat.le_refl _) _⟩
    · subst h
      go_enter Tryd.func14, Tryd.ntmps14
      go_wp2_with fail
      go_ret
      exact ⟨rfl, (Below.refl _ _).alloc (Nat.le_refl _) _⟩
  · have HN : Hid (nmS k = ⟨#[]⟩) := by
      have := fm_no hk
      unfold fmV at this
      simp only [Value.agg.injEq, Array.mk.injEq, List.cons.injEq, Value.string.injEq] at this
      exact this.1
    by_cases h1 : k < 1
    · clear hk
      go_enter Tryd.func14, Tryd.ntmps14
      go_wp2_with fail
      go_ret
      exact ⟨ret_st HN.out.symm, (Below.refl _ _).alloc (Nat.le_refl _) _⟩
    · have h2 : 14 < k := by omega
      clear hk
      go_enter Tryd.func14, Tryd.ntmps14
      go_wp2_with fail
      go_ret
      exact ⟨ret_st HN.out.symm, (Below.refl _ _).alloc (Nat.le_refl _) _⟩
end Go.Proofs.YtcefmnkfkpoccaaDoor
