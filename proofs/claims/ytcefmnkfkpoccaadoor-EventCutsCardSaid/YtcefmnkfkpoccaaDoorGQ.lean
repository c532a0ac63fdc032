/- event: Same; the reference's; slices.Equal. -/
import Derived.Test.YtcefmnkfkpoccaaDoorGP
namespace Go.Proofs.YtcefmnkfkpoccaaDoor
open Go.RowKit
set_option linter.unusedVariables false
open Wi Evn
theorem ne_at {l m : List Int} {k : Nat} (h1 : k < l.length) (h2 : k < m.length) (h : ¬ l[k] = m[k]) : ¬ l = m := fun e => by
  subst e
  exact h rfl
set_option maxHeartbeats 4000000 in
theorem equal_any (l m : List Int) (A B : Option Addr) (c d : Nat) (x : Bool) (hx : Hid (decide (l = m) = x)) (hl : (l.length : Int) ≤ 100000) (hm : (m.length : Int) ≤ 100000) (w : World) (HS : Hid (SlR w A (i64c l))) (HT : Hid (SlR w B (i64c m))) :
    Calls Tryd.prog 50 #[.slice A l.length c, .slice B m.length d] w fun e w' => e = .returned (.bool x) ∧ Below w.heap.size w w' := by
  have h' := hx.out
  by_cases hlen : l.length = m.length
  · obtain ⟨n, hn⟩ : ∃ n, l.length = n := ⟨_, rfl⟩
    have HLN := Lib.hid hn
    have HMN : Hid (m.length = n) := by show _ = _; omega
    rw [show m.length = n from HMN.out, hn]
    have q : ((n : Int) == (n : Int)) = true := by simp
    clear hlen hn hm
    rw [HLN.out] at hl
    go_enter Tryd.func50, Tryd.ntmps50
    go_wp2_with fail
    go_loopw [13] (fun i wr => ∃ (k : Nat), i = .int .i64 k ∧ k ≤ n ∧ Hid (∀ j (h1 : j < l.length) (h2 : j < m.length), j < k → l[j] = m[j]) ∧ Hid (Below w.heap.size w wr)) (fun i _ => n - (intOf i).toNat)
    case atStart => exact ⟨0, rfl, by omega, fun j _ _ h => by omega, Below.refl _ _⟩
    case round =>
      obtain ⟨k, rfl, hk, HK, HB⟩ := hrel
      by_cases hkn : k < n
      · have h1 : k < l.length := by rw [HLN.out]; exact hkn
        have h2 : k < m.length := by rw [HMN.out]; exact hkn
        obtain ⟨y, hy⟩ : ∃ y, l[k] = y := ⟨_, rfl⟩
        obtain ⟨z, hz⟩ : ∃ z, m[k] = z := ⟨_, rfl⟩
        obtain ⟨b1, o1, hA, hb1, c0⟩ := int_cells (HS.out.below HB.out) h1 hy
        obtain ⟨b2, o2, hB2, hb2, d0⟩ := int_cells (HT.out.below HB.out) h2 hz
        subst hA hB2
        have zk : (k : Int) < (n : Int) := by omega
        by_cases hyz : y = z
        · have HK2 : Hid (∀ j (h1 : j < l.length) (h2 : j < m.length), j < k + 1 → l[j] = m[j]) := fun j h1 h2 hlt => by
            rcases Nat.lt_or_ge j k with g | g
            · exact HK.out j h1 h2 g
            · have : j = k := by omega
              subst this
              rw [hy, hz]; exact hyz
          subst hyz
          have q3 : (y != y) = false := by simp
          clear hy hz h1 h2
          go_wp2_with fail
          go_quiet (fail)
          have HB2 := Lib.hid (below_drewN HB.out nq)
          go_wp2_with fail
          go_roundw
          case rel => exact ⟨k + 1, by go_num, by omega, HK2, HB2⟩
          case measure => simp [intOf]; omega
        · have hf : ¬ l = m := ne_at h1 h2 (by rw [hy, hz]; exact hyz)
          have ex : x = false := by rw [← h']; exact decide_eq_false hf
          subst ex
          have q3 : (y != z) = true := by simpa using hyz
          have q4 : (y == z) = false := by simpa using hyz
          clear hy hz h1 h2 hf h' hyz
          go_wp2_with fail
          go_quiet (fail)
          have HB2 := Lib.hid (below_drewN HB.out nq)
          go_wp2_with fail
          go_ret
          exact ⟨rfl, HB2.out⟩
      · have he : l = m := List.ext_getElem (by rw [HLN.out, HMN.out]) (fun j h1 h2 => HK.out j h1 h2 (by rw [HLN.out] at h1; omega))
        have ex : x = true := by rw [← h']; exact decide_eq_true he
        subst ex
        have zk : (n : Int) ≤ (k : Int) := by omega
        clear he h'
        go_wp2_with fail
        go_ret
        exact ⟨rfl, HB.out⟩
  · have hf : ¬ l = m := fun e => hlen (by rw [e])
    have ex : x = false := by rw [← h']; exact decide_eq_false hf
    subst ex
    have q : ((l.length : Int) != (m.length : Int)) = true := by simpa using (by omega : ¬ (l.length : Int) = (m.length : Int))
    have q2 : ((l.length : Int) == (m.length : Int)) = false := beq_eq_false_iff_ne.2 (by omega)
    have q5 : (l.length == m.length) = false := beq_eq_false_iff_ne.2 hlen
    clear hf h' hlen
    go_enter Tryd.func50, Tryd.ntmps50
    go_wp2_with fail
    go_ret
    exact ⟨rfl, Below.refl _ _⟩
set_option maxHeartbeats 4000000 in
theorem rsame05_any (l m : List Int) (A B : Option Addr) (c d : Nat) (x : Bool) (hx : Hid (decide (l = m) = x)) (hl : (l.length : Int) ≤ 100000) (hm : (m.length : Int) ≤ 100000) (w : World) (HS : Hid (SlR w A (i64c l))) (HT : Hid (SlR w B (i64c m))) :
    Calls Tryd.prog 39 #[.slice A l.length c, .slice B m.length d] w fun e w' => e = .returned (.bool x) ∧ Below w.heap.size w w' := by
  have h' := hx.out
  by_cases hlen : l.length = m.length
  · obtain ⟨n, hn⟩ : ∃ n, l.length = n := ⟨_, rfl⟩
    have HLN := Lib.hid hn
    have HMN : Hid (m.length = n) := by show _ = _; omega
    rw [show m.length = n from HMN.out, hn]
    have q : ((n : Int) == (n : Int)) = true := by simp
    clear hlen hn hm
    rw [HLN.out] at hl
    go_enter Tryd.func39, Tryd.ntmps39
    go_wp2_with fail
    go_loopw [5] (fun i wr => ∃ (k : Nat), i = .int .i64 k ∧ k ≤ n ∧ Hid (∀ j (h1 : j < l.length) (h2 : j < m.length), j < k → l[j] = m[j]) ∧ Hid (Below w.heap.size w wr)) (fun i _ => n - (intOf i).toNat)
    case atStart => exact ⟨0, rfl, by omega, fun j _ _ h => by omega, Below.refl _ _⟩
    case round =>
      obtain ⟨k, rfl, hk, HK, HB⟩ := hrel
      by_cases hkn : k < n
      · have h1 : k < l.length := by rw [HLN.out]; exact hkn
        have h2 : k < m.length := by rw [HMN.out]; exact hkn
        obtain ⟨y, hy⟩ : ∃ y, l[k] = y := ⟨_, rfl⟩
        obtain ⟨z, hz⟩ : ∃ z, m[k] = z := ⟨_, rfl⟩
        obtain ⟨b1, o1, hA, hb1, c0⟩ := int_cells (HS.out.below HB.out) h1 hy
        obtain ⟨b2, o2, hB2, hb2, d0⟩ := int_cells (HT.out.below HB.out) h2 hz
        subst hA hB2
        have zk : (k : Int) < (n : Int) := by omega
        by_cases hyz : y = z
        · have HK2 : Hid (∀ j (h1 : j < l.length) (h2 : j < m.length), j < k + 1 → l[j] = m[j]) := fun j h1 h2 hlt => by
            rcases Nat.lt_or_ge j k with g | g
            · exact HK.out j h1 h2 g
            · have : j = k := by omega
              subst this
              rw [hy, hz]; exact hyz
          subst hyz
          have q3 : (y != y) = false := by simp
          clear hy hz h1 h2
          go_wp2_with fail
          go_quiet (fail)
          have HB2 := Lib.hid (below_drewN HB.out nq)
          go_wp2_with fail
          go_roundw
          case rel => exact ⟨k + 1, by go_num, by omega, HK2, HB2⟩
          case measure => simp [intOf]; omega
        · have hf : ¬ l = m := ne_at h1 h2 (by rw [hy, hz]; exact hyz)
          have ex : x = false := by rw [← h']; exact decide_eq_false hf
          subst ex
          have q3 : (y != z) = true := by simpa using hyz
          have q4 : (y == z) = false := by simpa using hyz
          clear hy hz h1 h2 hf h' hyz
          go_wp2_with fail
          go_quiet (fail)
          have HB2 := Lib.hid (below_drewN HB.out nq)
          go_wp2_with fail
          go_ret
          exact ⟨rfl, HB2.out⟩
      · have he : l = m := List.ext_getElem (by rw [HLN.out, HMN.out]) (fun j h1 h2 => HK.out j h1 h2 (by rw [HLN.out] at h1; omega))
        have ex : x = true := by rw [← h']; exact decide_eq_true he
        subst ex
        have zk : (n : Int) ≤ (k : Int) := by omega
        clear he h'
        go_wp2_with fail
        go_ret
        exact ⟨rfl, HB.out⟩
  · have hf : ¬ l = m := fun e => hlen (by rw [e])
    have ex : x = false := by rw [← h']; exact decide_eq_false hf
    subst ex
    have q : ((l.length : Int) != (m.length : Int)) = true := by simpa using (by omega : ¬ (l.length : Int) = (m.length : Int))
    have q2 : ((l.length : Int) == (m.length : Int)) = false := beq_eq_false_iff_ne.2 (by omega)
    have q5 : (l.length == m.length) = false := beq_eq_false_iff_ne.2 hlen
    clear hf h' hlen
    go_enter Tryd.func39, Tryd.ntmps39
    go_wp2_with fail
    go_ret
    exact ⟨rfl, Below.refl _ _⟩
/-- Whether two events are equal. -/
def samB (a b : Ev) : Bool := decide (a.ki = b.ki) && decide (a.ti = b.ti) && decide (a.it = b.it) && decide (a.of_ = b.of_) && decide (a.nn = b.nn) && decide (a.tx = b.tx)
theorem samB_iff (a b : Ev) : samB a b = true ↔ a = b := by
  cases a; cases b
  simp [samB, and_assoc]
theorem samB_self (a : Ev) : samB a a = true := (samB_iff a a).2 rfl
set_option maxRecDepth 100000 in
set_option maxHeartbeats 4000000 in
theorem same_any (a b : Ev) (A B : Option Addr) (c d : Nat) (x : Bool) (hx : Hid (samB a b = x)) (HO : Hid (EvOk a)) (HP : Hid (EvOk b)) (w : World) (HS : Hid (SlR w A (i64c a.nn))) (HT : Hid (SlR w B (i64c b.nn))) :
    Calls Tryd.prog 22 #[agE a A c, agE b B d] w fun e w' => e = .returned (.bool x) ∧ Below w.heap.size w w' := by
  have l1 := HO.out.nl
  have l2 := HP.out.nl
  obtain ⟨k1, t1, i1, o1, n1, x1⟩ := a
  obtain ⟨k2, t2, i2, o2, n2, x2⟩ := b
  simp only at hx HS HT l1 l2 ⊢
  by_cases e1 : k1 = k2
  rotate_left
  · have q1 : (k1 == k2) = false := by simpa using e1
    have ex : x = false := by rw [← hx.out]; simp [samB, e1]
    subst ex
    clear hx
    go_enter Tryd.func22, Tryd.ntmps22
    go_wp2_with fail
    go_ret
    exact ⟨rfl, two_bel w _ _⟩
  subst e1
  have q1 : (k1 == k1) = true := by simp
  by_cases e2 : t1 = t2
  rotate_left
  · have q2 : (t1 == t2) = false := by simpa using e2
    have ex : x = false := by rw [← hx.out]; simp [samB, e2]
    subst ex
    clear hx
    go_enter Tryd.func22, Tryd.ntmps22
    go_wp2_with fail
    go_ret
    exact ⟨rfl, two_bel w _ _⟩
  subst e2
  have q2 : (t1 == t1) = true := by simp
  by_cases e3 : i1 = i2
  rotate_left
  · have q3 := seq_f e3
    have ex : x = false := by rw [← hx.out]; simp [samB, e3]
    subst ex
    clear hx
    go_enter Tryd.func22, Tryd.ntmps22
    go_wp2_with fail
    go_ret
    exact ⟨rfl, two_bel w _ _⟩
  subst e3
  have q3 := seq_t (rfl : i1 = i1)
  by_cases e4 : o1 = o2
  rotate_left
  · have q4 := seq_f e4
    have ex : x = false := by rw [← hx.out]; simp [samB, e4]
    subst ex
    clear hx
    go_enter Tryd.func22, Tryd.ntmps22
    go_wp2_with fail
    go_ret
    exact ⟨rfl, two_bel w _ _⟩
  subst e4
  have q4 := seq_t (rfl : o1 = o1)
  have HW := Lib.hid (two_bel w (.cells #[.int .i64 k1, .int .i64 t1, .string i1, .string o1, .slice A n1.length c, .string x1] 24) (.cells #[.int .i64 k1, .int .i64 t1, .string i1, .string o1, .slice B n2.length d, .string x2] 24))
  have HX1 : Hid (Blk ((w.alloc (.cells #[.int .i64 k1, .int .i64 t1, .string i1, .string o1, .slice A n1.length c, .string x1] 24)).alloc (.cells #[.int .i64 k1, .int .i64 t1, .string i1, .string o1, .slice B n2.length d, .string x2] 24)) w.heap.size 24 #[.int .i64 k1, .int .i64 t1, .string i1, .string o1, .slice A n1.length c, .string x1]) := (Blk.new w _ _).below ((Below.refl _ _).alloc (Nat.le_refl _) _)
  have HX2 : Hid (Blk ((w.alloc (.cells #[.int .i64 k1, .int .i64 t1, .string i1, .string o1, .slice A n1.length c, .string x1] 24)).alloc (.cells #[.int .i64 k1, .int .i64 t1, .string i1, .string o1, .slice B n2.length d, .string x2] 24)) (w.heap.size + 1) 24 #[.int .i64 k1, .int .i64 t1, .string i1, .string o1, .slice B n2.length d, .string x2]) := two_box w _ _
  obtain ⟨y, hy⟩ : ∃ y, decide (n1 = n2) = y := ⟨_, rfl⟩
  have HY := Lib.hid hy
  have HXX : Hid ((y && decide (x1 = x2)) = x) := by show _ = _; rw [← hx.out, ← hy]; simp [samB]
  clear hy hx
  go_enter Tryd.func22, Tryd.ntmps22
  go_wp2_with fail
  (with_reducible refine (equal_any n1 n2 A B c d y HY l1 l2 _ (Lib.hid (HS.out.below HW.out)) (Lib.hid (HT.out.below HW.out))).mono ?_)
  rintro e w1 ⟨rfl, hb⟩
  have HB1 := Lib.hid (below_old HW.out hb)
  have c5 : w1.cell? ⟨w.heap.size, 5, none⟩ = some (.string x1) := (HX1.out.below hb).cell 5
  have d5 : w1.cell? ⟨w.heap.size + 1, 5, none⟩ = some (.string x2) := (HX2.out.below hb).cell 5
  clear hb HX1 HX2 HW q1 q2 q3 q4
  cases y with
  | false =>
    have ex : x = false := by have := HXX.out; simpa using this.symm
    subst ex
    go_wp2_with fail
    go_ret
    exact ⟨rfl, HB1.out⟩
  | true =>
    by_cases e6 : x1 = x2
    · have ex : x = true := by have := HXX.out; simpa [e6] using this.symm
      have q6 := seq_t e6
      subst ex
      clear e6 HXX
      go_wp2_with fail
      go_ret
      exact ⟨rfl, HB1.out⟩
    · have ex : x = false := by have := HXX.out; simpa [e6] using this.symm
      have q6 := seq_f e6
      subst ex
      clear e6 HXX
      go_wp2_with fail
      go_ret
      exact ⟨rfl, HB1.out⟩
set_option maxRecDepth 100000 in
set_option maxHeartbeats 4000000 in
theorem rsame_any (a b : Ev) (A B : Option Addr) (c d : Nat) (x : Bool) (hx : Hid (samB a b = x)) (HO : Hid (EvOk a)) (HP : Hid (EvOk b)) (w : World) (HS : Hid (SlR w A (i64c a.nn))) (HT : Hid (SlR w B (i64c b.nn))) :
    Calls Tryd.prog 18 #[agE a A c, agE b B d] w fun e w' => e = .returned (.bool x) ∧ Below w.heap.size w w' := by
  have l1 := HO.out.nl
  have l2 := HP.out.nl
  obtain ⟨k1, t1, i1, o1, n1, x1⟩ := a
  obtain ⟨k2, t2, i2, o2, n2, x2⟩ := b
  simp only at hx HS HT l1 l2 ⊢
  by_cases e1 : k1 = k2
  rotate_left
  · have q1 : (k1 == k2) = false := by simpa using e1
    have ex : x = false := by rw [← hx.out]; simp [samB, e1]
    subst ex
    clear hx
    go_enter Tryd.func18, Tryd.ntmps18
    go_wp2_with fail
    go_ret
    exact ⟨rfl, two_bel w _ _⟩
  subst e1
  have q1 : (k1 == k1) = true := by simp
  by_cases e2 : t1 = t2
  rotate_left
  · have q2 : (t1 == t2) = false := by simpa using e2
    have ex : x = false := by rw [← hx.out]; simp [samB, e2]
    subst ex
    clear hx
    go_enter Tryd.func18, Tryd.ntmps18
    go_wp2_with fail
    go_ret
    exact ⟨rfl, two_bel w _ _⟩
  subst e2
  have q2 : (t1 == t1) = true := by simp
  by_cases e3 : i1 = i2
  rotate_left
  · have q3 := seq_f e3
    have ex : x = false := by rw [← hx.out]; simp [samB, e3]
    subst ex
    clear hx
    go_enter Tryd.func18, Tryd.ntmps18
    go_wp2_with fail
    go_ret
    exact ⟨rfl, two_bel w _ _⟩
  subst e3
  have q3 := seq_t (rfl : i1 = i1)
  by_cases e4 : o1 = o2
  rotate_left
  · have q4 := seq_f e4
    have ex : x = false := by rw [← hx.out]; simp [samB, e4]
    subst ex
    clear hx
    go_enter Tryd.func18, Tryd.ntmps18
    go_wp2_with fail
    go_ret
    exact ⟨rfl, two_bel w _ _⟩
  subst e4
  have q4 := seq_t (rfl : o1 = o1)
  have HW := Lib.hid (two_bel w (.cells #[.int .i64 k1, .int .i64 t1, .string i1, .string o1, .slice A n1.length c, .string x1] 24) (.cells #[.int .i64 k1, .int .i64 t1, .string i1, .string o1, .slice B n2.length d, .string x2] 24))
  have HX1 : Hid (Blk ((w.alloc (.cells #[.int .i64 k1, .int .i64 t1, .string i1, .string o1, .slice A n1.length c, .string x1] 24)).alloc (.cells #[.int .i64 k1, .int .i64 t1, .string i1, .string o1, .slice B n2.length d, .string x2] 24)) w.heap.size 24 #[.int .i64 k1, .int .i64 t1, .string i1, .string o1, .slice A n1.length c, .string x1]) := (Blk.new w _ _).below ((Below.refl _ _).alloc (Nat.le_refl _) _)
  have HX2 : Hid (Blk ((w.alloc (.cells #[.int .i64 k1, .int .i64 t1, .string i1, .string o1, .slice A n1.length c, .string x1] 24)).alloc (.cells #[.int .i64 k1, .int .i64 t1, .string i1, .string o1, .slice B n2.length d, .string x2] 24)) (w.heap.size + 1) 24 #[.int .i64 k1, .int .i64 t1, .string i1, .string o1, .slice B n2.length d, .string x2]) := two_box w _ _
  obtain ⟨y, hy⟩ : ∃ y, decide (n1 = n2) = y := ⟨_, rfl⟩
  have HY := Lib.hid hy
  have HXX : Hid ((y && decide (x1 = x2)) = x) := by show _ = _; rw [← hx.out, ← hy]; simp [samB]
  clear hy hx
  go_enter Tryd.func18, Tryd.ntmps18
  go_wp2_with fail
  (with_reducible refine (rsame05_any n1 n2 A B c d y HY l1 l2 _ (Lib.hid (HS.out.below HW.out)) (Lib.hid (HT.out.below HW.out))).mono ?_)
  rintro e w1 ⟨rfl, hb⟩
  have HB1 := Lib.hid (below_old HW.out hb)
  have c5 : w1.cell? ⟨w.heap.size, 5, none⟩ = some (.string x1) := (HX1.out.below hb).cell 5
  have d5 : w1.cell? ⟨w.heap.size + 1, 5, none⟩ = some (.string x2) := (HX2.out.below hb).cell 5
  clear hb HX1 HX2 HW q1 q2 q3 q4
  cases y with
  | false =>
    have ex : x = false := by have := HXX.out; simpa using this.symm
    subst ex
    go_wp2_with fail
    go_ret
    exact ⟨rfl, HB1.out⟩
  | true =>
    by_cases e6 : x1 = x2
    · have ex : x = true := by have := HXX.out; simpa [e6] using this.symm
      have q6 := seq_t e6
      subst ex
      clear e6 HXX
      go_wp2_with fail
      go_ret
      exact ⟨rfl, HB1.out⟩
    · have ex : x = false := by have := HXX.out; simpa [e6] using this.symm
      have q6 := seq_f e6
      subst ex
      clear e6 HXX
      go_wp2_with fail
      go_ret
      exact ⟨rfl, HB1.out⟩
end Go.Proofs.YtcefmnkfkpoccaaDoor
