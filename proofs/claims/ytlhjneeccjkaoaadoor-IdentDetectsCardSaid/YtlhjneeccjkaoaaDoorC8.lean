/- The order of codes; IdentOrder: the walk. -/
import Derived.Test.YtlhjneeccjkaoaaDoorC7
namespace Go.Proofs.YtlhjneeccjkaoaaDoor
open Go.RowKit
set_option linter.unusedVariables false

def lessI : List Int → List Int → Prop
  | _, [] => False
  | [], _ :: _ => True
  | a :: x, b :: y => a < b ∨ (a = b ∧ lessI x y)
theorem less_nums : ∀ (xs ys : List Int), (∀ x ∈ xs, 0 ≤ x ∧ x ≤ 255) → (∀ y ∈ ys, 0 ≤ y ∧ y ≤ 255) → (Op.bytesLess (xs.map fun n => UInt8.ofNat n.toNat) (ys.map fun n => UInt8.ofNat n.toNat) = true ↔ lessI xs ys)
  | [], [], _, _ => by simp [Op.bytesLess, lessI]
  | _ :: _, [], _, _ => by simp [Op.bytesLess, lessI]
  | [], _ :: _, _, _ => by simp [Op.bytesLess, lessI]
  | a :: x, b :: y, hx, hy => by
    have ih := less_nums x y (fun z hz => hx z (by simp [hz])) (fun z hz => hy z (by simp [hz]))
    have ha := hx a (by simp)
    have hb := hy b (by simp)
    have ea : (UInt8.ofNat a.toNat).toNat = a.toNat := by rw [UInt8.toNat_ofNat']; omega
    have eb : (UInt8.ofNat b.toNat).toNat = b.toNat := by rw [UInt8.toNat_ofNat']; omega
    have h1 : UInt8.ofNat a.toNat < UInt8.ofNat b.toNat ↔ a < b := by rw [UInt8.lt_iff_toNat_lt, ea, eb]; omega
    have h2 : UInt8.ofNat a.toNat = UInt8.ofNat b.toNat ↔ a = b := by rw [← UInt8.toNat_inj, ea, eb]; omega
    simp only [List.map_cons, Op.bytesLess, lessI, Bool.or_eq_true, Bool.and_eq_true, decide_eq_true_eq, beq_iff_eq, ih, h1, h2]

theorem code_less {k a b : Int} (hk : 65 ≤ k ∧ k ≤ 90) (ha : 0 ≤ a ∧ a ≤ 999999) (hb : 0 ≤ b ∧ b ≤ 999999) : Op.bytesLess (codeS k a).toList (codeS k b).toList = decide (a < b) := by
  rw [Lib.toList_data, Lib.toList_data]
  unfold codeS
  rw [strOfNums_data, strOfNums_data]
  have hA := letN_range (body k a 6) 7
  have hB := letN_range (body k b 6) 7
  have hl : a = b → letN (body k a 6) 7 = letN (body k b 6) 7 := fun h => by rw [h]
  rw [Bool.eq_iff_iff, decide_eq_true_iff]
  refine (less_nums _ _ ?_ ?_).trans ?_
  · intro x hx; simp [pad6] at hx; omega
  · intro x hx; simp [pad6] at hx; omega
  · simp only [pad6, List.map, List.cons_append, List.nil_append, lessI, and_false, or_false]
    generalize letN (body k a 6) 7 = la at *
    generalize letN (body k b 6) 7 = lb at *
    obtain ⟨a5, h5⟩ : ∃ x, a / 100000 % 10 = x := ⟨_, rfl⟩
    obtain ⟨a4, h4⟩ : ∃ x, a / 10000 % 10 = x := ⟨_, rfl⟩
    obtain ⟨a3, h3⟩ : ∃ x, a / 1000 % 10 = x := ⟨_, rfl⟩
    obtain ⟨a2, h2⟩ : ∃ x, a / 100 % 10 = x := ⟨_, rfl⟩
    obtain ⟨a1, h1⟩ : ∃ x, a / 10 % 10 = x := ⟨_, rfl⟩
    obtain ⟨a0, h0⟩ : ∃ x, a / 1 % 10 = x := ⟨_, rfl⟩
    obtain ⟨b5, g5⟩ : ∃ x, b / 100000 % 10 = x := ⟨_, rfl⟩
    obtain ⟨b4, g4⟩ : ∃ x, b / 10000 % 10 = x := ⟨_, rfl⟩
    obtain ⟨b3, g3⟩ : ∃ x, b / 1000 % 10 = x := ⟨_, rfl⟩
    obtain ⟨b2, g2⟩ : ∃ x, b / 100 % 10 = x := ⟨_, rfl⟩
    obtain ⟨b1, g1⟩ : ∃ x, b / 10 % 10 = x := ⟨_, rfl⟩
    obtain ⟨b0, g0⟩ : ∃ x, b / 1 % 10 = x := ⟨_, rfl⟩
    have eA : a = 100000 * a5 + 10000 * a4 + 1000 * a3 + 100 * a2 + 10 * a1 + a0 := by omega
    have eB : b = 100000 * b5 + 10000 * b4 + 1000 * b3 + 100 * b2 + 10 * b1 + b0 := by omega
    have rA : (0 ≤ a5 ∧ a5 ≤ 9) ∧ (0 ≤ a4 ∧ a4 ≤ 9) ∧ (0 ≤ a3 ∧ a3 ≤ 9) ∧ (0 ≤ a2 ∧ a2 ≤ 9) ∧ (0 ≤ a1 ∧ a1 ≤ 9) ∧ (0 ≤ a0 ∧ a0 ≤ 9) := by omega
    have rB : (0 ≤ b5 ∧ b5 ≤ 9) ∧ (0 ≤ b4 ∧ b4 ≤ 9) ∧ (0 ≤ b3 ∧ b3 ≤ 9) ∧ (0 ≤ b2 ∧ b2 ≤ 9) ∧ (0 ≤ b1 ∧ b1 ≤ 9) ∧ (0 ≤ b0 ∧ b0 ≤ 9) := by omega
    rw [h5, h4, h3, h2, h1, h0, g5, g4, g3, g2, g1, g0]
    clear h5 h4 h3 h2 h1 h0 g5 g4 g3 g2 g1 g0
    constructor
    · rintro (h | ⟨_, h | ⟨e5, h | ⟨e4, h | ⟨e3, h | ⟨e2, h | ⟨e1, h | ⟨e0, h⟩⟩⟩⟩⟩⟩⟩) <;> omega
    · intro h
      refine Or.inr ⟨trivial, ?_⟩
      omega
theorem code_same {k a b : Int} (hk : 65 ≤ k ∧ k ≤ 90) (ha : 0 ≤ a ∧ a ≤ 999999) (hb : 0 ≤ b ∧ b ≤ 999999) : codeS k a = codeS k b ↔ a = b := by
  refine ⟨fun h => ?_, fun h => by rw [h]⟩
  have h1 := (code_split hk ha).2.2.1
  have h2 := (code_split hk hb).2.2.1
  rw [← h1, ← h2, h]

theorem cod_zero {k n : Int} (hc : codB k n = 0) : (65 ≤ k ∧ k ≤ 90) ∧ (0 ≤ n ∧ n ≤ 999999) := by
  by_cases hk : 65 ≤ k ∧ k ≤ 90
  · by_cases hn : 0 ≤ n ∧ n ≤ 999999
    · exact ⟨hk, hn⟩
    · rw [(cod_range hk hn).2] at hc; cases hc
  · rw [(cod_kind hk).2] at hc; cases hc

set_option maxRecDepth 100000 in
set_option maxHeartbeats 4000000 in
theorem identOrder_walk (k a b : Int) (w : World) (ht : TabOk w) : Calls Tryd.prog 10 #[.int .u8 k, .int .i64 a, .int .i64 b] w fun e w' => e = .returned (.bool true) ∧ Below w.heap.size w w' := by
  have HT := Lib.hid ht; clear ht
  have D1 := fun W hT => code_any k a W hT
  have D2 := fun W hT => code_any k b W hT
  by_cases ha : codB k a = 0
  · by_cases hb : codB k b = 0
    · obtain ⟨hk, ra⟩ := cod_zero ha
      obtain ⟨_, rb⟩ := cod_zero hb
      rw [ha, (cod_ok hk ra).1] at D1
      rw [hb, (cod_ok hk rb).1] at D2
      have hless := code_less hk ra rb
      have hsame : ((codeS k a).toList == (codeS k b).toList) = (a == b) := by
        rw [Bool.eq_iff_iff, beq_iff_eq, beq_iff_eq, ← code_same hk ra rb]
        exact ⟨fun h => by rw [Lib.toList_data, Lib.toList_data] at h; exact ByteArray.ext (Array.toList_inj.1 h), fun h => by rw [h]⟩
      obtain ⟨q1, q2, q3, q4⟩ := code_split hk ra
      have D3 := fun W hT => next_any (codeS k a) (by omega) W hT
      rw [show nxT (codeS k a) = codT k (a + 1) by rw [nxT, if_pos q4, q2, q3], show nxB (codeS k a) = codB k (a + 1) by rw [nxB, if_pos q4, q2, q3]] at D3
      have D4 := fun W hT => code_any k (a + 1) W hT
      by_cases hx : a = 999999
      · subst hx
        rw [(cod_range hk (by omega)).1, (cod_range hk (by omega)).2] at D3
        have E1 := Lib.hid D1; have E2 := Lib.hid D2; have E3 := Lib.hid D3
        clear D1 D2 D3 D4 q1 q2 q3 q4 ha hb
        generalize codeS k 999999 = s at *
        generalize codeS k b = t at *
        go_enter Tryd.func10, Tryd.ntmps10
        go_wp2_with fail
        (with_reducible refine (E1.out _ HT.out).mono ?_)
        rintro e w1 ⟨rfl, hb⟩
        have B1 := Lib.hid (hb); clear hb
        go_wp2_with fail
        (with_reducible refine (E2.out _ (HT.out.below B1.out)).mono ?_)
        rintro e w2 ⟨rfl, hb⟩
        have B2 := Lib.hid (below_old B1.out hb); clear hb
        go_wp2_with fail
        (with_reducible refine (E3.out _ (HT.out.below B2.out)).mono ?_)
        rintro e w3 ⟨rfl, hb⟩
        have B3 := Lib.hid (below_old B2.out hb); clear hb
        go_wp2_with fail
        (with_reducible refine (awake02 _ (HT.out.below B3.out)).mono ?_)
        rintro e wz ⟨rfl, hb⟩
        have BZ := Lib.hid hb; clear hb
        go_wp2_with fail
        go_ret
        exact ⟨rfl, below_old B3.out BZ.out⟩
      · rw [(cod_ok hk (by omega)).1, (cod_ok hk (by omega)).2] at D3 D4
        have E1 := Lib.hid D1; have E2 := Lib.hid D2; have E3 := Lib.hid D3; have E4 := Lib.hid D4
        clear D1 D2 D3 D4 q1 q2 q3 q4 ha hb
        generalize codeS k a = s at *
        generalize codeS k b = t at *
        generalize codeS k (a + 1) = u at *
        go_enter Tryd.func10, Tryd.ntmps10
        go_wp2_with fail
        (with_reducible refine (E1.out _ HT.out).mono ?_)
        rintro e w1 ⟨rfl, hb⟩
        have B1 := Lib.hid (hb); clear hb
        go_wp2_with fail
        (with_reducible refine (E2.out _ (HT.out.below B1.out)).mono ?_)
        rintro e w2 ⟨rfl, hb⟩
        have B2 := Lib.hid (below_old B1.out hb); clear hb
        go_wp2_with fail
        (with_reducible refine (E3.out _ (HT.out.below B2.out)).mono ?_)
        rintro e w3 ⟨rfl, hb⟩
        have B3 := Lib.hid (below_old B2.out hb); clear hb
        go_wp2_with fail
        (with_reducible refine (E4.out _ (HT.out.below B3.out)).mono ?_)
        rintro e w4 ⟨rfl, hb⟩
        have B4 := Lib.hid (below_old B3.out hb); clear hb
        go_wp2_with fail
        (with_reducible refine (awake02 _ (HT.out.below B4.out)).mono ?_)
        rintro e wz ⟨rfl, hb⟩
        have BZ := Lib.hid hb; clear hb
        go_wp2_with fail
        go_ret
        exact ⟨rfl, below_old B4.out BZ.out⟩
    · have E1 := Lib.hid D1; have E2 := Lib.hid D2; clear D1 D2
      generalize codT k a = s at *
      generalize codT k b = t at *
      generalize codB k a = x at *
      generalize codB k b = y at *
      have hy : (y != 0) = true := by simpa using hb
      subst ha
      go_enter Tryd.func10, Tryd.ntmps10
      go_wp2_with fail
      (with_reducible refine (E1.out _ HT.out).mono ?_)
      rintro e w1 ⟨rfl, hb⟩
      have B1 := Lib.hid (hb); clear hb
      go_wp2_with fail
      (with_reducible refine (E2.out _ (HT.out.below B1.out)).mono ?_)
      rintro e w2 ⟨rfl, hb⟩
      have B2 := Lib.hid (below_old B1.out hb); clear hb
      go_wp2_with fail
      (with_reducible refine (awake02 _ (HT.out.below B2.out)).mono ?_)
      rintro e wz ⟨rfl, hb⟩
      have BZ := Lib.hid hb; clear hb
      go_wp2_with fail
      go_ret
      exact ⟨rfl, below_old B2.out BZ.out⟩
  · have E1 := Lib.hid D1; have E2 := Lib.hid D2; clear D1 D2
    generalize codT k a = s at *
    generalize codT k b = t at *
    generalize codB k a = x at *
    generalize codB k b = y at *
    have hy : (x != 0) = true := by simpa using ha
    go_enter Tryd.func10, Tryd.ntmps10
    go_wp2_with fail
    (with_reducible refine (E1.out _ HT.out).mono ?_)
    rintro e w1 ⟨rfl, hb⟩
    have B1 := Lib.hid (hb); clear hb
    go_wp2_with fail
    (with_reducible refine (E2.out _ (HT.out.below B1.out)).mono ?_)
    rintro e w2 ⟨rfl, hb⟩
    have B2 := Lib.hid (below_old B1.out hb); clear hb
    go_wp2_with fail
    (with_reducible refine (awake02 _ (HT.out.below B2.out)).mono ?_)
    rintro e wz ⟨rfl, hb⟩
    have BZ := Lib.hid hb; clear hb
    go_wp2_with fail
    go_ret
    exact ⟨rfl, below_old B2.out BZ.out⟩
end Go.Proofs.YtlhjneeccjkaoaaDoor
