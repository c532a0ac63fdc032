/- Events' lines tell the events apart, but for the text. No program in sight. -/
import Derived.Test.YtcefmnkfkpoccaaDoorGS
namespace Go.Proofs.YtcefmnkfkpoccaaDoor
set_option linter.unusedVariables false
open Wi Evn
open Go.Lib (decDigits)
/-- A byte that ends a word. -/
def isE (c : UInt8) : Prop := c = 32 ∨ c = 10
theorem cut_word {X Y R S : List UInt8} {c d : UInt8} (hX : ∀ b ∈ X, ¬ isE b) (hY : ∀ b ∈ Y, ¬ isE b) (hc : isE c) (hd : isE d) (h : X ++ c :: R = Y ++ d :: S) : X = Y ∧ c = d ∧ R = S := by
  induction X generalizing Y with
  | nil =>
    cases Y with
    | nil => simp only [List.nil_append, List.cons.injEq] at h; exact ⟨rfl, h.1, h.2⟩
    | cons y Y =>
      simp only [List.nil_append, List.cons_append, List.cons.injEq] at h
      exact absurd (h.1 ▸ hc) (hY y (by simp))
  | cons x X ih =>
    cases Y with
    | nil =>
      simp only [List.nil_append, List.cons_append, List.cons.injEq] at h
      exact absurd (h.1 ▸ hd) (hX x (by simp))
    | cons y Y =>
      simp only [List.cons_append, List.cons.injEq] at h
      obtain ⟨a, b, e⟩ := ih (fun b hb => hX b (by simp [hb])) (fun b hb => hY b (by simp [hb])) h.2
      exact ⟨by rw [h.1, a], b, e⟩
theorem dig_bytes (u : Nat) : ∀ b ∈ decDigits u, 48 ≤ b.toNat ∧ b.toNat ≤ 57 := by
  induction u using Nat.strongRecOn with
  | _ u ih =>
    rw [decDigits]
    split
    · rename_i h
      intro b hb
      rw [List.mem_singleton] at hb
      rw [hb, UInt8.toNat_ofNat_of_lt' (by show _ < 256; omega)]
      omega
    · rename_i h
      intro b hb
      rw [List.mem_append] at hb
      rcases hb with hb | hb
      · exact ih (u / 10) (by omega) b hb
      · rw [List.mem_singleton] at hb
        rw [hb, UInt8.toNat_ofNat_of_lt' (by show _ < 256; omega)]
        omega
theorem notE {b : UInt8} (h : 33 ≤ b.toNat) : ¬ isE b := fun e => by
  rcases e with rfl | rfl
  · exact absurd h (by decide)
  · exact absurd h (by decide)
theorem dec_inj {u v : Nat} (h : decDigits u = decDigits v) : u = v := by
  rw [← (Ck.dec_form u).2, ← (Ck.dec_form v).2, h]
theorem it_bytes (n : Int) : ∀ b ∈ bl (itS n), ¬ isE b := by
  intro b hb
  have hb' : b ∈ Lib.itoa n := hb
  unfold Lib.itoa at hb'
  split at hb'
  · rw [List.mem_cons] at hb'
    rcases hb' with rfl | hb'
    · exact notE (by decide)
    · exact notE (by have := dig_bytes _ b hb'; omega)
  · exact notE (by have := dig_bytes _ b hb'; omega)
theorem dec_head (u : Nat) (l : List UInt8) : ¬ decDigits u = 45 :: l := fun h => by
  have := dig_bytes u 45 (by rw [h]; simp)
  exact absurd this.1 (by decide)
theorem it_inj {n m : Int} (h : bl (itS n) = bl (itS m)) : n = m := by
  have h' : Lib.itoa n = Lib.itoa m := h
  unfold Lib.itoa at h'
  split at h' <;> split at h'
  · rename_i a b
    simp only [List.cons.injEq, true_and] at h'
    have := dec_inj h'
    omega
  · exact absurd h'.symm (dec_head _ _)
  · exact absurd h' (dec_head _ _)
  · have := dec_inj h'
    omega
/-- The numbers of a line and its end. -/
def nmL (l : List Int) : List UInt8 := jt (l.map itS) ++ [10]
theorem jt_cons (x : ByteArray) (l : List ByteArray) : jt (x :: l) = 32 :: (bl x ++ jt l) := by
  have := jt_app [x] l
  rw [jt_one] at this
  exact this
theorem nmL_cons (x : Int) (l : List Int) : nmL (x :: l) = 32 :: (bl (itS x) ++ nmL l) := by
  unfold nmL
  rw [List.map_cons, jt_cons]
  simp only [List.cons_append, List.append_assoc]
theorem nmL_head (l : List Int) : ∃ c R, nmL l = c :: R ∧ isE c := by
  cases l with
  | nil => exact ⟨10, [], rfl, .inr rfl⟩
  | cons x l => exact ⟨32, _, nmL_cons x l, .inl rfl⟩
theorem nmL_inj {l m : List Int} (h : nmL l = nmL m) : l = m := by
  induction l generalizing m with
  | nil =>
    cases m with
    | nil => rfl
    | cons y m => rw [nmL_cons] at h; exact absurd (List.cons.inj h).1 (by decide)
  | cons x l ih =>
    cases m with
    | nil => rw [nmL_cons] at h; exact absurd (List.cons.inj h).1 (by decide)
    | cons y m =>
      rw [nmL_cons, nmL_cons] at h
      have h := (List.cons.inj h).2
      obtain ⟨c, R, e1, hc⟩ := nmL_head l
      obtain ⟨d, S, e2, hd⟩ := nmL_head m
      rw [e1, e2] at h
      obtain ⟨a, b, e⟩ := cut_word (it_bytes x) (it_bytes y) hc hd h
      have q : nmL l = nmL m := by rw [e1, e2, b, e]
      rw [it_inj a, ih q]
theorem nm_bytes (k : Int) : ∀ b ∈ bl (nmS k), ¬ isE b := by
  by_cases hk : 1 ≤ k ∧ k ≤ 14
  · have hall : ∀ i : Fin 14, ∀ b ∈ bl (nmS ((i.val : Int) + 1)), 33 ≤ b.toNat := by decide +kernel
    obtain ⟨i, hi⟩ : ∃ i : Fin 14, k = (i.val : Int) + 1 := ⟨⟨(k - 1).toNat, by omega⟩, by simp only; omega⟩
    rw [hi]
    exact fun b hb => notE (hall i b hb)
  · rw [nmS_none hk]
    exact fun b hb => by cases hb
theorem nm_inj {k l : Int} (hk : 1 ≤ k ∧ k ≤ 14) (hl : 1 ≤ l ∧ l ≤ 14) (h : bl (nmS k) = bl (nmS l)) : k = l := by
  have hall : ∀ i : Fin 14, ∀ j : Fin 14, bl (nmS ((i.val : Int) + 1)) = bl (nmS ((j.val : Int) + 1)) → i = j := by decide +kernel
  obtain ⟨i, hi⟩ : ∃ i : Fin 14, k = (i.val : Int) + 1 := ⟨⟨(k - 1).toNat, by omega⟩, by simp only; omega⟩
  obtain ⟨j, hj⟩ : ∃ j : Fin 14, l = (j.val : Int) + 1 := ⟨⟨(l - 1).toNat, by omega⟩, by simp only; omega⟩
  rw [hi, hj] at h
  rw [hi, hj, hall i j h]
theorem ln_parts (e : Ev) : lnT e = Ck.fmT e.ti ++ (32 :: (bl (nmS e.ki) ++ (jt (opt e.it) ++ (jt (opt e.of_) ++ nmL e.nn)))) := by
  unfold lnT wds nmL
  rw [List.take_length, jt_app, jt_app, jt_app, jt_one]
  simp only [List.append_assoc, List.cons_append]
theorem fm_form {t : Int} (h : 0 ≤ t ∧ t ≤ 10000000) : ∃ D Y, Ck.fmT t = D ++ 32 :: Y ∧ (∀ b ∈ D, ¬ isE b) ∧ Y.length = 5 := by
  refine ⟨100 :: decDigits (t.toNat / 1440), Ck.two (t.toNat % 1440 / 60) ++ 58 :: Ck.two (t.toNat % 60), ?_, ?_, ?_⟩
  · unfold Ck.fmT
    rw [if_pos h]
    unfold Ck.fmN
    simp only [List.cons_append]
  · intro b hb
    rw [List.mem_cons] at hb
    rcases hb with rfl | hb
    · exact notE (by decide)
    · exact notE (by have := dig_bytes _ b hb; omega)
  · simp [Ck.two]
/-- An optional word of the same kind: the same bytes before the rest, the same word. -/
theorem opt_cut {c : Int} {s t : ByteArray} {R S : List UInt8} (hs : namB s c = true) (ht : namB t c = true) (h : jt (opt s) ++ R = jt (opt t) ++ S) : s = t ∧ R = S := by
  unfold namB at hs ht
  split at hs
  · rename_i h0
    rw [if_pos h0] at ht
    simp only [decide_eq_true_eq] at hs ht
    rw [opt_no hs, opt_no ht] at h
    exact ⟨by rw [hs, ht], h⟩
  · rename_i h0
    rw [if_neg h0] at ht
    have z1 := isB_size hs
    have z2 := isB_size ht
    have n1 : ¬ s = ByteArray.empty := fun e => by rw [e] at z1; exact absurd z1 (by decide)
    have n2 : ¬ t = ByteArray.empty := fun e => by rw [e] at z2; exact absurd z2 (by decide)
    rw [opt_yes n1, opt_yes n2, jt_one, jt_one] at h
    simp only [List.cons_append, List.cons.injEq, true_and] at h
    obtain ⟨a, b⟩ := List.append_inj h (by rw [bl_len, bl_len, z1, z2])
    exact ⟨by rw [← lb_bl s, ← lb_bl t, a], b⟩
theorem opt_head (s : ByteArray) (l : List UInt8) (h : ∃ c R, l = c :: R ∧ isE c) : ∃ c R, jt (opt s) ++ l = c :: R ∧ isE c := by
  unfold opt
  split
  · exact h
  · rw [jt_one]
    exact ⟨32, _, rfl, .inl rfl⟩
theorem ln_inj {a b : Ev} (ha : Evn.Can a) (hb : Evn.Can b) (h : lnT a = lnT b) : a.ki = b.ki ∧ a.ti = b.ti ∧ a.it = b.it ∧ a.of_ = b.of_ ∧ a.nn = b.nn := by
  rw [ln_parts, ln_parts] at h
  obtain ⟨D, Y, f1, f2, f3⟩ := fm_form ha.ti
  obtain ⟨E, Z, g1, g2, g3⟩ := fm_form hb.ti
  rw [f1, g1] at h
  simp only [List.append_assoc, List.cons_append] at h
  obtain ⟨h1, _, h2⟩ := cut_word f2 g2 (.inl rfl) (.inl rfl) h
  obtain ⟨h3, h4⟩ := List.append_inj h2 (by rw [f3, g3])
  have h5 := (List.cons.inj h4).2
  have ht : a.ti = b.ti := by
    have e : Ck.fmT a.ti = Ck.fmT b.ti := by rw [f1, g1, h1, h3]
    rw [← (Ck.pc_fm ha.ti.1 ha.ti.2).2, ← (Ck.pc_fm hb.ti.1 hb.ti.2).2, e]
  obtain ⟨c, R, e1, hc⟩ := opt_head a.it _ (opt_head a.of_ _ (nmL_head a.nn))
  obtain ⟨d, S, e2, hd⟩ := opt_head b.it _ (opt_head b.of_ _ (nmL_head b.nn))
  have h6 := h5
  rw [e1, e2] at h6
  obtain ⟨h7, h8, h9⟩ := cut_word (nm_bytes a.ki) (nm_bytes b.ki) hc hd h6
  have hk := nm_inj ha.ki hb.ki h7
  have h10 : jt (opt a.it) ++ (jt (opt a.of_) ++ nmL a.nn) = jt (opt b.it) ++ (jt (opt b.of_) ++ nmL b.nn) := by rw [e1, e2, h8, h9]
  have bi := hb.it
  have bo := hb.of_
  rw [← hk] at bi bo
  obtain ⟨q1, q2⟩ := opt_cut ha.it bi h10
  obtain ⟨q3, q4⟩ := opt_cut ha.of_ bo q2
  exact ⟨hk, ht, q1, q3, nmL_inj q4⟩
/-- An event with another one's text. -/
def wtx (a b : Ev) : Ev := ⟨a.ki, a.ti, a.it, a.of_, a.nn, b.tx⟩
theorem wtx_chk {a b : Ev} (ha : chk a = 0) (hb : chk b = 0) : chk (wtx a b) = 0 := by
  have h := can_of ha
  have h2 := (can_of hb).tl
  have hn : numB a.nn = true := by simp only [numB, List.all_eq_true, decide_eq_true_eq]; exact h.nn
  unfold chk wtx
  simp only [if_pos h.ki, if_pos h.ti, h.it, h.of_, Bool.and_self, if_true, if_pos (And.intro h.nl h2), hn, h.sh]
theorem wtx_lin {a b : Ev} (ha : chk a = 0) (hb : chk b = 0) : linS (wtx a b) = linS a := by
  rw [linS_ok (wtx_chk ha hb), linS_ok ha]
  rfl
theorem lin_iff {a b : Ev} (ha : chk a = 0) (hb : chk b = 0) : linS a = linS b ↔ wtx a b = b := by
  constructor
  · intro h
    rw [linS_ok ha, linS_ok hb] at h
    have h' : lnT a = lnT b := by rw [← bl_lb (lnT a), h]
    obtain ⟨h1, h2, h3, h4, h5⟩ := ln_inj (can_of ha) (can_of hb) h'
    unfold wtx
    rw [h1, h2, h3, h4, h5]
  · intro h
    rw [← wtx_lin ha hb, h]
theorem lin_end {a : Ev} (ha : chk a = 0) : ∃ l, linS a = lb (l ++ [10]) := ⟨Ck.fmT a.ti ++ jt (wds a a.nn.length), linS_ok ha⟩
theorem enc_iff {a b : Ev} (ha : chk a = 0) (hb : chk b = 0) : encS a = encS b ↔ a = b := by
  constructor
  · intro h
    rw [encS_ok ha, encS_ok hb] at h
    have h' : recL a = recL b := by rw [← bl_lb (recL a)]; show bl (recS a) = _; rw [h]; rfl
    exact (rec_inj (can_of ha) (can_of hb) (r := []) (by rw [h', List.append_nil])).1
  · intro h; rw [h]
end Go.Proofs.YtcefmnkfkpoccaaDoor
