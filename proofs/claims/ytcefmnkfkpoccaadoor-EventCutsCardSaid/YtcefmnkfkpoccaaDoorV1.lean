/- Plain mathematics of decimal numbers: the text of a number, the number of a text; they invert each other. No program in sight. -/
import Derived.Lib.ItoaNum
namespace Go.Proofs.YtcefmnkfkpoccaaDoor
set_option linter.unusedVariables false
namespace Un
open Go.Lib

/-- c digits of v, the first ahead. -/
def digL (v c : Nat) : List UInt8 := (List.range c).map fun t => dg v (c - 1 - t)
theorem digL_length (v c : Nat) : (digL v c).length = c := by simp [digL]
theorem digL_succ (v c : Nat) : digL v (c + 1) = digL (v / 10) c ++ [dg v 0] := by
  unfold digL
  rw [List.range_succ, List.map_append]
  congr 1
  · refine List.map_congr_left fun t ht => ?_
    have ht' : t < c := List.mem_range.1 ht
    rw [show c + 1 - 1 - t = (c - 1 - t) + 1 by omega, dg_succ]
  · simp
theorem dg_toNat (v j : Nat) : (dg v j).toNat = 48 + v / 10 ^ j % 10 := by
  unfold dg
  rw [UInt8.toNat_ofNat_of_lt' (by show _ < 256; omega)]
/-- Is a byte a digit? -/
def isDg (c : UInt8) : Bool := decide (48 ≤ c.toNat ∧ c.toNat ≤ 57)
theorem dg_isDg (v j : Nat) : isDg (dg v j) = true := by
  unfold isDg
  rw [dg_toNat]
  simp
  omega
theorem digL_all (v c : Nat) : (digL v c).all isDg = true := by
  simp [digL, dg_isDg]
/-- The number of a list of digits. -/
def valL (l : List UInt8) : Nat := l.foldl (fun n c => 10 * n + (c.toNat - 48)) 0
theorem val_snoc (l : List UInt8) (c : UInt8) : valL (l ++ [c]) = 10 * valL l + (c.toNat - 48) := by simp [valL]
theorem val_digL : ∀ (c v : Nat), valL (digL v c) = v % 10 ^ c
  | 0, v => by simp [digL, valL]; omega
  | c + 1, v => by
    rw [digL_succ, val_snoc, val_digL c, dg_toNat, Nat.pow_succ]
    have h1 : v % (10 ^ c * 10) = 10 * (v / 10 % 10 ^ c) + v % 10 := by
      rw [Nat.mul_comm, Nat.mod_mul]
      omega
    rw [h1]
    simp
theorem digL_val (l : List UInt8) (h : l.all isDg = true) : digL (valL l) l.length = l := by
  have key : ∀ (n : Nat) (l : List UInt8), l.length = n → l.all isDg = true → digL (valL l) l.length = l := by
    intro n
    induction n with
    | zero => intro l hl _; rw [List.eq_nil_of_length_eq_zero hl]; simp [digL]
    | succ n ih =>
      intro l hl ha
      obtain ⟨l', x, rfl⟩ : ∃ l' x, l = l' ++ [x] := ⟨l.dropLast, l.getLast (by intro e; rw [e] at hl; simp at hl), (List.dropLast_concat_getLast _).symm⟩
      simp only [List.length_append, List.length_singleton] at hl ⊢
      simp only [List.all_append, List.all_cons, List.all_nil, Bool.and_true, Bool.and_eq_true] at ha
      have hx : 48 ≤ x.toNat ∧ x.toNat ≤ 57 := by simpa [isDg] using ha.2
      rw [digL_succ, val_snoc, show (10 * valL l' + (x.toNat - 48)) / 10 = valL l' by omega, ih l' (by omega) ha.1]
      congr 2
      unfold dg
      rw [Nat.pow_zero, Nat.div_one, show 48 + (10 * valL l' + (x.toNat - 48)) % 10 = x.toNat by omega]
      exact UInt8.ofNat_toNat
  exact key l.length l rfl h
theorem val_lt (l : List UInt8) (h : l.all isDg = true) : valL l < 10 ^ l.length := by
  have e := digL_val l h
  have : valL l = valL l % 10 ^ l.length := by
    conv => lhs; rw [← e, val_digL]
  rw [this]
  exact Nat.mod_lt _ (Nat.pow_pos (by omega))
theorem val_take_le (l : List UInt8) (i : Nat) : valL (l.take i) ≤ valL l := by
  have key : ∀ (r a : List UInt8), valL a ≤ valL (a ++ r) := by
    intro r
    induction r with
    | nil => intro a; simp
    | cons x r ih =>
      intro a
      have := ih (a ++ [x])
      rw [val_snoc, List.append_assoc] at this
      simp only [List.singleton_append] at this
      omega
  have := key (l.drop i) (l.take i)
  rwa [List.take_append_drop] at this

/-! ### How many digits -/
theorem nd_pow (u : Nat) : 2 ≤ nDigits u → 10 ^ (nDigits u - 1) ≤ u := by
  induction u using Nat.strongRecOn with
  | _ u ih =>
    intro h
    by_cases h1 : u < 10
    · rw [nDigits_small h1] at h; omega
    · rw [nDigits_big h1]
      have hp := nDigits_pos (u / 10)
      rw [show nDigits (u / 10) + 1 - 1 = (nDigits (u / 10) - 1) + 1 by omega, Nat.pow_succ]
      by_cases h2 : 2 ≤ nDigits (u / 10)
      · have := ih (u / 10) (by omega) h2; omega
      · rw [show nDigits (u / 10) - 1 = 0 by omega]; omega
theorem nd_le {u c : Nat} (hc : 1 ≤ c) (h : u < 10 ^ c) : nDigits u ≤ c := by
  rcases Nat.lt_or_ge c (nDigits u) with g | g
  · have := nd_pow u (by omega)
    have : 10 ^ c ≤ 10 ^ (nDigits u - 1) := Nat.pow_le_pow_right (by omega) (by omega)
    omega
  · exact g
theorem lt_nd {u c : Nat} (h : 10 ^ c ≤ u) : c < nDigits u := by
  rcases Nat.lt_or_ge c (nDigits u) with g | g
  · exact g
  · have := lt_pow_nDigits u
    have : 10 ^ nDigits u ≤ 10 ^ c := Nat.pow_le_pow_right (by omega) g
    omega
theorem dec_digL (u : Nat) : decDigits u = digL u (nDigits u) := decDigits_eq u

/-- How many digits the text of a number with k decimals has. -/
def cnt (m k : Nat) : Nat := max (nDigits m) (k + 1)
theorem digL_zero (v : Nat) : ∀ (j c : Nat), v < 10 ^ c → digL v (j + c) = List.replicate j 48 ++ digL v c
  | 0, c, _ => by simp
  | j + 1, c, h => by
    have hd : digL v (j + c + 1) = dg v (j + c) :: digL v (j + c) := by
      unfold digL
      rw [List.range_succ_eq_map, List.map_cons, List.map_map]
      congr 1
      refine List.map_congr_left fun t ht => ?_
      have ht' := List.mem_range.1 ht
      simp only [Function.comp]
      congr 1
      omega
    rw [show j + 1 + c = j + c + 1 by omega, hd, digL_zero v j c h, List.replicate_succ, List.cons_append]
    congr 1
    unfold dg
    have : v / 10 ^ (j + c) = 0 := Nat.div_eq_of_lt (Nat.lt_of_lt_of_le h (Nat.pow_le_pow_right (by omega) (by omega)))
    rw [this]
    rfl
/-- The digits, padded on the left. -/
def padT (m k : Nat) : List UInt8 := digL m (cnt m k)
theorem pad_eq (m k : Nat) : padT m k = List.replicate (k + 1 - nDigits m) 48 ++ decDigits m := by
  unfold padT
  rw [dec_digL, ← digL_zero m _ _ (lt_pow_nDigits m)]
  congr 1
  unfold cnt
  omega
theorem pad_length (m k : Nat) : (padT m k).length = cnt m k := digL_length _ _
theorem val_pad (m k : Nat) : valL (padT m k) = m := by
  unfold padT
  rw [val_digL]
  refine Nat.mod_eq_of_lt (Nat.lt_of_lt_of_le (lt_pow_nDigits m) (Nat.pow_le_pow_right (by omega) ?_))
  unfold cnt
  omega

/-- The text without its sign. -/
def bodyT (m k : Nat) : List UInt8 := if k = 0 then padT m k else (padT m k).take (cnt m k - k) ++ 46 :: (padT m k).drop (cnt m k - k)
/-- The text of a number. -/
def decT (n : Int) (k : Nat) : List UInt8 := if n < 0 then 45 :: bodyT n.natAbs k else bodyT n.natAbs k

/-! ### The number of a text -/
/-- How many digits stand ahead of the point; 0 where the text is too short. -/
def hd (t : List UInt8) (k : Nat) : Nat := if k = 0 then t.length else t.length - k - 1
def frL (t : List UInt8) (k : Nat) : List UInt8 := if k = 0 then t else t.take (hd t k) ++ t.drop (hd t k + 1)
def frB (t : List UInt8) (k : Nat) : Bool := decide (1 ≤ hd t k) && (decide (k = 0) || decide (t.getD (hd t k) 0 = 46)) && !(decide (1 < hd t k) && decide (t.getD 0 0 = 48)) && (frL t k).all isDg
def tlT (s : List UInt8) : List UInt8 := if s.head? = some 45 then s.tail else s
def ngB (s : List UInt8) : Bool := decide (s.head? = some 45)
def lim (s : List UInt8) : Nat := if ngB s then 9223372036854775808 else 9223372036854775807
def paE (s : List UInt8) (k : Nat) : Int :=
  if s = [] then 3 else if frB (tlT s) k = false then 5 else if lim s < valL (frL (tlT s) k) then 9 else if ngB s = true ∧ valL (frL (tlT s) k) = 0 then 5 else 0
def paV (s : List UInt8) (k : Nat) : Int :=
  if paE s k = 0 then (if ngB s then -(valL (frL (tlT s) k) : Int) else valL (frL (tlT s) k)) else 0

theorem frL_length {t : List UInt8} {k : Nat} (h : 1 ≤ hd t k) : (frL t k).length = hd t k + k := by
  unfold frL hd at *
  split at h
  · rename_i h0; subst h0; simp
  · rename_i h0
    rw [if_neg h0, if_neg h0]
    simp
    omega

theorem body_form (m k : Nat) : frB (bodyT m k) k = true ∧ frL (bodyT m k) k = padT m k ∧ (bodyT m k).head? ≠ some 45 ∧ bodyT m k ≠ [] := by
  have hl := pad_length m k
  have hc : k + 1 ≤ cnt m k := by unfold cnt; omega
  have hall := digL_all m (cnt m k)
  have hfirst : ∀ x, (padT m k).head? = some x → isDg x = true := fun x hx => by
    have : x ∈ padT m k := List.mem_of_mem_head? hx
    exact List.all_eq_true.1 hall x this
  have h48 : 1 < cnt m k - k → (padT m k).getD 0 0 ≠ 48 := by
    intro g e
    have hcn : cnt m k = nDigits m := by unfold cnt at *; omega
    have h2 : 10 ^ (nDigits m - 1) ≤ m := nd_pow m (by omega)
    have e0 : (padT m k).getD 0 0 = dg m (cnt m k - 1) := by
      unfold padT digL
      rw [List.getD_eq_getElem?_getD, List.getElem?_map, List.getElem?_range (by omega)]
      simp
    rw [e0, hcn] at e
    have := congrArg UInt8.toNat e
    rw [dg_toNat] at this
    have h3 : m / 10 ^ (nDigits m - 1) < 10 := by
      rw [Nat.div_lt_iff_lt_mul (Nat.pow_pos (by omega)), Nat.mul_comm, ← Nat.pow_succ, show (nDigits m - 1).succ = nDigits m by omega]
      exact lt_pow_nDigits m
    have h4 : 1 ≤ m / 10 ^ (nDigits m - 1) := (Nat.one_le_div_iff (Nat.pow_pos (by omega))).2 h2
    have h5 : (48 : UInt8).toNat = 48 := rfl
    rw [h5] at this
    omega
  have hne : padT m k ≠ [] := by intro e; rw [e] at hl; simp at hl; omega
  by_cases h0 : k = 0
  · subst h0
    have eb : bodyT m 0 = padT m 0 := by simp [bodyT]
    have ehd : hd (padT m 0) 0 = cnt m 0 := by simp [hd, hl]
    have efl : frL (padT m 0) 0 = padT m 0 := by simp [frL]
    rw [eb]
    refine ⟨?_, efl, ?_, hne⟩
    · simp only [frB, efl, ehd, Bool.and_eq_true, Bool.not_eq_true', Bool.and_eq_false_iff, decide_eq_true_eq, decide_eq_false_iff_not, Bool.or_eq_true]
      refine ⟨⟨⟨by omega, .inl trivial⟩, ?_⟩, hall⟩
      rcases Nat.lt_or_ge 1 (cnt m 0) with g | g
      · right; exact h48 (by omega)
      · left; omega
    · intro e
      have := hfirst _ e
      exact absurd this (by decide)
  · have eb : bodyT m k = (padT m k).take (cnt m k - k) ++ 46 :: (padT m k).drop (cnt m k - k) := by simp [bodyT, h0]
    have hbl : (bodyT m k).length = cnt m k + 1 := by rw [eb]; simp [hl]; omega
    have htl : ((padT m k).take (cnt m k - k)).length = cnt m k - k := by simp [hl]
    have ehd : hd (bodyT m k) k = cnt m k - k := by unfold hd; rw [if_neg h0, hbl]; omega
    have efl : frL (bodyT m k) k = padT m k := by
      unfold frL
      rw [if_neg h0, ehd, eb, List.take_left' htl]
      have : ((padT m k).take (cnt m k - k) ++ 46 :: (padT m k).drop (cnt m k - k)).drop (cnt m k - k + 1) = (padT m k).drop (cnt m k - k) := by
        rw [List.drop_append, htl, show cnt m k - k + 1 - (cnt m k - k) = 1 by omega, List.drop_of_length_le (by omega)]
        simp
      rw [this, List.take_append_drop]
    have egd : (bodyT m k).getD (cnt m k - k) 0 = 46 := by
      rw [eb, List.getD_eq_getElem?_getD, List.getElem?_append_right (by omega), htl]
      simp
    have eg0 : (bodyT m k).getD 0 0 = (padT m k).getD 0 0 := by
      rw [eb, List.getD_eq_getElem?_getD, List.getElem?_append_left (by omega), List.getElem?_take_of_lt (by omega), List.getD_eq_getElem?_getD]
    have ehd2 : (bodyT m k).head? = (padT m k).head? := by
      rw [List.head?_eq_getElem?, List.head?_eq_getElem?, eb, List.getElem?_append_left (by omega), List.getElem?_take_of_lt (by omega)]
    refine ⟨?_, efl, ?_, ?_⟩
    · simp only [frB, efl, ehd, egd, eg0, Bool.and_eq_true, Bool.not_eq_true', Bool.and_eq_false_iff, decide_eq_true_eq, decide_eq_false_iff_not, Bool.or_eq_true]
      refine ⟨⟨⟨by omega, .inr trivial⟩, ?_⟩, hall⟩
      rcases Nat.lt_or_ge 1 (cnt m k - k) with g | g
      · right; exact h48 g
      · left; omega
    · rw [ehd2]
      intro e
      have := hfirst _ e
      exact absurd this (by decide)
    · intro e; rw [e] at hbl; simp at hbl

/-- The number of a number's text is that number. -/
theorem pa_dec (n : Int) (k : Nat) (h0 : -9223372036854775808 ≤ n) (h1 : n ≤ 9223372036854775807) : paE (decT n k) k = 0 ∧ paV (decT n k) k = n := by
  obtain ⟨b1, b2, b3, b4⟩ := body_form n.natAbs k
  by_cases hn : n < 0
  · have e : decT n k = 45 :: bodyT n.natAbs k := by simp [decT, hn]
    have e1 : ngB (decT n k) = true := by rw [e]; simp [ngB]
    have e2 : tlT (decT n k) = bodyT n.natAbs k := by rw [e]; simp [tlT]
    have eE : paE (decT n k) k = 0 := by
      unfold paE
      rw [e2, b1, b2, val_pad, e1, if_neg (by rw [e]; simp), if_neg (by simp), if_neg, if_neg]
      · omega
      · unfold lim; rw [e1]; simp; omega
    refine ⟨eE, ?_⟩
    unfold paV
    rw [eE, if_pos rfl, e1, e2, b2, val_pad]
    simp
    omega
  · have e : decT n k = bodyT n.natAbs k := by simp [decT, hn]
    have e1 : ngB (decT n k) = false := by rw [e]; simp [ngB, b3]
    have e2 : tlT (decT n k) = bodyT n.natAbs k := by rw [e]; simp [tlT, b3]
    have eE : paE (decT n k) k = 0 := by
      unfold paE
      rw [e2, b1, b2, val_pad, e1, if_neg (by rw [e]; exact b4), if_neg (by simp), if_neg, if_neg]
      · simp
      · unfold lim; rw [e1]; simp; omega
    refine ⟨eE, ?_⟩
    unfold paV
    rw [eE, if_pos rfl, e1, e2, b2, val_pad]
    simp
    omega

theorem form_pad {t : List UInt8} {k : Nat} (h : frB t k = true) : bodyT (valL (frL t k)) k = t := by
  simp only [frB, Bool.and_eq_true, Bool.not_eq_true', Bool.and_eq_false_iff, decide_eq_true_eq, decide_eq_false_iff_not, Bool.or_eq_true] at h
  obtain ⟨⟨⟨h1, h2⟩, h3⟩, h4⟩ := h
  have hlen := frL_length h1
  have hv := digL_val _ h4
  have hlt := val_lt _ h4
  have hcn : cnt (valL (frL t k)) k = (frL t k).length := by
    rw [hlen] at hlt ⊢
    unfold cnt
    have hle := nd_le (by omega) hlt
    by_cases g : 1 < hd t k
    · have h5 : t.getD 0 0 ≠ 48 := by rcases h3 with h3 | h3; exact absurd g h3; exact h3
      have hf0 : (frL t k).getD 0 0 = t.getD 0 0 := by
        unfold frL
        split
        · rfl
        · have hl2 : 0 < (t.take (hd t k)).length := by
            have : hd t k ≤ t.length := by unfold hd; split <;> omega
            simp; omega
          rw [List.getD_eq_getElem?_getD, List.getElem?_append_left hl2, List.getElem?_take_of_lt (by omega), List.getD_eq_getElem?_getD]
      have hd0 : (frL t k).getD 0 0 = dg (valL (frL t k)) ((frL t k).length - 1) := by
        conv => lhs; rw [← hv]
        unfold digL
        rw [List.getD_eq_getElem?_getD, List.getElem?_map, List.getElem?_range (by omega)]
        simp
      have : 10 ^ (hd t k + k - 1) ≤ valL (frL t k) := by
        rcases Nat.lt_or_ge (valL (frL t k)) (10 ^ (hd t k + k - 1)) with g2 | g2
        · exfalso
          apply h5
          rw [← hf0, hd0, hlen]
          unfold dg
          rw [Nat.div_eq_of_lt g2]
          rfl
        · exact g2
      have := lt_nd this
      omega
    · have : hd t k = 1 := by omega
      rw [this] at hle ⊢
      omega
  have hp : padT (valL (frL t k)) k = frL t k := by unfold padT; rw [hcn, hv]
  unfold bodyT
  rw [hp, hcn, hlen, show hd t k + k - k = hd t k by omega]
  by_cases h0 : k = 0
  · rw [if_pos h0]; unfold frL; rw [if_pos h0]
  · rw [if_neg h0]
    have hh : hd t k + 1 + k = t.length := by unfold hd at *; rw [if_neg h0] at *; omega
    have htl : (t.take (hd t k)).length = hd t k := by simp; omega
    unfold frL
    rw [if_neg h0, List.take_left' htl, List.drop_left' htl]
    have h46 : t.getD (hd t k) 0 = 46 := by rcases h2 with h2 | h2; exact absurd h2 h0; exact h2
    have : t.drop (hd t k) = 46 :: t.drop (hd t k + 1) := by
      rw [List.drop_eq_getElem_cons (by omega)]
      congr 1
      rw [← h46, List.getD_eq_getElem?_getD, List.getElem?_eq_getElem (by omega)]
      rfl
    rw [← this, List.take_append_drop]

/-- The text of a text's number is that text. -/
theorem dec_pa (s : List UInt8) (k : Nat) (h : paE s k = 0) : decT (paV s k) k = s := by
  have hE := h
  unfold paE at h
  split at h
  · cases h
  · rename_i hs
    split at h
    · cases h
    · rename_i hf
      split at h
      · cases h
      · split at h
        · cases h
        · rename_i hz
          have hf' : frB (tlT s) k = true := by simpa using hf
          have hb := form_pad hf'
          unfold paV
          rw [if_pos hE]
          cases hn : ngB s with
          | true =>
            rw [hn] at hz
            have h0 : 0 < valL (frL (tlT s) k) := Nat.pos_of_ne_zero fun g => hz ⟨rfl, g⟩
            have hh : s.head? = some 45 := by simpa [ngB] using hn
            have ht : tlT s = s.tail := by simp [tlT, hh]
            simp only [if_true]
            unfold decT
            rw [if_pos (by omega), Int.natAbs_neg, Int.natAbs_natCast, hb, ht]
            cases s with
            | nil => simp at hh
            | cons x s => simp at hh; rw [hh]; rfl
          | false =>
            have hh : ¬ s.head? = some 45 := by simpa [ngB] using hn
            have ht : tlT s = s := by simp [tlT, hh]
            simp only [Bool.false_eq_true, if_false]
            unfold decT
            rw [if_neg (by omega), Int.natAbs_natCast, hb, ht]

/-! ### The reference's way to the text -/
/-- The bytes from the end, after i rounds. -/
def bkL (m k : Nat) : Nat → List UInt8
  | 0 => []
  | i + 1 => bkL m k i ++ (if i = k ∧ 0 < k then [46] else []) ++ [dg m i]
theorem bk_low (m k : Nat) : ∀ i, i ≤ k ∨ k = 0 → bkL m k i = (List.range i).map (dg m)
  | 0, _ => rfl
  | i + 1, h => by
    rw [bkL, bk_low m k i (by omega), if_neg (by omega), List.range_succ, List.map_append]
    simp
theorem bk_high (m k : Nat) (hk : 0 < k) : ∀ j, bkL m k (k + (j + 1)) = (List.range k).map (dg m) ++ 46 :: (List.range (j + 1)).map fun t => dg m (k + t)
  | 0 => by
    show bkL m k (k + 1) = _
    rw [bkL, bk_low m k k (by omega), if_pos (by omega)]
    simp
  | j + 1 => by
    show bkL m k (k + (j + 1) + 1) = _
    rw [bkL, bk_high m k hk j, if_neg (by omega), List.range_succ (n := j + 1), List.map_append]
    simp
theorem digL_rev (m c : Nat) : (digL m c).reverse = (List.range c).map (dg m) := by
  apply List.ext_getElem
  · simp [digL]
  · intro i h1 h2
    simp [digL] at h1 h2 ⊢
    congr 1
    omega
theorem bk_body (m k : Nat) : (bkL m k (cnt m k)).reverse = bodyT m k := by
  have hc : k + 1 ≤ cnt m k := by unfold cnt; omega
  by_cases h0 : k = 0
  · rw [bk_low m k _ (.inr h0)]
    unfold bodyT
    rw [if_pos h0, ← digL_rev, List.reverse_reverse]
    rfl
  · obtain ⟨j, hj⟩ : ∃ j, cnt m k = k + (j + 1) := ⟨cnt m k - k - 1, by omega⟩
    rw [hj, bk_high m k (by omega) j]
    unfold bodyT
    rw [if_neg h0, hj]
    have e1 : padT m k = ((List.range (k + (j + 1))).map (dg m)).reverse := by rw [← digL_rev, List.reverse_reverse, ← hj]; rfl
    have e2 : (List.range (k + (j + 1))).map (dg m) = (List.range k).map (dg m) ++ (List.range (j + 1)).map fun t => dg m (k + t) := by
      rw [List.range_add, List.map_append, List.map_map]
      rfl
    rw [e1, e2, show k + (j + 1) - k = j + 1 by omega, List.reverse_append (as := (List.range k).map (dg m)) (bs := (List.range (j + 1)).map fun t => dg m (k + t))]
    have hl : ((List.range (j + 1)).map fun t => dg m (k + t)).reverse.length = j + 1 := by simp
    rw [List.take_left' hl, List.drop_left' hl, List.reverse_append, List.reverse_cons, List.append_assoc]
    rfl
end Un
end Go.Proofs.YtcefmnkfkpoccaaDoor
