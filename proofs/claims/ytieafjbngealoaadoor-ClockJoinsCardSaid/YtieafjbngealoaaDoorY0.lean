/- Plain mathematics of package clock: shifts of a week, working minutes, the next working time, when so many minutes have passed. No program in sight. -/
namespace Go.Proofs.YtieafjbngealoaaDoor
set_option linter.unusedVariables false
namespace Ck

abbrev Sh := List (Int × Int)
/-- The error of a list of shifts behind a time. -/
def ck (last : Int) : Sh → Int
  | [] => 0
  | s :: r => if s.1 < 0 ∨ s.2 ≤ s.1 ∨ 10080 < s.2 then 9 else if s.1 < last then 11 else ck s.2 r
def chk (S : Sh) : Int := if S.length = 0 then 3 else if 21 < S.length then 4 else ck 0 S
/-- Shifts in order, each behind the one before it. -/
def Ok (last : Int) : Sh → Prop
  | [] => True
  | s :: r => 0 ≤ s.1 ∧ s.1 < s.2 ∧ s.2 ≤ 10080 ∧ last ≤ s.1 ∧ Ok s.2 r
theorem ok_of_ck : ∀ {S : Sh} {last : Int}, ck last S = 0 → Ok last S
  | [], _, _ => trivial
  | s :: r, last, h => by
    unfold ck at h
    split at h
    · cases h
    · split at h
      · cases h
      · exact ⟨by omega, by omega, by omega, by omega, ok_of_ck h⟩
theorem chk_ok {S : Sh} (h : chk S = 0) : S ≠ [] ∧ S.length ≤ 21 ∧ Ok 0 S := by
  unfold chk at h
  split at h
  · cases h
  · rename_i h0
    split at h
    · cases h
    · exact ⟨fun e => h0 (by rw [e]; rfl), by omega, ok_of_ck h⟩
theorem Ok.mono {S : Sh} {a b : Int} (h : Ok a S) (hb : b ≤ a) : Ok b S := by
  cases S with
  | nil => trivial
  | cons s r => exact ⟨h.1, h.2.1, h.2.2.1, by have := h.2.2.2.1; omega, h.2.2.2.2⟩

/-! ### Working minutes -/
def opm (S : Sh) (m : Int) : Bool := S.any fun s => decide (s.1 ≤ m) && decide (m < s.2)
def bf : Sh → Int → Int
  | [], _ => 0
  | s :: r, m => max 0 (min m s.2 - s.1) + bf r m
def wk : Sh → Int
  | [] => 0
  | s :: r => (s.2 - s.1) + wk r
theorem opm_cons (s : Int × Int) (r : Sh) (m : Int) : opm (s :: r) m = ((decide (s.1 ≤ m) && decide (m < s.2)) || opm r m) := by simp [opm]
theorem bf_low : ∀ {S : Sh} {last m : Int}, Ok last S → m ≤ last → bf S m = 0
  | [], _, _, _, _ => rfl
  | s :: r, last, m, h, hm => by
    rw [bf, bf_low h.2.2.2.2 (by have := h.2.1; have := h.2.2.2.1; omega)]
    have := h.2.2.2.1
    omega
theorem opm_low : ∀ {S : Sh} {last m : Int}, Ok last S → m < last → opm S m = false
  | [], _, _, _, _ => rfl
  | s :: r, last, m, h, hm => by
    rw [opm_cons, opm_low h.2.2.2.2 (by have := h.2.1; have := h.2.2.2.1; omega)]
    have := h.2.2.2.1
    simp
    omega
theorem bf_step : ∀ {S : Sh} {last : Int} (m : Int), Ok last S → bf S (m + 1) = bf S m + if opm S m then 1 else 0
  | [], _, _, _ => rfl
  | s :: r, last, m, h => by
    rw [bf, bf, opm_cons]
    have h2 := h.2.1
    by_cases g : m < s.2
    · have e1 := bf_low h.2.2.2.2 (m := m + 1) (by omega)
      have e2 := bf_low h.2.2.2.2 (m := m) (by omega)
      have e3 := opm_low h.2.2.2.2 (m := m) g
      rw [e1, e2, e3]
      by_cases g2 : s.1 ≤ m
      · simp [g, g2]; omega
      · simp [g, g2]; omega
    · have e := bf_step m h.2.2.2.2
      rw [e]
      have : (decide (s.1 ≤ m) && decide (m < s.2)) = false := by simp; omega
      rw [this, Bool.false_or]
      omega
theorem bf_week : ∀ {S : Sh} {last : Int}, Ok last S → bf S 10080 = wk S
  | [], _, _ => rfl
  | s :: r, last, h => by
    rw [bf, wk, bf_week h.2.2.2.2]
    have := h.2.1; have := h.2.2.1
    omega
theorem bf_zero {S : Sh} (h : Ok 0 S) : bf S 0 = 0 := bf_low h (by omega)
theorem bf_nonneg : ∀ (S : Sh) (m : Int), 0 ≤ bf S m
  | [], _ => Int.le_refl 0
  | s :: r, m => by rw [bf]; have := bf_nonneg r m; omega
theorem bf_hi : ∀ {S : Sh} {last : Int} (m : Int), Ok last S → bf S m ≤ wk S
  | [], _, _, _ => Int.le_refl 0
  | s :: r, last, m, h => by
    rw [bf, wk]
    have := bf_hi m h.2.2.2.2
    have := h.2.1
    omega
theorem wk_pos {S : Sh} (hne : S ≠ []) (h : Ok 0 S) : 1 ≤ wk S := by
  cases S with
  | nil => exact absurd rfl hne
  | cons s r =>
    rw [wk]
    have := h.2.1
    have h2 := bf_hi 0 h.2.2.2.2
    have h3 := bf_nonneg r 0
    omega
theorem wk_hi : ∀ {S : Sh} {last : Int}, Ok last S → last ≤ 10080 → wk S ≤ 10080 - last
  | [], _, _, h => by rw [wk]; omega
  | s :: r, last, h, hl => by
    rw [wk]
    have := wk_hi h.2.2.2.2 h.2.2.1
    have := h.2.2.2.1; have := h.2.1
    omega

/-- The working minutes from 0 up to a time. -/
def pas (S : Sh) (t : Int) : Int := t / 10080 * wk S + bf S (t % 10080)
def op (S : Sh) (t : Int) : Bool := opm S (t % 10080)
theorem pas_at {S : Sh} (h : Ok 0 S) (k p : Int) (h0 : 0 ≤ p) (h1 : p ≤ 10080) : pas S (k * 10080 + p) = k * wk S + bf S p := by
  unfold pas
  rcases Int.lt_or_le p 10080 with g | g
  · rw [show (k * 10080 + p) / 10080 = k by omega, show (k * 10080 + p) % 10080 = p by omega]
  · obtain rfl : p = 10080 := by omega
    rw [show (k * 10080 + 10080) / 10080 = k + 1 by omega, show (k * 10080 + 10080) % 10080 = 0 by omega, bf_zero h, bf_week h, Int.add_mul]
    omega
theorem op_at (S : Sh) (k p : Int) (h0 : 0 ≤ p) (h1 : p < 10080) : op S (k * 10080 + p) = opm S p := by
  unfold op
  rw [show (k * 10080 + p) % 10080 = p by omega]
theorem pas_step {S : Sh} (h : Ok 0 S) (t : Int) : pas S (t + 1) = pas S t + if op S t then 1 else 0 := by
  have e : t = t / 10080 * 10080 + t % 10080 := by omega
  have r0 : 0 ≤ t % 10080 := by omega
  have r1 : t % 10080 < 10080 := by omega
  generalize t / 10080 = k at e
  generalize t % 10080 = p at e r0 r1
  subst e
  rw [show k * 10080 + p + 1 = k * 10080 + (p + 1) by omega, pas_at h k (p + 1) (by omega) (by omega), pas_at h k p (by omega) (by omega), op_at S k p r0 r1, bf_step p h]
  omega
theorem pas_le {S : Sh} (h : Ok 0 S) (t : Int) (n : Nat) : pas S t ≤ pas S (t + n) := by
  induction n with
  | zero => simp
  | succ n ih =>
    have := pas_step h (t + n)
    rw [show t + ((n + 1 : Nat) : Int) = t + n + 1 by omega, this]
    split <;> omega
theorem pas_mono {S : Sh} (h : Ok 0 S) {t u : Int} (htu : t ≤ u) : pas S t ≤ pas S u := by
  have := pas_le h t (u - t).toNat
  rwa [show t + ((u - t).toNat : Int) = u by omega] at this
theorem pas_week {S : Sh} (h : Ok 0 S) (t : Int) : pas S (t + 10080) = pas S t + wk S ∧ op S (t + 10080) = op S t := by
  unfold pas op
  rw [show (t + 10080) / 10080 = t / 10080 + 1 by omega, show (t + 10080) % 10080 = t % 10080 by omega, Int.add_mul]
  exact ⟨by omega, rfl⟩
theorem pas_range {S : Sh} (h : Ok 0 S) {t : Int} (h0 : 0 ≤ t) (h1 : t ≤ 10000000) : 0 ≤ pas S t ∧ pas S t ≤ 10010080 := by
  have a := wk_hi h (by omega)
  have b := bf_hi (t % 10080) h
  have c := bf_nonneg S (t % 10080)
  have d : 0 ≤ wk S := by omega
  have e : t / 10080 * wk S ≤ t / 10080 * 10080 := Int.mul_le_mul_of_nonneg_left (by omega) (by omega)
  have f : 0 ≤ t / 10080 * wk S := Int.mul_nonneg (by omega) d
  unfold pas
  omega

/-! ### When so many minutes have passed -/
def rcL : Sh → Int → Int
  | [], _ => 10080
  | s :: r, left => if left ≤ s.2 - s.1 then s.1 + left else rcL r (left - (s.2 - s.1))
theorem rc_facts : ∀ {S : Sh} {last left : Int}, Ok last S → 1 ≤ left → left ≤ wk S → bf S (rcL S left) = left ∧ opm S (rcL S left - 1) = true ∧ last < rcL S left ∧ 1 ≤ rcL S left ∧ rcL S left ≤ 10080
  | [], _, _, _, h1, h2 => by rw [wk] at h2; omega
  | s :: r, last, left, h, h1, h2 => by
    rw [wk] at h2
    have a := h.1; have b := h.2.1; have c := h.2.2.1; have d := h.2.2.2.1
    by_cases g : left ≤ s.2 - s.1
    · rw [rcL, if_pos g, bf, opm_cons, bf_low h.2.2.2.2 (by omega)]
      refine ⟨by omega, ?_, by omega, by omega, by omega⟩
      have : (decide (s.1 ≤ s.1 + left - 1) && decide (s.1 + left - 1 < s.2)) = true := by simp; omega
      rw [this]; rfl
    · obtain ⟨e1, e2, e3, e4, e5⟩ := rc_facts (left := left - (s.2 - s.1)) h.2.2.2.2 (by omega) (by omega)
      rw [rcL, if_neg g, bf, opm_cons, e1, e2]
      refine ⟨by omega, by simp, by omega, e4, e5⟩
def rch (S : Sh) (M : Int) : Int := (M - 1) / wk S * 10080 + rcL S (M - (M - 1) / wk S * wk S)
theorem rch_facts {S : Sh} (hne : S ≠ []) (h : Ok 0 S) {M : Int} (hM : 1 ≤ M) : pas S (rch S M) = M ∧ op S (rch S M - 1) = true ∧ pas S (rch S M - 1) = M - 1 ∧ 1 ≤ rch S M := by
  have hw := wk_pos hne h
  have e := Int.mul_ediv_add_emod (M - 1) (wk S)
  have r0 := Int.emod_nonneg (M - 1) (show wk S ≠ 0 by omega)
  have r1 := Int.emod_lt_of_pos (M - 1) (show 0 < wk S by omega)
  have hk : 0 ≤ (M - 1) / wk S := Int.ediv_nonneg (by omega) (by omega)
  unfold rch
  rw [Int.mul_comm (wk S)] at e
  obtain ⟨f1, f2, f3, f4, f5⟩ := rc_facts (left := M - (M - 1) / wk S * wk S) h (by omega) (by omega)
  generalize (M - 1) / wk S = k at *
  generalize rcL S (M - k * wk S) = p at *
  have g1 : pas S (k * 10080 + p) = M := by rw [pas_at h k p (by omega) (by omega), f1]; omega
  have g2 : op S (k * 10080 + p - 1) = true := by
    rw [show k * 10080 + p - 1 = k * 10080 + (p - 1) by omega, op_at S k (p - 1) (by omega) (by omega)]
    exact f2
  have g3 := pas_step h (k * 10080 + p - 1)
  rw [show k * 10080 + p - 1 + 1 = k * 10080 + p by omega, g1, g2] at g3
  simp only [if_true] at g3
  exact ⟨g1, g2, by omega, by omega⟩
theorem rch_least {S : Sh} (hne : S ≠ []) (h : Ok 0 S) {M t : Int} (hM : 1 ≤ M) : M ≤ pas S t ↔ rch S M ≤ t := by
  obtain ⟨f1, f2, f3, f4⟩ := rch_facts hne h hM
  constructor
  · intro g
    rcases Int.lt_or_le t (rch S M) with k | k
    · have := pas_mono h (show t ≤ rch S M - 1 by omega)
      omega
    · exact k
  · intro g
    have := pas_mono h g
    omega

/-! ### The next working time -/
/-- The first working minute of the week from minute m on; that of the next week, if there is none. -/
def nxm (d : Int) : Sh → Int → Int
  | [], _ => d
  | s :: r, m => if m < s.2 then max m s.1 else nxm d r m
def hd (S : Sh) : Int := match S with | [] => 0 | s :: _ => s.1
theorem nxm_facts : ∀ {S : Sh} {last m d : Int}, Ok last S → m ≤ nxm d S m → (opm S (nxm d S m) = true ∧ nxm d S m < 10080 ∧ ∀ x, m ≤ x → x < nxm d S m → opm S x = false) ∨ (nxm d S m = d ∧ ∀ x, m ≤ x → opm S x = false)
  | [], _, m, d, _, _ => .inr ⟨rfl, fun _ _ => rfl⟩
  | s :: r, last, m, d, h, hm => by
    have a := h.1; have b := h.2.1; have c := h.2.2.1
    rw [nxm] at hm ⊢
    by_cases g : m < s.2
    · rw [if_pos g] at hm ⊢
      refine .inl ⟨?_, by omega, fun x h1 h2 => ?_⟩
      · rw [opm_cons]
        have : (decide (s.1 ≤ max m s.1) && decide (max m s.1 < s.2)) = true := by simp; omega
        rw [this]; rfl
      · rw [opm_cons, opm_low h.2.2.2.2 (m := x) (by omega)]
        simp; omega
    · rw [if_neg g] at hm ⊢
      rcases nxm_facts h.2.2.2.2 hm with ⟨e1, e2, e3⟩ | ⟨e1, e2⟩
      · refine .inl ⟨by rw [opm_cons, e1]; simp, e2, fun x h1 h2 => ?_⟩
        rw [opm_cons, e3 x h1 h2]
        simp; omega
      · refine .inr ⟨e1, fun x h1 => ?_⟩
        rw [opm_cons, e2 x h1]
        simp; omega
theorem nxm_ge : ∀ {S : Sh} {m d : Int}, m ≤ d → m ≤ nxm d S m
  | [], _, _, h => h
  | s :: r, m, d, h => by rw [nxm]; split; omega; exact nxm_ge h
def nxt (S : Sh) (t : Int) : Int := t - t % 10080 + nxm (10080 + hd S) S (t % 10080)
theorem hd_open {S : Sh} (hne : S ≠ []) (h : Ok 0 S) : opm S (hd S) = true ∧ 0 ≤ hd S ∧ hd S < 10080 ∧ ∀ x, x < hd S → opm S x = false := by
  cases S with
  | nil => exact absurd rfl hne
  | cons s r =>
    have a := h.1; have b := h.2.1; have c := h.2.2.1
    refine ⟨?_, a, by show s.1 < _; omega, fun x hx => ?_⟩
    · rw [opm_cons]; show ((decide (s.1 ≤ s.1) && decide (s.1 < s.2)) || _) = true; simp [b]
    · have hx' : x < s.1 := hx
      rw [opm_cons, opm_low h.2.2.2.2 (m := x) (by omega)]
      simp; omega
theorem nxt_facts {S : Sh} (hne : S ≠ []) (h : Ok 0 S) (t : Int) : t ≤ nxt S t ∧ op S (nxt S t) = true ∧ ∀ u, t ≤ u → u < nxt S t → op S u = false := by
  obtain ⟨o1, o2, o3, o4⟩ := hd_open hne h
  have e : t = t / 10080 * 10080 + t % 10080 := by omega
  have r0 : 0 ≤ t % 10080 := by omega
  have r1 : t % 10080 < 10080 := by omega
  have hge := nxm_ge (S := S) (m := t % 10080) (d := 10080 + hd S) (by omega)
  have hf := nxm_facts (d := 10080 + hd S) h hge
  unfold nxt
  generalize t / 10080 = k at e
  generalize t % 10080 = p at *
  generalize nxm (10080 + hd S) S p = q at *
  rw [show t - p + q = k * 10080 + q by omega]
  rcases hf with ⟨e1, e2, e3⟩ | ⟨e1, e2⟩
  · refine ⟨by omega, by rw [op_at S k q (by omega) e2]; exact e1, fun u h1 h2 => ?_⟩
    have := e3 (u - k * 10080) (by omega) (by omega)
    rw [show u = k * 10080 + (u - k * 10080) by omega, op_at S k _ (by omega) (by omega)]
    exact this
  · subst e1
    refine ⟨by omega, ?_, fun u h1 h2 => ?_⟩
    · rw [show k * 10080 + (10080 + hd S) = (k + 1) * 10080 + hd S by omega, op_at S (k + 1) _ o2 o3]
      exact o1
    · rcases Int.lt_or_le u ((k + 1) * 10080) with g | g
      · rw [show u = k * 10080 + (u - k * 10080) by omega, op_at S k _ (by omega) (by omega)]
        exact e2 _ (by omega)
      · rw [show u = (k + 1) * 10080 + (u - (k + 1) * 10080) by omega, op_at S (k + 1) _ (by omega) (by omega)]
        exact o4 _ (by omega)
theorem pas_same {S : Sh} (h : Ok 0 S) {t u : Int} (htu : t ≤ u) (hno : ∀ x, t ≤ x → x < u → op S x = false) : pas S u = pas S t := by
  have key : ∀ n : Nat, (∀ x, t ≤ x → x < t + n → op S x = false) → pas S (t + n) = pas S t := by
    intro n
    induction n with
    | zero => intro _; simp
    | succ n ih =>
      intro hx
      have := pas_step h (t + n)
      rw [show t + ((n + 1 : Nat) : Int) = t + n + 1 by omega, this, ih (fun x a b => hx x a (by omega)), hx (t + n) (by omega) (by omega)]
      simp
  have := key (u - t).toNat (fun x a b => hno x a (by omega))
  rwa [show t + ((u - t).toNat : Int) = u by omega] at this
/-- The reference's way: where the mill does not work at m, the first shift behind it. -/
def nrm (d : Int) : Sh → Int → Int
  | [], _ => d
  | s :: r, m => if m < s.1 then s.1 else nrm d r m
theorem nrm_eq : ∀ {S : Sh} {last m d : Int}, Ok last S → opm S m = false → nrm d S m = nxm d S m
  | [], _, _, _, _, _ => rfl
  | s :: r, last, m, d, h, ho => by
    rw [opm_cons, Bool.or_eq_false_iff] at ho
    have b := h.2.1
    have hx : ¬ (s.1 ≤ m ∧ m < s.2) := by
      intro g
      have := ho.1
      simp [g.1, g.2] at this
    rw [nrm, nxm, nrm_eq h.2.2.2.2 ho.2]
    by_cases g : m < s.1
    · rw [if_pos g, if_pos (by omega)]; omega
    · rw [if_neg g, if_neg (by omega)]
theorem nxm_open : ∀ {S : Sh} {last m d : Int}, Ok last S → opm S m = true → nxm d S m = m
  | [], _, _, _, _, ho => by cases ho
  | s :: r, last, m, d, h, ho => by
    have b := h.2.1
    rw [nxm]
    by_cases g : m < s.2
    · rw [if_pos g]
      rw [opm_cons, opm_low h.2.2.2.2 (m := m) g, Bool.or_false] at ho
      simp at ho
      omega
    · rw [if_neg g]
      rw [opm_cons] at ho
      have : (decide (s.1 ≤ m) && decide (m < s.2)) = false := by simp; omega
      rw [this, Bool.false_or] at ho
      exact nxm_open h.2.2.2.2 ho
end Ck
end Go.Proofs.YtieafjbngealoaaDoor
