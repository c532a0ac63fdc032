/- The reference of custody: at, volume. -/
import Derived.Test.YtpimmdmcmccbpaaDoorEM
namespace Go.Proofs.YtpimmdmcmccbpaaDoor
open Go.RowKit
set_option linter.unusedVariables false
open Cu (Lk Ls)
/-- The index of an item, or -1. -/
def Cu.atI (L : Ls) (s : ByteArray) : Int := if Cu.ix s L < L.length then (Cu.ix s L : Int) else -1
theorem Cu.atI_yes {L : Ls} {s : ByteArray} (h : Cu.ix s L < L.length) : Cu.atI L s = Cu.ix s L := if_pos h
theorem Cu.atI_no {L : Ls} {s : ByteArray} (h : ¬ Cu.ix s L < L.length) : Cu.atI L s = -1 := if_neg h
set_option maxHeartbeats 4000000 in
theorem rat_any (L : Ls) (A : Option Addr) (c : Nat) (s : ByteArray) (w : World) (HS : Hid (SlR w A (lrowL L))) (hl : (L.length : Int) ≤ 2000) :
    Calls Tryd.prog 53 #[.slice A L.length c, .string s] w fun e w' => e = .returned (.int .i64 (Cu.atI L s)) ∧ w' = w := by
  go_enter Tryd.func53, Tryd.ntmps53
  go_wp2_with fail
  go_loopw [5] (fun i wr => ∃ k : Nat, i = .int .i64 k ∧ k ≤ L.length ∧ Hid (k ≤ Cu.ix s L) ∧ wr = w) (fun i _ => L.length - (intOf i).toNat)
  case atStart => exact ⟨0, rfl, by omega, Nat.zero_le _, rfl⟩
  case round =>
    obtain ⟨k, rfl, hk, HK, hw⟩ := hrel
    subst wr
    by_cases h : k < L.length
    · obtain ⟨e, he⟩ : ∃ e, L[k] = e := ⟨_, rfl⟩
      have HEK := Lib.hid he
      clear he
      obtain ⟨bb, off, hA, hbl, p0, -⟩ := HS.out.link h
      subst hA
      rw [HEK.out] at p0
      have zk : (k : Int) < (L.length : Int) := by omega
      by_cases g : e.it = s
      · have q := seq_t g
        have HE : Hid (Cu.atI L s = k) := by
          show _ = _
          have h1 : Cu.ix s L = k := by
            rcases Nat.lt_or_ge k (Cu.ix s L) with g1 | g1
            · exact absurd (by rw [HEK.out]; exact g) (Cu.ix_first s L k h g1)
            · have := HK.out; omega
          rw [Cu.atI_yes (by omega), h1]
        clear g
        go_wp2_with fail
        go_ret
        exact ⟨ret_int' HE.out.symm, rfl⟩
      · have q := seq_f g
        have HK2 : Hid (k + 1 ≤ Cu.ix s L) := by
          show _ ≤ _
          rcases Nat.lt_or_ge k (Cu.ix s L) with g1 | g1
          · exact g1
          · exfalso
            have e1 : Cu.ix s L = k := by have := HK.out; omega
            have := Cu.ix_at s L (by omega)
            simp only [e1] at this
            rw [HEK.out] at this
            exact g this
        clear g
        go_wp2_with fail
        go_roundw
        case rel => exact ⟨k + 1, by go_num, by omega, HK2, trivial⟩
        case measure => simp [intOf]; omega
    · have HE : Hid (Cu.atI L s = -1) := Cu.atI_no (by have := HK.out; omega)
      have zk : (L.length : Int) ≤ (k : Int) := by omega
      go_wp2_with fail
      go_ret
      exact ⟨ret_int' HE.out.symm, rfl⟩
theorem Cu.gv_succ {L : Ls} {s : ByteArray} {k : Nat} (h : k < L.length) : Cu.gv s (L.take (k + 1)) = Cu.gv s (L.take k) + if (L[k]).pa = s then (L[k]).vo else 0 := by
  rw [List.take_succ_eq_append_getElem h, Cu.gv_append]
theorem Cu.Good.take {L : Ls} (h : Cu.Good L) : ∀ k, Cu.Good (L.take k) := by
  induction h with
  | nil => intro k; rw [List.take_nil]; exact .nil
  | @snoc L x h hc hh ih =>
    intro k
    rcases Nat.lt_or_ge L.length k with g | g
    · rw [List.take_of_length_le (by simp; omega)]; exact .snoc h hc hh
    · rw [List.take_append_of_le_length g]; exact ih k
set_option maxHeartbeats 4000000 in
theorem rvol_any (L : Ls) (A : Option Addr) (c : Nat) (s : ByteArray) (hs : s ≠ ByteArray.empty) (w : World) (HS : Hid (SlR w A (lrowL L))) (hl : (L.length : Int) ≤ 2000) (HG : Hid (Cu.Good L)) :
    Calls Tryd.prog 67 #[.slice A L.length c, .string s] w fun e w' => e = .returned (.int .i64 (Cu.gv s L)) ∧ w' = w := by
  have HGB : Hid (∀ k, 0 ≤ Cu.gv s (L.take k) ∧ Cu.gv s (L.take k) ≤ 1125899906842624) := fun k => ⟨(HG.out.take k).al.g0 s, (HG.out.take k).al.g1 s hs⟩
  have HVO : Hid (∀ k (h : k < L.length), 0 ≤ (L[k]).vo ∧ (L[k]).vo ≤ 1125899906842624) := fun k h => HG.out.al.vo _ (List.getElem_mem h)
  go_enter Tryd.func67, Tryd.ntmps67
  go_wp2_with fail
  go_loopw [5, 6] (fun n i wr => ∃ (k : Nat) (x : Int), n = .int .i64 x ∧ i = .int .i64 k ∧ k ≤ L.length ∧ Hid (x = Cu.gv s (L.take k)) ∧ wr = w) (fun _ i _ => L.length - (intOf i).toNat)
  case atStart => exact ⟨0, 0, rfl, rfl, by omega, by show (0 : Int) = _; simp [Cu.gv], rfl⟩
  case round =>
    obtain ⟨k, x, rfl, rfl, hk, HX, hw⟩ := hrel
    subst wr
    have hx := HGB.out k
    rw [← HX.out] at hx
    obtain ⟨x0, x1⟩ := hx
    by_cases h : k < L.length
    · have hvo := HVO.out k h
      have HS1 := Lib.hid (Cu.gv_succ (s := s) h)
      obtain ⟨e, he⟩ : ∃ e, L[k] = e := ⟨_, rfl⟩
      have HEK := Lib.hid he
      rw [he] at hvo
      clear he
      obtain ⟨v0, v1⟩ := hvo
      rw [HEK.out, ← HX.out] at HS1
      obtain ⟨bb, off, hA, hbl, p0, p1, p2, p3, -⟩ := HS.out.link h
      subst hA
      rw [HEK.out] at p0 p1 p2 p3
      clear p0 p2
      have zk : (k : Int) < (L.length : Int) := by omega
      by_cases g : e.pa = s
      · have q := seq_t g
        have HX2 : Hid (x + e.vo = Cu.gv s (L.take (k + 1))) := by show _ = _; rw [HS1.out, if_pos g]
        clear g
        go_wp2_with fail
        go_roundw
        case rel => exact ⟨k + 1, x + e.vo, rfl, by go_num, by omega, HX2, trivial⟩
        case measure => simp [intOf]; omega
      · have q := seq_f g
        have HX2 : Hid (x = Cu.gv s (L.take (k + 1))) := by show _ = _; rw [HS1.out, if_neg g]; omega
        clear g
        go_wp2_with fail
        go_roundw
        case rel => exact ⟨k + 1, x, rfl, by go_num, by omega, HX2, trivial⟩
        case measure => simp [intOf]; omega
    · have hE : L.take k = L := List.take_of_length_le (by omega)
      rw [hE] at HX
      clear hE
      have zk : (L.length : Int) ≤ (k : Int) := by omega
      go_wp2_with fail
      go_ret
      exact ⟨ret_int' HX.out, rfl⟩
end Go.Proofs.YtpimmdmcmccbpaaDoor

namespace Go.Proofs.YtpimmdmcmccbpaaDoor
open Go.RowKit
set_option linter.unusedVariables false
open Cu (Lk Ls)
namespace Cu
theorem Good.inv {M : Ls} (h : Good M) : ∀ L x, M = L ++ [x] → Good L ∧ Can L x ∧ x.ha = hsV L x := by
  cases h with
  | nil => intro L x e; simp at e
  | @snoc L' x' h hc hh =>
    intro L x e
    have e1 := List.append_inj' e rfl
    obtain ⟨rfl, e2⟩ := e1
    simp at e2
    subst e2
    exact ⟨h, hc, hh⟩
theorem chE_can {L : Ls} {x : Lk} (h : Can L x) : chE L x = 0 := chE_ok h.it h.new h.nd h.ti h.sp h.vo h.qu h.len
theorem Good.at_ {L : Ls} (h : Good L) {k : Nat} (hk : k < L.length) : Can (L.take k) L[k] ∧ (L[k]).ha = hsV (L.take k) L[k] :=
  ((h.take (k + 1)).inv (L.take k) L[k] (List.take_succ_eq_append_getElem hk)).2
theorem vfy_take {l : Ls} : ∀ k, k ≤ l.length → Good (l.take k) → vfy [] l 0 = vfy (l.take k) (l.drop k) k
  | 0, _, _ => by simp
  | k + 1, hk, hg => by
    have hk' : k < l.length := hk
    have hi := hg.inv (l.take k) l[k] (List.take_succ_eq_append_getElem hk')
    rw [vfy_take k (by omega) hi.1, vfy_drop hk', if_pos (chE_can hi.2.1), if_pos hi.2.2]
theorem vfy_good {l : Ls} (h : Good l) : vfy [] l 0 = (-1, 0) := by
  rw [vfy_take l.length (Nat.le_refl _) (by rw [List.take_length]; exact h), vfy_end (Nat.le_refl _)]
/-- A link that takes the place of another one. -/
theorem vfy_set {L : Ls} (h : Good L) {k : Nat} (hk : k < L.length) (y : Lk) : vfy [] (L.set k y) 0 = if chE (L.take k) y = 0 then (if y.ha = hsV (L.take k) y then vfy (L.take k ++ [y]) (L.drop (k + 1)) (k + 1) else (k, 29)) else (k, chE (L.take k) y) := by
  have e1 : (L.set k y).take k = L.take k := by rw [List.take_set_of_le (Nat.le_refl _)]
  have hk' : k < (L.set k y).length := by simpa using hk
  have e2 : (L.set k y)[k] = y := by simp
  rw [vfy_take k (by simpa using Nat.le_of_lt hk) (by rw [e1]; exact h.take k), vfy_drop hk', e1, e2]
  congr 2
  rw [List.take_succ_eq_append_getElem hk', e1, e2, List.drop_set_of_lt (by omega)]
theorem chE_again {L : Ls} {x y : Lk} (h : Can L x) (e1 : y.it = x.it) (e2 : y.pa = x.pa) (z : Lk) (e3 : z.it = x.it) : chE (L ++ [z]) y = 7 := by
  refine chE_old ?_ ?_
  · have := h.it
    unfold itB at this ⊢
    rw [e1, e2]; exact this
  · rw [ix_append, e1, if_neg h.new, if_pos e3, List.length_append]
    simp
end Cu
end Go.Proofs.YtpimmdmcmccbpaaDoor

namespace Go.Proofs.YtpimmdmcmccbpaaDoor
open Go.RowKit
set_option linter.unusedVariables false
open Cu (Lk Ls)
namespace Cu
theorem empty_no {x : Lk} (h : itB x) : x.it ≠ ByteArray.empty := fun e => by
  have := h.1
  rw [e] at this
  revert this
  decide
/-- What a link of good links has above it. -/
structure Up (L : Ls) (e : Lk) : Prop where
  it : itB e
  up : e.pa ≠ ByteArray.empty → ∃ h : ix e.pa L < L.length, (L[ix e.pa L]).ti ≤ e.ti ∧ (L[ix e.pa L]).sp = e.sp
theorem Good.up {L : Ls} (h : Good L) : ∀ e ∈ L, Up L e := by
  induction h with
  | nil => intro e he; cases he
  | @snoc L x h hc hh ih =>
    intro e he
    have key : ∀ s (hs : ix s L < L.length), ∃ h2 : ix s (L ++ [x]) < (L ++ [x]).length, (L ++ [x])[ix s (L ++ [x])] = L[ix s L] := fun s hs => by
      have e1 : ix s (L ++ [x]) = ix s L := by rw [ix_append, if_pos hs]
      refine ⟨by rw [e1, List.length_append]; simp; omega, ?_⟩
      simp only [e1]
      rw [List.getElem_append_left hs]
    rcases List.mem_append.1 he with g | g
    · refine ⟨(ih e g).it, fun hp => ?_⟩
      obtain ⟨h1, h2, h3⟩ := (ih e g).up hp
      obtain ⟨h4, h5⟩ := key _ h1
      refine ⟨h4, ?_⟩
      rw [h5]
      exact ⟨h2, h3⟩
    · simp at g
      subst g
      refine ⟨hc.it, fun hp => ?_⟩
      have h1 : ix e.pa L < L.length := Classical.byContradiction fun g => hc.nd ⟨hp, g⟩
      obtain ⟨h4, h5⟩ := key _ h1
      refine ⟨h4, ?_⟩
      rw [h5]
      exact ⟨hc.ti.2.2 _ (par_some h1), (hc.sp.2 _ (par_some h1)).symm⟩
theorem Ord.same {L : Ls} (h : Ord L) {e : Lk} (he : e ∈ L) (hi : ix e.it L < L.length) : L[ix e.it L] = e := by
  obtain ⟨k, hk, rfl⟩ := List.getElem_of_mem he
  congr 1
  exact h.one k hk
theorem Ord.has {L : Ls} (h : Ord L) {e : Lk} (he : e ∈ L) : ix e.it L < L.length := by
  obtain ⟨k, hk, rfl⟩ := List.getElem_of_mem he
  rw [h.one k hk]
  exact hk
theorem gv_zero {L : Ls} {s : ByteArray} (h : ∀ e ∈ L, e.pa ≠ s) : gv s L = 0 := by
  induction L with
  | nil => rfl
  | cons a r ih =>
    rw [gv, if_neg (h a (by simp)), ih (fun e he => h e (by simp [he]))]
    omega
/-- What comes from an item is never more than it. -/
theorem Good.sum {L : Ls} (h : Good L) : ∀ e ∈ L, gv e.it L ≤ e.vo := by
  induction h with
  | nil => intro e he; cases he
  | @snoc L x h hc hh ih =>
    intro e he
    have hne : x.it ≠ ByteArray.empty := empty_no hc.it
    have hself : x.pa ≠ x.it := fun e1 => by
      have h1 : ix x.pa L < L.length := Classical.byContradiction fun g => hc.nd ⟨by rw [e1]; exact hne, g⟩
      rw [e1] at h1
      exact hc.new h1
    rw [gv_append]
    rcases List.mem_append.1 he with g | g
    · by_cases hp : x.pa = e.it
      · rw [if_pos hp]
        have h1 : ix x.pa L < L.length := by rw [hp]; exact h.ord.has g
        have h2 := hc.qu _ (par_some h1)
        have h3 : L[ix x.pa L] = e := by
          have := h.ord.same g (h.ord.has g)
          rw [← this]
          simp only [hp]
        rw [h3, hp] at h2
        exact h2
      · rw [if_neg hp]
        have := ih e g
        omega
    · simp at g
      subst g
      rw [if_neg hself, gv_zero]
      · have := hc.vo.1
        omega
      · intro f hf e1
        obtain ⟨h1, _⟩ := (h.up f hf).up (by rw [e1]; exact hne)
        rw [e1] at h1
        exact hc.new h1
/-- A way from an item to a permit. -/
def Chn : Ls → Prop
  | [] => False
  | [e] => e.pa = ByteArray.empty ∧ itB e
  | e :: f :: r => e.pa = f.it ∧ f.ti ≤ e.ti ∧ f.sp = e.sp ∧ itB e ∧ Chn (f :: r)
theorem Good.chn {L : Ls} (h : Good L) : ∀ (n : Nat) (s : ByteArray), ix s L ≤ n → ix s L < L.length → Chn (trc L s) := by
  intro n
  induction n with
  | zero =>
    intro s h0 hs
    rw [h.ord.trc_yes hs]
    have hu := h.up _ (List.getElem_mem hs)
    by_cases hp : (L[ix s L]).pa = ByteArray.empty
    · rw [hp, trc_no h.ord.ne]; exact ⟨hp, hu.it⟩
    · have := h.ord.par _ hs hp
      omega
  | succ n ih =>
    intro s h0 hs
    rw [h.ord.trc_yes hs]
    have hu := h.up _ (List.getElem_mem hs)
    by_cases hp : (L[ix s L]).pa = ByteArray.empty
    · rw [hp, trc_no h.ord.ne]; exact ⟨hp, hu.it⟩
    · have h1 := h.ord.par _ hs hp
      obtain ⟨h2, h3, h4⟩ := hu.up hp
      have hc := ih (L[ix s L]).pa (by omega) h2
      rw [h.ord.trc_yes h2] at hc ⊢
      exact ⟨(ix_at _ L h2).symm, h3, h4, hu.it, hc⟩
theorem Good.trc_chn {L : Ls} (h : Good L) {s : ByteArray} (hs : ix s L < L.length) : Chn (trc L s) := h.chn _ s (Nat.le_refl _) hs
theorem Chn.pos {T : Ls} (h : Chn T) : 0 < T.length := by
  cases T with
  | nil => exact h.elim
  | cons e r => simp
theorem Chn.step : ∀ {T : Ls}, Chn T → ∀ k (h : k + 1 < T.length), (T[k]).pa = (T[k + 1]).it ∧ (T[k + 1]).ti ≤ (T[k]).ti ∧ (T[k + 1]).sp = (T[k]).sp
  | [], h, _, _ => h.elim
  | [e], _, k, hk => by simp at hk
  | e :: f :: r, h, 0, hk => ⟨h.1, h.2.1, h.2.2.1⟩
  | e :: f :: r, h, k + 1, hk => by
    have := Chn.step h.2.2.2.2 k (by simpa using hk)
    simpa using this
theorem Chn.code : ∀ {T : Ls}, Chn T → ∀ e ∈ T, itB e
  | [], h, _, _ => h.elim
  | [e], h, f, hf => by simp at hf; subst hf; exact h.2
  | e :: g :: r, h, f, hf => by
    rcases List.mem_cons.1 hf with q | q
    · subst q; exact h.2.2.2.1
    · exact Chn.code h.2.2.2.2 f q
theorem Chn.last : ∀ {T : Ls}, Chn T → ∀ k (h : k < T.length), k + 1 = T.length → (T[k]).pa = ByteArray.empty
  | [], h, _, _, _ => h.elim
  | [e], h, k, hk, _ => by have : k = 0 := by simp at hk; omega
                           subst this; exact h.1
  | e :: f :: r, h, 0, _, he => by simp at he
  | e :: f :: r, h, k + 1, hk, he => by
    have := Chn.last h.2.2.2.2 k (by simpa using hk) (by simpa using he)
    simpa using this
theorem Chn.all {T : Ls} (h : Chn T) : ∀ k (hk : k < T.length), (T[k]).sp = (T[0]'h.pos).sp ∧ (T[k]).ti ≤ (T[0]'h.pos).ti := by
  intro k
  induction k with
  | zero => intro hk; exact ⟨rfl, Int.le_refl _⟩
  | succ k ih =>
    intro hk
    have h1 := h.step k hk
    have h2 := ih (by omega)
    exact ⟨h1.2.2.trans h2.1, Int.le_trans h1.2.1 h2.2⟩
/-- The children of an item, as links. -/
def kidL (L : Ls) (s : ByteArray) : Ls := L.filter (fun e => decide (e.pa = s))
def vsum : Ls → Int
  | [] => 0
  | e :: r => e.vo + vsum r
theorem vsum_snoc (L : Ls) (e : Lk) : vsum (L ++ [e]) = vsum L + e.vo := by
  induction L with
  | nil => simp [vsum]
  | cons a r ih => simp only [List.cons_append, vsum, ih]; omega
theorem vsum_kid (L : Ls) (s : ByteArray) : vsum (kidL L s) = gv s L := by
  induction L with
  | nil => rfl
  | cons a r ih =>
    unfold kidL at ih ⊢
    by_cases g : a.pa = s
    · rw [List.filter_cons_of_pos (by simpa using g), vsum, ih, gv, if_pos g]
    · rw [List.filter_cons_of_neg (by simpa using g), ih, gv, if_neg g]; omega
theorem vsum_succ {L : Ls} {k : Nat} (h : k < L.length) : vsum (L.take (k + 1)) = vsum (L.take k) + (L[k]).vo := by
  rw [List.take_succ_eq_append_getElem h, vsum_snoc]
theorem vsum_take_le {L : Ls} (h : ∀ e ∈ L, 0 ≤ e.vo) : ∀ k, 0 ≤ vsum (L.take k) ∧ vsum (L.take k) ≤ vsum L := by
  induction L with
  | nil => intro k; simp [vsum]
  | cons a r ih =>
    intro k
    have h0 := h a (by simp)
    have h1 := ih (fun e he => h e (by simp [he]))
    have h2 := h1 r.length
    rw [List.take_length] at h2
    cases k with
    | zero => simp only [List.take_zero, vsum]; omega
    | succ k => have := h1 k; simp only [List.take_succ_cons, vsum]; omega
/-- The way from a child goes through its parent. -/
theorem Good.child {L : Ls} (h : Good L) {e x : Lk} (he : e ∈ L) (hx : x ∈ L) (hp : e.pa = x.it) : trc L e.it = e :: x :: trc L x.pa := by
  have h1 := h.ord.has he
  have h2 := h.ord.has hx
  rw [h.ord.trc_yes h1]
  simp only [h.ord.same he h1]
  rw [hp, h.ord.trc_yes h2]
  simp only [h.ord.same hx h2]
theorem Good.top {L : Ls} (h : Good L) {x : Lk} (hx : x ∈ L) : trc L x.it = x :: trc L x.pa := by
  have h1 := h.ord.has hx
  rw [h.ord.trc_yes h1]
  simp only [h.ord.same hx h1]
end Cu
end Go.Proofs.YtpimmdmcmccbpaaDoor
