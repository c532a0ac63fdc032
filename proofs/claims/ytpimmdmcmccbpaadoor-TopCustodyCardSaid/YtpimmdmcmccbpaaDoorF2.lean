/- law54: changed; CustodyDetects. -/
import Derived.Test.YtpimmdmcmccbpaaDoorF1
import Derived.Laws.Rows
namespace Go.Proofs.YtpimmdmcmccbpaaDoor
open Go.RowKit
set_option linter.unusedVariables false
open Cu (Lk Ls)
/-- A link with a changed field. -/
def Cu.chg (f : Int) (x y : Lk) : Lk :=
  if f = 0 then ⟨y.it, x.pa, x.ti, x.vo, x.sp, x.ha⟩ else if f = 1 then ⟨x.it, y.pa, x.ti, x.vo, x.sp, x.ha⟩ else if f = 2 then ⟨x.it, x.pa, x.ti, x.vo, y.sp, x.ha⟩
  else if f = 3 then ⟨x.it, x.pa, y.ti, x.vo, x.sp, x.ha⟩ else if f = 4 then ⟨x.it, x.pa, x.ti, y.vo, x.sp, x.ha⟩ else ⟨x.it, x.pa, x.ti, x.vo, x.sp, y.ha⟩
theorem Cu.chg_fit {x y : Lk} (hx : Fit_ x) (hy : Fit_ y) (f : Int) : Fit_ (Cu.chg f x y) := by
  unfold Cu.chg
  split
  · exact ⟨hy.1, hx.2, hx.3, hx.4, hx.5, hx.6, hx.7⟩
  split
  · exact ⟨hx.1, hy.2, hx.3, hx.4, hx.5, hx.6, hx.7⟩
  split
  · exact ⟨hx.1, hx.2, hy.3, hx.4, hx.5, hx.6, hx.7⟩
  split
  · exact ⟨hx.1, hx.2, hx.3, hy.4, hy.5, hx.6, hx.7⟩
  split
  · exact ⟨hx.1, hx.2, hx.3, hx.4, hx.5, hy.6, hy.7⟩
  · exact ⟨hx.1, hx.2, hx.3, hx.4, hx.5, hx.6, hx.7⟩
abbrev agL (x : Lk) : Value := .agg #[.string x.it, .string x.pa, .int .i64 x.ti, .int .i64 x.vo, .string x.sp, .int .u64 x.ha]
abbrev agC (a f : Int) (y : Lk) : Value := .agg #[.int .u8 a, .int .u8 f, .string y.it, .string y.pa, .int .i64 y.ti, .int .i64 y.vo, .string y.sp, .int .u64 y.ha]
abbrev obL (x : Lk) : Obj := .cells #[.string x.it, .string x.pa, .int .i64 x.ti, .int .i64 x.vo, .string x.sp, .int .u64 x.ha] 36
abbrev obC (a f : Int) (y : Lk) : Obj := .cells #[.int .u8 a, .int .u8 f, .string y.it, .string y.pa, .int .i64 y.ti, .int .i64 y.vo, .string y.sp, .int .u64 y.ha] 68
abbrev ob0 : Obj := .cells #[.string ⟨#[]⟩, .string ⟨#[]⟩, .int .i64 0, .int .i64 0, .string ⟨#[]⟩, .int .u64 0] 36
theorem ch_bel (w : World) (a b c : Obj) : Below w.heap.size w (((w.alloc a).alloc b).alloc c) := (((Below.refl w.heap.size w).alloc (Nat.le_refl _) a).alloc (by simp) b).alloc (by simp; omega) c
theorem ch_box (w : World) (a b : Obj) (z : Lk) : LBox (((w.alloc a).alloc b).alloc (obL z)) (w.heap.size + 1 + 1) z := by
  have h := Blk.new ((w.alloc a).alloc b) 36 #[.string z.it, .string z.pa, .int .i64 z.ti, .int .i64 z.vo, .string z.sp, .int .u64 z.ha]
  have e : ((w.alloc a).alloc b).heap.size = w.heap.size + 1 + 1 := by simp
  rw [e] at h
  exact h
set_option maxRecDepth 100000 in
set_option maxHeartbeats 16000000 in
theorem changed_any (x y : Lk) (a f : Int) (w : World) : Calls Tryd.prog 35 #[agL x, agC a f y] w fun e w' => e = .returned (agL (Cu.chg f x y)) ∧ Below w.heap.size w w' := by
  by_cases h0 : f = 0
  · subst h0
    have HZ : Hid (Cu.chg 0 x y = ⟨y.it, x.pa, x.ti, x.vo, x.sp, x.ha⟩) := by show _ = _; simp [Cu.chg]
    skip
    go_enter Tryd.func35, Tryd.ntmps35
    go_wp2_with fail
    (try simp only [Exit.inBlock, Exit.then])
    refine bodyPost_ret (results_cell_row rfl _ _ (w.heap.size + 1 + 1) 36 _ (0, 0) _ rfl (ch_box w (obL ⟨y.it, x.pa, x.ti, x.vo, x.sp, x.ha⟩) (obC a 0 y) ⟨y.it, x.pa, x.ti, x.vo, x.sp, x.ha⟩) Tryd.underlying36 rfl (by kernel_rfl)) rfl ⟨?_, ch_bel w (obL ⟨y.it, x.pa, x.ti, x.vo, x.sp, x.ha⟩) (obC a 0 y) (obL ⟨y.it, x.pa, x.ti, x.vo, x.sp, x.ha⟩)⟩
    rw [HZ.out]
  by_cases h1 : f = 1
  · subst h1
    have HZ : Hid (Cu.chg 1 x y = ⟨x.it, y.pa, x.ti, x.vo, x.sp, x.ha⟩) := by show _ = _; simp [Cu.chg]
    skip
    go_enter Tryd.func35, Tryd.ntmps35
    go_wp2_with fail
    (try simp only [Exit.inBlock, Exit.then])
    refine bodyPost_ret (results_cell_row rfl _ _ (w.heap.size + 1 + 1) 36 _ (0, 0) _ rfl (ch_box w (obL ⟨x.it, y.pa, x.ti, x.vo, x.sp, x.ha⟩) (obC a 1 y) ⟨x.it, y.pa, x.ti, x.vo, x.sp, x.ha⟩) Tryd.underlying36 rfl (by kernel_rfl)) rfl ⟨?_, ch_bel w (obL ⟨x.it, y.pa, x.ti, x.vo, x.sp, x.ha⟩) (obC a 1 y) (obL ⟨x.it, y.pa, x.ti, x.vo, x.sp, x.ha⟩)⟩
    rw [HZ.out]
  by_cases h2 : f = 2
  · subst h2
    have HZ : Hid (Cu.chg 2 x y = ⟨x.it, x.pa, x.ti, x.vo, y.sp, x.ha⟩) := by show _ = _; simp [Cu.chg]
    skip
    go_enter Tryd.func35, Tryd.ntmps35
    go_wp2_with fail
    (try simp only [Exit.inBlock, Exit.then])
    refine bodyPost_ret (results_cell_row rfl _ _ (w.heap.size + 1 + 1) 36 _ (0, 0) _ rfl (ch_box w (obL ⟨x.it, x.pa, x.ti, x.vo, y.sp, x.ha⟩) (obC a 2 y) ⟨x.it, x.pa, x.ti, x.vo, y.sp, x.ha⟩) Tryd.underlying36 rfl (by kernel_rfl)) rfl ⟨?_, ch_bel w (obL ⟨x.it, x.pa, x.ti, x.vo, y.sp, x.ha⟩) (obC a 2 y) (obL ⟨x.it, x.pa, x.ti, x.vo, y.sp, x.ha⟩)⟩
    rw [HZ.out]
  by_cases h3 : f = 3
  · subst h3
    have HZ : Hid (Cu.chg 3 x y = ⟨x.it, x.pa, y.ti, x.vo, x.sp, x.ha⟩) := by show _ = _; simp [Cu.chg]
    skip
    go_enter Tryd.func35, Tryd.ntmps35
    go_wp2_with fail
    (try simp only [Exit.inBlock, Exit.then])
    refine bodyPost_ret (results_cell_row rfl _ _ (w.heap.size + 1 + 1) 36 _ (0, 0) _ rfl (ch_box w (obL ⟨x.it, x.pa, y.ti, x.vo, x.sp, x.ha⟩) (obC a 3 y) ⟨x.it, x.pa, y.ti, x.vo, x.sp, x.ha⟩) Tryd.underlying36 rfl (by kernel_rfl)) rfl ⟨?_, ch_bel w (obL ⟨x.it, x.pa, y.ti, x.vo, x.sp, x.ha⟩) (obC a 3 y) (obL ⟨x.it, x.pa, y.ti, x.vo, x.sp, x.ha⟩)⟩
    rw [HZ.out]
  by_cases h4 : f = 4
  · subst h4
    have HZ : Hid (Cu.chg 4 x y = ⟨x.it, x.pa, x.ti, y.vo, x.sp, x.ha⟩) := by show _ = _; simp [Cu.chg]
    skip
    go_enter Tryd.func35, Tryd.ntmps35
    go_wp2_with fail
    (try simp only [Exit.inBlock, Exit.then])
    refine bodyPost_ret (results_cell_row rfl _ _ (w.heap.size + 1 + 1) 36 _ (0, 0) _ rfl (ch_box w (obL ⟨x.it, x.pa, x.ti, y.vo, x.sp, x.ha⟩) (obC a 4 y) ⟨x.it, x.pa, x.ti, y.vo, x.sp, x.ha⟩) Tryd.underlying36 rfl (by kernel_rfl)) rfl ⟨?_, ch_bel w (obL ⟨x.it, x.pa, x.ti, y.vo, x.sp, x.ha⟩) (obC a 4 y) (obL ⟨x.it, x.pa, x.ti, y.vo, x.sp, x.ha⟩)⟩
    rw [HZ.out]
  have q0 : (f == 0) = false := by simpa using h0
  have q1 : (f == 1) = false := by simpa using h1
  have q2 : (f == 2) = false := by simpa using h2
  have q3 : (f == 3) = false := by simpa using h3
  have q4 : (f == 4) = false := by simpa using h4
  have HZ : Hid (Cu.chg f x y = ⟨x.it, x.pa, x.ti, x.vo, x.sp, y.ha⟩) := by show _ = _; simp [Cu.chg, h0, h1, h2, h3, h4]
  clear h0 h1 h2 h3 h4
  go_enter Tryd.func35, Tryd.ntmps35
  go_wp2_with fail
  (try simp only [Exit.inBlock, Exit.then])
  refine bodyPost_ret (results_cell_row rfl _ _ (w.heap.size + 1 + 1) 36 _ (0, 0) _ rfl (ch_box w (obL ⟨x.it, x.pa, x.ti, x.vo, x.sp, y.ha⟩) (obC a f y) ⟨x.it, x.pa, x.ti, x.vo, x.sp, y.ha⟩) Tryd.underlying36 rfl (by kernel_rfl)) rfl ⟨?_, ch_bel w (obL ⟨x.it, x.pa, x.ti, x.vo, x.sp, y.ha⟩) (obC a f y) (obL ⟨x.it, x.pa, x.ti, x.vo, x.sp, y.ha⟩)⟩
  rw [HZ.out]
theorem eqL (Z X : Lk) : ∃ q : Bool, ∀ W, (binOp .eql 36 (agL Z) (agL X)).run Tryd.prog W = .ok (.bool q) W := by
  by_cases e1 : Z.it = X.it
  rotate_left
  · exact ⟨false, fun W => by have h := seq_f e1; simp [go_sem, h]⟩
  have h1 := seq_t e1
  by_cases e2 : Z.pa = X.pa
  rotate_left
  · exact ⟨false, fun W => by have h := seq_f e2; simp [go_sem, h1, h]⟩
  have h2 := seq_t e2
  by_cases e3 : Z.ti = X.ti
  rotate_left
  · exact ⟨false, fun W => by simp [go_sem, h1, h2, e3]⟩
  by_cases e4 : Z.vo = X.vo
  rotate_left
  · exact ⟨false, fun W => by simp [go_sem, h1, h2, e3, e4]⟩
  by_cases e5 : Z.sp = X.sp
  rotate_left
  · exact ⟨false, fun W => by have h := seq_f e5; simp [go_sem, h1, h2, e3, e4, h]⟩
  have h5 := seq_t e5
  by_cases e6 : Z.ha = X.ha
  · exact ⟨true, fun W => by simp [go_sem, h1, h2, e3, e4, h5, e6]⟩
  · exact ⟨false, fun W => by simp [go_sem, h1, h2, e3, e4, h5, e6]⟩
theorem row_frozen {w : World} {B : Nat} {t : TypeId} {k n g c : Nat} {xs : List Value} (h : w.ownsRow B t k (.slice (some ⟨g, 0, none⟩) n c) n xs) (i : Nat) : w.frozen? ⟨g, i, none⟩ = false := by
  rcases h.2 with ⟨e, _⟩ | ⟨g', cap, cur, e, hb, hg, _⟩
  · cases e
  · simp only [Value.slice.injEq, Option.some.injEq, Addr.mk.injEq, and_true, true_and] at e
    obtain ⟨rfl, _⟩ := e
    simp [World.frozen?, hg]
/-- A link stored over a link of a row. -/
def set6o (w : World) (g o : Nat) (e : Lk) : World := (((((w.setCell ⟨g, o, none⟩ (.string e.it)).setCell ⟨g, o + 1, none⟩ (.string e.pa)).setCell ⟨g, o + 2, none⟩ (.int .i64 e.ti)).setCell ⟨g, o + 3, none⟩ (.int .i64 e.vo)).setCell ⟨g, o + 4, none⟩ (.string e.sp)).setCell ⟨g, o + 5, none⟩ (.int .u64 e.ha)
theorem set6o_grown (w : World) (g o : Nat) (e : Lk) : w.grownBy (set6o w g o e) (some g) :=
  (((((set_grown _ _ _ _).trans (set_grown _ _ _ _)).trans (set_grown _ _ _ _)).trans (set_grown _ _ _ _)).trans (set_grown _ _ _ _)).trans (set_grown _ _ _ _)
theorem so_ (w : World) (g a b : Nat) (v : Value) (h : a ≠ b) : (w.setCell ⟨g, a, none⟩ v).cell? ⟨g, b, none⟩ = w.cell? ⟨g, b, none⟩ := World.cell?_setCell_other _ _ _ _ (fun e => h (by cases e; rfl))
theorem ss_ {w : World} {g a : Nat} {u : Value} (h : w.cell? ⟨g, a, none⟩ = some u) (v : Value) : (w.setCell ⟨g, a, none⟩ v).cell? ⟨g, a, none⟩ = some v := World.cell?_setCell_same _ _ _ h
theorem set6o_out (w : World) (g o q : Nat) (e : Lk) (h : q < o ∨ o + 5 < q) : (set6o w g o e).cell? ⟨g, q, none⟩ = w.cell? ⟨g, q, none⟩ := by
  unfold set6o
  rw [so_ _ _ _ _ _ (by omega), so_ _ _ _ _ _ (by omega), so_ _ _ _ _ _ (by omega), so_ _ _ _ _ _ (by omega), so_ _ _ _ _ _ (by omega), so_ _ _ _ _ _ (by omega)]
theorem set6o_in {w : World} {g o : Nat} (h : ∀ j, j < 6 → ∃ u, w.cell? ⟨g, o + j, none⟩ = some u) (e : Lk) (j : Nat) (hj : j < 6) : (set6o w g o e).cell? ⟨g, o + j, none⟩ = (lcells e)[j]? := by
  obtain ⟨u, hu⟩ := h j hj
  unfold set6o
  match j, hj with
  | 0, _ => rw [so_ _ _ _ _ _ (by omega), so_ _ _ _ _ _ (by omega), so_ _ _ _ _ _ (by omega), so_ _ _ _ _ _ (by omega), so_ _ _ _ _ _ (by omega)]; exact ss_ hu _
  | 1, _ =>
    rw [so_ _ _ _ _ _ (by omega), so_ _ _ _ _ _ (by omega), so_ _ _ _ _ _ (by omega), so_ _ _ _ _ _ (by omega)]
    exact ss_ ((so_ _ _ _ _ _ (by omega)).trans hu) _
  | 2, _ =>
    rw [so_ _ _ _ _ _ (by omega), so_ _ _ _ _ _ (by omega), so_ _ _ _ _ _ (by omega)]
    exact ss_ (((so_ _ _ _ _ _ (by omega)).trans (so_ _ _ _ _ _ (by omega))).trans hu) _
  | 3, _ =>
    rw [so_ _ _ _ _ _ (by omega), so_ _ _ _ _ _ (by omega)]
    exact ss_ ((((so_ _ _ _ _ _ (by omega)).trans (so_ _ _ _ _ _ (by omega))).trans (so_ _ _ _ _ _ (by omega))).trans hu) _
  | 4, _ =>
    rw [so_ _ _ _ _ _ (by omega)]
    exact ss_ (((((so_ _ _ _ _ _ (by omega)).trans (so_ _ _ _ _ _ (by omega))).trans (so_ _ _ _ _ _ (by omega))).trans (so_ _ _ _ _ _ (by omega))).trans hu) _
  | 5, _ =>
    exact ss_ ((((((so_ _ _ _ _ _ (by omega)).trans (so_ _ _ _ _ _ (by omega))).trans (so_ _ _ _ _ _ (by omega))).trans (so_ _ _ _ _ _ (by omega))).trans (so_ _ _ _ _ _ (by omega))).trans hu) _
theorem set6o_slr {w : World} {g : Nat} {L : Ls} (h : SlR w (some ⟨g, 0, none⟩) (lrowL L)) {m : Nat} (hm : m < L.length) (z : Lk) : SlR (set6o w g (m * 6) z) (some ⟨g, 0, none⟩) (lrowL (L.set m z)) := fun hpos => by
  have hl := lrowL_length L
  have hl2 := lrowL_length (L.set m z)
  rw [List.length_set] at hl2
  obtain ⟨b', o', e1, hb, hc⟩ := h (by omega)
  simp only [Option.some.injEq, Addr.mk.injEq, and_true] at e1
  obtain ⟨rfl, rfl⟩ := e1
  refine ⟨g, 0, rfl, Nat.lt_of_lt_of_le hb (set6o_grown w g (m * 6) z).size, fun q hq => ?_⟩
  rw [Nat.zero_add]
  have hq6 : q = q / 6 * 6 + q % 6 := by omega
  have hi : q / 6 < (L.set m z).length := by rw [List.length_set]; omega
  have hv := lrowL_at (L.set m z) (q / 6) (q % 6) hi (by omega)
  rw [← hq6, List.getElem?_eq_getElem hq] at hv
  rw [hv]
  by_cases hqm : q / 6 = m
  · subst hqm
    have e : (L.set (q / 6) z)[q / 6]'hi = z := by simp
    rw [e]
    have := set6o_in (w := w) (g := g) (o := q / 6 * 6) (fun j hj => ⟨_, by have := hc (q / 6 * 6 + j) (by omega); rw [Nat.zero_add] at this; exact this⟩) z (q % 6) (by omega)
    rwa [← hq6] at this
  · have e : (L.set m z)[q / 6]'hi = L[q / 6]'(by rw [List.length_set] at hi; exact hi) := by rw [List.getElem_set_ne (by omega)]
    rw [e, set6o_out _ _ _ _ _ (by omega)]
    have h1 := hc q (by omega)
    rw [Nat.zero_add] at h1
    rw [h1, ← lrowL_at L (q / 6) (q % 6) _ (by omega), ← hq6, List.getElem?_eq_getElem (by omega)]
/-- Region 7 of CustodyDetects. -/
def dtD : List (Nat × Nat) := [(49, 0), (50, 1), (51, 2), (52, 3), (53, 4), (54, 5), (7, 6)]
def dtV (bb off n c m g : Nat) (x y : Lk) (a f : Int) (z : Lk) (b : Nat) : Nat → Value
  | 0 => .slice (some ⟨bb, off, none⟩) n c
  | 1 => .int .i64 m
  | 2 => .pointer (some ⟨bb, off + m * 6, none⟩)
  | 3 => agL x
  | 4 => agC a f y
  | 5 => agL z
  | _ => .pointer (some ⟨b, 0, none⟩)
structure DtW (W : World) (z : Lk) (l : Nat → Bool) (b : Nat) (w : World) : Prop where
  bel : Below W.heap.size W w
  o6 : l 6 = true → l 7 = false → W.heap.size ≤ b ∧ LBox w b ⟨⟨#[]⟩, ⟨#[]⟩, 0, 0, ⟨#[]⟩, 0⟩
  o7 : l 7 = true → W.heap.size ≤ b ∧ LBox w b z
  c7 : l 7 = true → l 6 = true
  top : ∀ j, 7 < j → l j = false
theorem DtW.next {W w w' : World} {z : Lk} {l : Nat → Bool} {b : Nat} (h : DtW W z l b w) (i : Nat) (hi : i < 6) (hb : Below w.heap.size w w') : DtW W z (fun j => j == i || l j) b w' := by
  have i6 : i ≠ 6 := by omega
  have i7 : i ≠ 7 := by omega
  have e : ∀ k, k ≠ i → ((k == i || l k) = l k) := fun k hk => by simp [hk]
  refine ⟨below_old h.bel hb, fun g g2 => ?_, fun g => ?_, fun g => (e 6 i6.symm).trans (h.c7 ((e 7 i7.symm).symm.trans g)), fun j hj => (e j (by omega)).trans (h.top j hj)⟩
  · have := h.o6 ((e 6 i6.symm).symm.trans g) ((e 7 i7.symm).symm.trans g2)
    exact ⟨this.1, this.2.below hb⟩
  · have := h.o7 ((e 7 i7.symm).symm.trans g)
    exact ⟨this.1, this.2.below hb⟩
theorem dt_6 {W w : World} {z : Lk} {l : Nat → Bool} {b : Nat} (h : DtW W z l b w) (hl : l 6 = false) : DtW W z (fun j => j == 6 || l j) w.heap.size (w.alloc ob0) := by
  have hb := (Below.refl w.heap.size w).alloc (Nat.le_refl _) ob0
  have h7 : l 7 = false := by
    cases hh : l 7 with
    | false => rfl
    | true => have := h.c7 hh; rw [hl] at this; cases this
  refine ⟨below_old h.bel hb, fun _ _ => ⟨h.bel.size, Blk.new _ _ _⟩, fun g => (by simp [h7] at g), fun g => by simp, fun j hj => by rw [h.top j hj, Bool.or_false]; exact beq_eq_false_iff_ne.2 (by omega)⟩
theorem dt_7 {W w : World} {z : Lk} {l : Nat → Bool} {b : Nat} (h : DtW W z l b w) (h6 : l 6 = true) (hl : l 7 = false) : DtW W z (fun j => j == 7 || l j) b (set6 w b z) := by
  have h0 := h.o6 h6 hl
  exact ⟨h.bel.grown (set6_grown w b z) h.bel.size (fun k hk => by cases hk; exact h0.1), fun _ g => (by simp at g), fun _ => ⟨h0.1, set6_box h0.2 z⟩, fun _ => by simp [h6], fun j hj => by rw [h.top j hj, Bool.or_false]; exact beq_eq_false_iff_ne.2 (by omega)⟩
theorem DtW.j7 {W w : World} {z : Lk} {l : Nat → Bool} {b : Nat} (h : DtW W z l b w) (hl6 : l 6 = false) {j : Nat} (hl : l j = true) : j ≠ 6 ∧ j < 7 := by
  refine ⟨fun e => (by subst e; rw [hl6] at hl; cases hl), ?_⟩
  rcases Nat.lt_or_ge j 7 with g | g
  · exact g
  · exfalso
    rcases Nat.lt_or_ge 7 j with q | q
    · rw [h.top j q] at hl; cases hl
    · have e : j = 7 := by omega
      subst e
      have := h.c7 hl
      rw [hl6] at this
      cases this
theorem dtD_7 (e : Nat) (he : dtD.lookup e = some 7) : False := by
  have := lookup_mem he
  simp [dtD] at this
theorem dtV_6 {bb off n c m g : Nat} {x y : Lk} {a f : Int} {z : Lk} {b b' : Nat} {j : Nat} (hj : j < 6) : dtV bb off n c m g x y a f z b' j = dtV bb off n c m g x y a f z b j := by
  match j, hj with
  | 0, _ => rfl
  | 1, _ => rfl
  | 2, _ => rfl
  | 3, _ => rfl
  | 4, _ => rfl
  | 5, _ => rfl
def CBox (w : World) (g : Nat) (a f : Int) (y : Lk) : Prop := Blk w g 68 #[.int .u8 a, .int .u8 f, .string y.it, .string y.pa, .int .i64 y.ti, .int .i64 y.vo, .string y.sp, .int .u64 y.ha]
theorem CBox.cells {w : World} {g : Nat} {a f : Int} {y : Lk} (h : CBox w g a f y) : w.cell? ⟨g, 0, none⟩ = some (.int .u8 a) ∧ w.cell? ⟨g, 1, none⟩ = some (.int .u8 f) ∧ w.cell? ⟨g, 2, none⟩ = some (.string y.it) ∧ w.cell? ⟨g, 3, none⟩ = some (.string y.pa) ∧ w.cell? ⟨g, 4, none⟩ = some (.int .i64 y.ti) ∧ w.cell? ⟨g, 5, none⟩ = some (.int .i64 y.vo) ∧ w.cell? ⟨g, 6, none⟩ = some (.string y.sp) ∧ w.cell? ⟨g, 7, none⟩ = some (.int .u64 y.ha) :=
  ⟨Blk.cell h 0, Blk.cell h 1, Blk.cell h 2, Blk.cell h 3, Blk.cell h 4, Blk.cell h 5, Blk.cell h 6, Blk.cell h 7⟩
theorem link_cells {w : World} {b off : Nat} {L : Ls} (h : SlR w (some ⟨b, off, none⟩) (lrowL L)) {k : Nat} (hk : k < L.length) {e : Lk} (he : L[k] = e) :
    w.cell? ⟨b, off + k * 6, none⟩ = some (.string e.it) ∧ w.cell? ⟨b, off + k * 6 + 1, none⟩ = some (.string e.pa) ∧ w.cell? ⟨b, off + k * 6 + 2, none⟩ = some (.int .i64 e.ti) ∧ w.cell? ⟨b, off + k * 6 + 3, none⟩ = some (.int .i64 e.vo) ∧ w.cell? ⟨b, off + k * 6 + 4, none⟩ = some (.string e.sp) ∧ w.cell? ⟨b, off + k * 6 + 5, none⟩ = some (.int .u64 e.ha) := by
  obtain ⟨b', o', e1, -, e2⟩ := h.link hk
  simp only [Option.some.injEq, Addr.mk.injEq, and_true] at e1
  obtain ⟨rfl, rfl⟩ := e1
  rw [he] at e2
  exact e2
set_option maxRecDepth 100000 in
set_option maxHeartbeats 16000000 in
theorem custodyDetects_walk (A : Option Addr) (c : Nat) (l : Ls) (a f : Int) (y : Lk) (ha : 0 ≤ a ∧ a ≤ 255) (hf : 0 ≤ f ∧ f ≤ 255) (hy : LkOk y) (w : World) (HS : Hid (SlR w A (orowL l))) (HO : Hid (∀ x ∈ l, LkOk x)) (HZ : Hid (∀ x ∈ l, x.ha = 0)) (hl : (l.length : Int) ≤ 9223372036854775807) (HT : Hid (TabOk w)) :
    Calls Tryd.prog 8 #[.slice A l.length c, agC a f y] w fun e w' => e = .returned (.bool true) ∧ Below w.heap.size w w' := by
  obtain ⟨o1, o2, o3, o4, o5, o6, o7⟩ := hy
  cases hsh : shortB l with
  | false =>
    have HSH := Lib.hid hsh
    clear hsh
    have HAL := Lib.hid ((Below.refl w.heap.size w).alloc (Nat.le_refl _) (obC a f y))
    have HBX : Hid (CBox (w.alloc (obC a f y)) w.heap.size a f y) := Blk.new _ _ _
    go_enter Tryd.func8, Tryd.ntmps8
    go_wp2_with fail
    generalize w.alloc (obC a f y) = w1 at *
    obtain ⟨y0, y1, y2, y3, y4, y5, y6, y7⟩ := HBX.out.cells
    have HS1 := Lib.hid (HS.out.below HAL.out)
    (with_reducible refine (small_any l A c _ HS1 HO hl _ HSH).mono ?_)
    rintro e w2 ⟨rfl, hw2⟩
    subst w2
    go_wp2_with fail
    (with_reducible refine (awake54 _ (Lib.hid (HT.out.below HAL.out))).mono ?_)
    rintro e wz ⟨rfl, hbz⟩
    have HBZ := Lib.hid (below_old HAL.out hbz)
    clear hbz
    go_wp2_with fail
    go_ret
    exact ⟨rfl, HBZ.out⟩
  | true =>
    have HSH := Lib.hid hsh
    have HOP := Lib.hid (op_ok hsh HO.out HZ.out)
    clear hsh
    by_cases g1 : (100 : Int) < (y.it.size : Int)
    · have HAL := Lib.hid ((Below.refl w.heap.size w).alloc (Nat.le_refl _) (obC a f y))
      have HBX : Hid (CBox (w.alloc (obC a f y)) w.heap.size a f y) := Blk.new _ _ _
      go_enter Tryd.func8, Tryd.ntmps8
      go_wp2_with fail
      generalize w.alloc (obC a f y) = w1 at *
      obtain ⟨y0, y1, y2, y3, y4, y5, y6, y7⟩ := HBX.out.cells
      have HS1 := Lib.hid (HS.out.below HAL.out)
      (with_reducible refine (small_any l A c _ HS1 HO hl _ HSH).mono ?_)
      rintro e w2 ⟨rfl, hw2⟩
      subst w2
      go_wp2_with fail
      (with_reducible refine (awake54 _ (Lib.hid (HT.out.below HAL.out))).mono ?_)
      rintro e wz ⟨rfl, hbz⟩
      have HBZ := Lib.hid (below_old HAL.out hbz)
      clear hbz
      go_wp2_with fail
      go_ret
      exact ⟨rfl, HBZ.out⟩
    by_cases g2 : (100 : Int) < (y.pa.size : Int)
    · have HAL := Lib.hid ((Below.refl w.heap.size w).alloc (Nat.le_refl _) (obC a f y))
      have HBX : Hid (CBox (w.alloc (obC a f y)) w.heap.size a f y) := Blk.new _ _ _
      go_enter Tryd.func8, Tryd.ntmps8
      go_wp2_with fail
      generalize w.alloc (obC a f y) = w1 at *
      obtain ⟨y0, y1, y2, y3, y4, y5, y6, y7⟩ := HBX.out.cells
      have HS1 := Lib.hid (HS.out.below HAL.out)
      (with_reducible refine (small_any l A c _ HS1 HO hl _ HSH).mono ?_)
      rintro e w2 ⟨rfl, hw2⟩
      subst w2
      go_wp2_with fail
      (with_reducible refine (awake54 _ (Lib.hid (HT.out.below HAL.out))).mono ?_)
      rintro e wz ⟨rfl, hbz⟩
      have HBZ := Lib.hid (below_old HAL.out hbz)
      clear hbz
      go_wp2_with fail
      go_ret
      exact ⟨rfl, HBZ.out⟩
    by_cases g3 : (100 : Int) < (y.sp.size : Int)
    · have HAL := Lib.hid ((Below.refl w.heap.size w).alloc (Nat.le_refl _) (obC a f y))
      have HBX : Hid (CBox (w.alloc (obC a f y)) w.heap.size a f y) := Blk.new _ _ _
      go_enter Tryd.func8, Tryd.ntmps8
      go_wp2_with fail
      generalize w.alloc (obC a f y) = w1 at *
      obtain ⟨y0, y1, y2, y3, y4, y5, y6, y7⟩ := HBX.out.cells
      have HS1 := Lib.hid (HS.out.below HAL.out)
      (with_reducible refine (small_any l A c _ HS1 HO hl _ HSH).mono ?_)
      rintro e w2 ⟨rfl, hw2⟩
      subst w2
      go_wp2_with fail
      (with_reducible refine (awake54 _ (Lib.hid (HT.out.below HAL.out))).mono ?_)
      rintro e wz ⟨rfl, hbz⟩
      have HBZ := Lib.hid (below_old HAL.out hbz)
      clear hbz
      go_wp2_with fail
      go_ret
      exact ⟨rfl, HBZ.out⟩
    have HF : Hid (Fit_ y) := ⟨by omega, by omega, by omega, o4, o5, o6, o7⟩
    clear o1 o2 o3 o4 o5 o6 o7 hf
    have HAL := Lib.hid ((Below.refl w.heap.size w).alloc (Nat.le_refl _) (obC a f y))
    have HBX : Hid (CBox (w.alloc (obC a f y)) w.heap.size a f y) := Blk.new _ _ _
    go_enter Tryd.func8, Tryd.ntmps8
    go_wp2_with fail
    generalize w.alloc (obC a f y) = w1 at *
    obtain ⟨y0, y1, y2, y3, y4, y5, y6, y7⟩ := HBX.out.cells
    have HS1 := Lib.hid (HS.out.below HAL.out)
    (with_reducible refine (small_any l A c _ HS1 HO hl _ HSH).mono ?_)
    rintro e w2 ⟨rfl, hw2⟩
    subst w2
    go_wp2_with fail
    have HT1 := Lib.hid (HT.out.below HAL.out)
    (with_reducible refine (register_any l A c _ HS1 HOP hl HT1).mono ?_)
    rintro e w2 ⟨rfl, v1, hrg⟩
    have HR2 := Lib.hid hrg
    clear hrg y0 y1 y2 y3 y4 y5 y6 y7 g1 g2 g3
    have hlen := HR2.out.len
    obtain ⟨L, hL⟩ : ∃ L, Cu.reg [] l = L := ⟨_, rfl⟩
    rw [hL] at HR2 hlen
    clear hL
    go_wp2_with fail
    (with_reducible refine (links_w HR2).mono ?_)
    rintro e w3 ⟨vL, rfl, hrow, hb⟩
    obtain ⟨A3, c3, hv⟩ := row_form hrow
    subst hv
    have hc3 := row_cap hrow
    have HX3 := Lib.hid (row_slr hrow A3 c3 rfl)
    have HRX := Lib.hid hrow
    have HB3 := Lib.hid (below_old HR2.out.bel hb)
    have HG := Lib.hid HR2.out.good
    have HFT := Lib.hid HR2.out.fit
    have HBX3 : Hid (CBox w3 w.heap.size a f y) := Blk.below HBX.out HB3.out
    have HBW := Lib.hid (below_old HAL.out HB3.out)
    clear hrow hb HR2 HBX
    by_cases hz : L.length = 0
    · have zz : ((L.length : Int) == 0) = true := by simp [hz]
      go_wp2_with fail
      (with_reducible refine (awake54 _ (Lib.hid (HT.out.below HBW.out))).mono ?_)
      rintro e wz ⟨rfl, hbz⟩
      have HBZ := Lib.hid (below_old HBW.out hbz)
      clear hbz
      go_wp2_with fail
      go_ret
      exact ⟨rfl, HBZ.out⟩
    have zz : ((L.length : Int) == 0) = false := beq_eq_false_iff_ne.2 (by omega)
    obtain ⟨m, hm⟩ : ∃ m : Nat, a % (L.length : Int) = m := ⟨(a % (L.length : Int)).toNat, (Int.toNat_of_nonneg (Int.emod_nonneg a (by omega))).symm⟩
    have hm2 : (m : Int) < (L.length : Int) := by rw [← hm]; exact Int.emod_lt_of_pos a (by omega)
    have hm4 : a.tmod (L.length : Int) = m := by rw [Int.tmod_eq_emod_of_nonneg ha.1, hm]
    have hm5 : ¬ ((L.length : Int) = 0) := by omega
    have hml : m < L.length := by omega
    have HM := Lib.hid hm
    clear hm hz
    obtain ⟨y0, y1, y2, y3, y4, y5, y6, y7⟩ := HBX3.out.cells
    obtain ⟨X, hX⟩ : ∃ X, L[m] = X := ⟨_, rfl⟩
    have HXM := Lib.hid hX
    have HFX : Hid (Fit_ X) := by show Fit_ X; rw [← hX]; exact HFT.out _ (List.getElem_mem hml)
    clear hX
    obtain ⟨bb, off, hA, hbl, -⟩ := HX3.out.link hml
    subst hA
    go_wp2_with fail
    clear hm4 hm5
    obtain ⟨Z, hZ⟩ : ∃ Z, Cu.chg f X y = Z := ⟨_, rfl⟩
    have HFZ : Hid (Fit_ Z) := by show Fit_ Z; rw [← hZ]; exact Cu.chg_fit HFX.out HF.out f
    have HCH : Hid (∀ w, Calls Tryd.prog 35 #[agL X, agC a f y] w fun e w' => e = .returned (agL Z) ∧ Below w.heap.size w w') := fun w => by
      have := changed_any X y a f w
      rw [hZ] at this
      exact this
    clear hZ
    refine wp_region_fr (G := Nat) (by kernel_rfl) (by kernel_rfl) dtD (by kernel_rfl) (dtV bb off L.length c3 m w.heap.size X y a f Z) (DtW w3 Z) 0 ⟨(Below.refl _ _).drew, fun h => (by cases h), fun h => (by cases h), fun h => (by cases h), fun _ _ => rfl⟩ ?_ ?_
    · intro i o ll a' w' G ho hLi hpre hF hW
      have put := fun (d i : Nat) (u : Value) (hd : dtD.lookup d = some i) (hin : d < 93) (hu : dtV bb off L.length c3 m w.heap.size X y a f Z G i = u) => hF.put (V' := dtV bb off L.length c3 m w.heap.size X y a f Z G) hd (fun e he => lookup_inj (D := dtD) (by decide) hd he) hin (fun _ _ _ => rfl) hu
      obtain ⟨z0, z1, z2, z3, z4, z5⟩ := link_cells (HX3.out.below hW.bel) hml HXM.out
      obtain ⟨k0, k1, k2, k3, k4, k5, k6, k7⟩ := CBox.cells (Blk.below HBX3.out hW.bel)
      match i, ho, hLi, hpre with
      | 0, ho, hLi, hpre =>
        obtain rfl := Option.some.inj ho; clear ho
        refine wpOp_want rfl rfl ?_
        simp [go_sem, tm (show a'.eval (.tmp 5) = .slice (some ⟨bb, off, none⟩) L.length c3 from hF.old rfl)]
        exact ⟨G, put 49 0 _ rfl (by decide) rfl, hW.next 0 (by decide) (Below.refl _ _)⟩
      | 1, ho, hLi, hpre =>
        obtain rfl := Option.some.inj ho; clear ho
        refine wpOp_want rfl rfl ?_
        simp [go_sem, tm (show a'.eval (.tmp 6) = .int .i64 m from hF.old rfl)]
        exact ⟨G, put 50 1 _ rfl (by decide) rfl, hW.next 1 (by decide) (Below.refl _ _)⟩
      | 2, ho, hLi, hpre =>
        obtain rfl := Option.some.inj ho; clear ho
        refine wpOp_want rfl rfl ?_
        simp [go_sem, tm (show a'.eval (.tmp 49) = .slice (some ⟨bb, off, none⟩) L.length c3 from hF.get rfl (hpre ⟨0, .data⟩ (by simp) rfl)), tm (show a'.eval (.tmp 50) = .int .i64 m from hF.get rfl (hpre ⟨1, .data⟩ (by simp) rfl)), hm2]
        exact ⟨G, put 51 2 _ rfl (by decide) rfl, hW.next 2 (by decide) (Below.refl _ _)⟩
      | 3, ho, hLi, hpre =>
        obtain rfl := Option.some.inj ho; clear ho
        refine wpOp_want rfl rfl ?_
        simp [go_sem, tm (show a'.eval (.tmp 51) = .pointer (some ⟨bb, off + m * 6, none⟩) from hF.get rfl (hpre ⟨2, .data⟩ (by simp) rfl)), z0, z1, z2, z3, z4, z5]
        exact ⟨G, put 52 3 _ rfl (by decide) rfl, hW.next 3 (by decide) (Below.refl _ _)⟩
      | 4, ho, hLi, hpre =>
        obtain rfl := Option.some.inj ho; clear ho
        refine wpOp_want rfl rfl ?_
        simp [go_sem, tm (show a'.eval (.tmp 3) = .pointer (some ⟨w.heap.size, 0, none⟩) from hF.old rfl), k0, k1, k2, k3, k4, k5, k6, k7]
        exact ⟨G, put 53 4 _ rfl (by decide) rfl, hW.next 4 (by decide) (Below.refl _ _)⟩
      | 5, ho, hLi, hpre =>
        obtain rfl := Option.some.inj ho; clear ho
        have e1 := tm (show a'.eval (.tmp 52) = agL X from hF.get rfl (hpre ⟨3, .data⟩ (by simp) rfl))
        have e2 := tm (show a'.eval (.tmp 53) = agC a f y from hF.get rfl (hpre ⟨4, .data⟩ (by simp) rfl))
        refine wpOp_want rfl rfl ?_
        simp [go_sem, e1, e2]
        (with_reducible refine (HCH.out _).mono ?_)
        rintro e w'' ⟨rfl, hb⟩
        exact ⟨G, put 54 5 _ rfl (by decide) rfl, hW.next 5 (by decide) hb⟩
      | 6, ho, hLi, hpre =>
        obtain rfl := Option.some.inj ho; clear ho
        refine wpOp_want rfl rfl ?_
        simp [go_sem]
        exact ⟨w'.heap.size, hF.put (V' := dtV bb off L.length c3 m w.heap.size X y a f Z w'.heap.size) (d := 7) (i := 6) rfl (fun e he => lookup_inj (D := dtD) (by decide) rfl he) (show 7 < 93 by decide) (fun j hj hl => dtV_6 (by have := hW.j7 hLi hl; omega)) rfl, dt_6 hW hLi⟩
      | 7, ho, hLi, hpre =>
        obtain rfl := Option.some.inj ho; clear ho
        have h6 := hpre ⟨6, .data⟩ (by simp) rfl
        have h5 := hpre ⟨5, .data⟩ (by simp) rfl
        have e1 := tm (show a'.eval (.tmp 54) = agL Z from hF.get rfl h5)
        have e2 := tm (show a'.eval (.tmp 7) = .pointer (some ⟨G, 0, none⟩) from hF.get rfl h6)
        obtain ⟨r0, r1, r2, r3, r4, r5⟩ := (hW.o6 h6 hLi).2.cells
        have f0 := Blk.frozen (hW.o6 h6 hLi).2
        refine wpOp_want rfl rfl ?_
        simp [go_sem, e1, e2, r0, r1, r2, r3, r4, r5, f0]
        exact ⟨G, hF.none_ (v := undef) (fun e he => dtD_7 e he) (fun _ _ => rfl), dt_7 hW h6 hLi⟩
      | i + 8, ho, hLi, hpre => exact absurd ho (by simp)
    · intro ll G w4 hall hW
      have HZ4 := Lib.hid (hW.o7 (hall 7 (by decide)))
      have HB4 := Lib.hid hW.bel
      clear hW hall
      simp only [dtD, List.foldl, dtV, Act.put]
      simp only [List.setIfInBounds_toArray, List.set_cons_succ, List.set_cons_zero]
      obtain ⟨r0, r1, r2, r3, r4, r5⟩ := HZ4.out.2.cells
      obtain ⟨z0, z1, z2, z3, z4, z5⟩ := link_cells (HX3.out.below HB4.out) hml HXM.out
      obtain ⟨q, hq⟩ := eqL Z X
      go_wp2_with fail
      go_quiet (fail)
      clear hq z0 z1 z2 z3 z4 z5 r0 r1 r2 r3 r4 r5
      have HB5 := Lib.hid (below_drewN (Below.refl w4.heap.size w4) nq)
      generalize w4.drewN nq = w5 at *
      have HB6 := Lib.hid (below_old HB4.out HB5.out)
      have HB7 := Lib.hid (below_old HBW.out HB6.out)
      cases q with
      | true =>
        go_wp2_with fail
        (with_reducible refine (awake54 _ (Lib.hid (HT.out.below HB7.out))).mono ?_)
        rintro e wz ⟨rfl, hbz⟩
        have HBZ := Lib.hid (below_old HB7.out hbz)
        clear hbz
        go_wp2_with fail
        go_ret
        exact ⟨rfl, HBZ.out⟩
      | false =>
        have HZ5 : Hid (LBox w5 G Z) := LBox.below HZ4.out.2 HB5.out
        have HX5 := Lib.hid (row_below (row_below HRX.out HB4.out) HB5.out)
        obtain ⟨r0, r1, r2, r3, r4, r5⟩ := HZ5.out.cells
        have hm1 : Hid (0 + L.length ≤ maxLen) := by show _ ≤ _; unfold maxLen; omega
        have hm3 : Hid ((0 + L.length) * 72 ≤ 140737488355328) := by show _ ≤ _; omega
        go_wp2_with (at_builtin; refine wpList_append_c rfl (.tmp 62) (.tmp 63) 33 rfl w5.heap.size 36 _ 6 72 Tryd.underlying33 infoLk rfl (by decide) _ 0 [] rfl (World.ownsRow_lit w5 #[] 0 (Nat.le_refl _) (Nat.zero_le _) rfl) ⟨bb, off, none⟩ L.length c3 (lrowL L) rfl (by rw [lrowL_length]) ?c1 (lrowL_one L) hm1.out hm3.out (by simp) ?_)
        case c1 =>
          intro j u hu
          rw [Below.cell ((Below.refl w5.heap.size w5).alloc (Nat.le_refl _) _) (by unfold Addr.add; split <;> exact (Nat.lt_of_lt_of_le hbl HB6.out.size))]
          obtain ⟨b', o', e1, -, e3⟩ := (row_slr HX5.out _ _ rfl) (by rw [lrowL_length]; omega)
          simp only [Option.some.injEq, Addr.mk.injEq, and_true] at e1
          obtain ⟨rfl, rfl⟩ := e1
          rw [add_plain]
          obtain ⟨hj, rfl⟩ := List.getElem?_eq_some_iff.1 hu
          exact e3 j hj
        intro v6 w6 hown hgrow
        obtain ⟨g6, c6, rfl, hg6, hlt6⟩ := hown.form (by omega)
        have HW6 : Hid (Below w5.heap.size w5 w6) := ((Below.refl w5.heap.size w5).alloc (Nat.le_refl _) _).grown hgrow (by simp) (fun k hk => by simp [Value.ownBlock] at hk; omega)
        have HO6 := Lib.hid hown
        have HG6 := Lib.hid hg6
        have HZ6 : Hid (LBox w6 G Z) := LBox.below HZ5.out HW6.out
        have HNG : Hid (G < w5.heap.size) := Blk.lt HZ5.out
        clear hown hgrow r0 r1 r2 r3 r4 r5
        obtain ⟨r0, r1, r2, r3, r4, r5⟩ := HZ6.out.cells
        obtain ⟨p0, p1, p2, p3, p4, p5⟩ := link_cells (row_slr HO6.out _ _ rfl) hml HXM.out
        simp only [Nat.zero_add] at p0 p1 p2 p3 p4 p5
        have fz := row_frozen HO6.out
        go_wp2_with fail
        have HSM := Lib.hid (set6o_slr (row_slr HO6.out _ _ rfl) hml Z)
        have HGM := Lib.hid (set6o_grown w6 g6 (m * 6) Z)
        unfold set6o at HSM HGM
        clear p0 p1 p2 p3 p4 p5 r0 r1 r2 r3 r4 r5 fz
        generalize (((((w6.setCell ⟨g6, m * 6, none⟩ (.string Z.it)).setCell ⟨g6, m * 6 + 1, none⟩ (.string Z.pa)).setCell ⟨g6, m * 6 + 2, none⟩ (.int .i64 Z.ti)).setCell ⟨g6, m * 6 + 3, none⟩ (.int .i64 Z.vo)).setCell ⟨g6, m * 6 + 4, none⟩ (.string Z.sp)).setCell ⟨g6, m * 6 + 5, none⟩ (.int .u64 Z.ha) = w7 at HSM HGM ⊢
        have HW7 : Hid (Below w5.heap.size w5 w7) := HW6.out.grown HGM.out HW6.out.size (fun k hk => by cases hk; exact HG6.out)
        have HB8 := Lib.hid (below_old HB7.out HW7.out)
        have HZ7 : Hid (LBox w7 G Z) := LBox.below HZ5.out HW7.out
        have HX7 := Lib.hid (row_below HX5.out HW7.out)
        have HFM : Hid (∀ e ∈ L.set m Z, Fit_ e) := fun e he => by
          rcases List.mem_or_eq_of_mem_set he with q | q
          · exact HFT.out e q
          · rw [q]; exact HFZ.out
        have HVS := Lib.hid (Cu.vfy_set HG.out hml Z)
        obtain ⟨⟨va, vb⟩, hab⟩ : ∃ p, Cu.vfy [] (L.set m Z) 0 = p := ⟨_, rfl⟩
        have HAB := Lib.hid hab
        rw [hab] at HVS
        clear hab
        (with_reducible refine (verify_w (L.set m Z) _ L.length c6 (Lib.hid (by rw [List.length_set])) _ HSM HFM (by omega) (Lib.hid (HT.out.below HB8.out)) va vb HAB).mono ?_)
        rintro e w8 ⟨rfl, hb⟩
        have HW8 := Lib.hid (below_old HW7.out hb)
        have HB9 := Lib.hid (below_old HB7.out HW8.out)
        have HZ8 : Hid (LBox w8 G Z) := LBox.below HZ7.out hb
        have HX8 := Lib.hid (row_below HX7.out hb)
        clear hb HSM HGM HW6 HO6 HZ6 HZ7 HX7
        by_cases hfd : vb ≠ 0 ∧ va = (m : Int)
        · obtain ⟨h1, rfl⟩ := hfd
          have h2 : (vb == 0) = false := by simpa using h1
          go_wp2_with fail
          (with_reducible refine (awake54 _ (Lib.hid (HT.out.below HB9.out))).mono ?_)
          rintro e wz ⟨rfl, hbz⟩
          have HBZ := Lib.hid (below_old HB9.out hbz)
          clear hbz
          go_wp2_with fail
          go_ret
          exact ⟨rfl, HBZ.out⟩
        have HHA : Hid (Cu.hsV (L.take m) Z = Z.ha) := by
          show _ = _
          have hv := HVS.out
          by_cases hc : Cu.chE (L.take m) Z = 0
          · rw [if_pos hc] at hv
            by_cases hh : Z.ha = Cu.hsV (L.take m) Z
            · exact hh.symm
            · rw [if_neg hh] at hv
              cases hv
              exact absurd ⟨by decide, rfl⟩ hfd
          · rw [if_neg hc] at hv
            cases hv
            exact absurd ⟨hc, rfl⟩ hfd
        have HLN : Hid ((L.take m).length = m) := by show _ = _; rw [List.length_take]; omega
        have HGT := Lib.hid (HG.out.take m)
        have HSX := Lib.hid ((row_slr HX8.out _ _ rfl).take m)
        have zc : (m : Int) ≤ (c3 : Int) := by omega
        have HT8 := Lib.hid (HT.out.below HB9.out)
        obtain ⟨zit, zpa, zti, zvo, zsp, zha⟩ := Z
        simp only at HHA HZ8 HFZ
        have hcond : vb = 0 ∨ ((vb == 0) = false ∧ (va == (m : Int)) = false) := by
          by_cases q : vb = 0
          · exact .inl q
          · exact .inr ⟨by simpa using q, by simpa using fun e => hfd ⟨q, e⟩⟩
        clear hfd HVS HAB
        rcases hcond with q1 | ⟨q1, q2⟩
        · subst q1
          go_wp2_with fail
          all_goals
            have y0 := fun u => (LBox.below HZ8.out (wx_below w8 u)).cells
            simp only at y0
            refine wp_region_grows (by kernel_rfl) (by kernel_rfl) ?_
            repeat (go_big_quiet_step ((first | (go_at_call 36; (with_reducible exact calls_grows (rafter_n (L.take m) _ m c3 HLN zit zpa zti zvo zsp zha HFZ _ (Lib.hid (HSX.out.below (wx_below w8 _))) HGT zha HHA))) | (go_at_call 29; (with_reducible exact calls_grows (awake54 _ (Lib.hid (HT8.out.below (wx_below w8 _)))))))))
            refine wpQuiet_nil ?_
            rintro _ ⟨u, rfl⟩
            have HBE := Lib.hid (below_old HB9.out (wx_below w8 u))
            clear y0
            go_wp2_with fail
            go_ret
            exact ⟨rfl, HBE.out⟩
        · go_wp2_with fail
          all_goals
            have y0 := fun u => (LBox.below HZ8.out (wx_below w8 u)).cells
            simp only at y0
            refine wp_region_grows (by kernel_rfl) (by kernel_rfl) ?_
            repeat (go_big_quiet_step ((first | (go_at_call 36; (with_reducible exact calls_grows (rafter_n (L.take m) _ m c3 HLN zit zpa zti zvo zsp zha HFZ _ (Lib.hid (HSX.out.below (wx_below w8 _))) HGT zha HHA))) | (go_at_call 29; (with_reducible exact calls_grows (awake54 _ (Lib.hid (HT8.out.below (wx_below w8 _)))))))))
            refine wpQuiet_nil ?_
            rintro _ ⟨u, rfl⟩
            have HBE := Lib.hid (below_old HB9.out (wx_below w8 u))
            clear y0
            go_wp2_with fail
            go_ret
            exact ⟨rfl, HBE.out⟩
end Go.Proofs.YtpimmdmcmccbpaaDoor
