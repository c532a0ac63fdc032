/- The reference of custody: After, Add. -/
import Derived.Test.YtpimmdmcmccbpaaDoorEQ
import Derived.Test.YtpimmdmcmccbpaaDoorGA
namespace Go.Proofs.YtpimmdmcmccbpaaDoor
open Go.RowKit
set_option linter.unusedVariables false
open Cu (Lk Ls)
theorem rhashL_eq (it pa : ByteArray) (ti vo : Int) (sp : ByteArray) (ha : Int) (hf : Hid (Fit_ ⟨it, pa, ti, vo, sp, ha⟩)) (p : Int) (hp : 0 ≤ p ∧ p ≤ 18446744073709551615) (X : Int) (HX : Hid (chS p (Cu.txS ⟨it, pa, ti, vo, sp, ha⟩) = X)) (w : World) :
    Calls Tryd.prog 18 #[.int .u64 p, .agg #[.string it, .string pa, .int .i64 ti, .int .i64 vo, .string sp, .int .u64 ha]] w fun e w' => e = .returned (.int .u64 X) ∧ Below w.heap.size w w' := by
  have := rhashL_any ⟨it, pa, ti, vo, sp, ha⟩ hf.out p hp w
  rw [HX.out] at this
  exact this
set_option maxRecDepth 100000 in
set_option maxHeartbeats 8000000 in
theorem rafter_any (L : Ls) (A : Option Addr) (c : Nat) (it pa : ByteArray) (ti vo : Int) (sp : ByteArray) (ha : Int) (hf : Hid (Fit_ ⟨it, pa, ti, vo, sp, ha⟩)) (w : World) (HS : Hid (SlR w A (lrowL L))) (HG : Hid (Cu.Good L)) (X : Int) (HX : Hid (Cu.hsV L ⟨it, pa, ti, vo, sp, ha⟩ = X)) :
    Calls Tryd.prog 36 #[.slice A L.length c, .agg #[.string it, .string pa, .int .i64 ti, .int .i64 vo, .string sp, .int .u64 ha]] w fun e w' => e = .returned (.int .u64 X) ∧ Below w.heap.size w w' := by
  have hl := HG.out.mild.len
  have HNE := Lib.hid HG.out.mild.ne
  have HK0 := Lib.hid (RcW.new HS.out ⟨it, pa, ti, vo, sp, ha⟩)
  by_cases h2 : Cu.ix pa L < L.length
  rotate_left
  · have HA2 : Hid (Cu.atI L pa = -1) := Cu.atI_no h2
    have HXX : Hid (chS 0 (Cu.txS ⟨it, pa, ti, vo, sp, ha⟩) = X) := by
      show _ = _
      rw [← HX.out, Cu.hsV, Cu.pvV, Cu.par_none (x := ⟨it, pa, ti, vo, sp, ha⟩) h2]
    clear h2
    by_cases hpa : pa = ByteArray.empty
    · subst hpa
      go_enter Tryd.func36, Tryd.ntmps36
      go_wp2_with fail
      (with_reducible refine (rat_eq L A c ByteArray.empty (-1) HA2 _ (Lib.hid HK0.out.s) hl).mono ?_)
      rintro e w1 ⟨rfl, hw1⟩
      subst w1
      go_wp2_with fail
      (with_reducible refine (rhashL_eq it ByteArray.empty ti vo sp ha hf 0 (by omega) X HXX _).mono ?_)
      rintro e w2 ⟨rfl, hb⟩
      have HB := Lib.hid (below_old HK0.out.bel hb)
      clear hb
      go_wp2_with fail
      go_ret
      exact ⟨rfl, HB.out⟩
    · obtain ⟨q1, q2, q3⟩ := pa_some hpa
      clear hpa
      go_enter Tryd.func36, Tryd.ntmps36
      go_wp2_with fail
      (with_reducible refine (rat_eq L A c pa (-1) HA2 _ (Lib.hid HK0.out.s) hl).mono ?_)
      rintro e w1 ⟨rfl, hw1⟩
      subst w1
      go_wp2_with fail
      (with_reducible refine (rhashL_eq it pa ti vo sp ha hf 0 (by omega) X HXX _).mono ?_)
      rintro e w2 ⟨rfl, hb⟩
      have HB := Lib.hid (below_old HK0.out.bel hb)
      clear hb
      go_wp2_with fail
      go_ret
      exact ⟨rfl, HB.out⟩
  have hpa : pa ≠ ByteArray.empty := fun e => HNE.out (by rw [e] at h2; exact h2)
  obtain ⟨q1, q2, q3⟩ := pa_some hpa
  have hpar := Cu.par_some (x := ⟨it, pa, ti, vo, sp, ha⟩) h2
  simp only at hpar
  obtain ⟨k, hk⟩ : ∃ k, Cu.ix pa L = k := ⟨_, rfl⟩
  have HA2 : Hid (Cu.atI L pa = (k : Int)) := by show _ = _; rw [Cu.atI_yes h2, hk]
  have hkl : k < L.length := by omega
  have zk : (k : Int) < (L.length : Int) := by omega
  obtain ⟨e, he⟩ : ∃ e, L[k] = e := ⟨_, rfl⟩
  have HEK := Lib.hid he
  have hpar2 : Cu.par L ⟨it, pa, ti, vo, sp, ha⟩ = some e := by rw [hpar, ← he]; congr 2
  have HXX : Hid (chS e.ha (Cu.txS ⟨it, pa, ti, vo, sp, ha⟩) = X) := by
    show _ = _
    rw [← HX.out, Cu.hsV, Cu.pvV, hpar2]
  have heh : 0 ≤ e.ha ∧ e.ha ≤ 18446744073709551615 := HG.out.al.ha e (par_mem hpar2)
  have HEH := Lib.hid heh
  clear hpar hk h2 hpar2 he hpa heh
  obtain ⟨bb, off, hA, hbl, -⟩ := HS.out.link hkl
  subst hA
  go_enter Tryd.func36, Tryd.ntmps36
  go_wp2_with fail
  (with_reducible refine (rat_eq L _ c pa k HA2 _ (Lib.hid HK0.out.s) hl).mono ?_)
  rintro e' w1 ⟨rfl, hw1⟩
  subst w1
  generalize w.alloc (.cells #[.string it, .string pa, .int .i64 ti, .int .i64 vo, .string sp, .int .u64 ha] 36) = w1 at *
  have z1 : w1.cell? ⟨w.heap.size, 1, none⟩ = some (.string pa) := HK0.out.b.cells.2.1
  go_wp2_with fail
  clear z1
  have y0 := fun u => (HK0.out.below (wx_below w1 u)).b.cells
  simp only at y0
  have p5 : ∀ u, (wx w1 u).cell? ⟨bb, off + k * 6 + 5, none⟩ = some (.int .u64 e.ha) := fun u => by
    obtain ⟨b', o', e1, -, -, -, -, -, -, e2⟩ := (HK0.out.below (wx_below w1 u)).s.link hkl
    simp only [Option.some.injEq, Addr.mk.injEq, and_true] at e1
    obtain ⟨rfl, rfl⟩ := e1
    rw [HEK.out] at e2
    exact e2
  refine wp_region_grows (by kernel_rfl) (by kernel_rfl) ?_
  repeat (go_big_quiet_step ((go_at_call 18; (with_reducible exact calls_grows (rhashL_eq it pa ti vo sp ha hf e.ha HEH.out X HXX _)))))
  refine wpQuiet_nil ?_
  rintro _ ⟨u, rfl⟩
  have HB := Lib.hid (below_old HK0.out.bel (wx_below w1 u))
  go_wp2_with fail
  go_ret
  exact ⟨rfl, HB.out⟩
/-- append of a row to a row of our own. -/
theorem wp_append_row {P : Program} {w : World} {o : Oper} {a : Act} {K : Act → World → Prop} {Q : Exit → Act → World → Prop} (s x : Operand) (t : TypeId)
    (ho : o.op = .call { callee := .builtin .append, args := #[s, x], argTypes := #[t, t] })
    (base : Nat) (e : TypeId) (z : Value) (size bytes : Nat) (ht : P.underlying t = some (.slice e)) (hinfo : (P.info? e).map (fun i => (i.zero, i.size, i.bytes)) = some (some z, size, bytes)) (hzs : z.cells.size = size) (hsz : 0 < size)
    (v : Value) (n : Nat) (xs : List Value) (hs : a.eval s = v) (hown : w.ownsRow base e size v n xs)
    (v2 : Value) (m B2 : Nat) (news : List Value) (hx : a.eval x = v2) (hrow : w.ownsRow B2 e size v2 m news) (h1 : ∀ u ∈ news, u.oneCell' = true)
    (h63 : n + m ≤ maxLen) (hbytes : (n + m) * bytes ≤ 140737488355328) (hbase : base ≤ w.heap.size)
    (h : ∀ v' w', w'.ownsRow base e size v' (n + m) (xs ++ news) → w.grownBy w' v.ownBlock → K (a.put o.dst v') w') : o.wp P a w K Q := by
  obtain ⟨i0, hi, hz0, hz1, hz2⟩ := info_parts hinfo
  rcases hrow.2 with ⟨rfl, rfl⟩ | ⟨g, cap, cur, rfl, _⟩
  · have hnil : news = [] := List.eq_nil_of_length_eq_zero (by rw [hrow.1, Nat.zero_mul])
    subst hnil
    have hrun := run_append_owned_none (P := P) (w := w) base t o.type e i0 size ht hi v n xs hown
    unfold Oper.wp
    simp [execOp, ho, resolve, invoke, builtin, hs, hx, hrun, Result.andThen]
    exact h _ _ (by simpa using hown) ⟨rfl, rfl, rfl, Nat.le_refl _, fun _ _ _ => rfl⟩
  · exact wp_append_own w s x t ho base e i0 z size bytes ht hi hz0 hz1 hz2 hzs hsz v n xs hs hown ⟨g, 0, none⟩ m cap news hx hrow.1 (hrow.cells rfl) h1 h63 hbytes hbase fun v' w' h2 h3 _ => h v' w' h2 h3
/-- The last region of Add: what was chosen. -/
structure RaG where
  b0 : Nat
  va : Value
  b1 : Nat
  vb : Value
def raD : List (Nat × Nat) := [(34, 0), (35, 1), (36, 2), (37, 3), (38, 4), (39, 5), (40, 6), (41, 7), (12, 8), (13, 9), (14, 10)]
def raV (v : Value) (g : Nat) (x : Lk) (G : RaG) : Nat → Value
  | 0 => .slice (some ⟨G.b0, 0, none⟩) 0 0
  | 1 => v
  | 2 => G.va
  | 3 => .agg #[.string x.it, .string x.pa, .int .i64 x.ti, .int .i64 x.vo, .string x.sp, .int .u64 x.ha]
  | 4 => .slice (some ⟨G.b1, 0, none⟩) 1 1
  | 5 => G.vb
  | 6 => .pointer (some ⟨g, 5, none⟩)
  | 7 => .int .u64 x.ha
  | 8 => G.vb
  | 9 => .int .u64 x.ha
  | _ => .int .i64 0
structure RaW (W : World) (L : Ls) (x : Lk) (l : Nat → Bool) (G : RaG) (w : World) : Prop where
  bel : Below W.heap.size W w
  lt0 : l 0 = true → G.b0 < w.heap.size
  o0 : l 0 = true → l 2 = false → w.ownsRow W.heap.size 36 6 (.slice (some ⟨G.b0, 0, none⟩) 0 0) 0 []
  o2 : l 2 = true → l 5 = false → w.ownsRow W.heap.size 36 6 G.va L.length (lrowL L)
  o4 : l 4 = true → l 5 = false → Blk w G.b1 36 (lcells x).toArray
  ne : l 0 = true → l 4 = true → G.b0 ≠ G.b1
  o5 : l 5 = true → w.ownsRow W.heap.size 36 6 G.vb (L.length + 1) (lrowL L ++ lcells x)
  lt4 : l 4 = true → G.b1 < w.heap.size
  c5 : l 5 = true → l 2 = true ∧ l 4 = true
  c8 : l 8 = true → l 5 = true
theorem RaW.next {W w : World} {L : Ls} {x : Lk} {l : Nat → Bool} {G : RaG} (h : RaW W L x l G w) (i : Nat) (hi : i ≠ 0 ∧ i ≠ 2 ∧ i ≠ 4 ∧ i ≠ 5) (h8 : i = 8 → l 5 = true) : RaW W L x (fun j => j == i || l j) G w := by
  obtain ⟨i0, i2, i4, i5⟩ := hi
  have e : ∀ k, k ≠ i → ((k == i || l k) = l k) := fun k hk => by simp [hk]
  refine ⟨h.bel, fun g => h.lt0 ((e 0 i0.symm).symm.trans g), fun g g2 => h.o0 ((e 0 i0.symm).symm.trans g) ((e 2 i2.symm).symm.trans g2), fun g g2 => h.o2 ((e 2 i2.symm).symm.trans g) ((e 5 i5.symm).symm.trans g2),
    fun g g2 => h.o4 ((e 4 i4.symm).symm.trans g) ((e 5 i5.symm).symm.trans g2), fun g g2 => h.ne ((e 0 i0.symm).symm.trans g) ((e 4 i4.symm).symm.trans g2), fun g => h.o5 ((e 5 i5.symm).symm.trans g), fun g => h.lt4 ((e 4 i4.symm).symm.trans g), fun g => ?_, fun g => ?_⟩
  · have := h.c5 ((e 5 i5.symm).symm.trans g)
    exact ⟨(e 2 i2.symm).trans this.1, (e 4 i4.symm).trans this.2⟩
  · refine (e 5 i5.symm).trans ?_
    by_cases hi8 : i = 8
    · exact h8 hi8
    · exact h.c8 ((e 8 (fun x => hi8 x.symm)).symm.trans g)
section
variable {W w w' : World} {L : Ls} {x : Lk} {l : Nat → Bool} {G : RaG} {v' : Value}
theorem raw_0 (h : RaW W L x l G w) (hl : l 0 = false) : RaW W L x (fun j => j == 0 || l j) ⟨w.heap.size, G.va, G.b1, G.vb⟩ (w.alloc (.cells #[] 36)) := by
  have hb := (Below.refl w.heap.size w).alloc (Nat.le_refl _) (.cells #[] 36)
  refine ⟨below_old h.bel hb, fun _ => by simp, fun _ _ => World.ownsRow_lit w #[] 0 h.bel.size (Nat.zero_le _) rfl, fun g g2 => row_below (h.o2 (by simpa using g) (by simpa using g2)) hb, fun g g2 => (h.o4 (by simpa using g) (by simpa using g2)).below hb, fun _ g e => ?_, fun g => row_below (h.o5 (by simpa using g)) hb, fun g => ?_, fun g => ?_, fun g => ?_⟩
  · have := h.lt4 (by simpa using g)
    simp only at e
    omega
  · have := h.lt4 (by simpa using g)
    simp
    omega
  · simpa using h.c5 (by simpa using g)
  · simpa using h.c8 (by simpa using g)
theorem raw_2 (h : RaW W L x l G w) (h0 : l 0 = true) (h2 : l 2 = false) (ho : w'.ownsRow W.heap.size 36 6 v' L.length (lrowL L)) (hg : w.grownBy w' (some G.b0)) : RaW W L x (fun j => j == 2 || l j) ⟨G.b0, v', G.b1, G.vb⟩ w' := by
  have hlt := (h.o0 h0 h2).lt G.b0 rfl
  have h5 : l 5 = false := by
    cases hh : l 5 with
    | false => rfl
    | true => have := (h.c5 hh).1; rw [h2] at this; cases this
  refine ⟨h.bel.grown hg h.bel.size (fun k hk => by cases hk; exact hlt.1), fun _ => Nat.lt_of_lt_of_le hlt.2 hg.size, fun _ g => (by simp at g), fun _ _ => ho, fun g _ => ?_, fun g g4 => h.ne h0 (by simpa using g4), fun g => (by simp [h5] at g), fun g => Nat.lt_of_lt_of_le (h.lt4 (by simpa using g)) hg.size, fun g => (by simp [h5] at g), fun g => ?_⟩
  · have g4 : l 4 = true := by simpa using g
    exact (h.o4 g4 h5).grown hg (by simpa using (h.ne h0 g4).symm)
  · simpa using h.c8 (by simpa using g)
theorem raw_4 (h : RaW W L x l G w) (hl : l 4 = false) : RaW W L x (fun j => j == 4 || l j) ⟨G.b0, G.va, w.heap.size, G.vb⟩ (w.alloc (.cells (lcells x).toArray 36)) := by
  have hb := (Below.refl w.heap.size w).alloc (Nat.le_refl _) (.cells (lcells x).toArray 36)
  refine ⟨below_old h.bel hb, fun g => ?_, fun g g2 => row_below (h.o0 (by simpa using g) (by simpa using g2)) hb, fun g g2 => row_below (h.o2 (by simpa using g) (by simpa using g2)) hb, fun _ _ => Blk.new _ _ _, fun g _ e => ?_, fun g => row_below (h.o5 (by simpa using g)) hb, fun _ => by simp, fun g => ?_, fun g => ?_⟩
  · have := h.lt0 (by simpa using g)
    simp
    omega
  · have := h.lt0 (by simpa using g)
    simp only at e
    omega
  · simpa using (h.c5 (by simpa using g)).1
  · simpa using h.c8 (by simpa using g)
theorem raw_5 (h : RaW W L x l G w) (h5 : l 5 = false) (h2 : l 2 = true) (h4 : l 4 = true) (ho : w'.ownsRow W.heap.size 36 6 v' (L.length + 1) (lrowL L ++ lcells x)) (hg : w.grownBy w' G.va.ownBlock) : RaW W L x (fun j => j == 5 || l j) ⟨G.b0, G.va, G.b1, v'⟩ w' := by
  have hlt := (h.o2 h2 h5).lt
  refine ⟨h.bel.grown hg h.bel.size (fun k hk => (hlt k hk).1), fun g => Nat.lt_of_lt_of_le (h.lt0 (by simpa using g)) hg.size, fun _ g => (by simp [h2] at g), fun _ g => (by simp at g), fun _ g => (by simp at g), fun g g4 => h.ne (by simpa using g) (by simpa using g4), fun _ => ho, fun g => Nat.lt_of_lt_of_le (h.lt4 (by simpa using g)) hg.size, fun _ => by simp [h2, h4], fun g => by simp⟩
theorem raw_no8 (h : RaW W L x l G w) (h5 : l 5 = false) : l 8 = false := by
  cases hh : l 8 with
  | false => rfl
  | true => have := h.c8 hh; rw [h5] at this; cases this
variable {v : Value} {g : Nat}
theorem raV_0 {b : Nat} {j : Nat} (hj : j ≠ 0) : raV v g x ⟨b, G.va, G.b1, G.vb⟩ j = raV v g x G j := by unfold raV; split <;> first | rfl | contradiction
theorem raV_2 {b : Value} {j : Nat} (hj : j ≠ 2) : raV v g x ⟨G.b0, b, G.b1, G.vb⟩ j = raV v g x G j := by unfold raV; split <;> first | rfl | contradiction
theorem raV_4 {b : Nat} {j : Nat} (hj : j ≠ 4) : raV v g x ⟨G.b0, G.va, b, G.vb⟩ j = raV v g x G j := by unfold raV; split <;> first | rfl | contradiction
theorem raV_5 {b : Value} {j : Nat} (hj : j ≠ 5) (hj8 : j ≠ 8) : raV v g x ⟨G.b0, G.va, G.b1, b⟩ j = raV v g x G j := by unfold raV; split <;> first | rfl | contradiction
end
theorem tm {x : Act} {e : Nat} {v : Value} (h : x.eval (.tmp e) = v) : x.tmps[e]?.getD undef = v := by
  simpa [Act.eval] using h
end Go.Proofs.YtpimmdmcmccbpaaDoor
