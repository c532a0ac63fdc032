/- The reference's Use and Add. -/
import Derived.Test.YtgkkhbhobbhlpaaAI
namespace Go.Proofs.Ytgkkhbhobbhlpaa
open Go.RowKit
set_option linter.unusedVariables false

/-- 'append(nil, xs...)', xs nil or not. -/
theorem wpList_copy_c {P : Program} {w : World} {ops : Array Oper} {rest : List Oper} {o : Oper} {a : Act} {Q : Exit → Act → World → Prop} (hgd : o.guard = none) (s x : Operand) (t : TypeId)
    (ho : o.op = .call { callee := .builtin .append, args := #[s, x], argTypes := #[t, t] })
    (e : TypeId) (z : Value) (size bytes : Nat) (ht : P.underlying t = some (.slice e)) (hinfo : (P.info? e).map (fun i => (i.zero, i.size, i.bytes)) = some (some z, size, bytes)) (hzs : z.cells.size = size) (hsz : 0 < size)
    (hs : a.eval s = .slice none 0 0) (v : Value) (n B : Nat) (xs : List Value) (hx : a.eval x = v) (hrow : w.ownsRow B e size v n xs) (h1 : ∀ u ∈ xs, u.oneCell' = true)
    (h63 : n ≤ maxLen) (hbytes : n * bytes ≤ 140737488355328) (base : Nat) (hbase : base ≤ w.heap.size)
    (h : ∀ v' w', w'.ownsRow base e size v' n xs → w.grownBy w' none → wpList P ops Q rest (a.put o.dst v') w') : wpList P ops Q (o :: rest) a w := by
  obtain ⟨i0, hi, hz0, hz1, hz2⟩ := info_parts hinfo
  rcases hrow.2 with ⟨rfl, rfl⟩ | ⟨g, cap, cur, rfl, _⟩
  · have hnil : xs = [] := List.eq_nil_of_length_eq_zero (by rw [hrow.1, Nat.zero_mul])
    subst hnil
    exact wpList_append_own_none hgd s x t ho base e i0 size ht hi _ 0 [] hs (World.ownsRow_nil _ _ _ _) hx (h _ _ (World.ownsRow_nil _ _ _ _) ⟨rfl, rfl, rfl, Nat.le_refl _, fun _ _ _ => rfl⟩)
  · refine wpList_append_own w hgd s x t ho base e i0 z size bytes ht hi hz0 hz1 hz2 hzs hsz (.slice none 0 0) 0 [] hs (World.ownsRow_nil _ _ _ _) ⟨g, 0, none⟩ n cap xs hx hrow.1 (hrow.cells rfl) h1 (by omega) (by simpa using hbytes) hbase fun v' w' h2 h3 _ => h v' w' ?_ h3
    rw [Nat.zero_add, List.nil_append] at h2
    exact h2

/-- What the reference's Use and Add hand back. -/
structure RDone (w w' : World) (B : Nat) (R : Pt.Rg) (vl vp' vl' : Value) : Prop where
  rows : RR w' B R vp' vl'
  bel : Below w.heap.size w w'
  fresh : vl' = vl ∨ ∀ k, vl'.ownBlock = some k → w.heap.size ≤ k

/-- The new register while it is filled: its box xb, the box of the result rc, its second list. -/
structure UseX (w w4 : World) (xb rc : Nat) (vp v' : Value) (n : Nat) (xs : List Value) : Prop where
  x : Blk w4 xb 30 #[vp, v']
  r : Blk w4 rc 30 #[.slice none 0 0, .slice none 0 0]
  row : w4.ownsRow w.heap.size 3 1 v' n xs
  bel : Below w.heap.size w w4
  lx : w.heap.size ≤ xb
  lr : w.heap.size ≤ rc
  ne : xb ≠ rc
theorem UseX.below {w w4 w5 : World} {xb rc : Nat} {vp v' : Value} {n : Nat} {xs : List Value} (h : UseX w w4 xb rc vp v' n xs) (hb : Below w4.heap.size w4 w5) : UseX w w5 xb rc vp v' n xs :=
  ⟨h.x.below hb, h.r.below hb, h.row.kept (below_grown hb none) (by cases v'.ownBlock <;> simp), below_old h.bel hb, h.lx, h.lr, h.ne⟩
theorem UseX.set_ {w w4 : World} {xb rc g c : Nat} {vp : Value} {n : Nat} {xs : List Value} (h : UseX w w4 xb rc vp (.slice (some ⟨g, 0, none⟩) n c) n xs) (j : Nat) (u : Value) : UseX w (w4.setCell ⟨g, j, none⟩ u) xb rc vp (.slice (some ⟨g, 0, none⟩) n c) n (xs.set j u) := by
  obtain ⟨o1, o2⟩ := h.row.stored j u
  exact ⟨h.x.grown o2 (row_blk h.row h.x (by decide)), h.r.grown o2 (row_blk h.row h.r (by decide)), o1, h.bel.grown o2 h.bel.size (fun k hk => by cases hk; exact (h.row.lt g rfl).1), h.lx, h.lr, h.ne⟩
theorem set_grown (w : World) (b o : Nat) (u : Value) : w.grownBy (w.setCell ⟨b, o, none⟩ u) (some b) := ⟨rfl, rfl, rfl, by simp, fun j _ hj => heap_setCell_other w ⟨b, o, none⟩ j _ (fun e => hj (by simp [e]))⟩
set_option maxHeartbeats 8000000 in
theorem ruse_any (B : Nat) (R : Pt.Rg) (vp vl : Value) (id : ByteArray) (v : Int) (w : World) (HR : Hid (RR w B R vp vl)) (HO : Hid (Pt.Ok R)) (hB : B ≤ w.heap.size) :
    Calls Try.prog 20 #[.agg #[vp, vl], .string id, .int .i64 v] w fun e w' => ∃ vp' vl', e = .returned (.tuple #[.agg #[vp', vl'], .int .i64 (Pt.usE R id v)]) ∧ RDone w w' B (Pt.usR R id v) vl vp' vl' := by
  have hl := HO.out.len
  by_cases h : Pt.ix id R < R.length
  · obtain ⟨k, e, hk, he, hix, hat, hfn, hid, q0, q1, q2, q3⟩ := Pt.found HO.out h
    have HX := Lib.hid hfn
    clear hfn h
    by_cases h1 : 1 ≤ v ∧ v ≤ 1125899906842624
    · by_cases h2 : v ≤ e.1.qu - e.2
      · have hE0 : Pt.usE R id v = 0 := by rw [Pt.usE, hat]; simp only [if_pos h1, if_pos h2]
        have hR0 : Pt.usR R id v = R.set k (e.1, e.2 + v) := by rw [Pt.usR, if_pos hE0, hat, hix]
        have HE := Lib.hid hE0
        have HRR := Lib.hid hR0
        have HEI := Lib.hid he
        have HPS : Hid (prow (R.set k (e.1, e.2 + v)) = prow R) := by
          have h2 := prow_set R k hk (e.2 + v)
          rw [he] at h2
          exact h2
        clear hat hid hix hE0 hR0
        obtain ⟨v0, v1⟩ := h1
        have hbx := ((Below.refl w.heap.size w).alloc (Nat.le_refl _) (.cells #[vp, vl] 30)).alloc (by simp) (.cells #[.slice none 0 0, .slice none 0 0] 30)
        have HR1 := Lib.hid (HR.out.below hbx)
        have HB : Hid (Blk ((w.alloc (.cells #[vp, vl] 30)).alloc (.cells #[.slice none 0 0, .slice none 0 0] 30)) w.heap.size 30 #[vp, vl]) := (Blk.new w 30 #[vp, vl]).below ((Below.refl _ _).alloc (Nat.le_refl _) _)
        have HC : Hid (Blk ((w.alloc (.cells #[vp, vl] 30)).alloc (.cells #[.slice none 0 0, .slice none 0 0] 30)) (w.heap.size + 1) 30 #[.slice none 0 0, .slice none 0 0]) := by
          have := Blk.new (w.alloc (.cells #[vp, vl] 30)) 30 #[.slice none 0 0, .slice none 0 0]
          show Blk _ _ _ _
          simpa using this
        have HBX := Lib.hid hbx
        obtain ⟨Ap, cp, hvp⟩ := row_form HR.out.per
        obtain ⟨Al, cl, hvl⟩ := row_form HR.out.lef
        subst hvp hvl
        clear hbx
        go_enter Try.func20, Try.ntmps20
        go_wp2_with fail
        (with_reducible refine (rfind_eq _ R _ _ _ _ HX _ HR1 HO).mono ?_)
        rintro e' w1 ⟨rfl, hb⟩
        have HR2 := Lib.hid (HR1.out.below hb)
        have HB2 := Lib.hid (HB.out.below hb)
        have HC2 := Lib.hid (HC.out.below hb)
        have HBY := Lib.hid (below_old HBX.out hb)
        have b0 : w1.cell? ⟨w.heap.size, 0, none⟩ = some (.slice Ap R.length cp) := HB2.out.cell 0
        have b1 : w1.cell? ⟨w.heap.size, 1, none⟩ = some (.slice Al R.length cl) := HB2.out.cell 1
        have r0 : w1.cell? ⟨w.heap.size + 1, 0, none⟩ = some (.slice none 0 0) := HC2.out.cell 0
        have r1 : w1.cell? ⟨w.heap.size + 1, 1, none⟩ = some (.slice none 0 0) := HC2.out.cell 1
        have s0 := HC2.out.frozen 0
        have s1 := HC2.out.frozen 1
        clear hb HR1 HB HC HBX
        obtain ⟨g, rfl, hg, p0, p1, p2, p3, p4⟩ := row_permit HR2.out.per hk
        obtain ⟨gl, rfl, hgl, x0, fx⟩ := row_int HR2.out.lef hk
        have zk : (k : Int) < (R.length : Int) := by omega
        rw [he] at p0 p1 p2 p3 p4 x0
        clear he
        have hm1 : Hid (R.length ≤ maxLen) := by show _ ≤ _; unfold maxLen; omega
        have hm3 : Hid (R.length * 8 ≤ 140737488355328) := by show _ ≤ _; omega
        have hsz := HBY.out.size
        have hrc : w.heap.size + 1 < w1.heap.size := HC2.out.lt
        have hbX := (Below.refl w1.heap.size w1).alloc (Nat.le_refl _) (.cells #[.slice (some ⟨g, 0, none⟩) R.length cp, .slice none 0 0] 30)
        have HLX := Lib.hid (HR2.out.below hbX).lef
        have b2 : (w1.alloc (.cells #[.slice (some ⟨g, 0, none⟩) R.length cp, .slice none 0 0] 30)).cell? ⟨w.heap.size, 1, none⟩ = some (.slice (some ⟨gl, 0, none⟩) R.length cl) := (HB2.out.below hbX).cell 1
        go_wp2_with (at_builtin; refine wpList_copy_c rfl (.tmp 35) (.tmp 37) 28 rfl 3 _ 1 8 Try.underlying28 infoI rfl (by decide) rfl _ R.length B (lrow R) rfl HLX.out (lrow_one R) hm1.out hm3.out w.heap.size (by simp; omega) ?_)
        intro v' w3 hown hgrow
        obtain ⟨g3, cap3, rfl, hg3, hlt3⟩ := hown.form (by omega)
        have HX3 : Hid (Blk w3 w1.heap.size 30 #[.slice (some ⟨g, 0, none⟩) R.length cp, .slice none 0 0]) := Blk.grown (Blk.new _ _ _) hgrow (by simp)
        have HC3 : Hid (Blk w3 (w.heap.size + 1) 30 #[.slice none 0 0, .slice none 0 0]) := Blk.grown (HC2.out.below hbX) hgrow (by simp)
        have HBZ := Lib.hid ((HBY.out.trans (hbX.mono hsz)).grown hgrow (by simp; omega) (by simp))
        have HOW := Lib.hid hown
        clear hown hgrow hbX HLX hg3
        have y0 : w3.cell? ⟨w1.heap.size, 0, none⟩ = some (.slice (some ⟨g, 0, none⟩) R.length cp) := HX3.out.cell 0
        have y1 : w3.cell? ⟨w1.heap.size, 1, none⟩ = some (.slice none 0 0) := HX3.out.cell 1
        have z1 := HX3.out.frozen 1
        have HU : Hid (UseX w (w3.setCell ⟨w1.heap.size, 1, none⟩ (.slice (some ⟨g3, 0, none⟩) R.length cap3)) w1.heap.size (w.heap.size + 1) (.slice (some ⟨g, 0, none⟩) R.length cp) (.slice (some ⟨g3, 0, none⟩) R.length cap3) R.length (lrow R)) := by
          have hs := set_grown w3 w1.heap.size 1 (.slice (some ⟨g3, 0, none⟩) R.length cap3)
          refine ⟨by have := HX3.out.set_ 1 (.slice (some ⟨g3, 0, none⟩) R.length cap3); simpa using this, HC3.out.grown hs (by simp; omega), HOW.out.kept hs (.inr fun e => row_blk HOW.out HX3.out (by decide) e.symm), HBZ.out.grown hs HBZ.out.size (fun k hk => by cases hk; exact hsz), hsz, Nat.le_succ _, by omega⟩
        go_wp2_with fail
        clear y0 y1 z1 b0 b1 b2 r0 r1 s0 s1 p0 p1 p2 p3 p4 x0 fx
        generalize w3.setCell ⟨w1.heap.size, 1, none⟩ (.slice (some ⟨g3, 0, none⟩) R.length cap3) = w4 at *
        have Y1 : ∀ u, (wx w4 u).cell? ⟨w1.heap.size, 1, none⟩ = some (.slice (some ⟨g3, 0, none⟩) R.length cap3) := fun u => (HU.out.below (wx_below w4 u)).x.cell 1
        have X0 : ∀ u, (wx w4 u).cell? ⟨g3, k, none⟩ = some (.int .i64 (e.1.qu - e.2)) := fun u => by
          obtain ⟨g', e', _, x', _⟩ := row_int (HU.out.below (wx_below w4 u)).row hk
          cases e'
          rw [HEI.out] at x'
          exact x'
        refine wp_region_grows_tail 11 (by kernel_rfl) (by kernel_rfl) ?_
        simp only [List.take_succ_cons, List.take_zero, List.drop_succ_cons, List.drop_zero]
        repeat (go_big_quiet_step (fail))
        refine wpQuiet_nil ?_
        rintro _ ⟨u, rfl⟩
        have HU5 := Lib.hid (HU.out.below (wx_below w4 u))
        clear Y1 X0 HU
        generalize wx w4 u = w5 at *
        obtain ⟨g', e', _, x5, f5⟩ := row_int HU5.out.row hk
        cases e'
        rw [HEI.out] at x5
        have HU6 := Lib.hid (HU5.out.set_ k (.int .i64 (e.1.qu - e.2 - v)))
        have t0 : (w5.setCell ⟨g3, k, none⟩ (.int .i64 (e.1.qu - e.2 - v))).cell? ⟨w1.heap.size, 0, none⟩ = some (.slice (some ⟨g, 0, none⟩) R.length cp) := HU6.out.x.cell 0
        have t1 : (w5.setCell ⟨g3, k, none⟩ (.int .i64 (e.1.qu - e.2 - v))).cell? ⟨w1.heap.size, 1, none⟩ = some (.slice (some ⟨g3, 0, none⟩) R.length cap3) := HU6.out.x.cell 1
        have t2 : (w5.setCell ⟨g3, k, none⟩ (.int .i64 (e.1.qu - e.2 - v))).cell? ⟨w.heap.size + 1, 0, none⟩ = some (.slice none 0 0) := HU6.out.r.cell 0
        have t3 : (w5.setCell ⟨g3, k, none⟩ (.int .i64 (e.1.qu - e.2 - v))).cell? ⟨w.heap.size + 1, 1, none⟩ = some (.slice none 0 0) := HU6.out.r.cell 1
        have t4 := HU6.out.r.frozen 0
        have t5 := HU6.out.r.frozen 1
        go_wp2_with fail
        (try simp only [Exit.inBlock, Exit.then])
        refine bodyPost_ret (v := .tuple #[.agg #[.slice (some ⟨g, 0, none⟩) R.length cp, .slice (some ⟨g3, 0, none⟩) R.length cap3], .int .i64 0]) ?_ rfl ⟨.slice (some ⟨g, 0, none⟩) R.length cp, .slice (some ⟨g3, 0, none⟩) R.length cap3, ?_, ?_⟩
        rotate_left
        · rw [HE.out]
        · have k1 := set_grown (w5.setCell ⟨g3, k, none⟩ (.int .i64 (e.1.qu - e.2 - v))) (w.heap.size + 1) 0 (.slice (some ⟨g, 0, none⟩) R.length cp)
          have k2 := set_grown ((w5.setCell ⟨g3, k, none⟩ (.int .i64 (e.1.qu - e.2 - v))).setCell ⟨w.heap.size + 1, 0, none⟩ (.slice (some ⟨g, 0, none⟩) R.length cp)) (w.heap.size + 1) 1 (.slice (some ⟨g3, 0, none⟩) R.length cap3)
          have k3 := k1.trans k2
          have hbf := HU6.out.bel.grown k3 HU6.out.bel.size (fun j hj => by cases hj; exact Nat.le_succ _)
          have hlf := HU6.out.row.kept k3 (.inr fun e => row_blk HU6.out.row HU6.out.r (by decide) e.symm)
          rw [HRR.out]
          refine ⟨⟨?_, ?_⟩, hbf, .inr fun j hj => (HU6.out.row.lt j hj).1⟩
          · rw [HPS.out, List.length_set]
            exact (HR.out.below hbf).per
          · rw [lrow_set, List.length_set, show e.1.qu - (e.2 + v) = e.1.qu - e.2 - v by omega]
            exact ownsRow_base hlf hB
        · rw [results_cell_tmp rfl]
          go_simp
      · have HE : Hid (Pt.usE R id v = 23) := by show _ = _; rw [Pt.usE, hat]; simp only [if_pos h1, if_neg h2]
        have HRR := Lib.hid (Pt.usR_no HE.out (by decide))
        clear hat hid hix
        obtain ⟨v0, v1⟩ := h1
        have hbx := ((Below.refl w.heap.size w).alloc (Nat.le_refl _) (.cells #[vp, vl] 30)).alloc (by simp) (.cells #[.slice none 0 0, .slice none 0 0] 30)
        have HR1 := Lib.hid (HR.out.below hbx)
        have HB : Hid (Blk ((w.alloc (.cells #[vp, vl] 30)).alloc (.cells #[.slice none 0 0, .slice none 0 0] 30)) w.heap.size 30 #[vp, vl]) := (Blk.new w 30 #[vp, vl]).below ((Below.refl _ _).alloc (Nat.le_refl _) _)
        have HC : Hid (Blk ((w.alloc (.cells #[vp, vl] 30)).alloc (.cells #[.slice none 0 0, .slice none 0 0] 30)) (w.heap.size + 1) 30 #[.slice none 0 0, .slice none 0 0]) := by
          have := Blk.new (w.alloc (.cells #[vp, vl] 30)) 30 #[.slice none 0 0, .slice none 0 0]
          show Blk _ _ _ _
          simpa using this
        have HBX := Lib.hid hbx
        obtain ⟨Ap, cp, hvp⟩ := row_form HR.out.per
        obtain ⟨Al, cl, hvl⟩ := row_form HR.out.lef
        subst hvp hvl
        clear hbx
        go_enter Try.func20, Try.ntmps20
        go_wp2_with fail
        (with_reducible refine (rfind_eq _ R _ _ _ _ HX _ HR1 HO).mono ?_)
        rintro e' w1 ⟨rfl, hb⟩
        have HR2 := Lib.hid (HR1.out.below hb)
        have HB2 := Lib.hid (HB.out.below hb)
        have HC2 := Lib.hid (HC.out.below hb)
        have HBY := Lib.hid (below_old HBX.out hb)
        have b0 : w1.cell? ⟨w.heap.size, 0, none⟩ = some (.slice Ap R.length cp) := HB2.out.cell 0
        have b1 : w1.cell? ⟨w.heap.size, 1, none⟩ = some (.slice Al R.length cl) := HB2.out.cell 1
        have r0 : w1.cell? ⟨w.heap.size + 1, 0, none⟩ = some (.slice none 0 0) := HC2.out.cell 0
        have r1 : w1.cell? ⟨w.heap.size + 1, 1, none⟩ = some (.slice none 0 0) := HC2.out.cell 1
        have s0 := HC2.out.frozen 0
        have s1 := HC2.out.frozen 1
        clear hb HR1 HB HC HBX
        obtain ⟨g, rfl, hg, p0, p1, p2, p3, p4⟩ := row_permit HR2.out.per hk
        obtain ⟨gl, rfl, hgl, x0, fx⟩ := row_int HR2.out.lef hk
        have zk : (k : Int) < (R.length : Int) := by omega
        rw [he] at p0 p1 p2 p3 p4 x0
        clear he
        go_wp2_with fail
        (try simp only [Exit.inBlock, Exit.then])
        refine bodyPost_ret (v := .tuple #[.agg #[.slice (some ⟨g, 0, none⟩) R.length cp, .slice (some ⟨gl, 0, none⟩) R.length cl], .int .i64 23]) ?_ rfl ⟨.slice (some ⟨g, 0, none⟩) R.length cp, .slice (some ⟨gl, 0, none⟩) R.length cl, ?_, ?_⟩
        rotate_left
        · exact (by rw [HE.out] : Ending.returned (.tuple #[.agg #[.slice (some ⟨g, 0, none⟩) R.length cp, .slice (some ⟨gl, 0, none⟩) R.length cl], .int .i64 23]) = .returned (.tuple #[.agg #[.slice (some ⟨g, 0, none⟩) R.length cp, .slice (some ⟨gl, 0, none⟩) R.length cl], .int .i64 (Pt.usE R id v)]))
        · have hbf := (HBY.out.setCell (p := ⟨w.heap.size + 1, 0, none⟩) (Nat.le_succ _) (.slice (some ⟨g, 0, none⟩) R.length cp)).setCell (p := ⟨w.heap.size + 1, 1, none⟩) (Nat.le_succ _) (.slice (some ⟨gl, 0, none⟩) R.length cl)
          rw [HRR.out]
          exact ⟨HR.out.below hbf, hbf, .inl rfl⟩
        · rw [results_cell_tmp rfl]
          go_simp
    · have HE : Hid (Pt.usE R id v = 9) := by show _ = _; rw [Pt.usE, hat]; simp only [if_neg h1]
      have HRR := Lib.hid (Pt.usR_no HE.out (by decide))
      clear hat hid hix
      by_cases h2 : v < 1
      · clear h1
        have hbx := ((Below.refl w.heap.size w).alloc (Nat.le_refl _) (.cells #[vp, vl] 30)).alloc (by simp) (.cells #[.slice none 0 0, .slice none 0 0] 30)
        have HR1 := Lib.hid (HR.out.below hbx)
        have HB : Hid (Blk ((w.alloc (.cells #[vp, vl] 30)).alloc (.cells #[.slice none 0 0, .slice none 0 0] 30)) w.heap.size 30 #[vp, vl]) := (Blk.new w 30 #[vp, vl]).below ((Below.refl _ _).alloc (Nat.le_refl _) _)
        have HC : Hid (Blk ((w.alloc (.cells #[vp, vl] 30)).alloc (.cells #[.slice none 0 0, .slice none 0 0] 30)) (w.heap.size + 1) 30 #[.slice none 0 0, .slice none 0 0]) := by
          have := Blk.new (w.alloc (.cells #[vp, vl] 30)) 30 #[.slice none 0 0, .slice none 0 0]
          show Blk _ _ _ _
          simpa using this
        have HBX := Lib.hid hbx
        obtain ⟨Ap, cp, hvp⟩ := row_form HR.out.per
        obtain ⟨Al, cl, hvl⟩ := row_form HR.out.lef
        subst hvp hvl
        clear hbx
        go_enter Try.func20, Try.ntmps20
        go_wp2_with fail
        (with_reducible refine (rfind_eq _ R _ _ _ _ HX _ HR1 HO).mono ?_)
        rintro e' w1 ⟨rfl, hb⟩
        have HR2 := Lib.hid (HR1.out.below hb)
        have HB2 := Lib.hid (HB.out.below hb)
        have HC2 := Lib.hid (HC.out.below hb)
        have HBY := Lib.hid (below_old HBX.out hb)
        have b0 : w1.cell? ⟨w.heap.size, 0, none⟩ = some (.slice Ap R.length cp) := HB2.out.cell 0
        have b1 : w1.cell? ⟨w.heap.size, 1, none⟩ = some (.slice Al R.length cl) := HB2.out.cell 1
        have r0 : w1.cell? ⟨w.heap.size + 1, 0, none⟩ = some (.slice none 0 0) := HC2.out.cell 0
        have r1 : w1.cell? ⟨w.heap.size + 1, 1, none⟩ = some (.slice none 0 0) := HC2.out.cell 1
        have s0 := HC2.out.frozen 0
        have s1 := HC2.out.frozen 1
        clear hb HR1 HB HC HBX
        go_wp2_with fail
        (try simp only [Exit.inBlock, Exit.then])
        refine bodyPost_ret (v := .tuple #[.agg #[.slice Ap R.length cp, .slice Al R.length cl], .int .i64 9]) ?_ rfl ⟨.slice Ap R.length cp, .slice Al R.length cl, ?_, ?_⟩
        rotate_left
        · exact (by rw [HE.out] : Ending.returned (.tuple #[.agg #[.slice Ap R.length cp, .slice Al R.length cl], .int .i64 9]) = .returned (.tuple #[.agg #[.slice Ap R.length cp, .slice Al R.length cl], .int .i64 (Pt.usE R id v)]))
        · have hbf := (HBY.out.setCell (p := ⟨w.heap.size + 1, 0, none⟩) (Nat.le_succ _) (.slice Ap R.length cp)).setCell (p := ⟨w.heap.size + 1, 1, none⟩) (Nat.le_succ _) (.slice Al R.length cl)
          rw [HRR.out]
          exact ⟨HR.out.below hbf, hbf, .inl rfl⟩
        · rw [results_cell_tmp rfl]
          go_simp
      · have h3 : 1125899906842624 < v := by omega
        clear h1
        have hbx := ((Below.refl w.heap.size w).alloc (Nat.le_refl _) (.cells #[vp, vl] 30)).alloc (by simp) (.cells #[.slice none 0 0, .slice none 0 0] 30)
        have HR1 := Lib.hid (HR.out.below hbx)
        have HB : Hid (Blk ((w.alloc (.cells #[vp, vl] 30)).alloc (.cells #[.slice none 0 0, .slice none 0 0] 30)) w.heap.size 30 #[vp, vl]) := (Blk.new w 30 #[vp, vl]).below ((Below.refl _ _).alloc (Nat.le_refl _) _)
        have HC : Hid (Blk ((w.alloc (.cells #[vp, vl] 30)).alloc (.cells #[.slice none 0 0, .slice none 0 0] 30)) (w.heap.size + 1) 30 #[.slice none 0 0, .slice none 0 0]) := by
          have := Blk.new (w.alloc (.cells #[vp, vl] 30)) 30 #[.slice none 0 0, .slice none 0 0]
          show Blk _ _ _ _
          simpa using this
        have HBX := Lib.hid hbx
        obtain ⟨Ap, cp, hvp⟩ := row_form HR.out.per
        obtain ⟨Al, cl, hvl⟩ := row_form HR.out.lef
        subst hvp hvl
        clear hbx
        go_enter Try.func20, Try.ntmps20
        go_wp2_with fail
        (with_reducible refine (rfind_eq _ R _ _ _ _ HX _ HR1 HO).mono ?_)
        rintro e' w1 ⟨rfl, hb⟩
        have HR2 := Lib.hid (HR1.out.below hb)
        have HB2 := Lib.hid (HB.out.below hb)
        have HC2 := Lib.hid (HC.out.below hb)
        have HBY := Lib.hid (below_old HBX.out hb)
        have b0 : w1.cell? ⟨w.heap.size, 0, none⟩ = some (.slice Ap R.length cp) := HB2.out.cell 0
        have b1 : w1.cell? ⟨w.heap.size, 1, none⟩ = some (.slice Al R.length cl) := HB2.out.cell 1
        have r0 : w1.cell? ⟨w.heap.size + 1, 0, none⟩ = some (.slice none 0 0) := HC2.out.cell 0
        have r1 : w1.cell? ⟨w.heap.size + 1, 1, none⟩ = some (.slice none 0 0) := HC2.out.cell 1
        have s0 := HC2.out.frozen 0
        have s1 := HC2.out.frozen 1
        clear hb HR1 HB HC HBX
        go_wp2_with fail
        (try simp only [Exit.inBlock, Exit.then])
        refine bodyPost_ret (v := .tuple #[.agg #[.slice Ap R.length cp, .slice Al R.length cl], .int .i64 9]) ?_ rfl ⟨.slice Ap R.length cp, .slice Al R.length cl, ?_, ?_⟩
        rotate_left
        · exact (by rw [HE.out] : Ending.returned (.tuple #[.agg #[.slice Ap R.length cp, .slice Al R.length cl], .int .i64 9]) = .returned (.tuple #[.agg #[.slice Ap R.length cp, .slice Al R.length cl], .int .i64 (Pt.usE R id v)]))
        · have hbf := (HBY.out.setCell (p := ⟨w.heap.size + 1, 0, none⟩) (Nat.le_succ _) (.slice Ap R.length cp)).setCell (p := ⟨w.heap.size + 1, 1, none⟩) (Nat.le_succ _) (.slice Al R.length cl)
          rw [HRR.out]
          exact ⟨HR.out.below hbf, hbf, .inl rfl⟩
        · rw [results_cell_tmp rfl]
          go_simp
  · have HX := Lib.hid (Pt.fnd_no h)
    have HE := Lib.hid (Pt.usE_none (v := v) h)
    have HRR := Lib.hid (Pt.usR_no HE.out (by decide))
    clear h
    have hbx := ((Below.refl w.heap.size w).alloc (Nat.le_refl _) (.cells #[vp, vl] 30)).alloc (by simp) (.cells #[.slice none 0 0, .slice none 0 0] 30)
    have HR1 := Lib.hid (HR.out.below hbx)
    have HB : Hid (Blk ((w.alloc (.cells #[vp, vl] 30)).alloc (.cells #[.slice none 0 0, .slice none 0 0] 30)) w.heap.size 30 #[vp, vl]) := (Blk.new w 30 #[vp, vl]).below ((Below.refl _ _).alloc (Nat.le_refl _) _)
    have HC : Hid (Blk ((w.alloc (.cells #[vp, vl] 30)).alloc (.cells #[.slice none 0 0, .slice none 0 0] 30)) (w.heap.size + 1) 30 #[.slice none 0 0, .slice none 0 0]) := by
      have := Blk.new (w.alloc (.cells #[vp, vl] 30)) 30 #[.slice none 0 0, .slice none 0 0]
      show Blk _ _ _ _
      simpa using this
    have HBX := Lib.hid hbx
    obtain ⟨Ap, cp, hvp⟩ := row_form HR.out.per
    obtain ⟨Al, cl, hvl⟩ := row_form HR.out.lef
    subst hvp hvl
    clear hbx
    go_enter Try.func20, Try.ntmps20
    go_wp2_with fail
    (with_reducible refine (rfind_eq _ R _ _ _ _ HX _ HR1 HO).mono ?_)
    rintro e' w1 ⟨rfl, hb⟩
    have HR2 := Lib.hid (HR1.out.below hb)
    have HB2 := Lib.hid (HB.out.below hb)
    have HC2 := Lib.hid (HC.out.below hb)
    have HBY := Lib.hid (below_old HBX.out hb)
    have b0 : w1.cell? ⟨w.heap.size, 0, none⟩ = some (.slice Ap R.length cp) := HB2.out.cell 0
    have b1 : w1.cell? ⟨w.heap.size, 1, none⟩ = some (.slice Al R.length cl) := HB2.out.cell 1
    have r0 : w1.cell? ⟨w.heap.size + 1, 0, none⟩ = some (.slice none 0 0) := HC2.out.cell 0
    have r1 : w1.cell? ⟨w.heap.size + 1, 1, none⟩ = some (.slice none 0 0) := HC2.out.cell 1
    have s0 := HC2.out.frozen 0
    have s1 := HC2.out.frozen 1
    clear hb HR1 HB HC HBX
    go_wp2_with fail
    (try simp only [Exit.inBlock, Exit.then])
    refine bodyPost_ret (v := .tuple #[.agg #[.slice Ap R.length cp, .slice Al R.length cl], .int .i64 8]) ?_ rfl ⟨.slice Ap R.length cp, .slice Al R.length cl, ?_, ?_⟩
    rotate_left
    · exact (by rw [HE.out] : Ending.returned (.tuple #[.agg #[.slice Ap R.length cp, .slice Al R.length cl], .int .i64 8]) = .returned (.tuple #[.agg #[.slice Ap R.length cp, .slice Al R.length cl], .int .i64 (Pt.usE R id v)]))
    · have hbf := (HBY.out.setCell (p := ⟨w.heap.size + 1, 0, none⟩) (Nat.le_succ _) (.slice Ap R.length cp)).setCell (p := ⟨w.heap.size + 1, 1, none⟩) (Nat.le_succ _) (.slice Al R.length cl)
      rw [HRR.out]
      exact ⟨HR.out.below hbf, hbf, .inl rfl⟩
    · rw [results_cell_tmp rfl]
      go_simp
end Go.Proofs.Ytgkkhbhobbhlpaa
