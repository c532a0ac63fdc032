/- sawmilltop: TopCustody. -/
import Derived.Test.YtpimmdmcmccbpaaDoorFA
namespace Go.Proofs.YtpimmdmcmccbpaaDoor
open Go.RowKit
set_option linter.unusedVariables false
open Cu (Lk Ls)
theorem wp_act_gen {P : Program} {c : Code} {Q : Exit → Act → World → Prop} {a : Act} {w : World} (h : ∀ a', a' = a → c.wp P Q a' w) : c.wp P Q a w := h a rfl
def pbV (gx : Nat) (I sp : ByteArray) (x : Clm) (g : Nat) : Nat → Value
  | 0 => .pointer (some ⟨gx, 1, none⟩)
  | 1 => .int .u8 x.ix
  | 2 => .string I
  | 3 => .string sp
  | 4 => .pointer (some ⟨gx, 3, none⟩)
  | 5 => .int .i64 x.ti
  | 6 => .pointer (some ⟨gx, 4, none⟩)
  | 7 => .int .i64 x.vo
  | 8 => .agg #[.string I, .string sp, .int .i64 x.ti, .int .i64 10000000, .int .i64 x.vo]
  | 9 => .pointer (some ⟨g, 0, none⟩)
  | _ => undef
theorem pbV_ne {gx : Nat} {I sp : ByteArray} {x : Clm} {g g' j : Nat} (h : j ≠ 9) : pbV gx I sp x g' j = pbV gx I sp x g j := by
  match j, h with
  | 0, _ => rfl | 1, _ => rfl | 2, _ => rfl | 3, _ => rfl | 4, _ => rfl | 5, _ => rfl | 6, _ => rfl | 7, _ => rfl | 8, _ => rfl | 9, h => exact absurd rfl h | _ + 10, _ => rfl
def pbD : List (Nat × Nat) := [(76, 0), (77, 1), (78, 2), (79, 3), (80, 4), (81, 5), (82, 6), (83, 7), (84, 8), (8, 9)]
theorem pbD_no : ∀ e, pbD.lookup e ≠ some 10 := fun e he => by
  have := lookup_mem he
  revert this
  simp [pbD]
def pbW (w : World) (I sp : ByteArray) (x : Clm) (L : Nat → Bool) (g : Nat) (w' : World) : Prop :=
  Below w.heap.size w w' ∧ (L 9 = true → w.heap.size ≤ g ∧ (L 10 = false → Blk w' g 44 #[.string ⟨#[]⟩, .string ⟨#[]⟩, .int .i64 0, .int .i64 0, .int .i64 0])) ∧ (L 10 = true → L 9 = true ∧ Blk w' g 44 #[.string I, .string sp, .int .i64 x.ti, .int .i64 10000000, .int .i64 x.vo])
theorem pbW.next {w w' w'' : World} {I sp : ByteArray} {x : Clm} {L : Nat → Bool} {g i : Nat} (h : pbW w I sp x L g w') (hi : i ≠ 9 ∧ i ≠ 10) (hb : Below w'.heap.size w' w'') : pbW w I sp x (fun j => j == i || L j) g w'' := by
  refine ⟨below_old h.1 hb, fun h1 => ?_, fun h1 => ?_⟩
  · have h2 := h.2.1 (by simpa [Ne.symm hi.1] using h1)
    exact ⟨h2.1, fun h3 => (h2.2 (by simpa [Ne.symm hi.2] using h3)).below hb⟩
  · have h2 := h.2.2 (by simpa [Ne.symm hi.2] using h1)
    exact ⟨by simp [h2.1], h2.2.below hb⟩
theorem pbW.made {w w' : World} {I sp : ByteArray} {x : Clm} {L : Nat → Bool} {g : Nat} (h : pbW w I sp x L g w') (h10 : L 10 = false) : pbW w I sp x (fun j => j == 9 || L j) w'.heap.size (w'.alloc (.cells #[.string ⟨#[]⟩, .string ⟨#[]⟩, .int .i64 0, .int .i64 0, .int .i64 0] 44)) :=
  ⟨h.1.alloc h.1.size _, fun _ => ⟨h.1.size, fun _ => Blk.new _ _ _⟩, fun h1 => by simp [h10] at h1⟩
theorem pbW.stored {w w' : World} {I sp : ByteArray} {x : Clm} {L : Nat → Bool} {g : Nat} (h : pbW w I sp x L g w') (h10 : L 10 = false) (h9 : L 9 = true) : pbW w I sp x (fun j => j == 10 || L j) g (((((w'.setCell ⟨g, 0, none⟩ (.string I)).setCell ⟨g, 1, none⟩ (.string sp)).setCell ⟨g, 2, none⟩ (.int .i64 x.ti)).setCell ⟨g, 3, none⟩ (.int .i64 10000000)).setCell ⟨g, 4, none⟩ (.int .i64 x.vo)) := by
  obtain ⟨hg, hb⟩ := h.2.1 h9
  have gr : w'.grownBy (((((w'.setCell ⟨g, 0, none⟩ (.string I)).setCell ⟨g, 1, none⟩ (.string sp)).setCell ⟨g, 2, none⟩ (.int .i64 x.ti)).setCell ⟨g, 3, none⟩ (.int .i64 10000000)).setCell ⟨g, 4, none⟩ (.int .i64 x.vo)) (some g) := ((((set_grown _ _ _ _).trans (set_grown _ _ _ _)).trans (set_grown _ _ _ _)).trans (set_grown _ _ _ _)).trans (set_grown _ _ _ _)
  refine ⟨h.1.grown gr h.1.size (fun k hk => by cases hk; exact hg), fun _ => ⟨hg, fun h1 => by simp at h1⟩, fun _ => ⟨by simp [h9], ?_⟩⟩
  have := (((((hb h10).set_ 0 (.string I)).set_ 1 (.string sp)).set_ 2 (.int .i64 x.ti)).set_ 3 (.int .i64 10000000)).set_ 4 (.int .i64 x.vo)
  simpa using this
theorem two_caddB {w0 w : World} {r r' : Nat} {L L' : Ls} {R : Pt.Rg} (it pa sp : ByteArray) (ti vo : Int) (hf : Hid (Fit_ ⟨it, pa, ti, vo, sp, 0⟩)) (HR : Hid (TwoM w0 w r r' L R)) (HT : Hid (TabOk w0)) (H E : Int) (HH : Hid (Cu.adH L ⟨it, pa, ti, vo, sp, 0⟩ = H)) (HE : Hid (Cu.chE L ⟨it, pa, ti, vo, sp, 0⟩ = E)) (HL : Hid (Cu.adL L ⟨it, pa, ti, vo, sp, 0⟩ = L')) :
    Calls Tryd.prog 16 #[.pointer (some ⟨r, 0, none⟩), .string it, .string pa, .string sp, .int .i64 ti, .int .i64 vo] w fun e w' => e = .returned (.tuple #[.int .u64 H, .int .i64 E]) ∧ TwoM w0 w' r r' L' R ∧ ∀ g t cs, Blk w g t cs → t ≠ 82 → t ≠ 36 → Blk w' g t cs := by
  obtain ⟨⟨v, h1⟩, vp, vu, h2⟩ := HR.out
  refine (cadd_eq it pa sp ti vo hf (Lib.hid h1) HT H E HH HE HL).mono fun e w' ⟨he, v', g1, g2, _⟩ => ⟨he, ⟨⟨v', g1⟩, vp, vu, ?_⟩, fun g t cs hb n1 n2 => hb.cng g2 ?_⟩
  · obtain ⟨q0, q1, q2⟩ := reg_cs h2 h1.c
    exact h2.cng g2 q0 q1 q2
  · rintro (e1 | e1 | e1 | e1)
    · exact blk_ne hb h1.c.blk n1 (by rw [e1])
    · exact map_blk h1.c.m1 hb (by rw [e1])
    · exact map_blk h1.c.m2 hb (by rw [e1])
    · exact row_blk h1.c.row hb n2 e1.symm
def lgV (r gx : Nat) (I P sp : ByteArray) (x : Clm) (H b : Int) (_ : Unit) : Nat → Value
  | 0 => .pointer (some ⟨r, 0, none⟩)
  | 1 => .pointer (some ⟨gx, 1, none⟩)
  | 2 => .int .u8 x.ix
  | 3 => .string I
  | 4 => .string P
  | 5 => .string sp
  | 6 => .pointer (some ⟨gx, 3, none⟩)
  | 7 => .int .i64 x.ti
  | 8 => .pointer (some ⟨gx, 4, none⟩)
  | 9 => .int .i64 x.vo
  | 10 => .tuple #[.int .u64 H, .int .i64 b]
  | 11 => .tuple #[.int .u64 H, .int .i64 b]
  | 12 => .int .u64 H
  | 13 => .int .i64 b
  | 14 => .int .u64 H
  | _ => .int .i64 b
def lgD : List (Nat × Nat) := [(116, 0), (117, 1), (118, 2), (119, 3), (120, 4), (121, 5), (122, 6), (123, 7), (124, 8), (125, 9), (126, 10), (115, 11), (127, 12), (128, 13), (12, 14), (13, 15)]
def lgW (w : World) (gx : Nat) (x : Clm) (L L2 : Ls) (R : Pt.Rg) (La : Nat → Bool) (_ : Unit) (w' : World) : Prop :=
  KBox w' gx x ∧ (La 10 = false → TwoM w w' (w.heap.size + 2) (w.heap.size + 3) L R) ∧ (La 10 = true → TwoM w w' (w.heap.size + 2) (w.heap.size + 3) L2 R)
theorem lgW.next {w : World} {gx : Nat} {x : Clm} {L L2 : Ls} {R : Pt.Rg} {La : Nat → Bool} {u : Unit} {w' w'' : World} {i : Nat} (h : lgW w gx x L L2 R La u w') (hi : i ≠ 10) (hb : Below w'.heap.size w' w'') : lgW w gx x L L2 R (fun j => j == i || La j) u w'' :=
  ⟨Blk.below h.1 hb, fun h1 => (h.2.1 (by simpa [Ne.symm hi] using h1)).below hb, fun h1 => (h.2.2 (by simpa [Ne.symm hi] using h1)).below hb⟩
set_option maxRecDepth 100000 in
set_option maxHeartbeats 64000000 in
theorem topCustody_walk (A : Option Addr) (c : Nat) (l : List Clm) (w : World) (HS : Hid (SlR w A (crowL l))) (HO : Hid (∀ x ∈ l, ClmOk x)) (hl : (l.length : Int) ≤ 9223372036854775807) (HT : Hid (TabOk w)) :
    Calls Tryd.prog 4 #[.slice A l.length c] w fun e w' => e = .returned (.bool true) ∧ Below w.heap.size w w' := by
  by_cases h40 : (40 : Int) < (l.length : Int)
  · go_enter Tryd.func4, Tryd.ntmps4
    go_wp2_with fail
    (with_reducible refine (cuAwake _ (Lib.hid (HT.out.below (Below.refl _ _)))).mono ?_)
    rintro e wz ⟨rfl, hbz⟩
    have HBZ := Lib.hid (below_old (Below.refl _ _) hbz)
    clear hbz
    go_wp2_with fail
    go_ret
    exact ⟨rfl, HBZ.out⟩
  go_enter Tryd.func4, Tryd.ntmps4
  go_wp2_with fail
  (with_reducible refine (cnew_any _).mono ?_)
  rintro e w1 ⟨rfl, hw⟩
  have HG1 := Lib.hid (RgW.new w)
  rw [← hw] at HG1
  have hw1 : w1.heap.size = w.heap.size + 3 := by rw [hw]; simp
  clear hw
  go_wp2_with fail
  (with_reducible refine (new_any _).mono ?_)
  rintro e w1' ⟨rfl, hw⟩
  have HM1 : Hid (TwoM w w1' (w.heap.size + 2) (w.heap.size + 3) [] []) := by
    have hal := (Below.refl w1.heap.size w1).alloc (Nat.le_refl _) (.cells #[.slice none 0 0, .slice none 0 0] 93)
    have h2 := Reg.new w1
    rw [← hw] at hal h2
    rw [hw1] at h2
    exact ⟨⟨_, HG1.out.below hal⟩, _, _, h2.mono (by omega)⟩
  rw [hw1]
  clear hw HG1
  go_wp2_with fail
  go_loopw [5] (fun i wr => ∃ (k : Nat) (L : Ls) (R : Pt.Rg), i = .int .i64 k ∧ k ≤ l.length ∧ Hid (TwoM w wr (w.heap.size + 2) (w.heap.size + 3) L R) ∧ Hid (Cu.Both L R k)) (fun i _ => l.length - (intOf i).toNat)
  case atStart => exact ⟨0, [], [], rfl, by omega, HM1, Cu.Both.nil⟩
  case round =>
    clear HM1 hw1
    obtain ⟨k, L, R, rfl, hk, HM, HBO⟩ := hrel
    by_cases h : k < l.length
    · obtain ⟨x, hx⟩ : ∃ x, l[k] = x := ⟨_, rfl⟩
      have HOK := Lib.hid (HO.out _ (List.getElem_mem h))
      rw [hx] at HOK
      obtain ⟨bb, off, hA, hbl, x0, x1, x2, x3, x4, x5⟩ := clm_cells (HS.out.below HM.out.bel) h hx
      subst hA
      clear hx
      have zk : (k : Int) < (l.length : Int) := by omega
      have k0 := HOK.out.k0
      have tk : x.ki.tmod 3 = x.ki % 3 := Int.tmod_eq_emod_of_nonneg k0
      cases hoak : x.oak with
      | true =>
        rw [hoak] at x5
        have hal := (Below.refl wr.heap.size wr).alloc (Nat.le_refl _) (.cells #[.int .u8 x.ki, .int .u8 x.ix, .int .u8 x.of_, .int .i64 x.ti, .int .i64 x.vo, .bool true] 27)
        have HBX : Hid (KBox (wr.alloc (.cells #[.int .u8 x.ki, .int .u8 x.ix, .int .u8 x.of_, .int .i64 x.ti, .int .i64 x.vo, .bool true] 27)) wr.heap.size x) := by
          show Blk _ _ _ _
          rw [hoak]
          exact Blk.new _ _ _
        have HM2 := Lib.hid (HM.out.below hal)
        clear hal HM hoak
        -- after region 12: the claim's box at gx in w2
        by_cases hk0 : x.ki % 3 = 0
        · have q3 : (x.ki % 3 == 0) = true := by simpa using hk0
          clear hk0
          go_wp2_with fail
          clear x0 x1 x2 x3 x4 x5
          generalize wr.alloc (.cells #[.int .u8 x.ki, .int .u8 x.ix, .int .u8 x.of_, .int .i64 x.ti, .int .i64 x.vo, .bool true] 27) = w2 at *
          generalize wr.heap.size = gx at *
          clear tk
          obtain ⟨I, hI⟩ : ∃ I, codeS 0 x.ix = I := ⟨_, rfl⟩
          have HI := Lib.hid hI
          clear hI
          have his : I.size = 8 := by rw [← HI.out]; exact codeS_size _ _
          obtain ⟨a, ha⟩ : ∃ a, Pt.adE R ⟨I, ⟨#[111, 97, 107]⟩, x.ti, 10000000, x.vo⟩ = a := ⟨_, rfl⟩
          obtain ⟨R2, hR2⟩ : ∃ R2, Pt.adR R ⟨I, ⟨#[111, 97, 107]⟩, x.ti, 10000000, x.vo⟩ = R2 := ⟨_, rfl⟩
          have HA := Lib.hid ha
          have HR2 := Lib.hid hR2
          clear ha hR2
          obtain ⟨HW0, HIC⟩ : Hid (pbW w2 I ⟨#[111, 97, 107]⟩ x (fun _ => false) 0 w2.drew) ∧ Hid (∀ W, Calls Tryd.prog 15 #[.int .u8 0, .int .u8 x.ix] W fun e w' => e = .returned (.string I) ∧ Below W.heap.size W w') := ⟨⟨(Below.refl _ _).drew, (fun h => by cases h), (fun h => by cases h)⟩, fun W => code_w 0 x.ix (by decide) (by decide) HOK.out.i0 HOK.out.i1 I HI W⟩
          refine wp_act_gen ?_
          intro aa ha
          have a6 : aa.eval (.tmp 6) = .pointer (some ⟨gx, 0, none⟩) := by rw [ha]; rfl
          have a7 : aa.eval (.tmp 7) = .string ⟨#[111, 97, 107]⟩ := by rw [ha]; rfl
          have asz : aa.tmps.size = 319 := by rw [ha]; rfl
          have HAA := Lib.hid ha
          clear ha
          refine wp_region_fr (G := Nat) (by kernel_rfl) (by kernel_rfl) pbD (by rw [asz]; kernel_rfl) (pbV gx I ⟨#[111, 97, 107]⟩ x) (pbW w2 I ⟨#[111, 97, 107]⟩ x) 0 HW0.out ?_ ?_
          · intro i o L a' w' b ho hLi hpre hF hW
            have put := fun (d i : Nat) (v : Value) (hd : pbD.lookup d = some i) (hin : d < 319) (hv : pbV gx I ⟨#[111, 97, 107]⟩ x b i = v) => hF.put (V' := pbV gx I ⟨#[111, 97, 107]⟩ x b) hd (fun e he => lookup_inj (D := pbD) (by decide) hd he) (by rw [asz]; exact hin) (fun _ _ _ => rfl) hv
            have HWW := Lib.hid hW
            have stay := fun (i : Nat) (hi : i ≠ 9 ∧ i ≠ 10) => HWW.out.next hi (Below.refl _ _)
            obtain ⟨-, x1, -, x3, x4, -⟩ := KBox.cells (Blk.below HBX.out hW.1)
            match i, ho, hLi, hpre with
            | 0, ho, hLi, hpre =>
              obtain rfl := Option.some.inj ho; clear ho
              refine wpOp_want rfl rfl ?_
              simp [go_sem, tm ((hF.old rfl).trans a6)]
              exact ⟨b, put 76 0 _ rfl (by decide) rfl, stay 0 (by decide)⟩
            | 1, ho, hLi, hpre =>
              obtain rfl := Option.some.inj ho; clear ho
              refine wpOp_want rfl rfl ?_
              simp [go_sem, tm (show a'.eval (.tmp 76) = .pointer (some ⟨gx, 1, none⟩) from hF.get rfl (hpre ⟨0, .data⟩ (by simp) rfl)), x1]
              exact ⟨b, put 77 1 _ rfl (by decide) rfl, stay 1 (by decide)⟩
            | 2, ho, hLi, hpre =>
              obtain rfl := Option.some.inj ho; clear ho
              have e1 := tm <| show a'.eval (.tmp 77) = .int .u8 x.ix from hF.get rfl (hpre ⟨1, .data⟩ (by simp) rfl)
              refine wpOp_want rfl rfl ?_
              simp [go_sem, e1]
              (with_reducible refine (HIC.out _).mono ?_)
              rintro e w'' ⟨rfl, hb⟩
              exact ⟨b, put 78 2 _ rfl (by decide) rfl, HWW.out.next (by decide) hb⟩
            | 3, ho, hLi, hpre =>
              obtain rfl := Option.some.inj ho; clear ho
              refine wpOp_want rfl rfl ?_
              simp [go_sem, tm ((hF.old rfl).trans a7)]
              exact ⟨b, put 79 3 _ rfl (by decide) rfl, stay 3 (by decide)⟩
            | 4, ho, hLi, hpre =>
              obtain rfl := Option.some.inj ho; clear ho
              refine wpOp_want rfl rfl ?_
              simp [go_sem, tm ((hF.old rfl).trans a6)]
              exact ⟨b, put 80 4 _ rfl (by decide) rfl, stay 4 (by decide)⟩
            | 5, ho, hLi, hpre =>
              obtain rfl := Option.some.inj ho; clear ho
              refine wpOp_want rfl rfl ?_
              simp [go_sem, tm (show a'.eval (.tmp 80) = .pointer (some ⟨gx, 3, none⟩) from hF.get rfl (hpre ⟨4, .data⟩ (by simp) rfl)), x3]
              exact ⟨b, put 81 5 _ rfl (by decide) rfl, stay 5 (by decide)⟩
            | 6, ho, hLi, hpre =>
              obtain rfl := Option.some.inj ho; clear ho
              refine wpOp_want rfl rfl ?_
              simp [go_sem, tm ((hF.old rfl).trans a6)]
              exact ⟨b, put 82 6 _ rfl (by decide) rfl, stay 6 (by decide)⟩
            | 7, ho, hLi, hpre =>
              obtain rfl := Option.some.inj ho; clear ho
              refine wpOp_want rfl rfl ?_
              simp [go_sem, tm (show a'.eval (.tmp 82) = .pointer (some ⟨gx, 4, none⟩) from hF.get rfl (hpre ⟨6, .data⟩ (by simp) rfl)), x4]
              exact ⟨b, put 83 7 _ rfl (by decide) rfl, stay 7 (by decide)⟩
            | 8, ho, hLi, hpre =>
              obtain rfl := Option.some.inj ho; clear ho
              refine wpOp_want rfl rfl ?_
              simp [go_sem, tm (show a'.eval (.tmp 78) = .string I from hF.get rfl (hpre ⟨2, .data⟩ (by simp) rfl)), tm (show a'.eval (.tmp 79) = .string ⟨#[111, 97, 107]⟩ from hF.get rfl (hpre ⟨3, .data⟩ (by simp) rfl)), tm (show a'.eval (.tmp 81) = .int .i64 x.ti from hF.get rfl (hpre ⟨5, .data⟩ (by simp) rfl)), tm (show a'.eval (.tmp 83) = .int .i64 x.vo from hF.get rfl (hpre ⟨7, .data⟩ (by simp) rfl))]
              exact ⟨b, put 84 8 _ rfl (by decide) rfl, stay 8 (by decide)⟩
            | 9, ho, hLi, hpre =>
              obtain rfl := Option.some.inj ho; clear ho
              have H10 : Hid (L 10 = false) := by
                show _ = _
                cases h10 : L 10 with
                | false => rfl
                | true => have := (HWW.out.2.2 h10).1; rw [hLi] at this; cases this
              refine wpOp_want rfl rfl ?_
              simp [go_sem]
              exact ⟨w'.heap.size, hF.put (V' := pbV gx I ⟨#[111, 97, 107]⟩ x w'.heap.size) (d := 8) (i := 9) rfl (fun e he => lookup_inj (D := pbD) (by decide) rfl he) (by rw [asz]; decide) (fun j hj _ => pbV_ne hj) rfl, HWW.out.made H10.out⟩
            | 10, ho, hLi, hpre =>
              obtain rfl := Option.some.inj ho; clear ho
              have e0 := tm <| show a'.eval (.tmp 8) = .pointer (some ⟨b, 0, none⟩) from hF.get rfl (hpre ⟨9, .data⟩ (by simp) rfl)
              have e1 := tm <| show a'.eval (.tmp 84) = .agg #[.string I, .string ⟨#[111, 97, 107]⟩, .int .i64 x.ti, .int .i64 10000000, .int .i64 x.vo] from hF.get rfl (hpre ⟨8, .data⟩ (by simp) rfl)
              have B2 := (hW.2.1 (hpre ⟨9, .data⟩ (by simp) rfl)).2 hLi
              have d0 : w'.cell? ⟨b, 0, none⟩ = some (.string ⟨#[]⟩) := B2.cell 0
              have d1 : w'.cell? ⟨b, 1, none⟩ = some (.string ⟨#[]⟩) := B2.cell 1
              have d2 : w'.cell? ⟨b, 2, none⟩ = some (.int .i64 0) := B2.cell 2
              have d3 : w'.cell? ⟨b, 3, none⟩ = some (.int .i64 0) := B2.cell 3
              have d4 : w'.cell? ⟨b, 4, none⟩ = some (.int .i64 0) := B2.cell 4
              have fz := B2.frozen
              refine wpOp_want rfl rfl ?_
              simp [go_sem, e0, e1, d0, d1, d2, d3, d4, fz]
              exact ⟨b, hF.none_ (v := undef) pbD_no (fun _ _ => rfl), HWW.out.stored hLi (hpre ⟨9, .data⟩ (by simp) rfl)⟩
            | i + 11, ho, hLi, hpre => exact absurd ho (by simp)
          intro L' gp w4 hall hW
          have HPB : Hid (PBox w4 gp ⟨I, ⟨#[111, 97, 107]⟩, x.ti, 10000000, x.vo⟩) := (hW.2.2 (hall 10 (by decide))).2
          have HM4 := Lib.hid (HM2.out.below hW.1)
          have HBX4 : Hid (KBox w4 gx x) := Blk.below HBX.out hW.1
          clear hW hall HM2 HBX HW0 HIC
          rw [HAA.out]
          clear HAA a6 a7 asz
          simp only [pbD, List.foldl, pbV, Act.put, List.setIfInBounds_toArray, List.set_cons_succ, List.set_cons_zero]
          obtain ⟨r0, r1, r2, r3, r4⟩ := HPB.out.cells
          simp only at r0 r1 r2 r3 r4
          go_wp2_with fail
          (with_reducible refine (two_padd ⟨I, ⟨#[111, 97, 107]⟩, x.ti, 10000000, x.vo⟩ a HA HR2 (by simp only; omega) (by show (((⟨#[111, 97, 107]⟩ : ByteArray).size : Nat) : Int) ≤ 9223372036854775807; decide) HM4 (Lib.hid HBO.out.ok)).mono ?_)
          rintro e' w5 ⟨rfl, hm5, hg5⟩
          have HM5 := Lib.hid hm5
          have HPB5 : Hid (PBox w5 gp ⟨I, ⟨#[111, 97, 107]⟩, x.ti, 10000000, x.vo⟩) := two_kept HM4.out HPB.out (by decide) hg5
          have HBX5 : Hid (KBox w5 gx x) := two_kept HM4.out HBX4.out (by decide) hg5
          clear hm5 hg5 r0 r1 r2 r3 r4 HM4 HPB HBX4
          by_cases hz : a = 0
          · subst hz
            have hboth := HBO.out.permit (by omega) HA.out
            have HE := Lib.hid hboth.1
            have HB2 := Lib.hid hboth.2
            rw [HR2.out] at HB2
            clear hboth
            obtain ⟨L2, hL2⟩ : ∃ L2, Cu.adL L ⟨I, ⟨#[]⟩, x.ti, x.vo, ⟨#[111, 97, 107]⟩, 0⟩ = L2 := ⟨_, rfl⟩
            have HL2 := Lib.hid hL2
            clear hL2
            have HB3 : Hid (Cu.Both L2 R2 (k + 1)) := by show Cu.Both _ _ _; rw [← HL2.out]; exact HB2.out
            have HE2 : Hid (Cu.chE L ⟨I, ⟨#[]⟩, x.ti, x.vo, ⟨#[111, 97, 107]⟩, 0⟩ = 0) := HE.out
            have HF : Hid (Fit_ ⟨I, ⟨#[]⟩, x.ti, x.vo, ⟨#[111, 97, 107]⟩, 0⟩) := fit_small ⟨by omega, by decide, by decide, HOK.out.t0, HOK.out.t1, HOK.out.v0, HOK.out.v1⟩
            obtain ⟨r0, -, -, -, -⟩ := HPB5.out.cells
            obtain ⟨-, -, -, x3, x4, -⟩ := HBX5.out.cells
            simp only at r0
            clear HE HB2
            go_wp2_with fail
            (with_reducible refine (two_cadd I ⟨#[]⟩ ⟨#[111, 97, 107]⟩ x.ti x.vo HF HM5 HT _ 0 (Lib.hid rfl) HE2 HL2).mono ?_)
            rintro e' w6 ⟨rfl, hm6⟩
            have HM6 := Lib.hid hm6
            clear hm6 r0 x3 x4
            go_wp2_with fail
            go_roundw
            case rel => exact ⟨k + 1, L2, R2, by go_num, by omega, HM6, HB3⟩
            case measure => simp [intOf]; omega
          · have qz : (a == 0) = false := by simpa using hz
            have HB3 : Hid (Cu.Both L R2 (k + 1)) := by
              have e1 := Pt.adR_no HA.out hz
              rw [HR2.out] at e1
              show Cu.Both _ _ _
              rw [e1]
              exact HBO.out.mono (by omega)
            clear hz
            go_wp2_with fail
            go_roundw
            case rel => exact ⟨k + 1, L, R2, by go_num, by omega, HM5, HB3⟩
            case measure => simp [intOf]; omega
        · have q3 : (x.ki % 3 == 0) = false := by simpa using hk0
          by_cases hk1 : x.ki % 3 = 1
          · have q4 : (x.ki % 3 == 1) = true := by simpa using hk1
            clear hk0 hk1
            go_wp2_with fail
            clear x0 x1 x2 x3 x4 x5
            generalize wr.alloc (.cells #[.int .u8 x.ki, .int .u8 x.ix, .int .u8 x.of_, .int .i64 x.ti, .int .i64 x.vo, .bool true] 27) = w2 at *
            generalize wr.heap.size = gx at *
            clear tk
            obtain ⟨P, hP⟩ : ∃ P, codeS 0 x.of_ = P := ⟨_, rfl⟩
            have HP := Lib.hid hP
            clear hP
            have hps : P.size = 8 := by rw [← HP.out]; exact codeS_size _ _
            obtain ⟨-, -, x2, -, -, -⟩ := HBX.out.cells
            go_wp2_with fail
            (with_reducible refine (code_w 0 x.of_ (by decide) (by decide) HOK.out.o0 HOK.out.o1 P HP _).mono ?_)
            rintro e' w3 ⟨rfl, hb⟩
            have HM3 := Lib.hid (HM2.out.below hb)
            have HBX3 : Hid (KBox w3 gx x) := Blk.below HBX.out hb
            clear hb x2 HM2 HBX
            obtain ⟨a, ha⟩ : ∃ a, Pt.flE R P ⟨#[111, 97, 107]⟩ x.ti = a := ⟨_, rfl⟩
            have HA := Lib.hid ha
            clear ha
            obtain ⟨-, -, -, x3, -, -⟩ := HBX3.out.cells
            go_wp2_with fail
            (with_reducible refine (two_fell P ⟨#[111, 97, 107]⟩ x.ti a HA HM3 (Lib.hid HBO.out.ok)).mono ?_)
            rintro e' w4 ⟨rfl, hb⟩
            have HM4 := Lib.hid (HM3.out.below hb)
            have HBX4 : Hid (KBox w4 gx x) := Blk.below HBX3.out hb
            clear hb x3 HM3 HBX3
            by_cases hz : a = 0
            · subst hz
              obtain ⟨I, hI⟩ : ∃ I, codeS 1 x.ix = I := ⟨_, rfl⟩
              have HI := Lib.hid hI
              clear hI
              have his : I.size = 8 := by rw [← HI.out]; exact codeS_size _ _
              have HPE : Hid (P ≠ ByteArray.empty) := by show P ≠ _; rw [← HP.out]; exact code_ne _ _
              have HPK : Hid (spK P = 80) := by show _ = _; rw [← HP.out]; exact (codeS_p (by decide) _).2
              obtain ⟨L2, hL2⟩ : ∃ L2, Cu.adL L ⟨I, P, x.ti, x.vo, ⟨#[111, 97, 107]⟩, 0⟩ = L2 := ⟨_, rfl⟩
              obtain ⟨b, hb⟩ : ∃ b, Cu.chE L ⟨I, P, x.ti, x.vo, ⟨#[111, 97, 107]⟩, 0⟩ = b := ⟨_, rfl⟩
              have HL2 := Lib.hid hL2
              have HE := Lib.hid hb
              clear hL2 hb
              have HF : Hid (Fit_ ⟨I, P, x.ti, x.vo, ⟨#[111, 97, 107]⟩, 0⟩) := fit_small ⟨by omega, by omega, by decide, HOK.out.t0, HOK.out.t1, HOK.out.v0, HOK.out.v1⟩
              obtain ⟨H, hH⟩ : ∃ H, Cu.adH L ⟨I, P, x.ti, x.vo, ⟨#[111, 97, 107]⟩, 0⟩ = H := ⟨_, rfl⟩
              have HHH := Lib.hid hH
              clear hH
              have HW0 : Hid (lgW w gx x L L2 R (fun _ => false) () w4.drew) := ⟨Blk.below HBX4.out (Below.refl _ _).drew, (fun _ => HM4.out.below (Below.refl _ _).drew), (fun h => by cases h)⟩
              have HIC : Hid (∀ W, Calls Tryd.prog 15 #[.int .u8 1, .int .u8 x.ix] W fun e w' => e = .returned (.string I) ∧ Below W.heap.size W w') := fun W => code_w 1 x.ix (by decide) (by decide) HOK.out.i0 HOK.out.i1 I HI W
              go_wp2_with fail
              refine wp_act_gen ?_
              intro aa ha
              have a3 : aa.eval (.tmp 3) = .pointer (some ⟨w.heap.size + 2, 0, none⟩) := by rw [ha]; rfl
              have a6 : aa.eval (.tmp 6) = .pointer (some ⟨gx, 0, none⟩) := by rw [ha]; rfl
              have a7 : aa.eval (.tmp 7) = .string ⟨#[111, 97, 107]⟩ := by rw [ha]; rfl
              have a11 : aa.eval (.tmp 11) = .string P := by rw [ha]; rfl
              have asz : aa.tmps.size = 319 := by rw [ha]; rfl
              have HAA := Lib.hid ha
              clear ha
              refine wp_region_fr (G := Unit) (by kernel_rfl) (by kernel_rfl) lgD (by rw [asz]; kernel_rfl) (lgV (w.heap.size + 2) gx I P ⟨#[111, 97, 107]⟩ x H b) (lgW w gx x L L2 R) () HW0.out ?_ ?_
              · intro i o La a' w' uu ho hLi hpre hF hW
                have put := fun (d i : Nat) (v : Value) (hd : lgD.lookup d = some i) (hin : d < 319) (hv : lgV (w.heap.size + 2) gx I P ⟨#[111, 97, 107]⟩ x H b uu i = v) => hF.put (V' := lgV (w.heap.size + 2) gx I P ⟨#[111, 97, 107]⟩ x H b uu) hd (fun e he => lookup_inj (D := lgD) (by decide) hd he) (by rw [asz]; exact hin) (fun _ _ _ => rfl) hv
                have HWW := Lib.hid hW
                have stay := fun (i : Nat) (hi : i ≠ 10) => HWW.out.next hi (Below.refl _ _)
                obtain ⟨-, x1, -, x3, x4, -⟩ := KBox.cells hW.1
                match i, ho, hLi, hpre with
                | 0, ho, hLi, hpre =>
                  obtain rfl := Option.some.inj ho; clear ho
                  refine wpOp_want rfl rfl ?_
                  simp [go_sem, tm ((hF.old rfl).trans a3)]
                  exact ⟨uu, put 116 0 _ rfl (by decide) rfl, stay 0 (by decide)⟩
                | 1, ho, hLi, hpre =>
                  obtain rfl := Option.some.inj ho; clear ho
                  refine wpOp_want rfl rfl ?_
                  simp [go_sem, tm ((hF.old rfl).trans a6)]
                  exact ⟨uu, put 117 1 _ rfl (by decide) rfl, stay 1 (by decide)⟩
                | 2, ho, hLi, hpre =>
                  obtain rfl := Option.some.inj ho; clear ho
                  refine wpOp_want rfl rfl ?_
                  simp [go_sem, tm (show a'.eval (.tmp 117) = .pointer (some ⟨gx, 1, none⟩) from hF.get rfl (hpre ⟨1, .data⟩ (by simp) rfl)), x1]
                  exact ⟨uu, put 118 2 _ rfl (by decide) rfl, stay 2 (by decide)⟩
                | 3, ho, hLi, hpre =>
                  obtain rfl := Option.some.inj ho; clear ho
                  have e1 := tm <| show a'.eval (.tmp 118) = .int .u8 x.ix from hF.get rfl (hpre ⟨2, .data⟩ (by simp) rfl)
                  refine wpOp_want rfl rfl ?_
                  simp [go_sem, e1]
                  (with_reducible refine (HIC.out _).mono ?_)
                  rintro e w'' ⟨rfl, hb⟩
                  exact ⟨uu, put 119 3 _ rfl (by decide) rfl, HWW.out.next (by decide) hb⟩
                | 4, ho, hLi, hpre =>
                  obtain rfl := Option.some.inj ho; clear ho
                  refine wpOp_want rfl rfl ?_
                  simp [go_sem, tm ((hF.old rfl).trans a11)]
                  exact ⟨uu, put 120 4 _ rfl (by decide) rfl, stay 4 (by decide)⟩
                | 5, ho, hLi, hpre =>
                  obtain rfl := Option.some.inj ho; clear ho
                  refine wpOp_want rfl rfl ?_
                  simp [go_sem, tm ((hF.old rfl).trans a7)]
                  exact ⟨uu, put 121 5 _ rfl (by decide) rfl, stay 5 (by decide)⟩
                | 6, ho, hLi, hpre =>
                  obtain rfl := Option.some.inj ho; clear ho
                  refine wpOp_want rfl rfl ?_
                  simp [go_sem, tm ((hF.old rfl).trans a6)]
                  exact ⟨uu, put 122 6 _ rfl (by decide) rfl, stay 6 (by decide)⟩
                | 7, ho, hLi, hpre =>
                  obtain rfl := Option.some.inj ho; clear ho
                  refine wpOp_want rfl rfl ?_
                  simp [go_sem, tm (show a'.eval (.tmp 122) = .pointer (some ⟨gx, 3, none⟩) from hF.get rfl (hpre ⟨6, .data⟩ (by simp) rfl)), x3]
                  exact ⟨uu, put 123 7 _ rfl (by decide) rfl, stay 7 (by decide)⟩
                | 8, ho, hLi, hpre =>
                  obtain rfl := Option.some.inj ho; clear ho
                  refine wpOp_want rfl rfl ?_
                  simp [go_sem, tm ((hF.old rfl).trans a6)]
                  exact ⟨uu, put 124 8 _ rfl (by decide) rfl, stay 8 (by decide)⟩
                | 9, ho, hLi, hpre =>
                  obtain rfl := Option.some.inj ho; clear ho
                  refine wpOp_want rfl rfl ?_
                  simp [go_sem, tm (show a'.eval (.tmp 124) = .pointer (some ⟨gx, 4, none⟩) from hF.get rfl (hpre ⟨8, .data⟩ (by simp) rfl)), x4]
                  exact ⟨uu, put 125 9 _ rfl (by decide) rfl, stay 9 (by decide)⟩
                | 10, ho, hLi, hpre =>
                  obtain rfl := Option.some.inj ho; clear ho
                  have e1 := tm <| show a'.eval (.tmp 116) = .pointer (some ⟨w.heap.size + 2, 0, none⟩) from hF.get rfl (hpre ⟨0, .data⟩ (by simp) rfl)
                  have e2 := tm <| show a'.eval (.tmp 119) = .string I from hF.get rfl (hpre ⟨3, .data⟩ (by simp) rfl)
                  have e3 := tm <| show a'.eval (.tmp 120) = .string P from hF.get rfl (hpre ⟨4, .data⟩ (by simp) rfl)
                  have e4 := tm <| show a'.eval (.tmp 121) = .string ⟨#[111, 97, 107]⟩ from hF.get rfl (hpre ⟨5, .data⟩ (by simp) rfl)
                  have e5 := tm <| show a'.eval (.tmp 123) = .int .i64 x.ti from hF.get rfl (hpre ⟨7, .data⟩ (by simp) rfl)
                  have e6 := tm <| show a'.eval (.tmp 125) = .int .i64 x.vo from hF.get rfl (hpre ⟨9, .data⟩ (by simp) rfl)
                  have HMW : Hid (TwoM w w' (w.heap.size + 2) (w.heap.size + 3) L R) := hW.2.1 hLi
                  refine wpOp_want rfl rfl ?_
                  simp [go_sem, e1, e2, e3, e4, e5, e6]
                  (with_reducible refine (two_caddB I P ⟨#[111, 97, 107]⟩ x.ti x.vo HF HMW HT H b HHH HE HL2).mono ?_)
                  rintro e w'' ⟨rfl, hm6, hkb⟩
                  exact ⟨uu, put 126 10 _ rfl (by decide) rfl, hkb _ _ _ HWW.out.1 (by decide) (by decide), (fun h => by simp at h), fun _ => hm6⟩
                | 11, ho, hLi, hpre =>
                  obtain rfl := Option.some.inj ho; clear ho
                  refine wpOp_want rfl rfl ?_
                  simp [go_sem, tm (show a'.eval (.tmp 126) = .tuple #[.int .u64 H, .int .i64 b] from hF.get rfl (hpre ⟨10, .data⟩ (by simp) rfl))]
                  exact ⟨uu, put 115 11 _ rfl (by decide) rfl, stay 11 (by decide)⟩
                | 12, ho, hLi, hpre =>
                  obtain rfl := Option.some.inj ho; clear ho
                  refine wpOp_want rfl rfl ?_
                  simp [go_sem, tm (show a'.eval (.tmp 115) = .tuple #[.int .u64 H, .int .i64 b] from hF.get rfl (hpre ⟨11, .data⟩ (by simp) rfl))]
                  exact ⟨uu, put 127 12 _ rfl (by decide) rfl, stay 12 (by decide)⟩
                | 13, ho, hLi, hpre =>
                  obtain rfl := Option.some.inj ho; clear ho
                  refine wpOp_want rfl rfl ?_
                  simp [go_sem, tm (show a'.eval (.tmp 115) = .tuple #[.int .u64 H, .int .i64 b] from hF.get rfl (hpre ⟨11, .data⟩ (by simp) rfl))]
                  exact ⟨uu, put 128 13 _ rfl (by decide) rfl, stay 13 (by decide)⟩
                | 14, ho, hLi, hpre =>
                  obtain rfl := Option.some.inj ho; clear ho
                  refine wpOp_want rfl rfl ?_
                  simp [go_sem, tm (show a'.eval (.tmp 127) = .int .u64 H from hF.get rfl (hpre ⟨12, .data⟩ (by simp) rfl))]
                  exact ⟨uu, put 12 14 _ rfl (by decide) rfl, stay 14 (by decide)⟩
                | 15, ho, hLi, hpre =>
                  obtain rfl := Option.some.inj ho; clear ho
                  refine wpOp_want rfl rfl ?_
                  simp [go_sem, tm (show a'.eval (.tmp 128) = .int .i64 b from hF.get rfl (hpre ⟨13, .data⟩ (by simp) rfl))]
                  exact ⟨uu, put 13 15 _ rfl (by decide) rfl, stay 15 (by decide)⟩
                | i + 16, ho, hLi, hpre => exact absurd ho (by simp)
              intro La uu w6 hall hW
              have HM6 := Lib.hid (hW.2.2 (hall 10 (by decide)))
              have HBX6 : Hid (KBox w6 gx x) := hW.1
              clear hW hall HM4 HBX4 HW0 HIC
              rw [HAA.out]
              clear HAA a3 a6 a7 a11 asz
              simp only [lgD, List.foldl, lgV, Act.put, List.setIfInBounds_toArray, List.set_cons_succ, List.set_cons_zero]
              obtain ⟨-, -, -, -, x4, -⟩ := HBX6.out.cells
              by_cases hz : b = 0
              · subst hz
                by_cases hv : 0 < x.vo
                · have hlog := HBO.out.log ⟨I, P, x.ti, x.vo, ⟨#[111, 97, 107]⟩, 0⟩ HPE.out HPK.out HE.out hv
                  rw [HL2.out] at hlog
                  have HU := Lib.hid hlog.1
                  have HB3 := Lib.hid hlog.2
                  clear hlog
                  simp only at HU HB3
                  obtain ⟨R2, hR2⟩ : ∃ R2, Pt.usR R P x.vo = R2 := ⟨_, rfl⟩
                  have HR2 := Lib.hid hR2
                  rw [hR2] at HB3
                  clear hR2
                  go_wp2_with fail
                  (with_reducible refine (two_use P x.vo 0 HU HR2 HM6 (Lib.hid HBO.out.ok)).mono ?_)
                  rintro e' w7 ⟨rfl, hm7⟩
                  have HM7 := Lib.hid hm7
                  clear hm7 x4
                  go_wp2_with fail
                  go_roundw
                  case rel => exact ⟨k + 1, L2, R2, by go_num, by omega, HM7, HB3⟩
                  case measure => simp [intOf]; omega
                · have HB3 : Hid (Cu.Both L2 R (k + 1)) := by
                    show Cu.Both _ _ _
                    rw [← HL2.out]
                    exact HBO.out.none_ _ HPE.out (fun hc => by have := (Cu.can_of hc).vo; have h0 := this.1; simp only at h0 ⊢; omega)
                  go_wp2_with fail
                  go_roundw
                  case rel => exact ⟨k + 1, L2, R, by go_num, by omega, HM6, HB3⟩
                  case measure => simp [intOf]; omega
              · have qb : (b == 0) = false := by simpa using hz
                have HB3 : Hid (Cu.Both L2 R (k + 1)) := by
                  show Cu.Both _ _ _
                  rw [← HL2.out]
                  exact HBO.out.none_ _ HPE.out (fun hc => absurd (HE.out.symm.trans hc) hz)
                clear hz
                go_wp2_with fail
                go_roundw
                case rel => exact ⟨k + 1, L2, R, by go_num, by omega, HM6, HB3⟩
                case measure => simp [intOf]; omega
            · have qz : (a == 0) = false := by simpa using hz
              have qz2 : (a != 0) = true := by simpa using hz
              have HB3 := Lib.hid (HBO.out.mono (Nat.le_succ k))
              clear hz
              go_wp2_with fail
              go_roundw
              case rel => exact ⟨k + 1, L, R, by go_num, by omega, HM4, HB3⟩
              case measure => simp [intOf]; omega
          · have q4 : (x.ki % 3 == 1) = false := by simpa using hk1
            clear hk0 hk1
            go_wp2_with fail
            clear x0 x1 x2 x3 x4 x5
            generalize wr.alloc (.cells #[.int .u8 x.ki, .int .u8 x.ix, .int .u8 x.of_, .int .i64 x.ti, .int .i64 x.vo, .bool true] 27) = w2 at *
            generalize wr.heap.size = gx at *
            clear tk
            obtain ⟨I, hI⟩ : ∃ I, codeS 2 x.ix = I := ⟨_, rfl⟩
            have HI := Lib.hid hI
            have o0 := HOK.out.o0
            have o1 := HOK.out.o1
            have td : x.of_.tdiv 4 = x.of_ / 4 := Int.tdiv_eq_ediv_of_nonneg o0
            obtain ⟨d, hd⟩ : ∃ d, x.of_ / 4 % 2 = d := ⟨_, rfl⟩
            have hd0 : 0 ≤ d ∧ d ≤ 1 := by omega
            have tm : (x.of_ / 4).tmod 2 = d := by rw [Int.tmod_eq_emod_of_nonneg (by omega)]; exact hd
            have wd : IntKind.u8.wrap (1 + d) = 1 + d := by simp only [IntKind.wrap_u8]; omega
            obtain ⟨P, hP⟩ : ∃ P, codeS (1 + d) x.of_ = P := ⟨_, rfl⟩
            have HP := Lib.hid hP
            clear hI hP hd
            have his : I.size = 8 := by rw [← HI.out]; exact codeS_size _ _
            have hps : P.size = 8 := by rw [← HP.out]; exact codeS_size _ _
            have HPE : Hid (spK P ≠ 80 ∧ P ≠ ByteArray.empty) := by show _ ∧ _; rw [← HP.out]; exact codeS_n (by omega) _
            obtain ⟨L2, hL2⟩ : ∃ L2, Cu.adL L ⟨I, P, x.ti, x.vo, ⟨#[111, 97, 107]⟩, 0⟩ = L2 := ⟨_, rfl⟩
            have HL2 := Lib.hid hL2
            clear hL2
            have HF : Hid (Fit_ ⟨I, P, x.ti, x.vo, ⟨#[111, 97, 107]⟩, 0⟩) := fit_small ⟨by omega, by omega, by decide, HOK.out.t0, HOK.out.t1, HOK.out.v0, HOK.out.v1⟩
            have HB3 : Hid (Cu.Both L2 R (k + 1)) := by
              show Cu.Both _ _ _
              rw [← HL2.out]
              exact HBO.out.other _ HPE.out.2 HPE.out.1
            have y0 := fun u => KBox.cells (Blk.below HBX.out (wx_below w2 u))
            refine wp_region_grows_tail 17 (by kernel_rfl) (by kernel_rfl) ?_
            simp only [List.take_succ_cons, List.take_zero, List.drop_succ_cons, List.drop_zero]
            repeat (go_big_quiet_step ((go_at_call 15; (first | (with_reducible exact calls_grows (code_w 2 x.ix (by decide) (by decide) HOK.out.i0 HOK.out.i1 I HI _)) | (with_reducible exact calls_grows (code_w (1 + d) x.of_ (by omega) (by omega) o0 o1 P HP _))))))
            refine wpQuiet_nil ?_
            rintro _ ⟨u, rfl⟩
            have HM3 := Lib.hid (HM2.out.below (wx_below w2 u))
            clear y0 HM2 HBX
            generalize wx w2 u = w3 at *
            go_wp2_with fail
            (with_reducible refine (two_cadd I P ⟨#[111, 97, 107]⟩ x.ti x.vo HF HM3 HT _ _ (Lib.hid rfl) (Lib.hid rfl) HL2).mono ?_)
            rintro e' w4 ⟨rfl, hm4⟩
            have HM4 := Lib.hid hm4
            clear hm4
            go_wp2_with fail
            go_roundw
            case rel => exact ⟨k + 1, L2, R, by go_num, by omega, HM4, HB3⟩
            case measure => simp [intOf]; omega
      | false =>
        rw [hoak] at x5
        have hal := (Below.refl wr.heap.size wr).alloc (Nat.le_refl _) (.cells #[.int .u8 x.ki, .int .u8 x.ix, .int .u8 x.of_, .int .i64 x.ti, .int .i64 x.vo, .bool false] 27)
        have HBX : Hid (KBox (wr.alloc (.cells #[.int .u8 x.ki, .int .u8 x.ix, .int .u8 x.of_, .int .i64 x.ti, .int .i64 x.vo, .bool false] 27)) wr.heap.size x) := by
          show Blk _ _ _ _
          rw [hoak]
          exact Blk.new _ _ _
        have HM2 := Lib.hid (HM.out.below hal)
        clear hal HM hoak
        -- after region 12: the claim's box at gx in w2
        by_cases hk0 : x.ki % 3 = 0
        · have q3 : (x.ki % 3 == 0) = true := by simpa using hk0
          clear hk0
          go_wp2_with fail
          clear x0 x1 x2 x3 x4 x5
          generalize wr.alloc (.cells #[.int .u8 x.ki, .int .u8 x.ix, .int .u8 x.of_, .int .i64 x.ti, .int .i64 x.vo, .bool false] 27) = w2 at *
          generalize wr.heap.size = gx at *
          clear tk
          obtain ⟨I, hI⟩ : ∃ I, codeS 0 x.ix = I := ⟨_, rfl⟩
          have HI := Lib.hid hI
          clear hI
          have his : I.size = 8 := by rw [← HI.out]; exact codeS_size _ _
          obtain ⟨a, ha⟩ : ∃ a, Pt.adE R ⟨I, ⟨#[112, 105, 110, 101]⟩, x.ti, 10000000, x.vo⟩ = a := ⟨_, rfl⟩
          obtain ⟨R2, hR2⟩ : ∃ R2, Pt.adR R ⟨I, ⟨#[112, 105, 110, 101]⟩, x.ti, 10000000, x.vo⟩ = R2 := ⟨_, rfl⟩
          have HA := Lib.hid ha
          have HR2 := Lib.hid hR2
          clear ha hR2
          obtain ⟨HW0, HIC⟩ : Hid (pbW w2 I ⟨#[112, 105, 110, 101]⟩ x (fun _ => false) 0 w2.drew) ∧ Hid (∀ W, Calls Tryd.prog 15 #[.int .u8 0, .int .u8 x.ix] W fun e w' => e = .returned (.string I) ∧ Below W.heap.size W w') := ⟨⟨(Below.refl _ _).drew, (fun h => by cases h), (fun h => by cases h)⟩, fun W => code_w 0 x.ix (by decide) (by decide) HOK.out.i0 HOK.out.i1 I HI W⟩
          refine wp_act_gen ?_
          intro aa ha
          have a6 : aa.eval (.tmp 6) = .pointer (some ⟨gx, 0, none⟩) := by rw [ha]; rfl
          have a7 : aa.eval (.tmp 7) = .string ⟨#[112, 105, 110, 101]⟩ := by rw [ha]; rfl
          have asz : aa.tmps.size = 319 := by rw [ha]; rfl
          have HAA := Lib.hid ha
          clear ha
          refine wp_region_fr (G := Nat) (by kernel_rfl) (by kernel_rfl) pbD (by rw [asz]; kernel_rfl) (pbV gx I ⟨#[112, 105, 110, 101]⟩ x) (pbW w2 I ⟨#[112, 105, 110, 101]⟩ x) 0 HW0.out ?_ ?_
          · intro i o L a' w' b ho hLi hpre hF hW
            have put := fun (d i : Nat) (v : Value) (hd : pbD.lookup d = some i) (hin : d < 319) (hv : pbV gx I ⟨#[112, 105, 110, 101]⟩ x b i = v) => hF.put (V' := pbV gx I ⟨#[112, 105, 110, 101]⟩ x b) hd (fun e he => lookup_inj (D := pbD) (by decide) hd he) (by rw [asz]; exact hin) (fun _ _ _ => rfl) hv
            have HWW := Lib.hid hW
            have stay := fun (i : Nat) (hi : i ≠ 9 ∧ i ≠ 10) => HWW.out.next hi (Below.refl _ _)
            obtain ⟨-, x1, -, x3, x4, -⟩ := KBox.cells (Blk.below HBX.out hW.1)
            match i, ho, hLi, hpre with
            | 0, ho, hLi, hpre =>
              obtain rfl := Option.some.inj ho; clear ho
              refine wpOp_want rfl rfl ?_
              simp [go_sem, tm ((hF.old rfl).trans a6)]
              exact ⟨b, put 76 0 _ rfl (by decide) rfl, stay 0 (by decide)⟩
            | 1, ho, hLi, hpre =>
              obtain rfl := Option.some.inj ho; clear ho
              refine wpOp_want rfl rfl ?_
              simp [go_sem, tm (show a'.eval (.tmp 76) = .pointer (some ⟨gx, 1, none⟩) from hF.get rfl (hpre ⟨0, .data⟩ (by simp) rfl)), x1]
              exact ⟨b, put 77 1 _ rfl (by decide) rfl, stay 1 (by decide)⟩
            | 2, ho, hLi, hpre =>
              obtain rfl := Option.some.inj ho; clear ho
              have e1 := tm <| show a'.eval (.tmp 77) = .int .u8 x.ix from hF.get rfl (hpre ⟨1, .data⟩ (by simp) rfl)
              refine wpOp_want rfl rfl ?_
              simp [go_sem, e1]
              (with_reducible refine (HIC.out _).mono ?_)
              rintro e w'' ⟨rfl, hb⟩
              exact ⟨b, put 78 2 _ rfl (by decide) rfl, HWW.out.next (by decide) hb⟩
            | 3, ho, hLi, hpre =>
              obtain rfl := Option.some.inj ho; clear ho
              refine wpOp_want rfl rfl ?_
              simp [go_sem, tm ((hF.old rfl).trans a7)]
              exact ⟨b, put 79 3 _ rfl (by decide) rfl, stay 3 (by decide)⟩
            | 4, ho, hLi, hpre =>
              obtain rfl := Option.some.inj ho; clear ho
              refine wpOp_want rfl rfl ?_
              simp [go_sem, tm ((hF.old rfl).trans a6)]
              exact ⟨b, put 80 4 _ rfl (by decide) rfl, stay 4 (by decide)⟩
            | 5, ho, hLi, hpre =>
              obtain rfl := Option.some.inj ho; clear ho
              refine wpOp_want rfl rfl ?_
              simp [go_sem, tm (show a'.eval (.tmp 80) = .pointer (some ⟨gx, 3, none⟩) from hF.get rfl (hpre ⟨4, .data⟩ (by simp) rfl)), x3]
              exact ⟨b, put 81 5 _ rfl (by decide) rfl, stay 5 (by decide)⟩
            | 6, ho, hLi, hpre =>
              obtain rfl := Option.some.inj ho; clear ho
              refine wpOp_want rfl rfl ?_
              simp [go_sem, tm ((hF.old rfl).trans a6)]
              exact ⟨b, put 82 6 _ rfl (by decide) rfl, stay 6 (by decide)⟩
            | 7, ho, hLi, hpre =>
              obtain rfl := Option.some.inj ho; clear ho
              refine wpOp_want rfl rfl ?_
              simp [go_sem, tm (show a'.eval (.tmp 82) = .pointer (some ⟨gx, 4, none⟩) from hF.get rfl (hpre ⟨6, .data⟩ (by simp) rfl)), x4]
              exact ⟨b, put 83 7 _ rfl (by decide) rfl, stay 7 (by decide)⟩
            | 8, ho, hLi, hpre =>
              obtain rfl := Option.some.inj ho; clear ho
              refine wpOp_want rfl rfl ?_
              simp [go_sem, tm (show a'.eval (.tmp 78) = .string I from hF.get rfl (hpre ⟨2, .data⟩ (by simp) rfl)), tm (show a'.eval (.tmp 79) = .string ⟨#[112, 105, 110, 101]⟩ from hF.get rfl (hpre ⟨3, .data⟩ (by simp) rfl)), tm (show a'.eval (.tmp 81) = .int .i64 x.ti from hF.get rfl (hpre ⟨5, .data⟩ (by simp) rfl)), tm (show a'.eval (.tmp 83) = .int .i64 x.vo from hF.get rfl (hpre ⟨7, .data⟩ (by simp) rfl))]
              exact ⟨b, put 84 8 _ rfl (by decide) rfl, stay 8 (by decide)⟩
            | 9, ho, hLi, hpre =>
              obtain rfl := Option.some.inj ho; clear ho
              have H10 : Hid (L 10 = false) := by
                show _ = _
                cases h10 : L 10 with
                | false => rfl
                | true => have := (HWW.out.2.2 h10).1; rw [hLi] at this; cases this
              refine wpOp_want rfl rfl ?_
              simp [go_sem]
              exact ⟨w'.heap.size, hF.put (V' := pbV gx I ⟨#[112, 105, 110, 101]⟩ x w'.heap.size) (d := 8) (i := 9) rfl (fun e he => lookup_inj (D := pbD) (by decide) rfl he) (by rw [asz]; decide) (fun j hj _ => pbV_ne hj) rfl, HWW.out.made H10.out⟩
            | 10, ho, hLi, hpre =>
              obtain rfl := Option.some.inj ho; clear ho
              have e0 := tm <| show a'.eval (.tmp 8) = .pointer (some ⟨b, 0, none⟩) from hF.get rfl (hpre ⟨9, .data⟩ (by simp) rfl)
              have e1 := tm <| show a'.eval (.tmp 84) = .agg #[.string I, .string ⟨#[112, 105, 110, 101]⟩, .int .i64 x.ti, .int .i64 10000000, .int .i64 x.vo] from hF.get rfl (hpre ⟨8, .data⟩ (by simp) rfl)
              have B2 := (hW.2.1 (hpre ⟨9, .data⟩ (by simp) rfl)).2 hLi
              have d0 : w'.cell? ⟨b, 0, none⟩ = some (.string ⟨#[]⟩) := B2.cell 0
              have d1 : w'.cell? ⟨b, 1, none⟩ = some (.string ⟨#[]⟩) := B2.cell 1
              have d2 : w'.cell? ⟨b, 2, none⟩ = some (.int .i64 0) := B2.cell 2
              have d3 : w'.cell? ⟨b, 3, none⟩ = some (.int .i64 0) := B2.cell 3
              have d4 : w'.cell? ⟨b, 4, none⟩ = some (.int .i64 0) := B2.cell 4
              have fz := B2.frozen
              refine wpOp_want rfl rfl ?_
              simp [go_sem, e0, e1, d0, d1, d2, d3, d4, fz]
              exact ⟨b, hF.none_ (v := undef) pbD_no (fun _ _ => rfl), HWW.out.stored hLi (hpre ⟨9, .data⟩ (by simp) rfl)⟩
            | i + 11, ho, hLi, hpre => exact absurd ho (by simp)
          intro L' gp w4 hall hW
          have HPB : Hid (PBox w4 gp ⟨I, ⟨#[112, 105, 110, 101]⟩, x.ti, 10000000, x.vo⟩) := (hW.2.2 (hall 10 (by decide))).2
          have HM4 := Lib.hid (HM2.out.below hW.1)
          have HBX4 : Hid (KBox w4 gx x) := Blk.below HBX.out hW.1
          clear hW hall HM2 HBX HW0 HIC
          rw [HAA.out]
          clear HAA a6 a7 asz
          simp only [pbD, List.foldl, pbV, Act.put, List.setIfInBounds_toArray, List.set_cons_succ, List.set_cons_zero]
          obtain ⟨r0, r1, r2, r3, r4⟩ := HPB.out.cells
          simp only at r0 r1 r2 r3 r4
          go_wp2_with fail
          (with_reducible refine (two_padd ⟨I, ⟨#[112, 105, 110, 101]⟩, x.ti, 10000000, x.vo⟩ a HA HR2 (by simp only; omega) (by show (((⟨#[112, 105, 110, 101]⟩ : ByteArray).size : Nat) : Int) ≤ 9223372036854775807; decide) HM4 (Lib.hid HBO.out.ok)).mono ?_)
          rintro e' w5 ⟨rfl, hm5, hg5⟩
          have HM5 := Lib.hid hm5
          have HPB5 : Hid (PBox w5 gp ⟨I, ⟨#[112, 105, 110, 101]⟩, x.ti, 10000000, x.vo⟩) := two_kept HM4.out HPB.out (by decide) hg5
          have HBX5 : Hid (KBox w5 gx x) := two_kept HM4.out HBX4.out (by decide) hg5
          clear hm5 hg5 r0 r1 r2 r3 r4 HM4 HPB HBX4
          by_cases hz : a = 0
          · subst hz
            have hboth := HBO.out.permit (by omega) HA.out
            have HE := Lib.hid hboth.1
            have HB2 := Lib.hid hboth.2
            rw [HR2.out] at HB2
            clear hboth
            obtain ⟨L2, hL2⟩ : ∃ L2, Cu.adL L ⟨I, ⟨#[]⟩, x.ti, x.vo, ⟨#[112, 105, 110, 101]⟩, 0⟩ = L2 := ⟨_, rfl⟩
            have HL2 := Lib.hid hL2
            clear hL2
            have HB3 : Hid (Cu.Both L2 R2 (k + 1)) := by show Cu.Both _ _ _; rw [← HL2.out]; exact HB2.out
            have HE2 : Hid (Cu.chE L ⟨I, ⟨#[]⟩, x.ti, x.vo, ⟨#[112, 105, 110, 101]⟩, 0⟩ = 0) := HE.out
            have HF : Hid (Fit_ ⟨I, ⟨#[]⟩, x.ti, x.vo, ⟨#[112, 105, 110, 101]⟩, 0⟩) := fit_small ⟨by omega, by decide, by decide, HOK.out.t0, HOK.out.t1, HOK.out.v0, HOK.out.v1⟩
            obtain ⟨r0, -, -, -, -⟩ := HPB5.out.cells
            obtain ⟨-, -, -, x3, x4, -⟩ := HBX5.out.cells
            simp only at r0
            clear HE HB2
            go_wp2_with fail
            (with_reducible refine (two_cadd I ⟨#[]⟩ ⟨#[112, 105, 110, 101]⟩ x.ti x.vo HF HM5 HT _ 0 (Lib.hid rfl) HE2 HL2).mono ?_)
            rintro e' w6 ⟨rfl, hm6⟩
            have HM6 := Lib.hid hm6
            clear hm6 r0 x3 x4
            go_wp2_with fail
            go_roundw
            case rel => exact ⟨k + 1, L2, R2, by go_num, by omega, HM6, HB3⟩
            case measure => simp [intOf]; omega
          · have qz : (a == 0) = false := by simpa using hz
            have HB3 : Hid (Cu.Both L R2 (k + 1)) := by
              have e1 := Pt.adR_no HA.out hz
              rw [HR2.out] at e1
              show Cu.Both _ _ _
              rw [e1]
              exact HBO.out.mono (by omega)
            clear hz
            go_wp2_with fail
            go_roundw
            case rel => exact ⟨k + 1, L, R2, by go_num, by omega, HM5, HB3⟩
            case measure => simp [intOf]; omega
        · have q3 : (x.ki % 3 == 0) = false := by simpa using hk0
          by_cases hk1 : x.ki % 3 = 1
          · have q4 : (x.ki % 3 == 1) = true := by simpa using hk1
            clear hk0 hk1
            go_wp2_with fail
            clear x0 x1 x2 x3 x4 x5
            generalize wr.alloc (.cells #[.int .u8 x.ki, .int .u8 x.ix, .int .u8 x.of_, .int .i64 x.ti, .int .i64 x.vo, .bool false] 27) = w2 at *
            generalize wr.heap.size = gx at *
            clear tk
            obtain ⟨P, hP⟩ : ∃ P, codeS 0 x.of_ = P := ⟨_, rfl⟩
            have HP := Lib.hid hP
            clear hP
            have hps : P.size = 8 := by rw [← HP.out]; exact codeS_size _ _
            obtain ⟨-, -, x2, -, -, -⟩ := HBX.out.cells
            go_wp2_with fail
            (with_reducible refine (code_w 0 x.of_ (by decide) (by decide) HOK.out.o0 HOK.out.o1 P HP _).mono ?_)
            rintro e' w3 ⟨rfl, hb⟩
            have HM3 := Lib.hid (HM2.out.below hb)
            have HBX3 : Hid (KBox w3 gx x) := Blk.below HBX.out hb
            clear hb x2 HM2 HBX
            obtain ⟨a, ha⟩ : ∃ a, Pt.flE R P ⟨#[112, 105, 110, 101]⟩ x.ti = a := ⟨_, rfl⟩
            have HA := Lib.hid ha
            clear ha
            obtain ⟨-, -, -, x3, -, -⟩ := HBX3.out.cells
            go_wp2_with fail
            (with_reducible refine (two_fell P ⟨#[112, 105, 110, 101]⟩ x.ti a HA HM3 (Lib.hid HBO.out.ok)).mono ?_)
            rintro e' w4 ⟨rfl, hb⟩
            have HM4 := Lib.hid (HM3.out.below hb)
            have HBX4 : Hid (KBox w4 gx x) := Blk.below HBX3.out hb
            clear hb x3 HM3 HBX3
            by_cases hz : a = 0
            · subst hz
              obtain ⟨I, hI⟩ : ∃ I, codeS 1 x.ix = I := ⟨_, rfl⟩
              have HI := Lib.hid hI
              clear hI
              have his : I.size = 8 := by rw [← HI.out]; exact codeS_size _ _
              have HPE : Hid (P ≠ ByteArray.empty) := by show P ≠ _; rw [← HP.out]; exact code_ne _ _
              have HPK : Hid (spK P = 80) := by show _ = _; rw [← HP.out]; exact (codeS_p (by decide) _).2
              obtain ⟨L2, hL2⟩ : ∃ L2, Cu.adL L ⟨I, P, x.ti, x.vo, ⟨#[112, 105, 110, 101]⟩, 0⟩ = L2 := ⟨_, rfl⟩
              obtain ⟨b, hb⟩ : ∃ b, Cu.chE L ⟨I, P, x.ti, x.vo, ⟨#[112, 105, 110, 101]⟩, 0⟩ = b := ⟨_, rfl⟩
              have HL2 := Lib.hid hL2
              have HE := Lib.hid hb
              clear hL2 hb
              have HF : Hid (Fit_ ⟨I, P, x.ti, x.vo, ⟨#[112, 105, 110, 101]⟩, 0⟩) := fit_small ⟨by omega, by omega, by decide, HOK.out.t0, HOK.out.t1, HOK.out.v0, HOK.out.v1⟩
              obtain ⟨H, hH⟩ : ∃ H, Cu.adH L ⟨I, P, x.ti, x.vo, ⟨#[112, 105, 110, 101]⟩, 0⟩ = H := ⟨_, rfl⟩
              have HHH := Lib.hid hH
              clear hH
              have HW0 : Hid (lgW w gx x L L2 R (fun _ => false) () w4.drew) := ⟨Blk.below HBX4.out (Below.refl _ _).drew, (fun _ => HM4.out.below (Below.refl _ _).drew), (fun h => by cases h)⟩
              have HIC : Hid (∀ W, Calls Tryd.prog 15 #[.int .u8 1, .int .u8 x.ix] W fun e w' => e = .returned (.string I) ∧ Below W.heap.size W w') := fun W => code_w 1 x.ix (by decide) (by decide) HOK.out.i0 HOK.out.i1 I HI W
              go_wp2_with fail
              refine wp_act_gen ?_
              intro aa ha
              have a3 : aa.eval (.tmp 3) = .pointer (some ⟨w.heap.size + 2, 0, none⟩) := by rw [ha]; rfl
              have a6 : aa.eval (.tmp 6) = .pointer (some ⟨gx, 0, none⟩) := by rw [ha]; rfl
              have a7 : aa.eval (.tmp 7) = .string ⟨#[112, 105, 110, 101]⟩ := by rw [ha]; rfl
              have a11 : aa.eval (.tmp 11) = .string P := by rw [ha]; rfl
              have asz : aa.tmps.size = 319 := by rw [ha]; rfl
              have HAA := Lib.hid ha
              clear ha
              refine wp_region_fr (G := Unit) (by kernel_rfl) (by kernel_rfl) lgD (by rw [asz]; kernel_rfl) (lgV (w.heap.size + 2) gx I P ⟨#[112, 105, 110, 101]⟩ x H b) (lgW w gx x L L2 R) () HW0.out ?_ ?_
              · intro i o La a' w' uu ho hLi hpre hF hW
                have put := fun (d i : Nat) (v : Value) (hd : lgD.lookup d = some i) (hin : d < 319) (hv : lgV (w.heap.size + 2) gx I P ⟨#[112, 105, 110, 101]⟩ x H b uu i = v) => hF.put (V' := lgV (w.heap.size + 2) gx I P ⟨#[112, 105, 110, 101]⟩ x H b uu) hd (fun e he => lookup_inj (D := lgD) (by decide) hd he) (by rw [asz]; exact hin) (fun _ _ _ => rfl) hv
                have HWW := Lib.hid hW
                have stay := fun (i : Nat) (hi : i ≠ 10) => HWW.out.next hi (Below.refl _ _)
                obtain ⟨-, x1, -, x3, x4, -⟩ := KBox.cells hW.1
                match i, ho, hLi, hpre with
                | 0, ho, hLi, hpre =>
                  obtain rfl := Option.some.inj ho; clear ho
                  refine wpOp_want rfl rfl ?_
                  simp [go_sem, tm ((hF.old rfl).trans a3)]
                  exact ⟨uu, put 116 0 _ rfl (by decide) rfl, stay 0 (by decide)⟩
                | 1, ho, hLi, hpre =>
                  obtain rfl := Option.some.inj ho; clear ho
                  refine wpOp_want rfl rfl ?_
                  simp [go_sem, tm ((hF.old rfl).trans a6)]
                  exact ⟨uu, put 117 1 _ rfl (by decide) rfl, stay 1 (by decide)⟩
                | 2, ho, hLi, hpre =>
                  obtain rfl := Option.some.inj ho; clear ho
                  refine wpOp_want rfl rfl ?_
                  simp [go_sem, tm (show a'.eval (.tmp 117) = .pointer (some ⟨gx, 1, none⟩) from hF.get rfl (hpre ⟨1, .data⟩ (by simp) rfl)), x1]
                  exact ⟨uu, put 118 2 _ rfl (by decide) rfl, stay 2 (by decide)⟩
                | 3, ho, hLi, hpre =>
                  obtain rfl := Option.some.inj ho; clear ho
                  have e1 := tm <| show a'.eval (.tmp 118) = .int .u8 x.ix from hF.get rfl (hpre ⟨2, .data⟩ (by simp) rfl)
                  refine wpOp_want rfl rfl ?_
                  simp [go_sem, e1]
                  (with_reducible refine (HIC.out _).mono ?_)
                  rintro e w'' ⟨rfl, hb⟩
                  exact ⟨uu, put 119 3 _ rfl (by decide) rfl, HWW.out.next (by decide) hb⟩
                | 4, ho, hLi, hpre =>
                  obtain rfl := Option.some.inj ho; clear ho
                  refine wpOp_want rfl rfl ?_
                  simp [go_sem, tm ((hF.old rfl).trans a11)]
                  exact ⟨uu, put 120 4 _ rfl (by decide) rfl, stay 4 (by decide)⟩
                | 5, ho, hLi, hpre =>
                  obtain rfl := Option.some.inj ho; clear ho
                  refine wpOp_want rfl rfl ?_
                  simp [go_sem, tm ((hF.old rfl).trans a7)]
                  exact ⟨uu, put 121 5 _ rfl (by decide) rfl, stay 5 (by decide)⟩
                | 6, ho, hLi, hpre =>
                  obtain rfl := Option.some.inj ho; clear ho
                  refine wpOp_want rfl rfl ?_
                  simp [go_sem, tm ((hF.old rfl).trans a6)]
                  exact ⟨uu, put 122 6 _ rfl (by decide) rfl, stay 6 (by decide)⟩
                | 7, ho, hLi, hpre =>
                  obtain rfl := Option.some.inj ho; clear ho
                  refine wpOp_want rfl rfl ?_
                  simp [go_sem, tm (show a'.eval (.tmp 122) = .pointer (some ⟨gx, 3, none⟩) from hF.get rfl (hpre ⟨6, .data⟩ (by simp) rfl)), x3]
                  exact ⟨uu, put 123 7 _ rfl (by decide) rfl, stay 7 (by decide)⟩
                | 8, ho, hLi, hpre =>
                  obtain rfl := Option.some.inj ho; clear ho
                  refine wpOp_want rfl rfl ?_
                  simp [go_sem, tm ((hF.old rfl).trans a6)]
                  exact ⟨uu, put 124 8 _ rfl (by decide) rfl, stay 8 (by decide)⟩
                | 9, ho, hLi, hpre =>
                  obtain rfl := Option.some.inj ho; clear ho
                  refine wpOp_want rfl rfl ?_
                  simp [go_sem, tm (show a'.eval (.tmp 124) = .pointer (some ⟨gx, 4, none⟩) from hF.get rfl (hpre ⟨8, .data⟩ (by simp) rfl)), x4]
                  exact ⟨uu, put 125 9 _ rfl (by decide) rfl, stay 9 (by decide)⟩
                | 10, ho, hLi, hpre =>
                  obtain rfl := Option.some.inj ho; clear ho
                  have e1 := tm <| show a'.eval (.tmp 116) = .pointer (some ⟨w.heap.size + 2, 0, none⟩) from hF.get rfl (hpre ⟨0, .data⟩ (by simp) rfl)
                  have e2 := tm <| show a'.eval (.tmp 119) = .string I from hF.get rfl (hpre ⟨3, .data⟩ (by simp) rfl)
                  have e3 := tm <| show a'.eval (.tmp 120) = .string P from hF.get rfl (hpre ⟨4, .data⟩ (by simp) rfl)
                  have e4 := tm <| show a'.eval (.tmp 121) = .string ⟨#[112, 105, 110, 101]⟩ from hF.get rfl (hpre ⟨5, .data⟩ (by simp) rfl)
                  have e5 := tm <| show a'.eval (.tmp 123) = .int .i64 x.ti from hF.get rfl (hpre ⟨7, .data⟩ (by simp) rfl)
                  have e6 := tm <| show a'.eval (.tmp 125) = .int .i64 x.vo from hF.get rfl (hpre ⟨9, .data⟩ (by simp) rfl)
                  have HMW : Hid (TwoM w w' (w.heap.size + 2) (w.heap.size + 3) L R) := hW.2.1 hLi
                  refine wpOp_want rfl rfl ?_
                  simp [go_sem, e1, e2, e3, e4, e5, e6]
                  (with_reducible refine (two_caddB I P ⟨#[112, 105, 110, 101]⟩ x.ti x.vo HF HMW HT H b HHH HE HL2).mono ?_)
                  rintro e w'' ⟨rfl, hm6, hkb⟩
                  exact ⟨uu, put 126 10 _ rfl (by decide) rfl, hkb _ _ _ HWW.out.1 (by decide) (by decide), (fun h => by simp at h), fun _ => hm6⟩
                | 11, ho, hLi, hpre =>
                  obtain rfl := Option.some.inj ho; clear ho
                  refine wpOp_want rfl rfl ?_
                  simp [go_sem, tm (show a'.eval (.tmp 126) = .tuple #[.int .u64 H, .int .i64 b] from hF.get rfl (hpre ⟨10, .data⟩ (by simp) rfl))]
                  exact ⟨uu, put 115 11 _ rfl (by decide) rfl, stay 11 (by decide)⟩
                | 12, ho, hLi, hpre =>
                  obtain rfl := Option.some.inj ho; clear ho
                  refine wpOp_want rfl rfl ?_
                  simp [go_sem, tm (show a'.eval (.tmp 115) = .tuple #[.int .u64 H, .int .i64 b] from hF.get rfl (hpre ⟨11, .data⟩ (by simp) rfl))]
                  exact ⟨uu, put 127 12 _ rfl (by decide) rfl, stay 12 (by decide)⟩
                | 13, ho, hLi, hpre =>
                  obtain rfl := Option.some.inj ho; clear ho
                  refine wpOp_want rfl rfl ?_
                  simp [go_sem, tm (show a'.eval (.tmp 115) = .tuple #[.int .u64 H, .int .i64 b] from hF.get rfl (hpre ⟨11, .data⟩ (by simp) rfl))]
                  exact ⟨uu, put 128 13 _ rfl (by decide) rfl, stay 13 (by decide)⟩
                | 14, ho, hLi, hpre =>
                  obtain rfl := Option.some.inj ho; clear ho
                  refine wpOp_want rfl rfl ?_
                  simp [go_sem, tm (show a'.eval (.tmp 127) = .int .u64 H from hF.get rfl (hpre ⟨12, .data⟩ (by simp) rfl))]
                  exact ⟨uu, put 12 14 _ rfl (by decide) rfl, stay 14 (by decide)⟩
                | 15, ho, hLi, hpre =>
                  obtain rfl := Option.some.inj ho; clear ho
                  refine wpOp_want rfl rfl ?_
                  simp [go_sem, tm (show a'.eval (.tmp 128) = .int .i64 b from hF.get rfl (hpre ⟨13, .data⟩ (by simp) rfl))]
                  exact ⟨uu, put 13 15 _ rfl (by decide) rfl, stay 15 (by decide)⟩
                | i + 16, ho, hLi, hpre => exact absurd ho (by simp)
              intro La uu w6 hall hW
              have HM6 := Lib.hid (hW.2.2 (hall 10 (by decide)))
              have HBX6 : Hid (KBox w6 gx x) := hW.1
              clear hW hall HM4 HBX4 HW0 HIC
              rw [HAA.out]
              clear HAA a3 a6 a7 a11 asz
              simp only [lgD, List.foldl, lgV, Act.put, List.setIfInBounds_toArray, List.set_cons_succ, List.set_cons_zero]
              obtain ⟨-, -, -, -, x4, -⟩ := HBX6.out.cells
              by_cases hz : b = 0
              · subst hz
                by_cases hv : 0 < x.vo
                · have hlog := HBO.out.log ⟨I, P, x.ti, x.vo, ⟨#[112, 105, 110, 101]⟩, 0⟩ HPE.out HPK.out HE.out hv
                  rw [HL2.out] at hlog
                  have HU := Lib.hid hlog.1
                  have HB3 := Lib.hid hlog.2
                  clear hlog
                  simp only at HU HB3
                  obtain ⟨R2, hR2⟩ : ∃ R2, Pt.usR R P x.vo = R2 := ⟨_, rfl⟩
                  have HR2 := Lib.hid hR2
                  rw [hR2] at HB3
                  clear hR2
                  go_wp2_with fail
                  (with_reducible refine (two_use P x.vo 0 HU HR2 HM6 (Lib.hid HBO.out.ok)).mono ?_)
                  rintro e' w7 ⟨rfl, hm7⟩
                  have HM7 := Lib.hid hm7
                  clear hm7 x4
                  go_wp2_with fail
                  go_roundw
                  case rel => exact ⟨k + 1, L2, R2, by go_num, by omega, HM7, HB3⟩
                  case measure => simp [intOf]; omega
                · have HB3 : Hid (Cu.Both L2 R (k + 1)) := by
                    show Cu.Both _ _ _
                    rw [← HL2.out]
                    exact HBO.out.none_ _ HPE.out (fun hc => by have := (Cu.can_of hc).vo; have h0 := this.1; simp only at h0 ⊢; omega)
                  go_wp2_with fail
                  go_roundw
                  case rel => exact ⟨k + 1, L2, R, by go_num, by omega, HM6, HB3⟩
                  case measure => simp [intOf]; omega
              · have qb : (b == 0) = false := by simpa using hz
                have HB3 : Hid (Cu.Both L2 R (k + 1)) := by
                  show Cu.Both _ _ _
                  rw [← HL2.out]
                  exact HBO.out.none_ _ HPE.out (fun hc => absurd (HE.out.symm.trans hc) hz)
                clear hz
                go_wp2_with fail
                go_roundw
                case rel => exact ⟨k + 1, L2, R, by go_num, by omega, HM6, HB3⟩
                case measure => simp [intOf]; omega
            · have qz : (a == 0) = false := by simpa using hz
              have qz2 : (a != 0) = true := by simpa using hz
              have HB3 := Lib.hid (HBO.out.mono (Nat.le_succ k))
              clear hz
              go_wp2_with fail
              go_roundw
              case rel => exact ⟨k + 1, L, R, by go_num, by omega, HM4, HB3⟩
              case measure => simp [intOf]; omega
          · have q4 : (x.ki % 3 == 1) = false := by simpa using hk1
            clear hk0 hk1
            go_wp2_with fail
            clear x0 x1 x2 x3 x4 x5
            generalize wr.alloc (.cells #[.int .u8 x.ki, .int .u8 x.ix, .int .u8 x.of_, .int .i64 x.ti, .int .i64 x.vo, .bool false] 27) = w2 at *
            generalize wr.heap.size = gx at *
            clear tk
            obtain ⟨I, hI⟩ : ∃ I, codeS 2 x.ix = I := ⟨_, rfl⟩
            have HI := Lib.hid hI
            have o0 := HOK.out.o0
            have o1 := HOK.out.o1
            have td : x.of_.tdiv 4 = x.of_ / 4 := Int.tdiv_eq_ediv_of_nonneg o0
            obtain ⟨d, hd⟩ : ∃ d, x.of_ / 4 % 2 = d := ⟨_, rfl⟩
            have hd0 : 0 ≤ d ∧ d ≤ 1 := by omega
            have tm : (x.of_ / 4).tmod 2 = d := by rw [Int.tmod_eq_emod_of_nonneg (by omega)]; exact hd
            have wd : IntKind.u8.wrap (1 + d) = 1 + d := by simp only [IntKind.wrap_u8]; omega
            obtain ⟨P, hP⟩ : ∃ P, codeS (1 + d) x.of_ = P := ⟨_, rfl⟩
            have HP := Lib.hid hP
            clear hI hP hd
            have his : I.size = 8 := by rw [← HI.out]; exact codeS_size _ _
            have hps : P.size = 8 := by rw [← HP.out]; exact codeS_size _ _
            have HPE : Hid (spK P ≠ 80 ∧ P ≠ ByteArray.empty) := by show _ ∧ _; rw [← HP.out]; exact codeS_n (by omega) _
            obtain ⟨L2, hL2⟩ : ∃ L2, Cu.adL L ⟨I, P, x.ti, x.vo, ⟨#[112, 105, 110, 101]⟩, 0⟩ = L2 := ⟨_, rfl⟩
            have HL2 := Lib.hid hL2
            clear hL2
            have HF : Hid (Fit_ ⟨I, P, x.ti, x.vo, ⟨#[112, 105, 110, 101]⟩, 0⟩) := fit_small ⟨by omega, by omega, by decide, HOK.out.t0, HOK.out.t1, HOK.out.v0, HOK.out.v1⟩
            have HB3 : Hid (Cu.Both L2 R (k + 1)) := by
              show Cu.Both _ _ _
              rw [← HL2.out]
              exact HBO.out.other _ HPE.out.2 HPE.out.1
            have y0 := fun u => KBox.cells (Blk.below HBX.out (wx_below w2 u))
            refine wp_region_grows_tail 17 (by kernel_rfl) (by kernel_rfl) ?_
            simp only [List.take_succ_cons, List.take_zero, List.drop_succ_cons, List.drop_zero]
            repeat (go_big_quiet_step ((go_at_call 15; (first | (with_reducible exact calls_grows (code_w 2 x.ix (by decide) (by decide) HOK.out.i0 HOK.out.i1 I HI _)) | (with_reducible exact calls_grows (code_w (1 + d) x.of_ (by omega) (by omega) o0 o1 P HP _))))))
            refine wpQuiet_nil ?_
            rintro _ ⟨u, rfl⟩
            have HM3 := Lib.hid (HM2.out.below (wx_below w2 u))
            clear y0 HM2 HBX
            generalize wx w2 u = w3 at *
            go_wp2_with fail
            (with_reducible refine (two_cadd I P ⟨#[112, 105, 110, 101]⟩ x.ti x.vo HF HM3 HT _ _ (Lib.hid rfl) (Lib.hid rfl) HL2).mono ?_)
            rintro e' w4 ⟨rfl, hm4⟩
            have HM4 := Lib.hid hm4
            clear hm4
            go_wp2_with fail
            go_roundw
            case rel => exact ⟨k + 1, L2, R, by go_num, by omega, HM4, HB3⟩
            case measure => simp [intOf]; omega
    · have zk : (l.length : Int) ≤ (k : Int) := by omega
      rename_i Q' K hK
      have HKK := Lib.hid hK
      clear hK
      have hk40 : k ≤ 40 := by omega
      go_wp2_with fail
      refine HKK.out _ _ ?_
      exact custody_rest w wr L R k hk40 HM HBO HT _ _ _ _ _ _ _ _ _ _ _ _ _ _ _ _ _ _ _ _ _ _ _ _ _ _ _ _ _ _ _ _ _ _ _ _ _ _ _ _ _ _ _ _ _ _ _ _ _ _ _ _ _ _ _ _ _ _ _ _ _ _ _ _ _ _ _ _ _ _ _ _ _ _ _ _ _ _ _ _ _ _ _ _ _ _ _ _ _ _ _ _ _ _ _ _ _ _ _ _ _ _ _ _ _ _ _ _ _ _ _ _ _ _ _ _ _ _ _ _ _ _ _ _ _ _ _ _ _ _ _ _ _ _ _ _ _ _ _ _ _ _ _ _ _ _ _ _ _ _ _ _ _ _ _ _ _ _ _ _ _ _ _ _ _ _ _ _ _ _ _ _ _ _ _ _ _ _ _ _ _ _ _ _ _ _ _ _ _ _ _ _ _ _ _ _ _ _ _ _ _ _ _ _ _ _ _ _ _ _ _ _ _ _ _ _ _ _ _ _ _ _ _ _ _ _ _ _ _ _ _ _ _ _ _ _ _ _ _ _ _ _ _ _ _ _ _ _ _ _ _ _ _ _ _ _ _ _ _ _ _ _ _ _ _ _ _ _ _ _ _ _ _ _ _ _ _ _ _ _ _ _ _ _ _ _ _ _ _ _ _ _ _ _ _ _ _ _ _ _ _ _ _ _ _ _ _ _ _ _ _ _ _ _ _ _ _
end Go.Proofs.YtpimmdmcmccbpaaDoor
