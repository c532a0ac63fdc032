/- IdentDetects: the walk. -/
import Derived.Test.YtlhjneeccjkaoaaDoorC9
namespace Go.Proofs.YtlhjneeccjkaoaaDoor
open Go.RowKit
set_option linter.unusedVariables false
def dtV (v cap q r : Nat) (s : ByteArray) (_ : Unit) : Nat → Value
  | 0 => .slice (some ⟨v, 0, none⟩) 8 cap
  | 1 => .int .i64 q
  | 2 => .slice (some ⟨v, 0, none⟩) 8 cap
  | 3 => .int .i64 q
  | 4 => .int .i64 r
  | 5 => .slice (some ⟨v, 0, none⟩) 8 cap
  | 6 => .int .i64 q
  | 7 => .int .i64 r
  | 8 => .pointer (some ⟨v, r, none⟩)
  | 9 => .int .u8 (bt s r)
  | 10 => .slice (some ⟨v, 0, none⟩) 8 cap
  | 11 => .int .i64 q
  | 12 => .pointer (some ⟨v, q, none⟩)
  | 13 => .int .u8 (bt s q)
  | 14 => .pointer (some ⟨v, q, none⟩)
  | _ => .pointer (some ⟨v, r, none⟩)
def dtD : List (Nat × Nat) := [(71, 0), (72, 1), (73, 2), (74, 3), (75, 4), (76, 5), (77, 6), (78, 7), (79, 8), (80, 9), (81, 10), (82, 11), (83, 12), (84, 13), (85, 14), (86, 16)]
def dtF (s : ByteArray) (q r : Nat) (L : Nat → Bool) (j : Nat) : Int := if L 17 = true ∧ j = r then bt s q else if L 15 = true ∧ j = q then bt s r else bt s j
structure dtW (w : World) (v : Nat) (s : ByteArray) (q r : Nat) (L : Nat → Bool) (_ : Unit) (w' : World) : Prop where
  bel : Below w.heap.size w w'
  row : Row8 w' v (dtF s q r L)
  l15 : L 15 = true → L 9 = true ∧ L 13 = true
  l17 : L 17 = true → L 15 = true
theorem dtW.next {w : World} {v : Nat} {s : ByteArray} {q r : Nat} {L : Nat → Bool} {w' : World} {i : Nat} (h : dtW w v s q r L () w') (h1 : i ≠ 15) (h2 : i ≠ 17) : dtW w v s q r (fun j => j == i || L j) () w' := by
  have e15 : ((15 : Nat) == i) = false := by simpa using Ne.symm h1
  have e17 : ((17 : Nat) == i) = false := by simpa using Ne.symm h2
  refine ⟨h.bel, ?_, fun h3 => ?_, fun h3 => ?_⟩
  · have := h.row
    unfold dtF at this ⊢
    simpa [e15, e17] using this
  · have := h.l15 (by simpa [e15] using h3)
    simp [this.1, this.2]
  · have := h.l17 (by simpa [e17] using h3)
    simp [this]
theorem dtW.s15 {w : World} {v : Nat} {s : ByteArray} {q r : Nat} {L : Nat → Bool} {w' : World} (h : dtW w v s q r L () w') (hl : L 15 = false) (h9 : L 9 = true) (h13 : L 13 = true) (hq : q < 8) (hv : w.heap.size ≤ v) :
    dtW w v s q r (fun j => j == 15 || L j) () (w'.setCell ⟨v, q, none⟩ (.int .u8 (bt s r))) := by
  have h17 : L 17 = false := by
    cases hh : L 17 with
    | false => rfl
    | true => have := h.l17 hh; rw [hl] at this; cases this
  refine ⟨h.bel.setCell (p := ⟨v, q, none⟩) hv _, ?_, fun _ => by simp [h9, h13], fun h3 => by simp⟩
  have := h.row.set hq (bt s r)
  have e : (fun j => if j = q then bt s r else dtF s q r L j) = dtF s q r (fun j => j == 15 || L j) := by
    funext j
    simp [dtF, h17, hl]
  rwa [e] at this
theorem dtW.s17 {w : World} {v : Nat} {s : ByteArray} {q r : Nat} {L : Nat → Bool} {w' : World} (h : dtW w v s q r L () w') (hl : L 15 = true) (h17 : L 17 = false) (hr : r < 8) (hv : w.heap.size ≤ v) :
    dtW w v s q r (fun j => j == 17 || L j) () (w'.setCell ⟨v, r, none⟩ (.int .u8 (bt s q))) := by
  refine ⟨h.bel.setCell (p := ⟨v, r, none⟩) hv _, ?_, fun _ => by simp [h.l15 hl], fun h3 => by simp [hl]⟩
  have := h.row.set hr (bt s q)
  have e : (fun j => if j = r then bt s q else dtF s q r L j) = dtF s q r (fun j => j == 17 || L j) := by
    funext j
    simp [dtF, h17, hl]
  rwa [e] at this
theorem box2 (w : World) (x y : Int) : (w.alloc (.cells #[.int .u8 x, .int .u8 y] 34)).cell? ⟨w.heap.size, 0, none⟩ = some (.int .u8 x) := by simp [go_sem]

set_option maxRecDepth 100000 in
set_option maxHeartbeats 4000000 in
theorem identDetects_walk (k n x y : Int) (hx : 0 ≤ x ∧ x ≤ 255) (hy : 0 ≤ y ∧ y ≤ 255) (w : World) (ht : TabOk w) : Calls Tryd.prog 9 #[.int .u8 k, .int .i64 n, .agg #[.int .u8 x, .int .u8 y]] w fun e w' => e = .returned (.bool true) ∧ Below w.heap.size w w' := by
  have HT := Lib.hid ht; clear ht
  have D1 := fun W hT => code_any k n W hT
  by_cases hc : codB k n = 0
  · obtain ⟨hk, hn⟩ := cod_zero hc
    rw [hc, (cod_ok hk hn).1] at D1
    obtain ⟨h8, q2, q3, q4⟩ := code_split hk hn
    have hgood := isB_yes q4 q2
    have E1 := Lib.hid D1
    have hcv := conv_bytes (codeS k n) h8
    have h8i : ((codeS k n).size : Int) = 8 := by omega
    have H8 := Lib.hid h8
    have HG := Lib.hid hgood
    clear q2 q3 q4 hc D1 h8 hgood hk hn
    generalize codeS k n = s at *
    obtain ⟨q, hq⟩ : ∃ q : Nat, x % 8 = q := ⟨(x % 8).toNat, by omega⟩
    have hq8 : (q : Int) < 8 := by omega
    go_enter Tryd.func9, Tryd.ntmps9
    go_wp2_with fail
    (with_reducible refine (E1.out _ (HT.out.below ((Below.refl _ _).alloc (Nat.le_refl _) _))).mono ?_)
    rintro e w1 ⟨rfl, hb⟩
    have c0 : w1.cell? ⟨w.heap.size, 0, none⟩ = some (.int .u8 x) := (hb.cell (p := ⟨w.heap.size, 0, none⟩) (by simp)).trans (by simp [go_sem])
    have c1 : w1.cell? ⟨w.heap.size, 1, none⟩ = some (.int .u8 y) := (hb.cell (p := ⟨w.heap.size, 1, none⟩) (by simp)).trans (by simp [go_sem])
    have L1 : w.heap.size < w1.heap.size := Nat.lt_of_lt_of_le (by simp) hb.size
    have B1 := Lib.hid (below_old ((Below.refl _ _).alloc (Nat.le_refl _) _) hb); clear hb
    go_wp2_with fail
    have R2 := wB_row s H8.out w1
    obtain ⟨b2, L2⟩ := wB_below s w1
    have d1 := (b2.cell (p := ⟨w.heap.size, 1, none⟩) L1).trans c1
    have B2 := Lib.hid (below_old B1.out b2)
    have hqn : q < 8 := by omega
    have hxr := xor_byte (bt_range s q) hy
    obtain ⟨xv, hxv⟩ : ∃ xv, bits .xor .u8 (bt s q) y = xv := ⟨_, rfl⟩
    rw [hxv] at hxr
    have HXR := Lib.hid hxr
    clear hxr
    have HIs := Lib.hid (fun W => is_any s (by omega) k W)
    rw [HG.out] at HIs
    have hle : w.heap.size < w1.heap.size := L1
    clear b2
    generalize wB w1 s = w2 at *
    generalize capC w1 = cap at *
    clear c0 c1 B1
    generalize w1.heap.size = b at *
    have r1 := fun u => ((wx_below w2 u).cell (p := ⟨b, q, none⟩) L2).trans (R2 q hqn).1
    have r2 := fun u => ((wx_below w2 u).cell (p := ⟨w.heap.size, 1, none⟩) (Nat.lt_trans L1 L2)).trans d1
    have RR := Lib.hid R2
    clear R2
    refine wp_region_grows_tail 9 (by kernel_rfl) (by kernel_rfl) ?_
    simp only [List.take_succ_cons, List.take_zero, List.drop_succ_cons, List.drop_zero]
    repeat (go_big_quiet_step (fail))
    refine wpQuiet_nil ?_
    rintro _ ⟨u, rfl⟩
    have R3 := RR.out.below (wx_below w2 u) L2
    have B3 := Lib.hid (below_old B2.out (wx_below w2 u))
    have d3 := r2 u
    clear r1 r2 RR
    generalize wx w2 u = w3 at *
    clear B2 d1 L2
    have c3 := (R3 q hqn).1
    have f3 := (R3 q hqn).2
    have R4 := R3.set hqn xv
    have d4 : (w3.setCell ⟨b, q, none⟩ (.int .u8 xv)).cell? ⟨w.heap.size, 1, none⟩ = some (.int .u8 y) := (World.cell?_setCell_other _ _ _ _ (fun e => by cases e; omega)).trans d3
    have B4 := Lib.hid (B3.out.setCell (p := ⟨b, q, none⟩) (Nat.le_of_lt hle) (.int .u8 xv))
    clear R3 B3
    obtain ⟨g, hg⟩ : ∃ g, (fun j => if j = q then xv else bt s j) = g := ⟨_, rfl⟩
    rw [hg] at R4
    have gq : g q = xv := by rw [← hg]; simp
    have gj : ∀ j, j ≠ q → g j = bt s j := fun j hj => by rw [← hg]; simp [hj]
    clear hg
    have cv4 := R4.conv (c := cap)
    clear R4
    by_cases hy0 : y = 0
    · subst hy0
      go_wp2_with fail
      clear cv4
      have hz : (w3.setCell ⟨b, q, none⟩ (.int .u8 xv)).heap.size = w3.heap.size := by simp
      generalize w3.setCell ⟨b, q, none⟩ (.int .u8 xv) = w4 at *
      rw [← hz]
      clear hz
      have R5 := wB_row s H8.out w4
      obtain ⟨b5, L5⟩ := wB_below s w4
      have B5 := Lib.hid (below_old B4.out b5)
      have z5 := B4.out.size
      clear b5
      generalize wB w4 s = w5 at *
      generalize capC w4 = cap5 at *
      clear B4
      generalize w4.heap.size = v at *
      by_cases h7 : (q : Int) < 7
      · obtain ⟨r, hr⟩ : ∃ r : Nat, (q : Int) + 1 = r := ⟨q + 1, by omega⟩
        have hrn : r < 8 := by omega
        have c5 := (R5 q hqn).1
        have c6 := (R5 r hrn).1
        by_cases hne : bt s q = bt s r
        · have hd : (bt s q != bt s r) = false := by simp [hne]
          go_quiet (fail)
          go_wp2_with fail
          (with_reducible refine (HIs.out _).mono ?_)
          rintro e w6 ⟨rfl, hb⟩
          have B6 := Lib.hid (below_old (below_drewN B5.out nq) hb); clear hb
          go_wp2_with fail
          (with_reducible refine (awake02 _ (HT.out.below B6.out)).mono ?_)
          rintro e wz ⟨rfl, hb⟩
          have BZ := Lib.hid hb; clear hb
          go_wp2_with fail
          go_ret
          exact ⟨rfl, below_old B6.out BZ.out⟩
        · have hd : (bt s q != bt s r) = true := by simpa using hne
          go_quiet (fail)
          go_wp2_with fail
          have hr8 : (r : Int) < 8 := by omega
          have hwr : IntKind.i64.wrap (r : Int) = r := by rw [IntKind.wrap_i64]; omega
          refine wp_region_fr (G := Unit) (by kernel_rfl) (by kernel_rfl) dtD (by kernel_rfl) (dtV v cap5 q r s) (dtW w v s q r) () ⟨(below_drewN B5.out nq).drew, (R5.below (below_drewN (Below.refl _ _) nq) L5).below ((Below.refl _ _).drew) L5, fun h => (by cases h), fun h => (by cases h)⟩ ?_ ?_
          · intro i o L a' w' g0 ho hLi hpre hF hW
            have put := fun (d i : Nat) (x : Value) (hd : dtD.lookup d = some i) (hin : d < 97) (hv : dtV v cap5 q r s () i = x) => hF.put (V' := dtV v cap5 q r s ()) hd (fun e he => lookup_inj (D := dtD) (by decide) hd he) hin (fun _ _ _ => rfl) hv
            match i, ho, hLi, hpre with
            | 0, ho, hLi, hpre =>
              obtain rfl := Option.some.inj ho; clear ho
              refine wpOp_want rfl rfl ?_
              simp [go_sem, tm (show a'.eval (.tmp 11) = .slice (some ⟨v, 0, none⟩) 8 cap5 from hF.old rfl)]
              exact ⟨(), put 71 0 _ rfl (by decide) rfl, hW.next (by decide) (by decide)⟩
            | 1, ho, hLi, hpre =>
              obtain rfl := Option.some.inj ho; clear ho
              refine wpOp_want rfl rfl ?_
              simp [go_sem, tm (show a'.eval (.tmp 9) = .int .i64 q from hF.old rfl)]
              exact ⟨(), put 72 1 _ rfl (by decide) rfl, hW.next (by decide) (by decide)⟩
            | 2, ho, hLi, hpre =>
              obtain rfl := Option.some.inj ho; clear ho
              refine wpOp_want rfl rfl ?_
              simp [go_sem, tm (show a'.eval (.tmp 11) = .slice (some ⟨v, 0, none⟩) 8 cap5 from hF.old rfl)]
              exact ⟨(), put 73 2 _ rfl (by decide) rfl, hW.next (by decide) (by decide)⟩
            | 3, ho, hLi, hpre =>
              obtain rfl := Option.some.inj ho; clear ho
              refine wpOp_want rfl rfl ?_
              simp [go_sem, tm (show a'.eval (.tmp 9) = .int .i64 q from hF.old rfl)]
              exact ⟨(), put 74 3 _ rfl (by decide) rfl, hW.next (by decide) (by decide)⟩
            | 4, ho, hLi, hpre =>
              obtain rfl := Option.some.inj ho; clear ho
              refine wpOp_want rfl rfl ?_
              simp [go_sem, tm (show a'.eval (.tmp 74) = .int .i64 q from hF.get rfl (hpre ⟨3, .data⟩ (by simp) rfl)), hr, hwr]
              exact ⟨(), put 75 4 _ rfl (by decide) rfl, hW.next (by decide) (by decide)⟩
            | 5, ho, hLi, hpre =>
              obtain rfl := Option.some.inj ho; clear ho
              refine wpOp_want rfl rfl ?_
              simp [go_sem, tm (show a'.eval (.tmp 11) = .slice (some ⟨v, 0, none⟩) 8 cap5 from hF.old rfl)]
              exact ⟨(), put 76 5 _ rfl (by decide) rfl, hW.next (by decide) (by decide)⟩
            | 6, ho, hLi, hpre =>
              obtain rfl := Option.some.inj ho; clear ho
              refine wpOp_want rfl rfl ?_
              simp [go_sem, tm (show a'.eval (.tmp 9) = .int .i64 q from hF.old rfl)]
              exact ⟨(), put 77 6 _ rfl (by decide) rfl, hW.next (by decide) (by decide)⟩
            | 7, ho, hLi, hpre =>
              obtain rfl := Option.some.inj ho; clear ho
              refine wpOp_want rfl rfl ?_
              simp [go_sem, tm (show a'.eval (.tmp 77) = .int .i64 q from hF.get rfl (hpre ⟨6, .data⟩ (by simp) rfl)), hr, hwr]
              exact ⟨(), put 78 7 _ rfl (by decide) rfl, hW.next (by decide) (by decide)⟩
            | 8, ho, hLi, hpre =>
              obtain rfl := Option.some.inj ho; clear ho
              refine wpOp_want rfl rfl ?_
              simp [go_sem, tm (show a'.eval (.tmp 76) = .slice (some ⟨v, 0, none⟩) 8 cap5 from hF.get rfl (hpre ⟨5, .data⟩ (by simp) rfl)), tm (show a'.eval (.tmp 78) = .int .i64 r from hF.get rfl (hpre ⟨7, .data⟩ (by simp) rfl)), hr8]
              exact ⟨(), put 79 8 _ rfl (by decide) rfl, hW.next (by decide) (by decide)⟩
            | 9, ho, hLi, hpre =>
              obtain rfl := Option.some.inj ho; clear ho
              have n15 : L 15 = false := by
                cases hh : L 15 with
                | false => rfl
                | true => have := (hW.l15 hh).1; rw [hLi] at this; cases this
              have n17 : L 17 = false := by
                cases hh : L 17 with
                | false => rfl
                | true => have := hW.l17 hh; rw [n15] at this; cases this
              have hc := (hW.row r hrn).1
              simp only [dtF, n15, n17, Bool.false_eq_true, false_and, if_false] at hc
              refine wpOp_want rfl rfl ?_
              simp [go_sem, tm (show a'.eval (.tmp 79) = .pointer (some ⟨v, r, none⟩) from hF.get rfl (hpre ⟨8, .data⟩ (by simp) rfl)), hc]
              exact ⟨(), put 80 9 _ rfl (by decide) rfl, hW.next (by decide) (by decide)⟩
            | 10, ho, hLi, hpre =>
              obtain rfl := Option.some.inj ho; clear ho
              refine wpOp_want rfl rfl ?_
              simp [go_sem, tm (show a'.eval (.tmp 11) = .slice (some ⟨v, 0, none⟩) 8 cap5 from hF.old rfl)]
              exact ⟨(), put 81 10 _ rfl (by decide) rfl, hW.next (by decide) (by decide)⟩
            | 11, ho, hLi, hpre =>
              obtain rfl := Option.some.inj ho; clear ho
              refine wpOp_want rfl rfl ?_
              simp [go_sem, tm (show a'.eval (.tmp 9) = .int .i64 q from hF.old rfl)]
              exact ⟨(), put 82 11 _ rfl (by decide) rfl, hW.next (by decide) (by decide)⟩
            | 12, ho, hLi, hpre =>
              obtain rfl := Option.some.inj ho; clear ho
              refine wpOp_want rfl rfl ?_
              simp [go_sem, tm (show a'.eval (.tmp 81) = .slice (some ⟨v, 0, none⟩) 8 cap5 from hF.get rfl (hpre ⟨10, .data⟩ (by simp) rfl)), tm (show a'.eval (.tmp 82) = .int .i64 q from hF.get rfl (hpre ⟨11, .data⟩ (by simp) rfl)), hq8]
              exact ⟨(), put 83 12 _ rfl (by decide) rfl, hW.next (by decide) (by decide)⟩
            | 13, ho, hLi, hpre =>
              obtain rfl := Option.some.inj ho; clear ho
              have n15 : L 15 = false := by
                cases hh : L 15 with
                | false => rfl
                | true => have := (hW.l15 hh).2; rw [hLi] at this; cases this
              have n17 : L 17 = false := by
                cases hh : L 17 with
                | false => rfl
                | true => have := hW.l17 hh; rw [n15] at this; cases this
              have hc := (hW.row q hqn).1
              simp only [dtF, n15, n17, Bool.false_eq_true, false_and, if_false] at hc
              refine wpOp_want rfl rfl ?_
              simp [go_sem, tm (show a'.eval (.tmp 83) = .pointer (some ⟨v, q, none⟩) from hF.get rfl (hpre ⟨12, .data⟩ (by simp) rfl)), hc]
              exact ⟨(), put 84 13 _ rfl (by decide) rfl, hW.next (by decide) (by decide)⟩
            | 14, ho, hLi, hpre =>
              obtain rfl := Option.some.inj ho; clear ho
              refine wpOp_want rfl rfl ?_
              simp [go_sem, tm (show a'.eval (.tmp 71) = .slice (some ⟨v, 0, none⟩) 8 cap5 from hF.get rfl (hpre ⟨0, .data⟩ (by simp) rfl)), tm (show a'.eval (.tmp 72) = .int .i64 q from hF.get rfl (hpre ⟨1, .data⟩ (by simp) rfl)), hq8]
              exact ⟨(), put 85 14 _ rfl (by decide) rfl, hW.next (by decide) (by decide)⟩
            | 15, ho, hLi, hpre =>
              obtain rfl := Option.some.inj ho; clear ho
              have p9 := hpre ⟨9, .data⟩ (by simp) rfl
              have p13 := hpre ⟨13, .phase⟩ (by simp) rfl
              obtain ⟨hc, hf⟩ := hW.row q hqn
              refine wpOp_want rfl rfl ?_
              simp [go_sem, tm (show a'.eval (.tmp 85) = .pointer (some ⟨v, q, none⟩) from hF.get rfl (hpre ⟨14, .data⟩ (by simp) rfl)), tm (show a'.eval (.tmp 80) = .int .u8 (bt s r) from hF.get rfl (hpre ⟨9, .data⟩ (by simp) rfl)), hc, hf]
              exact ⟨(), hF.none_ (v := undef) (fun e h => by have := lookup_mem h; simp [dtD] at this) (fun _ _ => rfl), hW.s15 hLi p9 p13 hqn z5⟩
            | 16, ho, hLi, hpre =>
              obtain rfl := Option.some.inj ho; clear ho
              refine wpOp_want rfl rfl ?_
              simp [go_sem, tm (show a'.eval (.tmp 73) = .slice (some ⟨v, 0, none⟩) 8 cap5 from hF.get rfl (hpre ⟨2, .data⟩ (by simp) rfl)), tm (show a'.eval (.tmp 75) = .int .i64 r from hF.get rfl (hpre ⟨4, .data⟩ (by simp) rfl)), hr8]
              exact ⟨(), put 86 16 _ rfl (by decide) rfl, hW.next (by decide) (by decide)⟩
            | 17, ho, hLi, hpre =>
              obtain rfl := Option.some.inj ho; clear ho
              have p15 := hpre ⟨15, .chain⟩ (by simp) rfl
              obtain ⟨hc, hf⟩ := hW.row r hrn
              refine wpOp_want rfl rfl ?_
              simp [go_sem, tm (show a'.eval (.tmp 86) = .pointer (some ⟨v, r, none⟩) from hF.get rfl (hpre ⟨16, .data⟩ (by simp) rfl)), tm (show a'.eval (.tmp 84) = .int .u8 (bt s q) from hF.get rfl (hpre ⟨13, .data⟩ (by simp) rfl)), hc, hf]
              exact ⟨(), hF.none_ (v := undef) (fun e h => by have := lookup_mem h; simp [dtD] at this) (fun _ _ => rfl), hW.s17 p15 hLi hrn z5⟩
            | i + 18, ho, hLi, hpre => exact absurd ho (by simp)
          · intro L g0 w6 hall hW
            have R6 := hW.row
            have B6 := Lib.hid hW.bel
            have e6 : dtF s q r L = dtF s q r (fun _ => true) := by
              have h15 := hall 15 (by decide)
              have h17 := hall 17 (by decide)
              funext j
              simp only [dtF, h15, h17]
            rw [e6] at R6
            clear hW hall e6
            obtain ⟨g6, hg6⟩ : ∃ g6, dtF s q r (fun _ => true) = g6 := ⟨_, rfl⟩
            rw [hg6] at R6
            have hrq : r = q + 1 := by omega
            have a1 : g6 r = bt s q := by rw [← hg6]; simp [dtF]
            have a2 : g6 q = bt s r := by rw [← hg6]; simp [dtF, hrq]
            have a3 : ∀ j, j ≠ q → j ≠ r → g6 j = bt s j := fun j h1 h2 => by rw [← hg6]; simp [dtF, h1, h2]
            clear hg6
            have HN6 : Hid (∀ W, Calls Tryd.prog 20 #[.string (strOfNums (list8 g6)), .int .u8 k] W fun e w' => e = .returned (.bool false) ∧ Below W.heap.size W w') := Lib.hid (fun W => by
              have h1 := is_any (strOfNums (list8 g6)) (by rw [strOfNums_size]; simp [list8]) k W
              have hgr : ∀ j, j < 8 → 0 ≤ g6 j ∧ g6 j ≤ 255 := fun j hj => by
                by_cases hjq : j = q
                · rw [hjq, a2]; exact bt_range s r
                · by_cases hjr : j = r
                  · rw [hjr, a1]; exact bt_range s q
                  · rw [a3 j hjq hjr]; exact bt_range s j
              rwa [swap_no (i := q) (by omega) HG.out (by rw [← hrq]; exact hne) (by rw [bt_list8 g6 hgr q hqn, a2, hrq]) (by rw [← hrq, bt_list8 g6 hgr r hrn, a1]) (fun j hj hjq hjr => by rw [bt_list8 g6 hgr j hj, a3 j hjq (by omega)])] at h1)
            have cv6 := R6.conv (c := cap5)
            clear R6 a1 a2 a3 hrq
            simp only [dtD, List.foldl, dtV, Act.put]
            go_wp2_with fail
            (with_reducible refine (HN6.out _).mono ?_)
            rintro e w7 ⟨rfl, hb⟩
            have B7 := Lib.hid (below_old B6.out hb)
            clear hb cv6
            go_wp2_with fail
            (with_reducible refine (HIs.out _).mono ?_)
            rintro e w8 ⟨rfl, hb⟩
            have B8 := Lib.hid (below_old B7.out hb); clear hb
            go_wp2_with fail
            (with_reducible refine (awake02 _ (HT.out.below B8.out)).mono ?_)
            rintro e wz ⟨rfl, hb⟩
            have BZ := Lib.hid hb; clear hb
            go_wp2_with fail
            go_ret
            exact ⟨rfl, below_old B8.out BZ.out⟩
      · have hd : decide ((q : Int) < 7) = false := by simpa using h7
        go_quiet (fail)
        go_wp2_with fail
        (with_reducible refine (HIs.out _).mono ?_)
        rintro e w6 ⟨rfl, hb⟩
        have B6 := Lib.hid (below_old (below_drewN B5.out nq) hb); clear hb
        go_wp2_with fail
        (with_reducible refine (awake02 _ (HT.out.below B6.out)).mono ?_)
        rintro e wz ⟨rfl, hb⟩
        have BZ := Lib.hid hb; clear hb
        go_wp2_with fail
        go_ret
        exact ⟨rfl, below_old B6.out BZ.out⟩
    · have hyd : (y != 0) = true := by simpa using hy0
      have HN : Hid (∀ W, Calls Tryd.prog 20 #[.string (strOfNums (list8 g)), .int .u8 k] W fun e w' => e = .returned (.bool false) ∧ Below W.heap.size W w') := Lib.hid (fun W => by
        have h1 := is_any (strOfNums (list8 g)) (by rw [strOfNums_size]; simp [list8]) k W
        have hgr : ∀ j, j < 8 → 0 ≤ g j ∧ g j ≤ 255 := fun j hj => by
          by_cases hjq : j = q
          · rw [hjq, gq]; exact HXR.out.1
          · rw [gj j hjq]; exact bt_range s j
        rwa [flip_no hqn HG.out (by rw [bt_list8 g hgr q hqn, gq]; exact HXR.out.2 hy0) (fun j hj hjq => by rw [bt_list8 g hgr j hj, gj j hjq])] at h1)
      go_wp2_with fail
      (with_reducible refine (HN.out _).mono ?_)
      rintro e w4 ⟨rfl, hb⟩
      have B4' := Lib.hid (below_old B4.out hb)
      clear hb B4 cv4 d4
      have B4 := B4'
      clear B4'
      go_wp2_with fail
      have R5 := wB_row s H8.out w4
      obtain ⟨b5, L5⟩ := wB_below s w4
      have B5 := Lib.hid (below_old B4.out b5)
      have z5 := B4.out.size
      clear b5
      generalize wB w4 s = w5 at *
      generalize capC w4 = cap5 at *
      clear B4
      generalize w4.heap.size = v at *
      by_cases h7 : (q : Int) < 7
      · obtain ⟨r, hr⟩ : ∃ r : Nat, (q : Int) + 1 = r := ⟨q + 1, by omega⟩
        have hrn : r < 8 := by omega
        have c5 := (R5 q hqn).1
        have c6 := (R5 r hrn).1
        by_cases hne : bt s q = bt s r
        · have hd : (bt s q != bt s r) = false := by simp [hne]
          go_quiet (fail)
          go_wp2_with fail
          (with_reducible refine (HIs.out _).mono ?_)
          rintro e w6 ⟨rfl, hb⟩
          have B6 := Lib.hid (below_old (below_drewN B5.out nq) hb); clear hb
          go_wp2_with fail
          (with_reducible refine (awake02 _ (HT.out.below B6.out)).mono ?_)
          rintro e wz ⟨rfl, hb⟩
          have BZ := Lib.hid hb; clear hb
          go_wp2_with fail
          go_ret
          exact ⟨rfl, below_old B6.out BZ.out⟩
        · have hd : (bt s q != bt s r) = true := by simpa using hne
          go_quiet (fail)
          go_wp2_with fail
          have hr8 : (r : Int) < 8 := by omega
          have hwr : IntKind.i64.wrap (r : Int) = r := by rw [IntKind.wrap_i64]; omega
          refine wp_region_fr (G := Unit) (by kernel_rfl) (by kernel_rfl) dtD (by kernel_rfl) (dtV v cap5 q r s) (dtW w v s q r) () ⟨(below_drewN B5.out nq).drew, (R5.below (below_drewN (Below.refl _ _) nq) L5).below ((Below.refl _ _).drew) L5, fun h => (by cases h), fun h => (by cases h)⟩ ?_ ?_
          · intro i o L a' w' g0 ho hLi hpre hF hW
            have put := fun (d i : Nat) (x : Value) (hd : dtD.lookup d = some i) (hin : d < 97) (hv : dtV v cap5 q r s () i = x) => hF.put (V' := dtV v cap5 q r s ()) hd (fun e he => lookup_inj (D := dtD) (by decide) hd he) hin (fun _ _ _ => rfl) hv
            match i, ho, hLi, hpre with
            | 0, ho, hLi, hpre =>
              obtain rfl := Option.some.inj ho; clear ho
              refine wpOp_want rfl rfl ?_
              simp [go_sem, tm (show a'.eval (.tmp 11) = .slice (some ⟨v, 0, none⟩) 8 cap5 from hF.old rfl)]
              exact ⟨(), put 71 0 _ rfl (by decide) rfl, hW.next (by decide) (by decide)⟩
            | 1, ho, hLi, hpre =>
              obtain rfl := Option.some.inj ho; clear ho
              refine wpOp_want rfl rfl ?_
              simp [go_sem, tm (show a'.eval (.tmp 9) = .int .i64 q from hF.old rfl)]
              exact ⟨(), put 72 1 _ rfl (by decide) rfl, hW.next (by decide) (by decide)⟩
            | 2, ho, hLi, hpre =>
              obtain rfl := Option.some.inj ho; clear ho
              refine wpOp_want rfl rfl ?_
              simp [go_sem, tm (show a'.eval (.tmp 11) = .slice (some ⟨v, 0, none⟩) 8 cap5 from hF.old rfl)]
              exact ⟨(), put 73 2 _ rfl (by decide) rfl, hW.next (by decide) (by decide)⟩
            | 3, ho, hLi, hpre =>
              obtain rfl := Option.some.inj ho; clear ho
              refine wpOp_want rfl rfl ?_
              simp [go_sem, tm (show a'.eval (.tmp 9) = .int .i64 q from hF.old rfl)]
              exact ⟨(), put 74 3 _ rfl (by decide) rfl, hW.next (by decide) (by decide)⟩
            | 4, ho, hLi, hpre =>
              obtain rfl := Option.some.inj ho; clear ho
              refine wpOp_want rfl rfl ?_
              simp [go_sem, tm (show a'.eval (.tmp 74) = .int .i64 q from hF.get rfl (hpre ⟨3, .data⟩ (by simp) rfl)), hr, hwr]
              exact ⟨(), put 75 4 _ rfl (by decide) rfl, hW.next (by decide) (by decide)⟩
            | 5, ho, hLi, hpre =>
              obtain rfl := Option.some.inj ho; clear ho
              refine wpOp_want rfl rfl ?_
              simp [go_sem, tm (show a'.eval (.tmp 11) = .slice (some ⟨v, 0, none⟩) 8 cap5 from hF.old rfl)]
              exact ⟨(), put 76 5 _ rfl (by decide) rfl, hW.next (by decide) (by decide)⟩
            | 6, ho, hLi, hpre =>
              obtain rfl := Option.some.inj ho; clear ho
              refine wpOp_want rfl rfl ?_
              simp [go_sem, tm (show a'.eval (.tmp 9) = .int .i64 q from hF.old rfl)]
              exact ⟨(), put 77 6 _ rfl (by decide) rfl, hW.next (by decide) (by decide)⟩
            | 7, ho, hLi, hpre =>
              obtain rfl := Option.some.inj ho; clear ho
              refine wpOp_want rfl rfl ?_
              simp [go_sem, tm (show a'.eval (.tmp 77) = .int .i64 q from hF.get rfl (hpre ⟨6, .data⟩ (by simp) rfl)), hr, hwr]
              exact ⟨(), put 78 7 _ rfl (by decide) rfl, hW.next (by decide) (by decide)⟩
            | 8, ho, hLi, hpre =>
              obtain rfl := Option.some.inj ho; clear ho
              refine wpOp_want rfl rfl ?_
              simp [go_sem, tm (show a'.eval (.tmp 76) = .slice (some ⟨v, 0, none⟩) 8 cap5 from hF.get rfl (hpre ⟨5, .data⟩ (by simp) rfl)), tm (show a'.eval (.tmp 78) = .int .i64 r from hF.get rfl (hpre ⟨7, .data⟩ (by simp) rfl)), hr8]
              exact ⟨(), put 79 8 _ rfl (by decide) rfl, hW.next (by decide) (by decide)⟩
            | 9, ho, hLi, hpre =>
              obtain rfl := Option.some.inj ho; clear ho
              have n15 : L 15 = false := by
                cases hh : L 15 with
                | false => rfl
                | true => have := (hW.l15 hh).1; rw [hLi] at this; cases this
              have n17 : L 17 = false := by
                cases hh : L 17 with
                | false => rfl
                | true => have := hW.l17 hh; rw [n15] at this; cases this
              have hc := (hW.row r hrn).1
              simp only [dtF, n15, n17, Bool.false_eq_true, false_and, if_false] at hc
              refine wpOp_want rfl rfl ?_
              simp [go_sem, tm (show a'.eval (.tmp 79) = .pointer (some ⟨v, r, none⟩) from hF.get rfl (hpre ⟨8, .data⟩ (by simp) rfl)), hc]
              exact ⟨(), put 80 9 _ rfl (by decide) rfl, hW.next (by decide) (by decide)⟩
            | 10, ho, hLi, hpre =>
              obtain rfl := Option.some.inj ho; clear ho
              refine wpOp_want rfl rfl ?_
              simp [go_sem, tm (show a'.eval (.tmp 11) = .slice (some ⟨v, 0, none⟩) 8 cap5 from hF.old rfl)]
              exact ⟨(), put 81 10 _ rfl (by decide) rfl, hW.next (by decide) (by decide)⟩
            | 11, ho, hLi, hpre =>
              obtain rfl := Option.some.inj ho; clear ho
              refine wpOp_want rfl rfl ?_
              simp [go_sem, tm (show a'.eval (.tmp 9) = .int .i64 q from hF.old rfl)]
              exact ⟨(), put 82 11 _ rfl (by decide) rfl, hW.next (by decide) (by decide)⟩
            | 12, ho, hLi, hpre =>
              obtain rfl := Option.some.inj ho; clear ho
              refine wpOp_want rfl rfl ?_
              simp [go_sem, tm (show a'.eval (.tmp 81) = .slice (some ⟨v, 0, none⟩) 8 cap5 from hF.get rfl (hpre ⟨10, .data⟩ (by simp) rfl)), tm (show a'.eval (.tmp 82) = .int .i64 q from hF.get rfl (hpre ⟨11, .data⟩ (by simp) rfl)), hq8]
              exact ⟨(), put 83 12 _ rfl (by decide) rfl, hW.next (by decide) (by decide)⟩
            | 13, ho, hLi, hpre =>
              obtain rfl := Option.some.inj ho; clear ho
              have n15 : L 15 = false := by
                cases hh : L 15 with
                | false => rfl
                | true => have := (hW.l15 hh).2; rw [hLi] at this; cases this
              have n17 : L 17 = false := by
                cases hh : L 17 with
                | false => rfl
                | true => have := hW.l17 hh; rw [n15] at this; cases this
              have hc := (hW.row q hqn).1
              simp only [dtF, n15, n17, Bool.false_eq_true, false_and, if_false] at hc
              refine wpOp_want rfl rfl ?_
              simp [go_sem, tm (show a'.eval (.tmp 83) = .pointer (some ⟨v, q, none⟩) from hF.get rfl (hpre ⟨12, .data⟩ (by simp) rfl)), hc]
              exact ⟨(), put 84 13 _ rfl (by decide) rfl, hW.next (by decide) (by decide)⟩
            | 14, ho, hLi, hpre =>
              obtain rfl := Option.some.inj ho; clear ho
              refine wpOp_want rfl rfl ?_
              simp [go_sem, tm (show a'.eval (.tmp 71) = .slice (some ⟨v, 0, none⟩) 8 cap5 from hF.get rfl (hpre ⟨0, .data⟩ (by simp) rfl)), tm (show a'.eval (.tmp 72) = .int .i64 q from hF.get rfl (hpre ⟨1, .data⟩ (by simp) rfl)), hq8]
              exact ⟨(), put 85 14 _ rfl (by decide) rfl, hW.next (by decide) (by decide)⟩
            | 15, ho, hLi, hpre =>
              obtain rfl := Option.some.inj ho; clear ho
              have p9 := hpre ⟨9, .data⟩ (by simp) rfl
              have p13 := hpre ⟨13, .phase⟩ (by simp) rfl
              obtain ⟨hc, hf⟩ := hW.row q hqn
              refine wpOp_want rfl rfl ?_
              simp [go_sem, tm (show a'.eval (.tmp 85) = .pointer (some ⟨v, q, none⟩) from hF.get rfl (hpre ⟨14, .data⟩ (by simp) rfl)), tm (show a'.eval (.tmp 80) = .int .u8 (bt s r) from hF.get rfl (hpre ⟨9, .data⟩ (by simp) rfl)), hc, hf]
              exact ⟨(), hF.none_ (v := undef) (fun e h => by have := lookup_mem h; simp [dtD] at this) (fun _ _ => rfl), hW.s15 hLi p9 p13 hqn z5⟩
            | 16, ho, hLi, hpre =>
              obtain rfl := Option.some.inj ho; clear ho
              refine wpOp_want rfl rfl ?_
              simp [go_sem, tm (show a'.eval (.tmp 73) = .slice (some ⟨v, 0, none⟩) 8 cap5 from hF.get rfl (hpre ⟨2, .data⟩ (by simp) rfl)), tm (show a'.eval (.tmp 75) = .int .i64 r from hF.get rfl (hpre ⟨4, .data⟩ (by simp) rfl)), hr8]
              exact ⟨(), put 86 16 _ rfl (by decide) rfl, hW.next (by decide) (by decide)⟩
            | 17, ho, hLi, hpre =>
              obtain rfl := Option.some.inj ho; clear ho
              have p15 := hpre ⟨15, .chain⟩ (by simp) rfl
              obtain ⟨hc, hf⟩ := hW.row r hrn
              refine wpOp_want rfl rfl ?_
              simp [go_sem, tm (show a'.eval (.tmp 86) = .pointer (some ⟨v, r, none⟩) from hF.get rfl (hpre ⟨16, .data⟩ (by simp) rfl)), tm (show a'.eval (.tmp 84) = .int .u8 (bt s q) from hF.get rfl (hpre ⟨13, .data⟩ (by simp) rfl)), hc, hf]
              exact ⟨(), hF.none_ (v := undef) (fun e h => by have := lookup_mem h; simp [dtD] at this) (fun _ _ => rfl), hW.s17 p15 hLi hrn z5⟩
            | i + 18, ho, hLi, hpre => exact absurd ho (by simp)
          · intro L g0 w6 hall hW
            have R6 := hW.row
            have B6 := Lib.hid hW.bel
            have e6 : dtF s q r L = dtF s q r (fun _ => true) := by
              have h15 := hall 15 (by decide)
              have h17 := hall 17 (by decide)
              funext j
              simp only [dtF, h15, h17]
            rw [e6] at R6
            clear hW hall e6
            obtain ⟨g6, hg6⟩ : ∃ g6, dtF s q r (fun _ => true) = g6 := ⟨_, rfl⟩
            rw [hg6] at R6
            have hrq : r = q + 1 := by omega
            have a1 : g6 r = bt s q := by rw [← hg6]; simp [dtF]
            have a2 : g6 q = bt s r := by rw [← hg6]; simp [dtF, hrq]
            have a3 : ∀ j, j ≠ q → j ≠ r → g6 j = bt s j := fun j h1 h2 => by rw [← hg6]; simp [dtF, h1, h2]
            clear hg6
            have HN6 : Hid (∀ W, Calls Tryd.prog 20 #[.string (strOfNums (list8 g6)), .int .u8 k] W fun e w' => e = .returned (.bool false) ∧ Below W.heap.size W w') := Lib.hid (fun W => by
              have h1 := is_any (strOfNums (list8 g6)) (by rw [strOfNums_size]; simp [list8]) k W
              have hgr : ∀ j, j < 8 → 0 ≤ g6 j ∧ g6 j ≤ 255 := fun j hj => by
                by_cases hjq : j = q
                · rw [hjq, a2]; exact bt_range s r
                · by_cases hjr : j = r
                  · rw [hjr, a1]; exact bt_range s q
                  · rw [a3 j hjq hjr]; exact bt_range s j
              rwa [swap_no (i := q) (by omega) HG.out (by rw [← hrq]; exact hne) (by rw [bt_list8 g6 hgr q hqn, a2, hrq]) (by rw [← hrq, bt_list8 g6 hgr r hrn, a1]) (fun j hj hjq hjr => by rw [bt_list8 g6 hgr j hj, a3 j hjq (by omega)])] at h1)
            have cv6 := R6.conv (c := cap5)
            clear R6 a1 a2 a3 hrq
            simp only [dtD, List.foldl, dtV, Act.put]
            go_wp2_with fail
            (with_reducible refine (HN6.out _).mono ?_)
            rintro e w7 ⟨rfl, hb⟩
            have B7 := Lib.hid (below_old B6.out hb)
            clear hb cv6
            go_wp2_with fail
            (with_reducible refine (HIs.out _).mono ?_)
            rintro e w8 ⟨rfl, hb⟩
            have B8 := Lib.hid (below_old B7.out hb); clear hb
            go_wp2_with fail
            (with_reducible refine (awake02 _ (HT.out.below B8.out)).mono ?_)
            rintro e wz ⟨rfl, hb⟩
            have BZ := Lib.hid hb; clear hb
            go_wp2_with fail
            go_ret
            exact ⟨rfl, below_old B8.out BZ.out⟩
      · have hd : decide ((q : Int) < 7) = false := by simpa using h7
        go_quiet (fail)
        go_wp2_with fail
        (with_reducible refine (HIs.out _).mono ?_)
        rintro e w6 ⟨rfl, hb⟩
        have B6 := Lib.hid (below_old (below_drewN B5.out nq) hb); clear hb
        go_wp2_with fail
        (with_reducible refine (awake02 _ (HT.out.below B6.out)).mono ?_)
        rintro e wz ⟨rfl, hb⟩
        have BZ := Lib.hid hb; clear hb
        go_wp2_with fail
        go_ret
        exact ⟨rfl, below_old B6.out BZ.out⟩
  · have E1 := Lib.hid D1; clear D1
    generalize codT k n = s at *
    generalize codB k n = z at *
    have hz : (z != 0) = true := by simpa using hc
    go_enter Tryd.func9, Tryd.ntmps9
    go_wp2_with fail
    (with_reducible refine (E1.out _ (HT.out.below ((Below.refl _ _).alloc (Nat.le_refl _) _))).mono ?_)
    rintro e w1 ⟨rfl, hb⟩
    have c0 : w1.cell? ⟨w.heap.size, 0, none⟩ = some (.int .u8 x) := (hb.cell (p := ⟨w.heap.size, 0, none⟩) (by simp)).trans (by simp [go_sem])
    have c1 : w1.cell? ⟨w.heap.size, 1, none⟩ = some (.int .u8 y) := (hb.cell (p := ⟨w.heap.size, 1, none⟩) (by simp)).trans (by simp [go_sem])
    have L1 : w.heap.size < w1.heap.size := Nat.lt_of_lt_of_le (by simp) hb.size
    have B1 := Lib.hid (below_old ((Below.refl _ _).alloc (Nat.le_refl _) _) hb); clear hb
    go_wp2_with fail
    (with_reducible refine (awake02 _ (HT.out.below B1.out)).mono ?_)
    rintro e wz ⟨rfl, hb⟩
    have BZ := Lib.hid hb; clear hb
    go_wp2_with fail
    go_ret
    exact ⟨rfl, below_old B1.out BZ.out⟩
end Go.Proofs.YtlhjneeccjkaoaaDoor
