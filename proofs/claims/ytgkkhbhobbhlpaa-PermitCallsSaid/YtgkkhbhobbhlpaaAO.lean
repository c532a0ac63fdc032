/- PermitCalls: the walk. -/
import Derived.Test.YtgkkhbhobbhlpaaAN
namespace Go.Proofs.Ytgkkhbhobbhlpaa
open Go.RowKit
set_option linter.unusedVariables false
theorem row_slr {w : World} {B : Nat} {t : TypeId} {k n : Nat} {v : Value} {xs : List Value} (h : w.ownsRow B t k v n xs) (A : Option Addr) (c : Nat) (hv : v = .slice A n c) : SlR w A xs := by
  obtain ⟨A', c', e, hs, _⟩ := SlR.of_row h
  rw [hv] at e
  simp only [Value.slice.injEq, true_and] at e
  rw [e.1]
  exact hs
theorem ruse_eq (B : Nat) (R R' : Pt.Rg) (vp vl : Value) (id : ByteArray) (v x : Int) (hx : Hid (Pt.usE R id v = x)) (hR : Hid (Pt.usR R id v = R')) (w : World) (HR : Hid (RR w B R vp vl)) (HO : Hid (Pt.Ok R)) (hB : Hid (B ≤ w.heap.size)) :
    Calls Try.prog 20 #[.agg #[vp, vl], .string id, .int .i64 v] w fun e w' => ∃ vp' vl', e = .returned (.tuple #[.agg #[vp', vl'], .int .i64 x]) ∧ RDone w w' B R' vl vp' vl' := by
  have := ruse_any B R vp vl id v w HR HO hB.out
  rw [hx.out, hR.out] at this
  exact this
theorem rfell_eq (B : Nat) (R : Pt.Rg) (vp vl : Value) (id sp : ByteArray) (t x : Int) (hx : Hid (Pt.flE R id sp t = x)) (w : World) (HR : Hid (RR w B R vp vl)) (HO : Hid (Pt.Ok R)) :
    Calls Try.prog 23 #[.agg #[vp, vl], .string id, .string sp, .int .i64 t] w fun e w' => e = .returned (.int .i64 x) ∧ Below w.heap.size w w' := by
  have := rfell_any B R vp vl id sp t w HR HO
  rw [hx.out] at this
  exact this
theorem rleft_eq (B : Nat) (R : Pt.Rg) (vp vl : Value) (id : ByteArray) (x : Int) (b : Bool) (hx : Hid (Pt.lfN R id = x)) (hb : Hid (Pt.lfB R id = b)) (w : World) (HR : Hid (RR w B R vp vl)) (HO : Hid (Pt.Ok R)) :
    Calls Try.prog 25 #[.agg #[vp, vl], .string id] w fun e w' => e = .returned (.tuple #[.int .i64 x, .bool b]) ∧ Below w.heap.size w w' := by
  have := rleft_any B R vp vl id w HR HO
  rw [hx.out, hb.out] at this
  exact this
set_option maxRecDepth 100000 in
set_option maxHeartbeats 16000000 in
theorem permitCalls_walk (A : Option Addr) (c : Nat) (l : List Opr) (w : World) (HS : Hid (SlR w A (orow l))) (hl : (l.length : Int) ≤ 9223372036854775807) (HZ : Hid (Sized l)) :
    Calls Try.prog 3 #[.slice A l.length c] w fun e w' => e = .returned (.bool true) ∧ Below w.heap.size w w' := by
  cases hsh : shortB l with
  | false =>
    have HSH := Lib.hid hsh
    clear hsh
    go_enter Try.func3, Try.ntmps3
    go_wp2_with fail
    (with_reducible refine (short_eq _ _ _ _ HSH _ HS hl HZ).mono ?_)
    rintro e w1 ⟨rfl, hw1⟩
    subst w1
    go_wp2_with fail
    (with_reducible refine (awake_any _).mono ?_)
    rintro e wz ⟨rfl, hb⟩
    have HBZ := Lib.hid (below_old (Below.refl _ _) hb)
    clear hb
    go_wp2_with fail
    go_ret
    exact ⟨rfl, HBZ.out⟩
  | true =>
    have HSH := Lib.hid hsh
    have z60 : (l.length : Int) ≤ 60 := by have := short_len hsh; omega
    clear hsh
    go_enter Try.func3, Try.ntmps3
    go_wp2_with fail
    (with_reducible refine (short_eq _ _ _ _ HSH _ HS hl HZ).mono ?_)
    rintro e w1 ⟨rfl, hw1⟩
    subst w1
    go_wp2_with fail
    (with_reducible refine (new_any _).mono ?_)
    rintro e w1 ⟨rfl, rfl⟩
    have HC0 := Lib.hid (CaW.new w)
    go_wp2_with fail
    go_loopw [5] (fun i wr => ∃ (k : Nat), i = .int .i64 k ∧ k ≤ l.length ∧ Hid (∃ vp' vl', CaW w wr (w.heap.size + 1) (plR (l.take k)) (plR (l.take k)) vp' vl')) (fun i _ => l.length - (intOf i).toNat)
    case atStart => exact ⟨0, rfl, by omega, ⟨_, _, HC0.out⟩⟩
    case round =>
      clear HC0
      obtain ⟨k, rfl, hk, HCe⟩ := hrel
      obtain ⟨vp', vl', hC⟩ := HCe.out
      have HC := Lib.hid hC
      clear hC HCe
      have HO := Lib.hid (plOk (l.take k))
      have hlen := HO.out.len
      by_cases hlt : k < l.length
      · have HS2 := Lib.hid (HS.out.below HC.out.bel)
        obtain ⟨b, off, rfl, hb, c0, c1, c2, c3, c4, c5, c6⟩ := HS2.out.op hlt
        have zk : (k : Int) < (l.length : Int) := by omega
        obtain ⟨z1, z2⟩ := short_at HSH.out hlt
        have hN := pl_next l k hlt
        have hOn := plOk (l.take (k + 1))
        obtain ⟨o, ho⟩ : ∃ o, l[k] = o := ⟨_, rfl⟩
        rw [ho] at c0 c1 c2 c3 c4 c5 c6 z1 z2 hN
        obtain ⟨R, hR⟩ : ∃ R, plR (l.take k) = R := ⟨_, rfl⟩
        rw [hR] at HC HO hN hlen
        clear hR
        obtain ⟨R', hR'⟩ : ∃ R', plR (l.take (k + 1)) = R' := ⟨_, rfl⟩
        rw [hR'] at hN hOn
        have HO' := Lib.hid hOn
        have HNX := Lib.hid hR'
        clear hR' hOn
        have hbx := (Below.refl wr.heap.size wr).alloc (Nat.le_refl _) (.cells #[.string o.p.id, .string o.p.sp, .int .i64 o.p.fr, .int .i64 o.p.un, .int .i64 o.p.qu] 32)
        have HP : Hid (PBox (wr.alloc (.cells #[.string o.p.id, .string o.p.sp, .int .i64 o.p.fr, .int .i64 o.p.un, .int .i64 o.p.qu] 32)) wr.heap.size o.p) := Blk.new _ _ _
        have HC1 := Lib.hid (HC.out.below hbx)
        have HCL : Hid (∀ w', Below w.heap.size w w' → w'.cell? ⟨b, off + k * 7, none⟩ = some (.int .i64 o.k) ∧ w'.cell? ⟨b, off + k * 7 + 6, none⟩ = some (.int .i64 o.n)) := fun w' hb' => by
          obtain ⟨b', off', e', _, x0, _, _, _, _, _, x6⟩ := (HS.out.below hb').op hlt
          cases e'
          rw [ho] at x0 x6
          exact ⟨x0, x6⟩
        clear ho
        obtain ⟨d0, d6⟩ := HCL.out _ HC1.out.bel
        by_cases h0 : o.k = 0
        · have hk0 : (o.k == 0) = true := by simpa using h0
          have hN0 : R' = Pt.adR R o.p := by rw [hN, stepR, if_pos h0]
          clear hN h0 hbx
          subst hN0
          have y0 : (wr.alloc (.cells #[.string o.p.id, .string o.p.sp, .int .i64 o.p.fr, .int .i64 o.p.un, .int .i64 o.p.qu] 32)).cell? ⟨w.heap.size + 1, 0, none⟩ = some vp' := HC1.out.x.cell 0
          have y1 : (wr.alloc (.cells #[.string o.p.id, .string o.p.sp, .int .i64 o.p.fr, .int .i64 o.p.un, .int .i64 o.p.qu] 32)).cell? ⟨w.heap.size + 1, 1, none⟩ = some vl' := HC1.out.x.cell 1
          have hB := HC1.out.bel.size
          go_wp2_with fail
          (with_reducible refine (radd_any w.heap.size R vp' vl' o.p (by omega) (by omega) _ (Lib.hid HC1.out.rr) HO hB).mono ?_)
          rintro e w2 ⟨vp2, vl2, rfl, hd⟩
          obtain ⟨A2, k2, hv2⟩ := row_form hd.rows.per
          obtain ⟨A3, k3, hv3⟩ := row_form hd.rows.lef
          obtain ⟨Rn, hRn⟩ : ∃ Q, Pt.adR R o.p = Q := ⟨_, rfl⟩
          rw [hRn] at hd hv2 hv3 HNX HO'
          have HRN := Lib.hid hRn
          clear hRn
          subst hv2 hv3
          have HY3 := Lib.hid (HC1.out.boxed hd)
          have hb2 := (Below.refl _ w2).alloc (Nat.le_refl _) (.cells #[.slice A2 Rn.length k2, .slice A3 Rn.length k3] 30)
          have HC3 := Lib.hid ((HC1.out.below hd.bel).below hb2)
          have HP3 := Lib.hid (PBox.below (PBox.below HP.out hd.bel) hb2)
          obtain ⟨vp, vu, hr0, ap0⟩ := HC1.out.reg
          have hfr := HC1.out.fresh hr0 ap0 hd.fresh
          have HR := Lib.hid ((hr0.below hd.bel).below hb2)
          have HA1 := Lib.hid ap0
          have HA2 := Lib.hid hfr
          clear hd hb2 y0 y1 d0 d6 hB hr0 ap0 hfr
          obtain ⟨x, hx⟩ : ∃ x, Pt.adE R o.p = x := ⟨_, rfl⟩
          rw [hx]
          have HE := Lib.hid hx
          clear hx
          obtain ⟨c0', c1', c2', c3', c4'⟩ := HP3.out.cells
          go_wp2_with fail
          (with_reducible refine (add_eq o.p _ HE HRN (by omega) (by omega) _ HR HO).mono ?_)
          rintro e w4 ⟨rfl, ha⟩
          have HY4 := Lib.hid (HY3.out.added HR.out HA2.out ha)
          have HC4 := Lib.hid (HC3.out.added HR.out HA1.out ha)
          have HP4 : Hid (PBox w4 wr.heap.size o.p) := Blk.grown HP3.out ha.grown (HR.out.other HP3.out (by decide) (by decide)).1
          clear ha c0' c1' c2' c3' c4'
          clear HC HP HC1 HC3 HP3 HY3 HR HA1 HA2
          have e0 : w4.cell? ⟨w2.heap.size, 0, none⟩ = some (.slice A2 Rn.length k2) := HY4.out.x.cell 0
          have e1 : w4.cell? ⟨w2.heap.size, 1, none⟩ = some (.slice A3 Rn.length k3) := HY4.out.x.cell 1
          have x0 : w4.cell? ⟨w.heap.size + 1, 0, none⟩ = some _ := HC4.out.x.cell 0
          have x1 : w4.cell? ⟨w.heap.size + 1, 1, none⟩ = some _ := HC4.out.x.cell 1
          have f0 := HC4.out.x.frozen 0
          have f1 := HC4.out.x.frozen 1
          have HC5 := Lib.hid (HC4.out.copy HY4.out)
          have HP5 : Hid (PBox ((w4.setCell ⟨w.heap.size + 1, 0, none⟩ (.slice A2 Rn.length k2)).setCell ⟨w.heap.size + 1, 1, none⟩ (.slice A3 Rn.length k3)) wr.heap.size o.p) :=
            Blk.grown HP4.out ((set_grown w4 (w.heap.size + 1) 0 (.slice A2 Rn.length k2)).trans (set_grown (w4.setCell ⟨w.heap.size + 1, 0, none⟩ (.slice A2 Rn.length k2)) (w.heap.size + 1) 1 (.slice A3 Rn.length k3))) (blk_ne HP4.out HC4.out.x (by decide))
          obtain ⟨c0', c1', c2', c3', c4'⟩ := HP5.out.cells
          go_wp2_with fail
          clear c0' c1' c2' c3' c4' e0 e1 x0 x1 f0 f1 HC4 HY4 HP4
          generalize (w4.setCell ⟨w.heap.size + 1, 0, none⟩ (.slice A2 Rn.length k2)).setCell ⟨w.heap.size + 1, 1, none⟩ (.slice A3 Rn.length k3) = w5 at HC5 HP5 ⊢
          -- what is left; the lists (HC5 : CaW at w5, HP5, at the call of Left)
          obtain ⟨n, hn⟩ : ∃ n, Pt.lfN Rn o.p.id = n := ⟨_, rfl⟩
          obtain ⟨bb, hbb⟩ : ∃ n, Pt.lfB Rn o.p.id = n := ⟨_, rfl⟩
          have HN1 := Lib.hid hn
          have HN2 := Lib.hid hbb
          clear hn hbb
          obtain ⟨vp5, vu5, hr5, ap5⟩ := HC5.out.reg
          (with_reducible refine (left_eq o.p.id _ _ HN1 HN2 _ (Lib.hid hr5) HO').mono ?_)
          rintro e wL ⟨rfl, hb⟩
          have HC6 := Lib.hid (HC5.out.below hb)
          have HP6 := Lib.hid (PBox.below HP5.out hb)
          clear hb hr5 ap5 HC5 HP5
          have x0 : wL.cell? ⟨w.heap.size + 1, 0, none⟩ = some _ := HC6.out.x.cell 0
          have x1 : wL.cell? ⟨w.heap.size + 1, 1, none⟩ = some _ := HC6.out.x.cell 1
          obtain ⟨c0', c1', c2', c3', c4'⟩ := HP6.out.cells
          go_wp2_with fail
          clear c0' c1' c2' c3' c4' x0 x1
          (with_reducible refine (rleft_eq _ Rn _ _ o.p.id _ _ HN1 HN2 _ (Lib.hid HC6.out.rr) HO').mono ?_)
          rintro e wM ⟨rfl, hb⟩
          have HC7 := Lib.hid (HC6.out.below hb)
          clear hb HC6 HP6
          have hl16 := HO'.out.len
          obtain ⟨vp7, vu7, hr7, ap7⟩ := HC7.out.reg
          have HR7 := Lib.hid hr7
          clear hr7 ap7
          go_wp2_with fail
          have x0 : wM.cell? ⟨w.heap.size + 1, 0, none⟩ = some (.slice A2 Rn.length k2) := HC7.out.x.cell 0
          have hd0 : wM.drew.cell? ⟨w.heap.size + 1, 0, none⟩ = some (.slice A2 Rn.length k2) := x0
          have HRd := Lib.hid (HR7.out.below ((Below.refl wM.heap.size wM).drew))
          go_region_held3 (fun w' => w'.cell? ⟨w.heap.size + 1, 0, none⟩ = some (.slice A2 Rn.length k2)) (first | exact hd0 | exact hd1 | exact hd2)
            (first | (go_at_call 27; (with_reducible refine (list_any _ HRd HO').mono ?_); rintro e wN ⟨v, rfl, hown, hb⟩; (have HCN := Lib.hid (HC7.out.below (below_old ((Below.refl wM.heap.size wM).drew) hb))); (have hd1 : wN.cell? ⟨w.heap.size + 1, 0, none⟩ = some (.slice A2 Rn.length k2) := HCN.out.x.cell 0); (have hva := row_slr hown); (obtain ⟨AN, kN, rfl⟩ := row_form hown); (have HAN := Lib.hid (hva AN kN rfl)); (clear hva hown hb)) | (go_at_call 26; (with_reducible refine (same_any _ _ _ _ Rn _ HAN (Lib.hid (row_slr HCN.out.rr.per _ _ rfl)) (by omega)).mono ?_); rintro e wO ⟨rfl, hb⟩; (have HCO := Lib.hid (HCN.out.below hb)); (have hd2 : wO.cell? ⟨w.heap.size + 1, 0, none⟩ = some (.slice A2 Rn.length k2) := HCO.out.x.cell 0); (clear hb)))
          go_wp2_with fail
          have HFin : Hid (∃ vp' vl', CaW w wO (w.heap.size + 1) (plR (l.take (k + 1))) (plR (l.take (k + 1))) vp' vl') := ⟨_, _, by rw [HNX.out]; exact HCO.out⟩
          go_roundw
          case rel => exact ⟨k + 1, by go_num, by omega, HFin⟩
          case measure => simp [intOf]; omega
        · have hk0 : (o.k == 0) = false := by simpa using h0
          obtain ⟨A1, k1, hv1⟩ := row_form HC1.out.rr.per
          subst hv1
          obtain ⟨A4, k4, hv4⟩ := row_form HC1.out.rr.lef
          subst hv4
          by_cases h1 : o.k = 1
          · have hk1 : (o.k == 1) = true := by simpa using h1
            have hN0 : R' = Pt.usR R o.p.id o.n := by rw [hN, stepR, if_neg h0, if_pos h1]
            clear hN h0 h1 hbx
            obtain ⟨Rn, hRn⟩ : ∃ Q, R' = Q := ⟨_, rfl⟩
            rw [hRn] at hN0 HO' HNX
            have HRN : Hid (Pt.usR R o.p.id o.n = Rn) := hN0.symm
            clear hN0 hRn
            obtain ⟨x, hx⟩ : ∃ x, Pt.usE R o.p.id o.n = x := ⟨_, rfl⟩
            have HE := Lib.hid hx
            clear hx
            go_wp2_with fail
            clear c0 c1 c2 c3 c4 c5 c6
            have hpb : w.heap.size + 1 < wr.heap.size := HC.out.x.lt
            generalize wr.alloc (.cells #[.string o.p.id, .string o.p.sp, .int .i64 o.p.fr, .int .i64 o.p.un, .int .i64 o.p.qu] 32) = w1 at HC1 HP d0 d6 ⊢
            have HSK : Hid (∀ w', Below w1.heap.size w1 w' → w'.cell? ⟨w.heap.size + 1, 0, none⟩ = some (.slice A1 R.length k1) ∧ w'.cell? ⟨w.heap.size + 1, 1, none⟩ = some (.slice A4 R.length k4) ∧ w'.cell? ⟨wr.heap.size, 0, none⟩ = some (.string o.p.id) ∧ w'.cell? ⟨b, off + k * 7 + 6, none⟩ = some (.int .i64 o.n)) := fun w' hb' =>
              ⟨(HC1.out.below hb').x.cell 0, (HC1.out.below hb').x.cell 1, (PBox.below HP.out hb').cells.1, (HCL.out w' (below_old HC1.out.bel hb')).2⟩
            have B0 := Lib.hid ((Below.refl w1.heap.size w1).drew)
            have B1 := Lib.hid (((Below.refl w1.heap.size w1).alloc (Nat.le_refl _) (.cells #[.slice none 0 0, .slice none 0 0] 30)).drew)
            have HR0 := Lib.hid (HC1.out.rr.below B0.out)
            have HR1 := Lib.hid (HC1.out.rr.below B1.out)
            have HS0 : Hid (w.heap.size ≤ w1.drew.heap.size) := HC1.out.bel.size
            have HS1 : Hid (w.heap.size ≤ (w1.alloc (.cells #[.slice none 0 0, .slice none 0 0] 30)).drew.heap.size) := Nat.le_trans HC1.out.bel.size B1.out.size
            have HYD : Hid (Blk (w1.alloc (.cells #[.slice none 0 0, .slice none 0 0] 30)).drew w1.heap.size 30 #[.slice none 0 0, .slice none 0 0]) := Blk.new _ _ _
            have s0 := HSK.out _ B0.out
            go_region_held3 (fun w' => w'.cell? ⟨w.heap.size + 1, 0, none⟩ = some (.slice A1 R.length k1) ∧ w'.cell? ⟨w.heap.size + 1, 1, none⟩ = some (.slice A4 R.length k4) ∧ w'.cell? ⟨wr.heap.size, 0, none⟩ = some (.string o.p.id) ∧ w'.cell? ⟨b, off + k * 7 + 6, none⟩ = some (.int .i64 o.n))
              (first | exact HSK.out _ B0.out | exact HSK.out _ B1.out | exact HSK.out _ hb3.out | exact HSK.out _ (hb3.out.alloc hb3.out.size _) | exact HSK.out _ ((hb3.out.setCell (p := ⟨w1.heap.size, 0, none⟩) (Nat.le_refl _) _).setCell (p := ⟨w1.heap.size, 1, none⟩) (Nat.le_refl _) _))
              (first | (go_at_call 20; (with_reducible refine (ruse_eq w.heap.size R _ _ _ o.p.id o.n _ HE HRN _ HR0 HO HS0).mono ?_); rintro e w3 ⟨vp2, vl2, rfl, hd⟩; (have HD := Lib.hid (RDone.from_ B0.out hd)); (have hb3 := Lib.hid HD.out.bel); (obtain ⟨A2, k2, hv2⟩ := row_form hd.rows.per); (obtain ⟨A3, k3, hv3⟩ := row_form hd.rows.lef); (subst vp2); (subst vl2); clear hd) | (go_at_call 20; (with_reducible refine (ruse_eq w.heap.size R _ _ _ o.p.id o.n _ HE HRN _ HR1 HO HS1).mono ?_); rintro e w3 ⟨vp2, vl2, rfl, hd⟩; (have HD := Lib.hid (RDone.from_ B1.out hd)); (have hb3 := Lib.hid HD.out.bel); (have HYB := Lib.hid (HYD.out.below hd.bel)); (have y0 : w3.cell? ⟨w1.heap.size, 0, none⟩ = some (.slice none 0 0) := HYB.out.cell 0); (have y1 : w3.cell? ⟨w1.heap.size, 1, none⟩ = some (.slice none 0 0) := HYB.out.cell 1); (have g0 := HYB.out.frozen 0); (have g1 := HYB.out.frozen 1); (obtain ⟨A2, k2, hv2⟩ := row_form hd.rows.per); (obtain ⟨A3, k3, hv3⟩ := row_form hd.rows.lef); (subst vp2); (subst vl2); clear hd))
            · have hb2 := (Below.refl _ w3).alloc (Nat.le_refl _) (.cells #[.slice A2 Rn.length k2, .slice A3 Rn.length k3] 30)
              have HY := Lib.hid (HC1.out.boxed HD.out)
              have HCx := Lib.hid ((HC1.out.below HD.out.bel).below hb2)
              have HPx := Lib.hid (PBox.below (PBox.below HP.out HD.out.bel) hb2)
              clear hb2 s0 HYD HS0 HS1 HR0 HR1 B0 B1 HSK HD hb3 HC1 HP HC d0 d6
              generalize w3.alloc (.cells #[.slice A2 Rn.length k2, .slice A3 Rn.length k3] 30) = wY at HY HCx HPx ⊢
              generalize w3.heap.size = yb at HY ⊢
              obtain ⟨vp, vu, hr, ap2⟩ := HY.out.reg
              obtain ⟨vpq, vuq, hrq, ap1⟩ := HCx.out.reg
              obtain ⟨rfl, rfl⟩ := hr.val hrq
              have hbd := (Below.refl wY.heap.size wY).drew
              have HRd := Lib.hid (hr.below hbd)
              have HA1 := Lib.hid ap1
              have HA2 := Lib.hid ap2
              have HYd := Lib.hid (HY.out.below hbd)
              have HCd := Lib.hid (HCx.out.below hbd)
              have HPd := Lib.hid (PBox.below HPx.out hbd)
              have q0 : wY.drew.cell? ⟨wr.heap.size, 0, none⟩ = some (.string o.p.id) ∧ wY.drew.cell? ⟨b, off + k * 7 + 6, none⟩ = some (.int .i64 o.n) := ⟨HPd.out.cells.1, (HCL.out _ HCd.out.bel).2⟩
              clear hr hrq ap1 ap2 hbd HY HCx HPx
              go_wp2_with fail
              go_region_held3 (fun w' => w'.cell? ⟨wr.heap.size, 0, none⟩ = some (.string o.p.id) ∧ w'.cell? ⟨b, off + k * 7 + 6, none⟩ = some (.int .i64 o.n)) (first | exact q0 | exact q1)
                (first | (go_at_call 21; (with_reducible refine (use_eq o.p.id o.n _ HE HRN _ HRd HO).mono ?_); rintro e w4 ⟨rfl, hr4, hg4⟩; (have HY4 := Lib.hid (HYd.out.used HRd.out HA2.out hr4 hg4)); (have HC4 := Lib.hid (HCd.out.used HRd.out HA1.out hr4 hg4)); (have HP4 : Hid (PBox w4 wr.heap.size o.p) := Blk.grown HPd.out hg4 (HRd.out.other HPd.out (by decide) (by decide)).2); (have q1 : w4.cell? ⟨wr.heap.size, 0, none⟩ = some (.string o.p.id) ∧ w4.cell? ⟨b, off + k * 7 + 6, none⟩ = some (.int .i64 o.n) := ⟨HP4.out.cells.1, (HCL.out _ HC4.out.bel).2⟩); clear hr4 hg4))
              clear q0 q1 HYd HCd HPd HRd HA1 HA2
              have e0 : w4.cell? ⟨yb, 0, none⟩ = some (.slice A2 Rn.length k2) := HY4.out.x.cell 0
              have e1 : w4.cell? ⟨yb, 1, none⟩ = some (.slice A3 Rn.length k3) := HY4.out.x.cell 1
              have x0 : w4.cell? ⟨w.heap.size + 1, 0, none⟩ = some _ := HC4.out.x.cell 0
              have x1 : w4.cell? ⟨w.heap.size + 1, 1, none⟩ = some _ := HC4.out.x.cell 1
              have f0 := HC4.out.x.frozen 0
              have f1 := HC4.out.x.frozen 1
              have HC5 := Lib.hid (HC4.out.copy HY4.out)
              have HP5 : Hid (PBox ((w4.setCell ⟨w.heap.size + 1, 0, none⟩ (.slice A2 Rn.length k2)).setCell ⟨w.heap.size + 1, 1, none⟩ (.slice A3 Rn.length k3)) wr.heap.size o.p) :=
                Blk.grown HP4.out ((set_grown w4 (w.heap.size + 1) 0 (.slice A2 Rn.length k2)).trans (set_grown (w4.setCell ⟨w.heap.size + 1, 0, none⟩ (.slice A2 Rn.length k2)) (w.heap.size + 1) 1 (.slice A3 Rn.length k3))) (blk_ne HP4.out HC4.out.x (by decide))
              obtain ⟨c0', c1', c2', c3', c4'⟩ := HP5.out.cells
              go_wp2_with fail
              clear c0' c1' c2' c3' c4' e0 e1 x0 x1 f0 f1 HC4 HY4 HP4
              generalize (w4.setCell ⟨w.heap.size + 1, 0, none⟩ (.slice A2 Rn.length k2)).setCell ⟨w.heap.size + 1, 1, none⟩ (.slice A3 Rn.length k3) = w5 at HC5 HP5 ⊢
              -- what is left; the lists (HC5 : CaW at w5, HP5, at the call of Left)
              obtain ⟨n, hn⟩ : ∃ n, Pt.lfN Rn o.p.id = n := ⟨_, rfl⟩
              obtain ⟨bb, hbb⟩ : ∃ n, Pt.lfB Rn o.p.id = n := ⟨_, rfl⟩
              have HN1 := Lib.hid hn
              have HN2 := Lib.hid hbb
              clear hn hbb
              obtain ⟨vp5, vu5, hr5, ap5⟩ := HC5.out.reg
              (with_reducible refine (left_eq o.p.id _ _ HN1 HN2 _ (Lib.hid hr5) HO').mono ?_)
              rintro e wL ⟨rfl, hb⟩
              have HC6 := Lib.hid (HC5.out.below hb)
              have HP6 := Lib.hid (PBox.below HP5.out hb)
              clear hb hr5 ap5 HC5 HP5
              have x0 : wL.cell? ⟨w.heap.size + 1, 0, none⟩ = some _ := HC6.out.x.cell 0
              have x1 : wL.cell? ⟨w.heap.size + 1, 1, none⟩ = some _ := HC6.out.x.cell 1
              obtain ⟨c0', c1', c2', c3', c4'⟩ := HP6.out.cells
              go_wp2_with fail
              clear c0' c1' c2' c3' c4' x0 x1
              (with_reducible refine (rleft_eq _ Rn _ _ o.p.id _ _ HN1 HN2 _ (Lib.hid HC6.out.rr) HO').mono ?_)
              rintro e wM ⟨rfl, hb⟩
              have HC7 := Lib.hid (HC6.out.below hb)
              clear hb HC6 HP6
              have hl16 := HO'.out.len
              obtain ⟨vp7, vu7, hr7, ap7⟩ := HC7.out.reg
              have HR7 := Lib.hid hr7
              clear hr7 ap7
              go_wp2_with fail
              have x0 : wM.cell? ⟨w.heap.size + 1, 0, none⟩ = some (.slice A2 Rn.length k2) := HC7.out.x.cell 0
              have hd0 : wM.drew.cell? ⟨w.heap.size + 1, 0, none⟩ = some (.slice A2 Rn.length k2) := x0
              have HRd := Lib.hid (HR7.out.below ((Below.refl wM.heap.size wM).drew))
              go_region_held3 (fun w' => w'.cell? ⟨w.heap.size + 1, 0, none⟩ = some (.slice A2 Rn.length k2)) (first | exact hd0 | exact hd1 | exact hd2)
                (first | (go_at_call 27; (with_reducible refine (list_any _ HRd HO').mono ?_); rintro e wN ⟨v, rfl, hown, hb⟩; (have HCN := Lib.hid (HC7.out.below (below_old ((Below.refl wM.heap.size wM).drew) hb))); (have hd1 : wN.cell? ⟨w.heap.size + 1, 0, none⟩ = some (.slice A2 Rn.length k2) := HCN.out.x.cell 0); (have hva := row_slr hown); (obtain ⟨AN, kN, rfl⟩ := row_form hown); (have HAN := Lib.hid (hva AN kN rfl)); (clear hva hown hb)) | (go_at_call 26; (with_reducible refine (same_any _ _ _ _ Rn _ HAN (Lib.hid (row_slr HCN.out.rr.per _ _ rfl)) (by omega)).mono ?_); rintro e wO ⟨rfl, hb⟩; (have HCO := Lib.hid (HCN.out.below hb)); (have hd2 : wO.cell? ⟨w.heap.size + 1, 0, none⟩ = some (.slice A2 Rn.length k2) := HCO.out.x.cell 0); (clear hb)))
              go_wp2_with fail
              have HFin : Hid (∃ vp' vl', CaW w wO (w.heap.size + 1) (plR (l.take (k + 1))) (plR (l.take (k + 1))) vp' vl') := ⟨_, _, by rw [HNX.out]; exact HCO.out⟩
              go_roundw
              case rel => exact ⟨k + 1, by go_num, by omega, HFin⟩
              case measure => simp [intOf]; omega
            · have HY := Lib.hid (HC1.out.boxed0 HD.out HYB.out (Nat.le_refl _))
              have HCx := Lib.hid ((HC1.out.below HD.out.bel).past HC1.out.x.lt ⟨_, _, HYB.out⟩ (.slice A2 Rn.length k2) (.slice A3 Rn.length k3))
              have HPx : Hid (PBox ((w3.setCell ⟨w1.heap.size, 0, none⟩ (.slice A2 Rn.length k2)).setCell ⟨w1.heap.size, 1, none⟩ (.slice A3 Rn.length k3)) wr.heap.size o.p) := Blk.grown (PBox.below HP.out HD.out.bel) ((set_grown w3 w1.heap.size 0 (.slice A2 Rn.length k2)).trans (set_grown (w3.setCell ⟨w1.heap.size, 0, none⟩ (.slice A2 Rn.length k2)) w1.heap.size 1 (.slice A3 Rn.length k3))) (blk_ne (PBox.below HP.out HD.out.bel) HYB.out (by decide))
              clear s0 HYD HS0 HS1 HR0 HR1 B0 B1 HSK HD hb3 HC1 HP HC d0 d6 HYB y0 y1 g0 g1
              generalize (w3.setCell ⟨w1.heap.size, 0, none⟩ (.slice A2 Rn.length k2)).setCell ⟨w1.heap.size, 1, none⟩ (.slice A3 Rn.length k3) = wY at HY HCx HPx ⊢
              generalize w1.heap.size = yb at HY ⊢
              obtain ⟨vp, vu, hr, ap2⟩ := HY.out.reg
              obtain ⟨vpq, vuq, hrq, ap1⟩ := HCx.out.reg
              obtain ⟨rfl, rfl⟩ := hr.val hrq
              have hbd := (Below.refl wY.heap.size wY).drew
              have HRd := Lib.hid (hr.below hbd)
              have HA1 := Lib.hid ap1
              have HA2 := Lib.hid ap2
              have HYd := Lib.hid (HY.out.below hbd)
              have HCd := Lib.hid (HCx.out.below hbd)
              have HPd := Lib.hid (PBox.below HPx.out hbd)
              have q0 : wY.drew.cell? ⟨wr.heap.size, 0, none⟩ = some (.string o.p.id) ∧ wY.drew.cell? ⟨b, off + k * 7 + 6, none⟩ = some (.int .i64 o.n) := ⟨HPd.out.cells.1, (HCL.out _ HCd.out.bel).2⟩
              clear hr hrq ap1 ap2 hbd HY HCx HPx
              go_wp2_with fail
              go_region_held3 (fun w' => w'.cell? ⟨wr.heap.size, 0, none⟩ = some (.string o.p.id) ∧ w'.cell? ⟨b, off + k * 7 + 6, none⟩ = some (.int .i64 o.n)) (first | exact q0 | exact q1)
                (first | (go_at_call 21; (with_reducible refine (use_eq o.p.id o.n _ HE HRN _ HRd HO).mono ?_); rintro e w4 ⟨rfl, hr4, hg4⟩; (have HY4 := Lib.hid (HYd.out.used HRd.out HA2.out hr4 hg4)); (have HC4 := Lib.hid (HCd.out.used HRd.out HA1.out hr4 hg4)); (have HP4 : Hid (PBox w4 wr.heap.size o.p) := Blk.grown HPd.out hg4 (HRd.out.other HPd.out (by decide) (by decide)).2); (have q1 : w4.cell? ⟨wr.heap.size, 0, none⟩ = some (.string o.p.id) ∧ w4.cell? ⟨b, off + k * 7 + 6, none⟩ = some (.int .i64 o.n) := ⟨HP4.out.cells.1, (HCL.out _ HC4.out.bel).2⟩); clear hr4 hg4))
              clear q0 q1 HYd HCd HPd HRd HA1 HA2
              have e0 : w4.cell? ⟨yb, 0, none⟩ = some (.slice A2 Rn.length k2) := HY4.out.x.cell 0
              have e1 : w4.cell? ⟨yb, 1, none⟩ = some (.slice A3 Rn.length k3) := HY4.out.x.cell 1
              have x0 : w4.cell? ⟨w.heap.size + 1, 0, none⟩ = some _ := HC4.out.x.cell 0
              have x1 : w4.cell? ⟨w.heap.size + 1, 1, none⟩ = some _ := HC4.out.x.cell 1
              have f0 := HC4.out.x.frozen 0
              have f1 := HC4.out.x.frozen 1
              have HC5 := Lib.hid (HC4.out.copy HY4.out)
              have HP5 : Hid (PBox ((w4.setCell ⟨w.heap.size + 1, 0, none⟩ (.slice A2 Rn.length k2)).setCell ⟨w.heap.size + 1, 1, none⟩ (.slice A3 Rn.length k3)) wr.heap.size o.p) :=
                Blk.grown HP4.out ((set_grown w4 (w.heap.size + 1) 0 (.slice A2 Rn.length k2)).trans (set_grown (w4.setCell ⟨w.heap.size + 1, 0, none⟩ (.slice A2 Rn.length k2)) (w.heap.size + 1) 1 (.slice A3 Rn.length k3))) (blk_ne HP4.out HC4.out.x (by decide))
              obtain ⟨c0', c1', c2', c3', c4'⟩ := HP5.out.cells
              go_wp2_with fail
              clear c0' c1' c2' c3' c4' e0 e1 x0 x1 f0 f1 HC4 HY4 HP4
              generalize (w4.setCell ⟨w.heap.size + 1, 0, none⟩ (.slice A2 Rn.length k2)).setCell ⟨w.heap.size + 1, 1, none⟩ (.slice A3 Rn.length k3) = w5 at HC5 HP5 ⊢
              -- what is left; the lists (HC5 : CaW at w5, HP5, at the call of Left)
              obtain ⟨n, hn⟩ : ∃ n, Pt.lfN Rn o.p.id = n := ⟨_, rfl⟩
              obtain ⟨bb, hbb⟩ : ∃ n, Pt.lfB Rn o.p.id = n := ⟨_, rfl⟩
              have HN1 := Lib.hid hn
              have HN2 := Lib.hid hbb
              clear hn hbb
              obtain ⟨vp5, vu5, hr5, ap5⟩ := HC5.out.reg
              (with_reducible refine (left_eq o.p.id _ _ HN1 HN2 _ (Lib.hid hr5) HO').mono ?_)
              rintro e wL ⟨rfl, hb⟩
              have HC6 := Lib.hid (HC5.out.below hb)
              have HP6 := Lib.hid (PBox.below HP5.out hb)
              clear hb hr5 ap5 HC5 HP5
              have x0 : wL.cell? ⟨w.heap.size + 1, 0, none⟩ = some _ := HC6.out.x.cell 0
              have x1 : wL.cell? ⟨w.heap.size + 1, 1, none⟩ = some _ := HC6.out.x.cell 1
              obtain ⟨c0', c1', c2', c3', c4'⟩ := HP6.out.cells
              go_wp2_with fail
              clear c0' c1' c2' c3' c4' x0 x1
              (with_reducible refine (rleft_eq _ Rn _ _ o.p.id _ _ HN1 HN2 _ (Lib.hid HC6.out.rr) HO').mono ?_)
              rintro e wM ⟨rfl, hb⟩
              have HC7 := Lib.hid (HC6.out.below hb)
              clear hb HC6 HP6
              have hl16 := HO'.out.len
              obtain ⟨vp7, vu7, hr7, ap7⟩ := HC7.out.reg
              have HR7 := Lib.hid hr7
              clear hr7 ap7
              go_wp2_with fail
              have x0 : wM.cell? ⟨w.heap.size + 1, 0, none⟩ = some (.slice A2 Rn.length k2) := HC7.out.x.cell 0
              have hd0 : wM.drew.cell? ⟨w.heap.size + 1, 0, none⟩ = some (.slice A2 Rn.length k2) := x0
              have HRd := Lib.hid (HR7.out.below ((Below.refl wM.heap.size wM).drew))
              go_region_held3 (fun w' => w'.cell? ⟨w.heap.size + 1, 0, none⟩ = some (.slice A2 Rn.length k2)) (first | exact hd0 | exact hd1 | exact hd2)
                (first | (go_at_call 27; (with_reducible refine (list_any _ HRd HO').mono ?_); rintro e wN ⟨v, rfl, hown, hb⟩; (have HCN := Lib.hid (HC7.out.below (below_old ((Below.refl wM.heap.size wM).drew) hb))); (have hd1 : wN.cell? ⟨w.heap.size + 1, 0, none⟩ = some (.slice A2 Rn.length k2) := HCN.out.x.cell 0); (have hva := row_slr hown); (obtain ⟨AN, kN, rfl⟩ := row_form hown); (have HAN := Lib.hid (hva AN kN rfl)); (clear hva hown hb)) | (go_at_call 26; (with_reducible refine (same_any _ _ _ _ Rn _ HAN (Lib.hid (row_slr HCN.out.rr.per _ _ rfl)) (by omega)).mono ?_); rintro e wO ⟨rfl, hb⟩; (have HCO := Lib.hid (HCN.out.below hb)); (have hd2 : wO.cell? ⟨w.heap.size + 1, 0, none⟩ = some (.slice A2 Rn.length k2) := HCO.out.x.cell 0); (clear hb)))
              go_wp2_with fail
              have HFin : Hid (∃ vp' vl', CaW w wO (w.heap.size + 1) (plR (l.take (k + 1))) (plR (l.take (k + 1))) vp' vl') := ⟨_, _, by rw [HNX.out]; exact HCO.out⟩
              go_roundw
              case rel => exact ⟨k + 1, by go_num, by omega, HFin⟩
              case measure => simp [intOf]; omega
          · have hk1 : (o.k == 1) = false := by simpa using h1
            have hN0 : R' = R := by rw [hN, stepR, if_neg h0, if_neg h1]
            clear hN h0 h1 hbx
            subst hN0
            obtain ⟨Rn, hRn⟩ : ∃ Q, R' = Q := ⟨_, rfl⟩
            subst hRn
            obtain ⟨x, hx⟩ : ∃ x, Pt.flE R' o.p.id o.p.sp o.n = x := ⟨_, rfl⟩
            have HE := Lib.hid hx
            clear hx
            go_wp2_with fail
            clear c0 c1 c2 c3 c4 c5 c6
            generalize wr.alloc (.cells #[.string o.p.id, .string o.p.sp, .int .i64 o.p.fr, .int .i64 o.p.un, .int .i64 o.p.qu] 32) = w1 at *
            have D6 := fun u => (HCL.out (wx w1 u) (below_old HC1.out.bel (wx_below w1 u))).2
            have DI := fun u => (PBox.below HP.out (wx_below w1 u)).cells.1
            have DS := fun u => (PBox.below HP.out (wx_below w1 u)).cells.2.1
            have X0 : ∀ u, (wx w1 u).cell? ⟨w.heap.size + 1, 0, none⟩ = some (.slice A1 R'.length k1) := fun u => (HC1.out.below (wx_below w1 u)).x.cell 0
            have X1 : ∀ u, (wx w1 u).cell? ⟨w.heap.size + 1, 1, none⟩ = some (.slice A4 R'.length k4) := fun u => (HC1.out.below (wx_below w1 u)).x.cell 1
            obtain ⟨vp, vu, hr, ap⟩ := HC1.out.reg
            have HRX : ∀ u, Hid (Reg (wx w1 u) w.heap.size w.heap.size R' vp vu) := fun u => hr.below (wx_below w1 u)
            have HRY : ∀ u, Hid (RR (wx w1 u) w.heap.size R' (.slice A1 R'.length k1) (.slice A4 R'.length k4)) := fun u => HC1.out.rr.below (wx_below w1 u)
            clear hr ap
            refine wp_region_grows (by kernel_rfl) (by kernel_rfl) ?_
            repeat (go_big_quiet_step ((first | (go_at_call 22; (with_reducible exact calls_grows (fell_eq _ _ _ _ HE _ (HRX _) HO))) | (go_at_call 23; (with_reducible exact calls_grows (rfell_eq _ _ _ _ _ _ _ _ HE _ (HRY _) HO))))))
            refine wpQuiet_nil ?_
            rintro _ ⟨u, rfl⟩
            have HC5 := Lib.hid (HC1.out.below (wx_below w1 u))
            have HP5 := Lib.hid (PBox.below HP.out (wx_below w1 u))
            clear D6 DI DS X0 X1 HRX HRY HC1 HP HC d0 d6
            generalize wx w1 u = w5 at *
            obtain ⟨c0', c1', c2', c3', c4'⟩ := HP5.out.cells
            go_wp2_with fail
            clear c0' c1' c2' c3' c4'
            obtain ⟨Rn, hRn⟩ : ∃ Q, R' = Q := ⟨_, rfl⟩
            rw [hRn] at HC5 HO' HNX ⊢
            -- what is left; the lists (HC5 : CaW at w5, HP5, at the call of Left)
            obtain ⟨n, hn⟩ : ∃ n, Pt.lfN Rn o.p.id = n := ⟨_, rfl⟩
            obtain ⟨bb, hbb⟩ : ∃ n, Pt.lfB Rn o.p.id = n := ⟨_, rfl⟩
            have HN1 := Lib.hid hn
            have HN2 := Lib.hid hbb
            clear hn hbb
            obtain ⟨vp5, vu5, hr5, ap5⟩ := HC5.out.reg
            (with_reducible refine (left_eq o.p.id _ _ HN1 HN2 _ (Lib.hid hr5) HO').mono ?_)
            rintro e wL ⟨rfl, hb⟩
            have HC6 := Lib.hid (HC5.out.below hb)
            have HP6 := Lib.hid (PBox.below HP5.out hb)
            clear hb hr5 ap5 HC5 HP5
            have x0 : wL.cell? ⟨w.heap.size + 1, 0, none⟩ = some _ := HC6.out.x.cell 0
            have x1 : wL.cell? ⟨w.heap.size + 1, 1, none⟩ = some _ := HC6.out.x.cell 1
            obtain ⟨c0', c1', c2', c3', c4'⟩ := HP6.out.cells
            go_wp2_with fail
            clear c0' c1' c2' c3' c4' x0 x1
            (with_reducible refine (rleft_eq _ Rn _ _ o.p.id _ _ HN1 HN2 _ (Lib.hid HC6.out.rr) HO').mono ?_)
            rintro e wM ⟨rfl, hb⟩
            have HC7 := Lib.hid (HC6.out.below hb)
            clear hb HC6 HP6
            have hl16 := HO'.out.len
            obtain ⟨vp7, vu7, hr7, ap7⟩ := HC7.out.reg
            have HR7 := Lib.hid hr7
            clear hr7 ap7
            go_wp2_with fail
            have x0 : wM.cell? ⟨w.heap.size + 1, 0, none⟩ = some (.slice A1 Rn.length k1) := HC7.out.x.cell 0
            have hd0 : wM.drew.cell? ⟨w.heap.size + 1, 0, none⟩ = some (.slice A1 Rn.length k1) := x0
            have HRd := Lib.hid (HR7.out.below ((Below.refl wM.heap.size wM).drew))
            go_region_held3 (fun w' => w'.cell? ⟨w.heap.size + 1, 0, none⟩ = some (.slice A1 Rn.length k1)) (first | exact hd0 | exact hd1 | exact hd2)
              (first | (go_at_call 27; (with_reducible refine (list_any _ HRd HO').mono ?_); rintro e wN ⟨v, rfl, hown, hb⟩; (have HCN := Lib.hid (HC7.out.below (below_old ((Below.refl wM.heap.size wM).drew) hb))); (have hd1 : wN.cell? ⟨w.heap.size + 1, 0, none⟩ = some (.slice A1 Rn.length k1) := HCN.out.x.cell 0); (have hva := row_slr hown); (obtain ⟨AN, kN, rfl⟩ := row_form hown); (have HAN := Lib.hid (hva AN kN rfl)); (clear hva hown hb)) | (go_at_call 26; (with_reducible refine (same_any _ _ _ _ Rn _ HAN (Lib.hid (row_slr HCN.out.rr.per _ _ rfl)) (by omega)).mono ?_); rintro e wO ⟨rfl, hb⟩; (have HCO := Lib.hid (HCN.out.below hb)); (have hd2 : wO.cell? ⟨w.heap.size + 1, 0, none⟩ = some (.slice A1 Rn.length k1) := HCO.out.x.cell 0); (clear hb)))
            go_wp2_with fail
            have HFin : Hid (∃ vp' vl', CaW w wO (w.heap.size + 1) (plR (l.take (k + 1))) (plR (l.take (k + 1))) vp' vl') := ⟨_, _, by rw [HNX.out]; exact HCO.out⟩
            go_roundw
            case rel => exact ⟨k + 1, by go_num, by omega, HFin⟩
            case measure => simp [intOf]; omega
      · go_wp2_with fail
        (with_reducible refine (awake_any _).mono ?_)
        rintro e wz ⟨rfl, hb⟩
        have HBZ := Lib.hid (below_old HC.out.bel hb)
        clear hb
        go_wp2_with fail
        go_ret
        exact ⟨rfl, HBZ.out⟩
end Go.Proofs.Ytgkkhbhobbhlpaa
