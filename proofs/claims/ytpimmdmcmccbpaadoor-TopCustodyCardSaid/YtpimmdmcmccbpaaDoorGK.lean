/- custody: a register that a law holds; the examples. -/
import Derived.Test.YtpimmdmcmccbpaaDoorEU
namespace Go.Proofs.YtpimmdmcmccbpaaDoor
open Go.RowKit
set_option linter.unusedVariables false
open Cu (Lk Ls)
namespace Cu
def pOK (o : Option Lk) (f : Lk → Bool) : Bool := match o with | none => true | some p => f p
theorem pall {o : Option Lk} {Q : Lk → Prop} [∀ p, Decidable (Q p)] : (∀ p, o = some p → Q p) ↔ pOK o (fun p => decide (Q p)) = true := by cases o <;> simp [pOK]
/-- What check answers, by computation. -/
def chD (L : Ls) (x : Lk) : Int :=
  if (spE x.it = 0 ∧ ((spK x.it = 80) ↔ x.pa = ByteArray.empty)) then
    if ix x.it L < L.length then 7
    else if (x.pa ≠ ByteArray.empty ∧ ¬ ix x.pa L < L.length) then 8
    else if (0 ≤ x.ti ∧ x.ti ≤ 10000000 ∧ pOK (par L x) (fun p => decide (p.ti ≤ x.ti)) = true) then
      if (nameB x.sp = true ∧ pOK (par L x) (fun p => decide (x.sp = p.sp)) = true) then
        if (0 ≤ x.vo ∧ x.vo ≤ 1125899906842624) then
          if pOK (par L x) (fun p => decide (gv x.pa L + x.vo ≤ p.vo)) = true then (if L.length < 1024 then 0 else 12) else 23
        else 9
      else 24
    else 15
  else 6
theorem chE_eq (L : Ls) (x : Lk) : chE L x = chD L x := by
  have t : tiB L x ↔ (0 ≤ x.ti ∧ x.ti ≤ 10000000 ∧ pOK (par L x) (fun p => decide (p.ti ≤ x.ti)) = true) := by unfold tiB; rw [pall]
  have s : spB L x ↔ (nameB x.sp = true ∧ pOK (par L x) (fun p => decide (x.sp = p.sp)) = true) := by unfold spB; rw [pall]
  have q : quB L x ↔ pOK (par L x) (fun p => decide (gv x.pa L + x.vo ≤ p.vo)) = true := by unfold quB; rw [pall]
  have i : itB x ↔ (spE x.it = 0 ∧ ((spK x.it = 80) ↔ x.pa = ByteArray.empty)) := Iff.rfl
  have n : ndB L x ↔ (x.pa ≠ ByteArray.empty ∧ ¬ ix x.pa L < L.length) := Iff.rfl
  have v : voB x ↔ (0 ≤ x.vo ∧ x.vo ≤ 1125899906842624) := Iff.rfl
  unfold chD
  by_cases h0 : itB x
  · rw [if_pos (i.1 h0)]
    by_cases h1 : ix x.it L < L.length
    · rw [chE_old h0 h1, if_pos h1]
    rw [if_neg h1]
    by_cases h2 : ndB L x
    · rw [chE_none h0 h1 h2, if_pos (n.1 h2)]
    rw [if_neg (fun g => h2 (n.2 g))]
    by_cases h3 : tiB L x
    · rw [if_pos (t.1 h3)]
      by_cases h4 : spB L x
      · rw [if_pos (s.1 h4)]
        by_cases h5 : voB x
        · rw [if_pos (v.1 h5)]
          by_cases h6 : quB L x
          · rw [if_pos (q.1 h6)]
            by_cases h7 : L.length < 1024
            · rw [if_pos h7, chE_ok h0 h1 h2 h3 h4 h5 h6 h7]
            · rw [if_neg h7, chE_full h0 h1 h2 h3 h4 h5 h6 h7]
          · rw [if_neg (fun g => h6 (q.2 g)), chE_quota h0 h1 h2 h3 h4 h5 h6]
        · rw [if_neg (fun g => h5 (v.2 g)), chE_range h0 h1 h2 h3 h4 h5]
      · rw [if_neg (fun g => h4 (s.2 g)), chE_species h0 h1 h2 h3 h4]
    · rw [if_neg (fun g => h3 (t.2 g)), chE_time h0 h1 h2 h3]
  · rw [if_neg (fun g => h0 (i.2 g)), chE_name h0]
end Cu
/-- A register that a law has made. -/
structure RgW (w0 w : World) (r : Nat) (L : Ls) (v : Value) (b1 b2 : Nat) : Prop where
  c : CReg w w0.heap.size r L v b1 b2
  bel : Below w0.heap.size w0 w
  good : Cu.Good L
  fit : ∀ e ∈ L, Fit_ e
section
variable {w0 w w' : World} {r : Nat} {L : Ls} {v : Value} {b1 b2 : Nat} {x : Lk}
theorem RgW.below (h : RgW w0 w r L v b1 b2) (hb : Below w.heap.size w w') : RgW w0 w' r L v b1 b2 := ⟨h.c.below hb, below_old h.bel hb, h.good, h.fit⟩
theorem RgW.len (h : RgW w0 w r L v b1 b2) : L.length ≤ 1024 := h.good.al.len
theorem RgW.new (w : World) : RgW w (((w.alloc (.map #[] 0)).alloc (.map #[] 0)).alloc (.cells #[.slice none 0 0, .map (some w.heap.size), .map (some (w.heap.size + 1))] 82)) (w.heap.size + 2) [] (.slice none 0 0) w.heap.size (w.heap.size + 1) :=
  ⟨CReg.new w, (((Below.refl w.heap.size w).alloc (Nat.le_refl _) _).alloc (by simp) _).alloc (by simp; omega) _, .nil, fun e h => by cases h⟩
theorem fit_ha {it pa : ByteArray} {ti vo : Int} {sp : ByteArray} {ha : Int} (h : Fit_ ⟨it, pa, ti, vo, sp, ha⟩) (ha' : Int) : Fit_ ⟨it, pa, ti, vo, sp, ha'⟩ := ⟨h.1, h.2, h.3, h.4, h.5, h.6, h.7⟩
theorem fit_adL (hf : ∀ e ∈ L, Fit_ e) (hx : Fit_ x) : ∀ e ∈ Cu.adL L x, Fit_ e := by
  intro e he
  unfold Cu.adL at he
  split at he
  · rcases List.mem_append.1 he with g | g
    · exact hf e g
    · simp at g; subst g; cases x; exact fit_ha hx _
  · exact hf e he
theorem RgW.add (h : RgW w0 w r L v b1 b2) (hx : Fit_ x) (hr : Rec w w' w0.heap.size r (Cu.adL L x) v b1 b2) : ∃ v', RgW w0 w' r (Cu.adL L x) v' b1 b2 ∧ Cng w w' (CS r v b1 b2) ∧ (v'.ownBlock = v.ownBlock ∨ ∀ k, v'.ownBlock = some k → w.heap.size ≤ k) := by
  obtain ⟨v', h1, h2, h3⟩ := hr
  exact ⟨v', ⟨h1, h.bel.trans (h2.below h.bel.size (fun k hk => (h.c.cs_lt hk).1)), h.good.add x, fit_adL h.fit hx⟩, h2, h3⟩
end
theorem cadd_eq {w0 w : World} {r : Nat} {L L' : Ls} {v : Value} {b1 b2 : Nat} (it pa sp : ByteArray) (ti vo : Int) (hf : Hid (Fit_ ⟨it, pa, ti, vo, sp, 0⟩)) (HR : Hid (RgW w0 w r L v b1 b2)) (HT : Hid (TabOk w0)) (H E : Int) (HH : Hid (Cu.adH L ⟨it, pa, ti, vo, sp, 0⟩ = H)) (HE : Hid (Cu.chE L ⟨it, pa, ti, vo, sp, 0⟩ = E)) (HL : Hid (Cu.adL L ⟨it, pa, ti, vo, sp, 0⟩ = L')) :
    Calls Tryd.prog 16 #[.pointer (some ⟨r, 0, none⟩), .string it, .string pa, .string sp, .int .i64 ti, .int .i64 vo] w fun e w' => e = .returned (.tuple #[.int .u64 H, .int .i64 E]) ∧ ∃ v', RgW w0 w' r L' v' b1 b2 ∧ Cng w w' (CS r v b1 b2) ∧ (v'.ownBlock = v.ownBlock ∨ ∀ k, v'.ownBlock = some k → w.heap.size ≤ k) := by
  refine (cadd_any it pa sp ti vo hf w (Lib.hid HR.out.c) (Lib.hid (HT.out.below HR.out.bel)) (Lib.hid HR.out.good)).mono fun e w' ⟨he, hr⟩ => ⟨?_, ?_⟩
  · rw [he, HH.out, HE.out]
  · rw [← HL.out]; exact HR.out.add hf.out hr
theorem trace_w {w0 w : World} {r : Nat} {L T : Ls} {v : Value} {b1 b2 : Nat} (item : ByteArray) (his : (item.size : Int) ≤ 1000) (HR : Hid (RgW w0 w r L v b1 b2)) (E : Int) (HE : Hid (Cu.trE L item = E)) (HT : Hid (Cu.trc L item = T)) :
    Calls Tryd.prog 25 #[.pointer (some ⟨r, 0, none⟩), .string item] w fun e w' => ∃ v, e = .returned (.tuple #[v, .int .i64 E]) ∧ w'.ownsRow w.heap.size 36 6 v T.length (lrowL T) ∧ Below w.heap.size w w' := by
  have hl := HR.out.len
  have := trace_any item his w (Lib.hid HR.out.c) (Lib.hid HR.out.good.ord) (Lib.hid fun e he => (HR.out.fit e he).pa) (by omega)
  rw [HE.out, HT.out] at this
  exact this
theorem root_w {w0 w : World} {r : Nat} {L : Ls} {v : Value} {b1 b2 : Nat} (item : ByteArray) (his : (item.size : Int) ≤ 1000) (HR : Hid (RgW w0 w r L v b1 b2)) (S : ByteArray) (x : Bool) (HS : Hid (Cu.rtS L item = S)) (hx : Hid (x = decide (Cu.ix item L < L.length))) :
    Calls Tryd.prog 24 #[.pointer (some ⟨r, 0, none⟩), .string item] w fun e w' => e = .returned (.tuple #[.string S, .bool x]) ∧ Below w.heap.size w w' := by
  have hl := HR.out.len
  have := root_any item his w (Lib.hid HR.out.c) (Lib.hid HR.out.good.ord) (Lib.hid fun e he => (HR.out.fit e he).pa) (by omega) x hx
  rw [HS.out] at this
  exact this
theorem links_w {w0 w : World} {r : Nat} {L : Ls} {v : Value} {b1 b2 : Nat} (HR : Hid (RgW w0 w r L v b1 b2)) :
    Calls Tryd.prog 17 #[.pointer (some ⟨r, 0, none⟩)] w fun e w' => ∃ v, e = .returned v ∧ w'.ownsRow w.heap.size 36 6 v L.length (lrowL L) ∧ Below w.heap.size w w' := by
  have hl := HR.out.len
  exact links_any w (Lib.hid HR.out.c) (by omega)
theorem verify_w (l : Ls) (A : Option Addr) (n c : Nat) (hn : Hid (l.length = n)) (w : World) (HS : Hid (SlR w A (lrowL l))) (HF : Hid (∀ e ∈ l, Fit_ e)) (hl : (n : Int) ≤ 2000) (HT : Hid (TabOk w)) (a b : Int) (HA : Hid (Cu.vfy [] l 0 = (a, b))) :
    Calls Tryd.prog 19 #[.slice A n c] w fun e w' => e = .returned (.tuple #[.int .i64 a, .int .i64 b]) ∧ Below w.heap.size w w' := by
  have h := hn.out
  subst h
  have := verify_any l A c w HS HF hl HT
  rw [HA.out] at this
  exact this
theorem chain_w (p : Int) (hp : 0 ≤ p ∧ p ≤ 18446744073709551615) (s : ByteArray) (hsz : (s.size : Int) ≤ 1000000) (X : Int) (HX : Hid (chS p s = X)) (w : World) :
    Calls Tryd.prog 51 #[.int .u64 p, .string s] w fun e w' => e = .returned (.int .u64 X) ∧ Below w.heap.size w w' := by
  have := chain_any p hp s hsz w
  rw [HX.out] at this
  exact this
end Go.Proofs.YtpimmdmcmccbpaaDoor

namespace Go.Proofs.YtpimmdmcmccbpaaDoor
open Go.RowKit
set_option linter.unusedVariables false
open Cu (Lk Ls)
abbrev sP1 : ByteArray := ⟨#[80, 48, 48, 48, 48, 48, 49, 68]⟩
abbrev sL1 : ByteArray := ⟨#[76, 48, 48, 48, 48, 48, 49, 87]⟩
abbrev sL2 : ByteArray := ⟨#[76, 48, 48, 48, 48, 48, 50, 71]⟩
abbrev sSp : ByteArray := ⟨#[115, 112, 114, 117, 99, 101]⟩
abbrev sOak : ByteArray := ⟨#[111, 97, 107]⟩
abbrev sNo : ByteArray := ⟨#[]⟩
abbrev aw1 : List Lk := []
abbrev awT1 : ByteArray := ⟨#[80, 48, 48, 48, 48, 48, 49, 68, 32, 32, 115, 112, 114, 117, 99, 101, 32, 49, 48, 32, 53, 48, 48, 48]⟩
abbrev awT2 : ByteArray := ⟨#[76, 48, 48, 48, 48, 48, 49, 87, 32, 80, 48, 48, 48, 48, 48, 49, 68, 32, 115, 112, 114, 117, 99, 101, 32, 50, 48, 32, 51, 48, 48, 48]⟩
abbrev awL1 (h1 : Int) : Ls := [⟨sP1, sNo, 10, 5000, sSp, h1⟩]
abbrev awL2 (h1 h2 : Int) : Ls := [⟨sP1, sNo, 10, 5000, sSp, h1⟩, ⟨sL1, sP1, 20, 3000, sSp, h2⟩]
set_option maxRecDepth 100000
theorem aw_e1 : Cu.chE [] ⟨sP1, sNo, 10, 5000, sSp, 0⟩ = 0 := by rw [Cu.chE_eq]; decide +kernel
theorem aw_e2 (h1 : Int) : Cu.chE (awL1 h1) ⟨sL1, sP1, 20, 3000, sSp, 0⟩ = 0 := by rw [Cu.chE_eq]; kernel_rfl
theorem aw_e3 (h1 h2 : Int) : Cu.chE (awL2 h1 h2) ⟨sL2, sP1, 20, 2001, sSp, 0⟩ = 23 := by rw [Cu.chE_eq]; kernel_rfl
theorem aw_e4 (h1 h2 : Int) : Cu.chE (awL2 h1 h2) ⟨sL2, sP1, 9, 5, sSp, 0⟩ = 15 := by rw [Cu.chE_eq]; kernel_rfl
theorem aw_e5 (h1 h2 : Int) : Cu.chE (awL2 h1 h2) ⟨sL2, sP1, 20, 5, sOak, 0⟩ = 24 := by rw [Cu.chE_eq]; kernel_rfl
theorem aw_e6 (h1 h2 : Int) : Cu.chE (awL2 h1 h2) ⟨sL2, sNo, 20, 5, sSp, 0⟩ = 6 := by rw [Cu.chE_eq]; kernel_rfl
theorem aw_t1 : Cu.txS ⟨sP1, sNo, 10, 5000, sSp, 0⟩ = awT1 := by decide +kernel
theorem aw_t2 : Cu.txS ⟨sL1, sP1, 20, 3000, sSp, 0⟩ = awT2 := by decide +kernel
theorem aw_p1 : Cu.pvV [] ⟨sP1, sNo, 10, 5000, sSp, 0⟩ = 0 := by decide +kernel
theorem aw_p2 (h1 : Int) : Cu.pvV (awL1 h1) ⟨sL1, sP1, 20, 3000, sSp, 0⟩ = h1 := by kernel_rfl
theorem adH_of {L : Ls} {x : Lk} {p h : Int} {t : ByteArray} (he : Cu.chE L x = 0) (hp : Cu.pvV L x = p) (ht : Cu.txS x = t) (hc : chS p t = h) : Cu.adH L x = h := by
  rw [Cu.adH_ok he, Cu.hsV, hp, ht, hc]
theorem adL_of {L : Ls} {it pa : ByteArray} {ti vo : Int} {sp : ByteArray} {h : Int} (he : Cu.chE L ⟨it, pa, ti, vo, sp, 0⟩ = 0) (hh : Cu.adH L ⟨it, pa, ti, vo, sp, 0⟩ = h) : Cu.adL L ⟨it, pa, ti, vo, sp, 0⟩ = L ++ [⟨it, pa, ti, vo, sp, h⟩] := by
  rw [Cu.adL_ok he, ← Cu.adH_ok he, hh]
theorem fit_small {it pa : ByteArray} {ti vo : Int} {sp : ByteArray} (h : it.size ≤ 100 ∧ pa.size ≤ 100 ∧ sp.size ≤ 100 ∧ -9223372036854775808 ≤ ti ∧ ti ≤ 9223372036854775807 ∧ -9223372036854775808 ≤ vo ∧ vo ≤ 9223372036854775807) : Fit_ ⟨it, pa, ti, vo, sp, 0⟩ := by
  obtain ⟨a, b, c, d, e, f, g⟩ := h
  exact ⟨by simp only; omega, by simp only; omega, by simp only; omega, d, e, f, g⟩
set_option maxHeartbeats 16000000 in
theorem awake54 (w : World) (HT : Hid (TabOk w)) : Calls Tryd.prog 29 #[] w fun e w' => e = .returned (.bool true) ∧ Below w.heap.size w w' := by
  obtain ⟨h1, hh1⟩ : ∃ h, chS 0 awT1 = h := ⟨_, rfl⟩
  obtain ⟨h2, hh2⟩ : ∃ h, chS h1 awT2 = h := ⟨_, rfl⟩
  have HA1 := Lib.hid (adH_of aw_e1 aw_p1 aw_t1 hh1)
  have HA2 := Lib.hid (adH_of (aw_e2 h1) (aw_p2 h1) aw_t2 hh2)
  have HL1 : Hid (Cu.adL [] ⟨sP1, sNo, 10, 5000, sSp, 0⟩ = awL1 h1) := adL_of aw_e1 HA1.out
  have HL2 : Hid (Cu.adL (awL1 h1) ⟨sL1, sP1, 20, 3000, sSp, 0⟩ = awL2 h1 h2) := adL_of (aw_e2 h1) HA2.out
  have HR1 : Hid (0 ≤ h1 ∧ h1 ≤ 18446744073709551615) := by show _ ∧ _; rw [← hh1]; exact chS_range _ _
  have HH1 := Lib.hid hh1
  have HH2 := Lib.hid hh2
  clear hh1 hh2
  go_enter Tryd.func29, Tryd.ntmps29
  go_wp2_with fail
  (with_reducible refine (cnew_any _).mono ?_)
  rintro e w1 ⟨rfl, hw⟩
  have HG1 := Lib.hid (RgW.new w)
  rw [← hw] at HG1
  clear hw
  go_wp2_with fail
  (with_reducible refine (cadd_eq (w0 := w) sP1 sNo sSp 10 5000 (Lib.hid (fit_small (by decide))) HG1 HT h1 0 (Lib.hid HA1.out) (Lib.hid aw_e1) (L' := awL1 h1) (Lib.hid HL1.out)).mono ?_)
  rintro e w2 ⟨rfl, v2, hrg, -, -⟩
  have HG2 := Lib.hid hrg
  clear hrg
  go_wp2_with fail
  (with_reducible refine (cadd_eq (w0 := w) sL1 sP1 sSp 20 3000 (Lib.hid (fit_small (by decide))) HG2 HT h2 0 (Lib.hid HA2.out) (Lib.hid (aw_e2 h1)) (L' := awL2 h1 h2) (Lib.hid HL2.out)).mono ?_)
  rintro e w3 ⟨rfl, v3, hrg, -, -⟩
  have HG3 := Lib.hid hrg
  clear hrg
  go_wp2_with fail
  (with_reducible refine (cadd_eq (w0 := w) sL2 sP1 sSp 20 2001 (Lib.hid (fit_small (by decide))) HG3 HT 0 23 (Lib.hid (Cu.adH_no (by rw [aw_e3]; decide))) (Lib.hid (aw_e3 h1 h2)) (L' := awL2 h1 h2) (Lib.hid (Cu.adL_no (by rw [aw_e3]; decide)))).mono ?_)
  rintro e w4 ⟨rfl, v4, hrg, -, -⟩
  have HG4 := Lib.hid hrg
  clear hrg
  go_wp2_with fail
  (with_reducible refine (cadd_eq (w0 := w) sL2 sP1 sSp 9 5 (Lib.hid (fit_small (by decide))) HG4 HT 0 15 (Lib.hid (Cu.adH_no (by rw [aw_e4]; decide))) (Lib.hid (aw_e4 h1 h2)) (L' := awL2 h1 h2) (Lib.hid (Cu.adL_no (by rw [aw_e4]; decide)))).mono ?_)
  rintro e w5 ⟨rfl, v5, hrg, -, -⟩
  have HG5 := Lib.hid hrg
  clear hrg
  go_wp2_with fail
  (with_reducible refine (cadd_eq (w0 := w) sL2 sP1 sOak 20 5 (Lib.hid (fit_small (by decide))) HG5 HT 0 24 (Lib.hid (Cu.adH_no (by rw [aw_e5]; decide))) (Lib.hid (aw_e5 h1 h2)) (L' := awL2 h1 h2) (Lib.hid (Cu.adL_no (by rw [aw_e5]; decide)))).mono ?_)
  rintro e w6 ⟨rfl, v6, hrg, -, -⟩
  have HG6 := Lib.hid hrg
  clear hrg
  go_wp2_with fail
  (with_reducible refine (cadd_eq (w0 := w) sL2 sNo sSp 20 5 (Lib.hid (fit_small (by decide))) HG6 HT 0 6 (Lib.hid (Cu.adH_no (by rw [aw_e6]; decide))) (Lib.hid (aw_e6 h1 h2)) (L' := awL2 h1 h2) (Lib.hid (Cu.adL_no (by rw [aw_e6]; decide)))).mono ?_)
  rintro e w7 ⟨rfl, v7, hrg, -, -⟩
  have HG7 := Lib.hid hrg
  clear hrg
  go_wp2_with fail
  clear HG1 HG2 HG3 HG4 HG5 HG6
  have HVG := Lib.hid (Cu.vfy_good HG7.out.good)
  have HFT := Lib.hid HG7.out.fit
  (with_reducible refine (trace_w (T := [⟨sL1, sP1, 20, 3000, sSp, h2⟩, ⟨sP1, sNo, 10, 5000, sSp, h1⟩]) sL1 (by decide) HG7 0 (Lib.hid (by kernel_rfl)) (Lib.hid (by kernel_rfl))).mono ?_)
  rintro e w8 ⟨vT, rfl, hrow, hb⟩
  have HG8 := Lib.hid (HG7.out.below hb)
  obtain ⟨A, c, hv⟩ := row_form hrow
  subst hv
  have HS8 := Lib.hid (row_slr hrow A c rfl)
  clear hrow hb HG7
  go_wp2_with fail
  (with_reducible refine (root_w sL1 (by decide) HG8 sP1 true (Lib.hid (by kernel_rfl)) (Lib.hid (by kernel_rfl))).mono ?_)
  rintro e w9 ⟨rfl, hb⟩
  have HG9 := Lib.hid (HG8.out.below hb)
  have HS9 := Lib.hid (HS8.out.below hb)
  clear hb HG8 HS8
  go_wp2_with fail
  (with_reducible refine (links_w HG9).mono ?_)
  rintro e wA ⟨vL, rfl, hrow, hb⟩
  have HGA := Lib.hid (HG9.out.below hb)
  have HSA := Lib.hid (HS9.out.below hb)
  obtain ⟨A2, c2, hv⟩ := row_form hrow
  subst hv
  have HLA := Lib.hid (row_slr hrow A2 c2 rfl)
  clear hrow hb HG9 HS9
  have HTA := Lib.hid (HT.out.below HGA.out.bel)
  go_wp2_with fail
  (with_reducible refine (verify_w (awL2 h1 h2) A2 2 c2 (Lib.hid rfl) _ HLA HFT (by decide) HTA (-1) 0 HVG).mono ?_)
  rintro e wB ⟨rfl, hb⟩
  have HBB := Lib.hid (below_old HGA.out.bel hb)
  have HSB := Lib.hid (HSA.out.below hb)
  clear hb HGA HSA HLA HTA
  go_wp2_with fail
  (with_reducible refine (chain_w 0 (by decide) awT1 (by decide) h1 HH1 _).mono ?_)
  rintro e wC ⟨rfl, hb⟩
  have HBC := Lib.hid (below_old HBB.out hb)
  have HSC := Lib.hid (HSB.out.below hb)
  clear hb HBB HSB
  go_wp2_with fail
  (with_reducible refine (chain_w h1 HR1.out awT2 (by decide) h2 HH2 _).mono ?_)
  rintro e wD ⟨rfl, hb⟩
  have HBD := Lib.hid (below_old HBC.out hb)
  obtain ⟨bb, off, hA, -, p0, -⟩ := (HSC.out.below hb).link (i := 0) (by simp)
  obtain ⟨bb', off', hA', -, q0, -⟩ := (HSC.out.below hb).link (i := 1) (by simp)
  subst hA
  simp only [Option.some.injEq, Addr.mk.injEq, and_true] at hA'
  obtain ⟨rfl, rfl⟩ := hA'
  simp only [List.getElem_cons_zero, List.getElem_cons_succ, Nat.zero_mul, Nat.one_mul, Nat.add_zero] at p0 q0
  clear hb HBC HSC
  go_wp2_with fail
  go_ret
  exact ⟨rfl, HBD.out⟩
end Go.Proofs.YtpimmdmcmccbpaaDoor
