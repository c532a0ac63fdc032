/- custody: a register that a law holds; the examples. -/
import Derived.Test.YtpimmdmcmccbpaaDoorEU
namespace Go.Proofs.YtpimmdmcmccbpaaDoor
open Go.RowKit
set_option linter.unusedVariables false
open Cu (Lk Ls)
namespace Cu
def pOK (o : Option Lk) (f : Lk → Bool) : Bool := match o with | none => true | some p => f p
theorem pall {o : Option Lk} {Q : Lk → Prop} [∀ p, Decidable (Q p)] : (∀ p, o = some p → Q p) ↔ pOK o (fun p => decide (Q p)) = true := by cases o <;> simp [pOK]
/-- What check answers, by computation. -/
def chD (L : Ls) (x : Lk) : Int :=
  if (spE x.it = 0 ∧ ((spK x.it = 80) ↔ x.pa = ByteArray.empty)) then
    if ix x.it L < L.length then 7
    else if (x.pa ≠ ByteArray.empty ∧ ¬ ix x.pa L < L.length) then 8
    else if (0 ≤ x.ti ∧ x.ti ≤ 10000000 ∧ pOK (par L x) (fun p => decide (p.ti ≤ x.ti)) = true) then
      if (nameB x.sp = true ∧ pOK (par L x) (fun p => decide (x.sp = p.sp)) = true) then
        if (0 ≤ x.vo ∧ x.vo ≤ 1125899906842624) then
          if pOK (par L x) (fun p => decide (gv x.pa L + x.vo ≤ p.vo)) = true then (if L.length < 1024 then 0 else 12) else 23
        else 9
      else 24
    else 15
  else 6
theorem chE_eq (L : Ls) (x : Lk) : chE L x = chD L x := by
  have t : tiB L x ↔ (0 ≤ x.ti ∧ x.ti ≤ 10000000 ∧ pOK (par L x) (fun p => decide (p.ti ≤ x.ti)) = true) := by unfold tiB; rw [pall]
  have s : spB L x ↔ (nameB x.sp = true ∧ pOK (par L x) (fun p => decide (x.sp = p.sp)) = true) := by unfold spB; rw [pall]
  have q : quB L x ↔ pOK (par L x) (fun p => decide (gv x.pa L + x.vo ≤ p.vo)) = true := by unfold quB; rw [pall]
  have i : itB x ↔ (spE x.it = 0 ∧ ((spK x.it = 80) ↔ x.pa = ByteArray.empty)) := Iff.rfl
  have n : ndB L x ↔ (x.pa ≠ ByteArray.empty ∧ ¬ ix x.pa L < L.length) := Iff.rfl
  have v : voB x ↔ (0 ≤ x.vo ∧ x.vo ≤ 1125899906842624) := Iff.rfl
  unfold chD
  by_cases h0 : itB x
  · rw [if_pos (i.1 h0)]
    by_cases h1 : ix x.it L < L.length
    · rw [chE_old h0 h1, if_pos h1]
    rw [if_neg h1]
    by_cases h2 : ndB L x
    · rw [chE_none h0 h1 h2, if_pos (n.1 h2)]
    rw [if_neg (fun g => h2 (n.2 g))]
    by_cases h3 : tiB L x
    · rw [if_pos (t.1 h3)]
      by_cases h4 : spB L x
      · rw [if_pos (s.1 h4)]
        by_cases h5 : voB x
        · rw [if_pos (v.1 h5)]
          by_cases h6 : quB L x
          · rw [if_pos (q.1 h6)]
            by_cases h7 : L.length < 1024
            · rw [if_pos h7, chE_ok h0 h1 h2 h3 h4 h5 h6 h7]
            · rw [if_neg h7, chE_full h0 h1 h2 h3 h4 h5 h6 h7]
          · rw [if_neg (fun g => h6 (q.2 g)), chE_quota h0 h1 h2 h3 h4 h5 h6]
        · rw [if_neg (fun g => h5 (v.2 g)), chE_range h0 h1 h2 h3 h4 h5]
      · rw [if_neg (fun g => h4 (s.2 g)), chE_species h0 h1 h2 h3 h4]
    · rw [if_neg (fun g => h3 (t.2 g)), chE_time h0 h1 h2 h3]
  · rw [if_neg (fun g => h0 (i.2 g)), chE_name h0]
end Cu
/-- A register that a law has made. -/
structure RgW (w0 w : World) (r : Nat) (L : Ls) (v : Value) (b1 b2 : Nat) : Prop where
  c : CReg w w0.heap.size r L v b1 b2
  bel : Below w0.heap.size w0 w
  good : Cu.Good L
  fit : ∀ e ∈ L, Fit_ e
section
variable {w0 w w' : World} {r : Nat} {L : Ls} {v : Value} {b1 b2 : Nat} {x : Lk}
theorem RgW.below (h : RgW w0 w r L v b1 b2) (hb : Below w.heap.size w w') : RgW w0 w' r L v b1 b2 := ⟨h.c.below hb, below_old h.bel hb, h.good, h.fit⟩
theorem RgW.len (h : RgW w0 w r L v b1 b2) : L.length ≤ 1024 := h.good.al.len
theorem RgW.new (w : World) : RgW w (((w.alloc (.map #[] 0)).alloc (.map #[] 0)).alloc (.cells #[.slice none 0 0, .map (some w.heap.size), .map (some (w.heap.size + 1))] 82)) (w.heap.size + 2) [] (.slice none 0 0) w.heap.size (w.heap.size + 1) :=
  ⟨CReg.new w, (((Below.refl w.heap.size w).alloc (Nat.le_refl _) _).alloc (by simp) _).alloc (by simp; omega) _, .nil, fun e h => by cases h⟩
theorem fit_ha {it pa : ByteArray} {ti vo : Int} {sp : ByteArray} {ha : Int} (h : Fit_ ⟨it, pa, ti, vo, sp, ha⟩) (ha' : Int) : Fit_ ⟨it, pa, ti, vo, sp, ha'⟩ := ⟨h.1, h.2, h.3, h.4, h.5, h.6, h.7⟩
theorem fit_adL (hf : ∀ e ∈ L, Fit_ e) (hx : Fit_ x) : ∀ e ∈ Cu.adL L x, Fit_ e := by
  intro e he
  unfold Cu.adL at he
  split at he
  · rcases List.mem_append.1 he with g | g
    · exact hf e g
    · simp at g; subst g; cases x; exact fit_ha hx _
  · exact hf e he
theorem RgW.add (h : RgW w0 w r L v b1 b2) (hx : Fit_ x) (hr : Rec w w' w0.heap.size r (Cu.adL L x) v b1 b2) : ∃ v', RgW w0 w' r (Cu.adL L x) v' b1 b2 ∧ Cng w w' (CS r v b1 b2) ∧ (v'.ownBlock = v.ownBlock ∨ ∀ k, v'.ownBlock = some k → w.heap.size ≤ k) := by
  obtain ⟨v', h1, h2, h3⟩ := hr
  exact ⟨v', ⟨h1, h.bel.trans (h2.below h.bel.size (fun k hk => (h.c.cs_lt hk).1)), h.good.add x, fit_adL h.fit hx⟩, h2, h3⟩
end
theorem cadd_eq {w0 w : World} {r : Nat} {L L' : Ls} {v : Value} {b1 b2 : Nat} (it pa sp : ByteArray) (ti vo : Int) (hf : Hid (Fit_ ⟨it, pa, ti, vo, sp, 0⟩)) (HR : Hid (RgW w0 w r L v b1 b2)) (HT : Hid (TabOk w0)) (H E : Int) (HH : Hid (Cu.adH L ⟨it, pa, ti, vo, sp, 0⟩ = H)) (HE : Hid (Cu.chE L ⟨it, pa, ti, vo, sp, 0⟩ = E)) (HL : Hid (Cu.adL L ⟨it, pa, ti, vo, sp, 0⟩ = L')) :
    Calls Tryd.prog 16 #[.pointer (some ⟨r, 0, none⟩), .string it, .string pa, .string sp, .int .i64 ti, .int .i64 vo] w fun e w' => e = .returned (.tuple #[.int .u64 H, .int .i64 E]) ∧ ∃ v', RgW w0 w' r L' v' b1 b2 ∧ Cng w w' (CS r v b1 b2) ∧ (v'.ownBlock = v.ownBlock ∨ ∀ k, v'.ownBlock = some k → w.heap.size ≤ k) := by
  refine (cadd_any it pa sp ti vo hf w (Lib.hid HR.out.c) (Lib.hid (HT.out.below HR.out.bel)) (Lib.hid HR.out.good)).mono fun e w' ⟨he, hr⟩ => ⟨?_, ?_⟩
  · rw [he, HH.out, HE.out]
  · rw [← HL.out]; exact HR.out.add hf.out hr
theorem trace_w {w0 w : World} {r : Nat} {L T : Ls} {v : Value} {b1 b2 : Nat} (item : ByteArray) (his : (item.size : Int) ≤ 1000) (HR : Hid (RgW w0 w r L v b1 b2)) (E : Int) (HE : Hid (Cu.trE L item = E)) (HT : Hid (Cu.trc L item = T)) :
    Calls Tryd.prog 25 #[.pointer (some ⟨r, 0, none⟩), .string item] w fun e w' => ∃ v, e = .returned (.tuple #[v, .int .i64 E]) ∧ w'.ownsRow w.heap.size 36 6 v T.length (lrowL T) ∧ Below w.heap.size w w' := by
  have hl := HR.out.len
  have := trace_any item his w (Lib.hid HR.out.c) (Lib.hid HR.out.good.ord) (Lib.hid fun e he => (HR.out.fit e he).pa) (by omega)
  rw [HE.out, HT.out] at this
  exact this
theorem root_w {w0 w : World} {r : Nat} {L : Ls} {v : Value} {b1 b2 : Nat} (item : ByteArray) (his : (item.size : Int) ≤ 1000) (HR : Hid (RgW w0 w r L v b1 b2)) (S : ByteArray) (x : Bool) (HS : Hid (Cu.rtS L item = S)) (hx : Hid (x = decide (Cu.ix item L < L.length))) :
    Calls Tryd.prog 24 #[.pointer (some ⟨r, 0, none⟩), .string item] w fun e w' => e = .returned (.tuple #[.string S, .bool x]) ∧ Below w.heap.size w w' := by
  have hl := HR.out.len
  have := root_any item his w (Lib.hid HR.out.c) (Lib.hid HR.out.good.ord) (Lib.hid fun e he => (HR.out.fit e he).pa) (by omega) x hx
  rw [HS.out] at this
  exact this
theorem links_w {w0 w : World} {r : Nat} {L : Ls} {v : Value} {b1 b2 : Nat} (HR : Hid (RgW w0 w r L v b1 b2)) :
    Calls Tryd.prog 17 #[.pointer (some ⟨r, 0, none⟩)] w fun e w' => ∃ v, e = .returned v ∧ w'.ownsRow w.heap.size 36 6 v L.length (lrowL L) ∧ Below w.heap.size w w' := by
  have hl := HR.out.len
  exact links_any w (Lib.hid HR.out.c) (by omega)
theorem verify_w (l : Ls) (A : Option Addr) (n c : Nat) (hn : Hid (l.length = n)) (w : World) (HS : Hid (SlR w A (lrowL l))) (HF : Hid (∀ e ∈ l, Fit_ e)) (hl : (n : Int) ≤ 2000) (HT : Hid (TabOk w)) (a b : Int) (HA : Hid (Cu.vfy [] l 0 = (a, b))) :
    Calls Tryd.prog 19 #[.slice A n c] w fun e w' => e = .returned (.tuple #[.int .i64 a, .int .i64 b]) ∧ Below w.heap.size w w' := by
  have h := hn.out
  subst h
  have := verify_any l A c w HS HF hl HT
  rw [HA.out] at this
  exact this
theorem chain_w (p : Int) (hp : 0 ≤ p ∧ p ≤ 18446744073709551615) (s : ByteArray) (hsz : (s.size : Int) ≤ 1000000) (X : Int) (HX : Hid (chS p s = X)) (w : World) :
    Calls Tryd.prog 51 #[.int .u64 p, .string s] w fun e w' => e = .returned (.int .u64 X) ∧ Below w.heap.size w w' := by
  have := chain_any p hp s hsz w
  rw [HX.out] at this
  exact this
end Go.Proofs.YtpimmdmcmccbpaaDoor
