/- sawmilltop: the codes; the example of custody. -/
import Derived.Test.YtpimmdmcmccbpaaDoorF2
namespace Go.Proofs.YtpimmdmcmccbpaaDoor
open Go.RowKit
set_option linter.unusedVariables false
open Cu (Lk Ls)
/-- One of the first codes. -/
def codeS (k n : Int) : ByteArray :=
  if k % 3 = 0 then (if n % 4 = 0 then ⟨#[80, 48, 48, 48, 48, 48, 49, 68]⟩ else if n % 4 = 1 then ⟨#[80, 48, 48, 48, 48, 48, 50, 75]⟩ else if n % 4 = 2 then ⟨#[80, 48, 48, 48, 48, 48, 51, 82]⟩ else ⟨#[80, 48, 48, 48, 48, 48, 52, 66]⟩) else
  if k % 3 = 1 then (if n % 4 = 0 then ⟨#[76, 48, 48, 48, 48, 48, 49, 87]⟩ else if n % 4 = 1 then ⟨#[76, 48, 48, 48, 48, 48, 50, 71]⟩ else if n % 4 = 2 then ⟨#[76, 48, 48, 48, 48, 48, 51, 78]⟩ else ⟨#[76, 48, 48, 48, 48, 48, 52, 85]⟩) else
  (if n % 4 = 0 then ⟨#[66, 48, 48, 48, 48, 48, 49, 77]⟩ else if n % 4 = 1 then ⟨#[66, 48, 48, 48, 48, 48, 50, 84]⟩ else if n % 4 = 2 then ⟨#[66, 48, 48, 48, 48, 48, 51, 68]⟩ else ⟨#[66, 48, 48, 48, 48, 48, 52, 75]⟩)
theorem codeS_size (k n : Int) : (codeS k n).size = 8 := by
  unfold codeS
  (repeat' split) <;> rfl
set_option maxRecDepth 100000 in
set_option maxHeartbeats 16000000 in
theorem code_any (k n : Int) (k0 : 0 ≤ k) (k1 : k ≤ 255) (n0 : 0 ≤ n) (n1 : n ≤ 255) (w : World) :
    Calls Tryd.prog 15 #[.int .u8 k, .int .u8 n] w fun e w' => e = .returned (.string (codeS k n)) ∧ Below w.heap.size w w' := by
  have tk : k.tmod 3 = k % 3 := Int.tmod_eq_emod_of_nonneg k0
  have tn : n.tmod 4 = n % 4 := Int.tmod_eq_emod_of_nonneg n0
  have hk : k % 3 = 0 ∨ k % 3 = 1 ∨ k % 3 = 2 := by omega
  have hn : n % 4 = 0 ∨ n % 4 = 1 ∨ n % 4 = 2 ∨ n % 4 = 3 := by omega
  rcases hk with h1 | h1 | h1
  · rcases hn with h2 | h2 | h2 | h2
    · have HZ : Hid (codeS k n = ⟨#[80, 48, 48, 48, 48, 48, 49, 68]⟩) := by show _ = _; simp [codeS, h1, h2]
      go_enter Tryd.func15, Tryd.ntmps15
      go_wp2_with fail
      go_ret
      exact ⟨by rw [HZ.out]; rfl, ch_bel _ _ _ _⟩
    · have HZ : Hid (codeS k n = ⟨#[80, 48, 48, 48, 48, 48, 50, 75]⟩) := by show _ = _; simp [codeS, h1, h2]
      go_enter Tryd.func15, Tryd.ntmps15
      go_wp2_with fail
      go_ret
      exact ⟨by rw [HZ.out]; rfl, ch_bel _ _ _ _⟩
    · have HZ : Hid (codeS k n = ⟨#[80, 48, 48, 48, 48, 48, 51, 82]⟩) := by show _ = _; simp [codeS, h1, h2]
      go_enter Tryd.func15, Tryd.ntmps15
      go_wp2_with fail
      go_ret
      exact ⟨by rw [HZ.out]; rfl, ch_bel _ _ _ _⟩
    · have HZ : Hid (codeS k n = ⟨#[80, 48, 48, 48, 48, 48, 52, 66]⟩) := by show _ = _; simp [codeS, h1, h2]
      go_enter Tryd.func15, Tryd.ntmps15
      go_wp2_with fail
      go_ret
      exact ⟨by rw [HZ.out]; rfl, ch_bel _ _ _ _⟩
  · rcases hn with h2 | h2 | h2 | h2
    · have HZ : Hid (codeS k n = ⟨#[76, 48, 48, 48, 48, 48, 49, 87]⟩) := by show _ = _; simp [codeS, h1, h2]
      go_enter Tryd.func15, Tryd.ntmps15
      go_wp2_with fail
      go_ret
      exact ⟨by rw [HZ.out]; rfl, ch_bel _ _ _ _⟩
    · have HZ : Hid (codeS k n = ⟨#[76, 48, 48, 48, 48, 48, 50, 71]⟩) := by show _ = _; simp [codeS, h1, h2]
      go_enter Tryd.func15, Tryd.ntmps15
      go_wp2_with fail
      go_ret
      exact ⟨by rw [HZ.out]; rfl, ch_bel _ _ _ _⟩
    · have HZ : Hid (codeS k n = ⟨#[76, 48, 48, 48, 48, 48, 51, 78]⟩) := by show _ = _; simp [codeS, h1, h2]
      go_enter Tryd.func15, Tryd.ntmps15
      go_wp2_with fail
      go_ret
      exact ⟨by rw [HZ.out]; rfl, ch_bel _ _ _ _⟩
    · have HZ : Hid (codeS k n = ⟨#[76, 48, 48, 48, 48, 48, 52, 85]⟩) := by show _ = _; simp [codeS, h1, h2]
      go_enter Tryd.func15, Tryd.ntmps15
      go_wp2_with fail
      go_ret
      exact ⟨by rw [HZ.out]; rfl, ch_bel _ _ _ _⟩
  · rcases hn with h2 | h2 | h2 | h2
    · have HZ : Hid (codeS k n = ⟨#[66, 48, 48, 48, 48, 48, 49, 77]⟩) := by show _ = _; simp [codeS, h1, h2]
      go_enter Tryd.func15, Tryd.ntmps15
      go_wp2_with fail
      go_ret
      exact ⟨by rw [HZ.out]; rfl, ch_bel _ _ _ _⟩
    · have HZ : Hid (codeS k n = ⟨#[66, 48, 48, 48, 48, 48, 50, 84]⟩) := by show _ = _; simp [codeS, h1, h2]
      go_enter Tryd.func15, Tryd.ntmps15
      go_wp2_with fail
      go_ret
      exact ⟨by rw [HZ.out]; rfl, ch_bel _ _ _ _⟩
    · have HZ : Hid (codeS k n = ⟨#[66, 48, 48, 48, 48, 48, 51, 68]⟩) := by show _ = _; simp [codeS, h1, h2]
      go_enter Tryd.func15, Tryd.ntmps15
      go_wp2_with fail
      go_ret
      exact ⟨by rw [HZ.out]; rfl, ch_bel _ _ _ _⟩
    · have HZ : Hid (codeS k n = ⟨#[66, 48, 48, 48, 48, 48, 52, 75]⟩) := by show _ = _; simp [codeS, h1, h2]
      go_enter Tryd.func15, Tryd.ntmps15
      go_wp2_with fail
      go_ret
      exact ⟨by rw [HZ.out]; rfl, ch_bel _ _ _ _⟩
theorem set1_slr {w : World} {g : Nat} {L : Ls} (h : SlR w (some ⟨g, 0, none⟩) (lrowL L)) {m : Nat} (hm : m < L.length) {x : Lk} (hx : L[m] = x) (v : Int) : SlR (w.setCell ⟨g, m * 6 + 3, none⟩ (.int .i64 v)) (some ⟨g, 0, none⟩) (lrowL (L.set m ⟨x.it, x.pa, x.ti, v, x.sp, x.ha⟩)) := fun hpos => by
  have hl := lrowL_length L
  have hl2 := lrowL_length (L.set m ⟨x.it, x.pa, x.ti, v, x.sp, x.ha⟩)
  rw [List.length_set] at hl2
  obtain ⟨b', o', e1, hb, hc⟩ := h (by omega)
  simp only [Option.some.injEq, Addr.mk.injEq, and_true] at e1
  obtain ⟨rfl, rfl⟩ := e1
  refine ⟨g, 0, rfl, by simpa using hb, fun q hq => ?_⟩
  rw [Nat.zero_add]
  have hq6 : q = q / 6 * 6 + q % 6 := by omega
  have hi : q / 6 < (L.set m ⟨x.it, x.pa, x.ti, v, x.sp, x.ha⟩).length := by rw [List.length_set]; omega
  have hv := lrowL_at (L.set m ⟨x.it, x.pa, x.ti, v, x.sp, x.ha⟩) (q / 6) (q % 6) hi (by omega)
  rw [← hq6, List.getElem?_eq_getElem hq] at hv
  rw [hv]
  have h1 := hc q (by omega)
  rw [Nat.zero_add] at h1
  by_cases hqm : q = m * 6 + 3
  · have e1 : q / 6 = m := by omega
    have e2 : q % 6 = 3 := by omega
    rw [← hqm, ss_ h1]
    simp only [e1, e2, List.getElem_set_self]
    rfl
  · rw [so_ _ _ _ _ _ (by omega), h1]
    have h2 := lrowL_at L (q / 6) (q % 6) (by rw [List.length_set] at hi; exact hi) (by omega)
    rw [← hq6, List.getElem?_eq_getElem (by omega)] at h2
    rw [h2]
    by_cases hqi : q / 6 = m
    · have e3 : q % 6 ≠ 3 := by omega
      have e4 : q % 6 < 6 := by omega
      simp only [hqi, List.getElem_set_self, hx]
      generalize q % 6 = r at e3 e4
      match r, e3, e4 with
      | 0, _, _ => rfl
      | 1, _, _ => rfl
      | 2, _, _ => rfl
      | 4, _, _ => rfl
      | 5, _, _ => rfl
    · rw [List.getElem_set_ne (by omega)]
abbrev tPi : ByteArray := ⟨#[112, 105, 110, 101]⟩
abbrev tB1 : ByteArray := ⟨#[66, 48, 48, 48, 48, 48, 49, 77]⟩
abbrev tT1 : ByteArray := ⟨#[80, 48, 48, 48, 48, 48, 49, 68, 32, 32, 112, 105, 110, 101, 32, 48, 32, 49, 48, 48]⟩
abbrev tT2 : ByteArray := ⟨#[76, 48, 48, 48, 48, 48, 49, 87, 32, 80, 48, 48, 48, 48, 48, 49, 68, 32, 112, 105, 110, 101, 32, 53, 32, 56, 48]⟩
abbrev tT3 : ByteArray := ⟨#[66, 48, 48, 48, 48, 48, 49, 77, 32, 76, 48, 48, 48, 48, 48, 49, 87, 32, 112, 105, 110, 101, 32, 57, 32, 51, 48]⟩
abbrev tT9 : ByteArray := ⟨#[76, 48, 48, 48, 48, 48, 49, 87, 32, 80, 48, 48, 48, 48, 48, 49, 68, 32, 112, 105, 110, 101, 32, 53, 32, 55, 57]⟩
abbrev tL1 (h1 : Int) : Ls := [⟨sP1, sNo, 0, 100, tPi, h1⟩]
abbrev tL2 (h1 h2 : Int) : Ls := [⟨sP1, sNo, 0, 100, tPi, h1⟩, ⟨sL1, sP1, 5, 80, tPi, h2⟩]
abbrev tL3 (h1 h2 h3 : Int) : Ls := [⟨sP1, sNo, 0, 100, tPi, h1⟩, ⟨sL1, sP1, 5, 80, tPi, h2⟩, ⟨tB1, sL1, 9, 30, tPi, h3⟩]
set_option maxRecDepth 100000
theorem tw_e1 : Cu.chE [] ⟨sP1, sNo, 0, 100, tPi, 0⟩ = 0 := by rw [Cu.chE_eq]; decide +kernel
theorem tw_e2 (h1 : Int) : Cu.chE (tL1 h1) ⟨sL1, sP1, 5, 80, tPi, 0⟩ = 0 := by rw [Cu.chE_eq]; kernel_rfl
theorem tw_e3 (h1 h2 : Int) : Cu.chE (tL2 h1 h2) ⟨tB1, sL1, 9, 30, tPi, 0⟩ = 0 := by rw [Cu.chE_eq]; kernel_rfl
theorem tw_e4 (h1 h2 h3 : Int) : Cu.chE (tL3 h1 h2 h3) ⟨sL2, sP1, 9, 21, tPi, 0⟩ = 23 := by rw [Cu.chE_eq]; kernel_rfl
theorem tw_e9 (h1 h2 : Int) : Cu.chE (tL1 h1) ⟨sL1, sP1, 5, 79, tPi, h2⟩ = 0 := by rw [Cu.chE_eq]; kernel_rfl
theorem tw_t1 : Cu.txS ⟨sP1, sNo, 0, 100, tPi, 0⟩ = tT1 := by decide +kernel
theorem tw_t2 : Cu.txS ⟨sL1, sP1, 5, 80, tPi, 0⟩ = tT2 := by decide +kernel
theorem tw_t3 : Cu.txS ⟨tB1, sL1, 9, 30, tPi, 0⟩ = tT3 := by decide +kernel
theorem tw_t9 (h : Int) : Cu.txS ⟨sL1, sP1, 5, 79, tPi, h⟩ = tT9 := by
  show Cu.txS ⟨sL1, sP1, 5, 79, tPi, 0⟩ = tT9
  decide +kernel
theorem tw_p1 : Cu.pvV [] ⟨sP1, sNo, 0, 100, tPi, 0⟩ = 0 := by decide +kernel
theorem tw_p2 (h1 : Int) : Cu.pvV (tL1 h1) ⟨sL1, sP1, 5, 80, tPi, 0⟩ = h1 := by kernel_rfl
theorem tw_p3 (h1 h2 : Int) : Cu.pvV (tL2 h1 h2) ⟨tB1, sL1, 9, 30, tPi, 0⟩ = h2 := by kernel_rfl
theorem tw_p9 (h1 h2 : Int) : Cu.pvV (tL1 h1) ⟨sL1, sP1, 5, 79, tPi, h2⟩ = h1 := by kernel_rfl
theorem tw_ne : chS (chS 0 tT1) tT2 ≠ chS (chS 0 tT1) tT9 := by decide +kernel
theorem tw_v (h1 h2 h3 : Int) (hg : Cu.Good (tL3 h1 h2 h3)) (hh1 : chS 0 tT1 = h1) (hh2 : chS h1 tT2 = h2) : Cu.vfy [] ((tL3 h1 h2 h3).set 1 ⟨sL1, sP1, 5, 79, tPi, h2⟩) 0 = (1, 29) := by
  have h := Cu.vfy_set hg (k := 1) (by simp) ⟨sL1, sP1, 5, 79, tPi, h2⟩
  rw [h]
  have e : (tL3 h1 h2 h3).take 1 = tL1 h1 := rfl
  rw [e, if_pos (tw_e9 h1 h2), if_neg]
  · rfl
  · rw [Cu.hsV, tw_p9, tw_t9]
    show h2 ≠ chS h1 tT9
    rw [← hh2, ← hh1]
    exact tw_ne
set_option maxHeartbeats 16000000 in
theorem cuAwake (w : World) (HT : Hid (TabOk w)) : Calls Tryd.prog 13 #[] w fun e w' => e = .returned (.bool true) ∧ Below w.heap.size w w' := by
  obtain ⟨h1, hh1⟩ : ∃ h, chS 0 tT1 = h := ⟨_, rfl⟩
  obtain ⟨h2, hh2⟩ : ∃ h, chS h1 tT2 = h := ⟨_, rfl⟩
  obtain ⟨h3, hh3⟩ : ∃ h, chS h2 tT3 = h := ⟨_, rfl⟩
  have HA1 := Lib.hid (adH_of tw_e1 tw_p1 tw_t1 hh1)
  have HA2 := Lib.hid (adH_of (tw_e2 h1) (tw_p2 h1) tw_t2 hh2)
  have HA3 := Lib.hid (adH_of (tw_e3 h1 h2) (tw_p3 h1 h2) tw_t3 hh3)
  have HL1 : Hid (Cu.adL [] ⟨sP1, sNo, 0, 100, tPi, 0⟩ = tL1 h1) := adL_of tw_e1 HA1.out
  have HL2 : Hid (Cu.adL (tL1 h1) ⟨sL1, sP1, 5, 80, tPi, 0⟩ = tL2 h1 h2) := adL_of (tw_e2 h1) HA2.out
  have HL3 : Hid (Cu.adL (tL2 h1 h2) ⟨tB1, sL1, 9, 30, tPi, 0⟩ = tL3 h1 h2 h3) := adL_of (tw_e3 h1 h2) HA3.out
  have HVV : Hid (Cu.Good (tL3 h1 h2 h3) → Cu.vfy [] ((tL3 h1 h2 h3).set 1 ⟨sL1, sP1, 5, 79, tPi, h2⟩) 0 = (1, 29)) := fun hg => tw_v h1 h2 h3 hg hh1 hh2
  clear hh1 hh2 hh3
  go_enter Tryd.func13, Tryd.ntmps13
  go_wp2_with fail
  (with_reducible refine (cnew_any _).mono ?_)
  rintro e w1 ⟨rfl, hw⟩
  have HG1 := Lib.hid (RgW.new w)
  rw [← hw] at HG1
  clear hw
  go_wp2_with fail
  (with_reducible refine (cadd_eq (w0 := w) sP1 sNo tPi 0 100 (Lib.hid (fit_small (by decide))) HG1 HT h1 0 (Lib.hid HA1.out) (Lib.hid tw_e1) (L' := tL1 h1) (Lib.hid HL1.out)).mono ?_)
  rintro e w2 ⟨rfl, v2, hrg, -, -⟩
  have HG2 := Lib.hid hrg
  clear hrg
  go_wp2_with fail
  (with_reducible refine (cadd_eq (w0 := w) sL1 sP1 tPi 5 80 (Lib.hid (fit_small (by decide))) HG2 HT h2 0 (Lib.hid HA2.out) (Lib.hid (tw_e2 h1)) (L' := tL2 h1 h2) (Lib.hid HL2.out)).mono ?_)
  rintro e w3 ⟨rfl, v3, hrg, -, -⟩
  have HG3 := Lib.hid hrg
  clear hrg
  go_wp2_with fail
  (with_reducible refine (cadd_eq (w0 := w) tB1 sL1 tPi 9 30 (Lib.hid (fit_small (by decide))) HG3 HT h3 0 (Lib.hid HA3.out) (Lib.hid (tw_e3 h1 h2)) (L' := tL3 h1 h2 h3) (Lib.hid HL3.out)).mono ?_)
  rintro e w4 ⟨rfl, v4, hrg, -, -⟩
  have HG4 := Lib.hid hrg
  clear hrg
  go_wp2_with fail
  (with_reducible refine (cadd_eq (w0 := w) sL2 sP1 tPi 9 21 (Lib.hid (fit_small (by decide))) HG4 HT 0 23 (Lib.hid (Cu.adH_no (by rw [tw_e4]; decide))) (Lib.hid (tw_e4 h1 h2 h3)) (L' := tL3 h1 h2 h3) (Lib.hid (Cu.adL_no (by rw [tw_e4]; decide)))).mono ?_)
  rintro e w5 ⟨rfl, v5, hrg, -, -⟩
  have HG5 := Lib.hid hrg
  clear hrg
  go_wp2_with fail
  clear HG1 HG2 HG3 HG4
  have HVG := Lib.hid (HVV.out HG5.out.good)
  have HFT := Lib.hid HG5.out.fit
  (with_reducible refine (root_w tB1 (by decide) HG5 sP1 true (Lib.hid (by kernel_rfl)) (Lib.hid (by kernel_rfl))).mono ?_)
  rintro e w6 ⟨rfl, hb⟩
  have HG6 := Lib.hid (HG5.out.below hb)
  clear hb HG5
  go_wp2_with fail
  (with_reducible refine (links_w HG6).mono ?_)
  rintro e w7 ⟨vL, rfl, hrow, hb⟩
  obtain ⟨g7, c7, rfl, hg7, hlt7⟩ := hrow.form (by simp)
  have HB7 := Lib.hid (below_old HG6.out.bel hb)
  have HS7 := Lib.hid (row_slr hrow _ c7 rfl)
  have fz := row_frozen hrow
  have HG7 : Hid (w6.heap.size ≤ g7) := hg7
  have HS6 := Lib.hid HG6.out.bel.size
  clear hrow hb HG6 hg7
  obtain ⟨p0, p1, p2, p3, p4, p5⟩ := link_cells HS7.out (k := 1) (by simp) (e := ⟨sL1, sP1, 5, 80, tPi, h2⟩) rfl
  simp only [Nat.zero_add, Nat.one_mul] at p0 p1 p2 p3 p4 p5
  go_wp2_with fail
  have HS8 := Lib.hid (set1_slr HS7.out (m := 1) (by simp) (x := ⟨sL1, sP1, 5, 80, tPi, h2⟩) rfl 79)
  have hgs := set_grown w7 g7 (1 * 6 + 3) (.int .i64 79)
  have HB8 : Hid (Below w.heap.size w (w7.setCell ⟨g7, 1 * 6 + 3, none⟩ (.int .i64 79))) := HB7.out.grown hgs HB7.out.size (fun k hk => by cases hk; have := HG7.out; have := HS6.out; omega)
  have HFM : Hid (∀ e ∈ (tL3 h1 h2 h3).set 1 ⟨sL1, sP1, 5, 79, tPi, h2⟩, Fit_ e) := fun e he => by
    rcases List.mem_or_eq_of_mem_set he with q | q
    · exact HFT.out e q
    · rw [q]; exact fit_ha (fit_small (by decide)) h2
  clear hgs p0 p1 p2 p3 p4 p5 fz
  simp only [Nat.one_mul, Nat.reduceAdd] at HS8 HB8
  (with_reducible refine (verify_w ((tL3 h1 h2 h3).set 1 ⟨sL1, sP1, 5, 79, tPi, h2⟩) _ 3 c7 (Lib.hid (by simp)) _ HS8 HFM (by decide) (Lib.hid (HT.out.below HB8.out)) 1 29 HVG).mono ?_)
  rintro e w9 ⟨rfl, hb⟩
  have HB9 := Lib.hid (below_old HB8.out hb)
  clear hb
  go_wp2_with fail
  go_ret
  exact ⟨rfl, HB9.out⟩
end Go.Proofs.YtpimmdmcmccbpaaDoor
