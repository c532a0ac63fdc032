/- custody: check of any link. -/
import Derived.Test.YtpimmdmcmccbpaaDoorEB
namespace Go.Proofs.YtpimmdmcmccbpaaDoor
open Go.RowKit
set_option linter.unusedVariables false
open Cu (Lk Ls)
/-- What check asks of the links that are there. -/
structure Cu.Mild (L : Ls) : Prop where
  len : (L.length : Int) ≤ 2000
  ne : ¬ Cu.ix ByteArray.empty L < L.length
  gv : ∀ s, s ≠ ByteArray.empty → 0 ≤ Cu.gv s L ∧ Cu.gv s L ≤ 1125899906842624
set_option maxRecDepth 100000 in
theorem check_any {B r : Nat} {L : Ls} {v : Value} {b1 b2 : Nat} (it pa : ByteArray) (ti vo : Int) (sp : ByteArray) (ha : Int) (hf : Fit_ ⟨it, pa, ti, vo, sp, ha⟩) (w : World) (HC : Hid (CReg w B r L v b1 b2)) (hm : Cu.Mild L) :
    Calls Tryd.prog 42 #[.pointer (some ⟨r, 0, none⟩), .agg #[.string it, .string pa, .int .i64 ti, .int .i64 vo, .string sp, .int .u64 ha]] w fun e w' => e = .returned (.int .i64 (Cu.chE L ⟨it, pa, ti, vo, sp, ha⟩)) ∧ Below w.heap.size w w' := by
  obtain ⟨hl, hne, hgv⟩ := hm
  by_cases h : Cu.itB ⟨it, pa, ti, vo, sp, ha⟩
  · by_cases hpa : pa = ByteArray.empty
    · subst hpa
      exact check_root it ti vo sp ha hf w HC h hl (Lib.hid hne)
    · by_cases hno : Cu.ix it L < L.length ∨ ¬ Cu.ix pa L < L.length
      · exact check_none it pa ti vo sp ha hf w HC h hl hpa hno
      · have h1 : ¬ Cu.ix it L < L.length := fun g => hno (.inl g)
        have h2 : Cu.ix pa L < L.length := Classical.byContradiction fun g => hno (.inr g)
        have hpar : Cu.par L ⟨it, pa, ti, vo, sp, ha⟩ = some (L[Cu.ix pa L]) := Cu.par_some h2
        obtain ⟨e, he⟩ : ∃ e, L[Cu.ix pa L] = e := ⟨_, rfl⟩
        rw [he] at hpar
        have hb : spE it = 0 ∧ ((spK it = 80) ↔ pa = ByteArray.empty) := h
        have HK := Lib.hid (Kid.mk (L := L) (it := it) (pa := pa) (ti := ti) (vo := vo) (sp := sp) (ha := ha) (k := Cu.ix pa L) (e := e) hf.1 hf.2 hf.3 h2 (by rw [List.getElem?_eq_getElem h2, he]) rfl rfl hb.1 (fun g => hpa (hb.2.1 g)) (f1_no h1) (f1_yes h2) hpa (f2_get hpa) (hgv pa hpa).1 (hgv pa hpa).2 hpar)
        have hnd : ¬ Cu.ndB L ⟨it, pa, ti, vo, sp, ha⟩ := fun g => g.2 h2
        have all : ∀ {Q : Lk → Prop}, (∀ p, Cu.par L ⟨it, pa, ti, vo, sp, ha⟩ = some p → Q p) ↔ Q e := fun {Q} => ⟨fun g => g e hpar, fun g p hp => by rw [hpar] at hp; cases hp; exact g⟩
        by_cases h3 : Cu.tiB L ⟨it, pa, ti, vo, sp, ha⟩
        · have t0 : 0 ≤ ti := h3.1
          have t1 : ti ≤ 10000000 := h3.2.1
          have t2 : e.ti ≤ ti := h3.2.2 e hpar
          by_cases h4 : Cu.spB L ⟨it, pa, ti, vo, sp, ha⟩
          · have u0 : nameB sp = true := h4.1
            have u1 : sp = e.sp := h4.2 e hpar
            by_cases h5 : Cu.voB ⟨it, pa, ti, vo, sp, ha⟩
            · have v0 : 0 ≤ vo := h5.1
              have v1 : vo ≤ 1125899906842624 := h5.2
              by_cases h6 : Cu.quB L ⟨it, pa, ti, vo, sp, ha⟩
              · have g6 : Cu.gv pa L + vo ≤ e.vo := h6 e hpar
                by_cases h7 : L.length < 1024
                · exact kid_ok HK w HC hl (Lib.hid (Cu.chE_ok h h1 hnd h3 h4 h5 h6 h7)) rfl t0 t1 t2 (Lib.hid u0) u1 v0 v1 g6 (by omega)
                · exact kid_f HK w HC hl (Lib.hid (Cu.chE_full h h1 hnd h3 h4 h5 h6 h7)) rfl t0 t1 t2 (Lib.hid u0) u1 v0 v1 g6 (by omega)
              · have g6 : ¬ Cu.gv pa L + vo ≤ e.vo := fun g => h6 (all.2 g)
                exact kid_q HK w HC hl (Lib.hid (Cu.chE_quota h h1 hnd h3 h4 h5 h6)) rfl t0 t1 t2 (Lib.hid u0) u1 v0 v1 (by omega)
            · have HE := Lib.hid (Cu.chE_range h h1 hnd h3 h4 h5)
              by_cases v0 : vo < 0
              · exact kid_r1 HK w HC hl HE rfl t0 t1 t2 (Lib.hid u0) u1 v0
              · exact kid_r2 HK w HC hl HE rfl t0 t1 t2 (Lib.hid u0) u1 v0 (by
                  refine Classical.byContradiction fun g => h5 ⟨?_, ?_⟩
                  · show 0 ≤ vo; omega
                  · show vo ≤ _; omega)
          · have HE := Lib.hid (Cu.chE_species h h1 hnd h3 h4)
            cases u0 : nameB sp with
            | false => exact kid_s1 HK w HC hl HE rfl t0 t1 t2 (Lib.hid u0)
            | true => exact kid_s2 HK w HC hl HE rfl t0 t1 t2 (Lib.hid u0) (fun g => h4 ⟨u0, all.2 g⟩)
        · have HE := Lib.hid (Cu.chE_time h h1 hnd h3)
          by_cases t0 : ti < 0
          · exact kid_t1 HK w HC hl HE rfl t0
          · by_cases t1 : 10000000 < ti
            · exact kid_t2 HK w HC hl HE rfl t0 t1
            · refine kid_t3 HK w HC hl HE rfl (by omega) (by omega) (Classical.byContradiction fun g => h3 ⟨?_, ?_, all.2 ?_⟩)
              · show 0 ≤ ti; omega
              · show ti ≤ _; omega
              · show e.ti ≤ ti; omega
  · exact check_name it pa ti vo sp ha hf w HC h
end Go.Proofs.YtpimmdmcmccbpaaDoor
