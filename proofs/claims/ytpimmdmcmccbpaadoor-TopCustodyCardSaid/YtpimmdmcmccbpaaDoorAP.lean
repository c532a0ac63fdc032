/- permit: Add and the other methods, with their results named. -/
import Derived.Test.YtpimmdmcmccbpaaDoorA7
namespace Go.Proofs.YtpimmdmcmccbpaaDoor
open Go.RowKit
set_option linter.unusedVariables false

theorem add_any {B r : Nat} {R : Pt.Rg} {vp vu : Value} (p : Pt.Pm) (s1 : (p.id.size : Int) ≤ 9223372036854775807) (s2 : (p.sp.size : Int) ≤ 9223372036854775807) (w : World) (HR : Hid (Reg w B r R vp vu)) (HO : Hid (Pt.Ok R)) :
    Calls Tryd.prog 21 #[.pointer (some ⟨r, 0, none⟩), .agg #[.string p.id, .string p.sp, .int .i64 p.fr, .int .i64 p.un, .int .i64 p.qu]] w fun e w' => e = .returned (.int .i64 (Pt.adE R p)) ∧ Added w w' B r (Pt.adR R p) vp vu := by
  by_cases h : (isB p.id 80 && nameB p.sp) = true
  · by_cases hn : ¬ Pt.ix p.id R < R.length ∧ (0 ≤ p.fr ∧ p.un ≤ 10000000 ∧ p.fr < p.un) ∧ (1 ≤ p.qu ∧ p.qu ≤ 1125899906842624) ∧ R.length < 16
    · obtain ⟨h3, ⟨t0, t1, t2⟩, ⟨u0, u1⟩, h6⟩ := hn
      rcases HR.out.per.2 with ⟨rfl, hz⟩ | ⟨g, cap, cur, rfl, _⟩
      · exact add_ok0 hz p s1 s2 w HR HO h h3 t0 t1 t2 u0 u1 (by omega)
      · exact add_ok1 rfl p s1 s2 w HR HO h h3 t0 t1 t2 u0 u1 h6
    · exact add_not p s1 s2 w HR HO h hn
  · exact add_name p s1 s2 w HR HO h
theorem add_eq {B r : Nat} {R R' : Pt.Rg} {vp vu : Value} (p : Pt.Pm) (x : Int) (hx : Hid (Pt.adE R p = x)) (hR : Hid (Pt.adR R p = R')) (s1 : (p.id.size : Int) ≤ 9223372036854775807) (s2 : (p.sp.size : Int) ≤ 9223372036854775807) (w : World) (HR : Hid (Reg w B r R vp vu)) (HO : Hid (Pt.Ok R)) :
    Calls Tryd.prog 21 #[.pointer (some ⟨r, 0, none⟩), .agg #[.string p.id, .string p.sp, .int .i64 p.fr, .int .i64 p.un, .int .i64 p.qu]] w fun e w' => e = .returned (.int .i64 x) ∧ Added w w' B r R' vp vu := by
  have := add_any p s1 s2 w HR HO
  rw [hx.out, hR.out] at this
  exact this
theorem use_eq {B r : Nat} {R R' : Pt.Rg} {vp vu : Value} (id : ByteArray) (v x : Int) (hx : Hid (Pt.usE R id v = x)) (hR : Hid (Pt.usR R id v = R')) (w : World) (HR : Hid (Reg w B r R vp vu)) (HO : Hid (Pt.Ok R)) :
    Calls Tryd.prog 23 #[.pointer (some ⟨r, 0, none⟩), .string id, .int .i64 v] w fun e w' => e = .returned (.int .i64 x) ∧ Reg w' B r R' vp vu ∧ w.grownBy w' vu.ownBlock := by
  have := use_any id v w HR HO
  rw [hx.out, hR.out] at this
  exact this
theorem left_eq {B r : Nat} {R : Pt.Rg} {vp vu : Value} (id : ByteArray) (x : Int) (b : Bool) (hx : Hid (Pt.lfN R id = x)) (hb : Hid (Pt.lfB R id = b)) (w : World) (HR : Hid (Reg w B r R vp vu)) (HO : Hid (Pt.Ok R)) :
    Calls Tryd.prog 27 #[.pointer (some ⟨r, 0, none⟩), .string id] w fun e w' => e = .returned (.tuple #[.int .i64 x, .bool b]) ∧ Below w.heap.size w w' := by
  have := left_any id w HR HO
  rw [hx.out, hb.out] at this
  exact this
theorem fell_eq {B r : Nat} {R : Pt.Rg} {vp vu : Value} (id sp : ByteArray) (t x : Int) (hx : Hid (Pt.flE R id sp t = x)) (w : World) (HR : Hid (Reg w B r R vp vu)) (HO : Hid (Pt.Ok R)) :
    Calls Tryd.prog 22 #[.pointer (some ⟨r, 0, none⟩), .string id, .string sp, .int .i64 t] w fun e w' => e = .returned (.int .i64 x) ∧ Below w.heap.size w w' := by
  have := fell_any id sp t w HR HO
  rw [hx.out] at this
  exact this
/-- Blocks of other types than the register's are not the ones that it writes. -/
theorem Reg.other {w : World} {B r : Nat} {R : Pt.Rg} {vp vu : Value} (h : Reg w B r R vp vu) {g : Nat} {t : TypeId} {cs : Array Value} (hb : Blk w g t cs) (h1 : t ≠ 93) (h2 : t ≠ 3) : some g ≠ some r ∧ some g ≠ vu.ownBlock := by
  refine ⟨fun e => ?_, fun e => ?_⟩
  · have hr := h.blk
    cases e
    unfold Blk at hb hr
    rw [hb] at hr
    simp only [Option.some.injEq, Obj.cells.injEq] at hr
    exact h1 hr.2.1
  · rcases h.use.2 with ⟨rfl, _⟩ | ⟨g', cap, cur, rfl, _, hg, _⟩
    · simp [Value.ownBlock] at e
    · simp [Value.ownBlock] at e
      subst e
      unfold Blk at hb
      rw [hb] at hg
      simp only [Option.some.injEq, Obj.cells.injEq] at hg
      exact h2 hg.2.1
end Go.Proofs.YtpimmdmcmccbpaaDoor
