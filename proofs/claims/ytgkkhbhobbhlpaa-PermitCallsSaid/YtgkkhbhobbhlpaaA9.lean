/- awake of the law of permits. -/
import Derived.Test.YtgkkhbhobbhlpaaA8
namespace Go.Proofs.Ytgkkhbhobbhlpaa
open Go.RowKit
set_option linter.unusedVariables false

def exR (u : Int) : Pt.Rg := [(exP, u)]
theorem exOk (u : Int) (h0 : 0 ≤ u) (h1 : u ≤ 5000000000) : Pt.Ok (exR u) :=
  ⟨by simp [exR], fun i h => by simp [exR] at h; subst h; exact ⟨h0, h1, show (1 : Int) ≤ 5000000000 by decide, show (5000000000 : Int) ≤ 1125899906842624 by decide⟩, fun i j hi hj _ => by simp [exR] at hi hj; omega⟩
/-- The example's world: the register and the box of the permit. -/
structure AwW (w0 w : World) (g : Nat) (R : Pt.Rg) : Prop where
  reg : ∃ vp vu, Reg w w0.heap.size w0.heap.size R vp vu
  box : PBox w g exP
  bel : Below w0.heap.size w0 w
theorem AwW.below {w0 w w' : World} {g : Nat} {R : Pt.Rg} (h : AwW w0 w g R) (hb : Below w.heap.size w w') : AwW w0 w' g R := by
  obtain ⟨vp, vu, hr⟩ := h.reg
  exact ⟨⟨vp, vu, hr.below hb⟩, h.box.below hb, below_old h.bel hb⟩
theorem AwW.added {w0 w w' : World} {g : Nat} {R R' : Pt.Rg} {vp vu : Value} (h : AwW w0 w g R) (ha : Added w w' w0.heap.size w0.heap.size R' vp vu) : AwW w0 w' g R' := by
  obtain ⟨vp0, vu0, hr⟩ := h.reg
  obtain ⟨vp', vu', hr', _, _⟩ := ha.reg
  exact ⟨⟨vp', vu', hr'⟩, Blk.grown h.box ha.grown (hr.other h.box (by decide) (by decide)).1, h.bel.grown ha.grown h.bel.size (fun k hk => by cases hk; exact Nat.le_refl _)⟩
theorem AwW.used {w0 w w' : World} {g : Nat} {R R' : Pt.Rg} {vp vu : Value} (h : AwW w0 w g R) (hr : Reg w w0.heap.size w0.heap.size R vp vu) (hr' : Reg w' w0.heap.size w0.heap.size R' vp vu) (hg : w.grownBy w' vu.ownBlock) : AwW w0 w' g R' :=
  ⟨⟨vp, vu, hr'⟩, Blk.grown h.box hg (hr.other h.box (by decide) (by decide)).2, h.bel.grown hg h.bel.size (fun k hk => (hr.use.lt k hk).1)⟩

theorem exE0 : Hid (Pt.adE [] exP = 0) := by show _ = _; kernel_rfl
theorem exR0 : Hid (Pt.adR [] exP = exR 0) := by show _ = _; rw [Pt.adR_ok exE0.out]; rfl
theorem exE1 : Hid (Pt.adE (exR 0) exP = 7) := by show _ = _; kernel_rfl
theorem exR1 : Hid (Pt.adR (exR 0) exP = exR 0) := Pt.adR_no exE1.out (by decide)
theorem exU1 : Hid (Pt.usE (exR 0) exId 2000000000 = 0) := by show _ = _; kernel_rfl
theorem exV1 : Hid (Pt.usR (exR 0) exId 2000000000 = exR 2000000000) := by show _ = _; kernel_rfl
theorem exU2 : Hid (Pt.usE (exR 2000000000) exId 2000000000 = 0) := by show _ = _; kernel_rfl
theorem exV2 : Hid (Pt.usR (exR 2000000000) exId 2000000000 = exR 4000000000) := by show _ = _; kernel_rfl
theorem exU3 : Hid (Pt.usE (exR 4000000000) exId 2000000000 = 23) := by show _ = _; kernel_rfl
theorem exV3 : Hid (Pt.usR (exR 4000000000) exId 2000000000 = exR 4000000000) := Pt.usR_no exU3.out (by decide)
theorem exL1 : Hid (Pt.lfN (exR 4000000000) exId = 1000000000) := by show _ = _; kernel_rfl
theorem exL2 : Hid (Pt.lfB (exR 4000000000) exId = true) := by show _ = _; kernel_rfl
theorem exF1 : Hid (Pt.flE (exR 4000000000) exId ⟨#[112, 105, 110, 101]⟩ 199 = 0) := by show _ = _; kernel_rfl
theorem exF2 : Hid (Pt.flE (exR 4000000000) exId ⟨#[112, 105, 110, 101]⟩ 200 = 15) := by show _ = _; kernel_rfl
theorem exF3 : Hid (Pt.flE (exR 4000000000) exId ⟨#[111, 97, 107]⟩ 200 = 24) := by show _ = _; kernel_rfl
theorem exF4 : Hid (Pt.flE (exR 4000000000) ⟨#[]⟩ ⟨#[112, 105, 110, 101]⟩ 100 = 8) := by show _ = _; kernel_rfl

theorem ex_add {B r : Nat} {R R' : Pt.Rg} {vp vu : Value} (x : Int) (hx : Hid (Pt.adE R exP = x)) (hR : Hid (Pt.adR R exP = R')) (w : World) (HR : Hid (Reg w B r R vp vu)) (HO : Hid (Pt.Ok R)) :
    Calls Try.prog 19 #[.pointer (some ⟨r, 0, none⟩), .agg #[.string exId, .string ⟨#[112, 105, 110, 101]⟩, .int .i64 100, .int .i64 200, .int .i64 5000000000]] w fun e w' => e = .returned (.int .i64 x) ∧ Added w w' B r R' vp vu :=
  add_eq exP x hx hR (by decide) (by decide) w HR HO
set_option maxRecDepth 100000 in
set_option maxHeartbeats 8000000 in
theorem awake_any (w : World) : Calls Try.prog 16 #[] w fun e w' => e = .returned (.bool true) ∧ Below w.heap.size w w' := by
  go_enter Try.func16, Try.ntmps16
  go_wp2_with fail
  (with_reducible refine (new_any _).mono ?_)
  rintro e w1 ⟨rfl, rfl⟩
  have hb0 : Below w.heap.size w (w.alloc (.cells #[.slice none 0 0, .slice none 0 0] 77)) := (Below.refl _ _).alloc (Nat.le_refl _) _
  have HG := Lib.hid (Reg.new w)
  have HB0 := Lib.hid hb0
  clear hb0
  go_wp2_with fail
  (with_reducible refine (code_any _).mono ?_)
  rintro e w1 ⟨rfl, hb⟩
  have HR1 := Lib.hid (HG.out.below hb)
  have HB1 := Lib.hid (below_old HB0.out hb)
  clear hb HB0 HG
  have HW : Hid (AwW w (w1.alloc (.cells #[.string exId, .string ⟨#[112, 105, 110, 101]⟩, .int .i64 100, .int .i64 200, .int .i64 5000000000] 32)) w1.heap.size []) :=
    ⟨⟨_, _, HR1.out.below ((Below.refl _ _).alloc (Nat.le_refl _) _)⟩, Blk.new _ _ _, HB1.out.alloc HB1.out.size _⟩
  obtain ⟨c0, c1, c2, c3, c4⟩ := HW.out.box.cells
  simp only [exP] at c0 c1 c2 c3 c4
  obtain ⟨vp, vu, hr⟩ := HW.out.reg
  have HR := Lib.hid hr
  clear hr
  go_wp2_with fail
  (with_reducible refine (ex_add _ exE0 exR0 _ HR (Lib.hid Pt.Ok.nil)).mono ?_)
  rintro e w2 ⟨rfl, ha⟩
  have HW := Lib.hid (HW.out.added ha)
  clear ha HR c0 c1 c2 c3 c4
  obtain ⟨c0, c1, c2, c3, c4⟩ := HW.out.box.cells
  simp only [exP] at c0 c1 c2 c3 c4
  obtain ⟨vp, vu, hr⟩ := HW.out.reg
  have HR := Lib.hid hr
  clear hr
  go_wp2_with fail
  (with_reducible refine (ex_add _ exE1 exR1 _ HR (Lib.hid (exOk 0 (by decide) (by decide)))).mono ?_)
  rintro e w3 ⟨rfl, ha⟩
  have HW := Lib.hid (HW.out.added ha)
  clear ha HR c0 c1 c2 c3 c4
  obtain ⟨c0, c1, c2, c3, c4⟩ := HW.out.box.cells
  simp only [exP] at c0 c1 c2 c3 c4
  obtain ⟨vp, vu, hr⟩ := HW.out.reg
  have HR := Lib.hid hr
  clear hr
  go_wp2_with fail
  (with_reducible refine (use_eq exId 2000000000 _ exU1 exV1 _ HR (Lib.hid (exOk 0 (by decide) (by decide)))).mono ?_)
  rintro e w4 ⟨rfl, hr', hg⟩
  have HW := Lib.hid (HW.out.used HR.out hr' hg)
  clear hr' hg HR c0 c1 c2 c3 c4
  obtain ⟨c0, c1, c2, c3, c4⟩ := HW.out.box.cells
  simp only [exP] at c0 c1 c2 c3 c4
  obtain ⟨vp, vu, hr⟩ := HW.out.reg
  have HR := Lib.hid hr
  clear hr
  go_wp2_with fail
  (with_reducible refine (use_eq exId 2000000000 _ exU2 exV2 _ HR (Lib.hid (exOk 2000000000 (by decide) (by decide)))).mono ?_)
  rintro e w5 ⟨rfl, hr', hg⟩
  have HW := Lib.hid (HW.out.used HR.out hr' hg)
  clear hr' hg HR c0 c1 c2 c3 c4
  obtain ⟨c0, c1, c2, c3, c4⟩ := HW.out.box.cells
  simp only [exP] at c0 c1 c2 c3 c4
  obtain ⟨vp, vu, hr⟩ := HW.out.reg
  have HR := Lib.hid hr
  clear hr
  go_wp2_with fail
  (with_reducible refine (use_eq exId 2000000000 _ exU3 exV3 _ HR (Lib.hid (exOk 4000000000 (by decide) (by decide)))).mono ?_)
  rintro e w6 ⟨rfl, hr', hg⟩
  have HW := Lib.hid (HW.out.used HR.out hr' hg)
  clear hr' hg HR c0 c1 c2 c3 c4
  have HO := Lib.hid (exOk 4000000000 (by decide) (by decide))
  obtain ⟨c0, c1, c2, c3, c4⟩ := HW.out.box.cells
  simp only [exP] at c0 c1 c2 c3 c4
  obtain ⟨vp, vu, hr⟩ := HW.out.reg
  have HR := Lib.hid hr
  clear hr
  go_wp2_with fail
  (with_reducible refine (left_eq exId _ _ exL1 exL2 _ HR HO).mono ?_)
  rintro e w7 ⟨rfl, hb⟩
  have HW := Lib.hid (HW.out.below hb)
  have HR := Lib.hid (HR.out.below hb)
  clear hb c0 c1 c2 c3 c4
  go_wp2_with fail
  (with_reducible refine (list_any _ HR HO).mono ?_)
  rintro e w8 ⟨v, rfl, hown, hb⟩
  have HW := Lib.hid (HW.out.below hb)
  have HR := Lib.hid (HR.out.below hb)
  rw [show (exR 4000000000).length = 1 from rfl] at hown
  obtain ⟨g8, cap8, rfl, hge, hlt8⟩ := hown.form (by decide)
  have x0 := hown.cellAt 0 (by decide)
  have x1 := hown.cellAt 1 (by decide)
  have x2 := hown.cellAt 2 (by decide)
  have x3 := hown.cellAt 3 (by decide)
  have x4 := hown.cellAt 4 (by decide)
  simp [prow, exR, pcells, exP] at x0 x1 x2 x3 x4
  obtain ⟨c0, c1, c2, c3, c4⟩ := HW.out.box.cells
  simp only [exP] at c0 c1 c2 c3 c4
  have hgl : w1.heap.size < w8.heap.size := Blk.lt HW.out.box
  clear hown hb hge
  have HX : ∀ u, Hid (Reg (wx w8 u) w.heap.size w.heap.size (exR 4000000000) vp vu) := fun u => HR.out.below (wx_below w8 u)
  have y : ∀ u b o, b < w8.heap.size → (wx w8 u).cell? ⟨b, o, none⟩ = w8.cell? ⟨b, o, none⟩ := fun u b o h => wx_cell w8 u b o none h
  have d0 : ∀ u, (wx w8 u).cell? ⟨w1.heap.size, 0, none⟩ = some (.string exId) := fun u => (y u _ _ hgl).trans c0
  have d1 : ∀ u, (wx w8 u).cell? ⟨w1.heap.size, 1, none⟩ = some (.string ⟨#[112, 105, 110, 101]⟩) := fun u => (y u _ _ hgl).trans c1
  have d2 : ∀ u, (wx w8 u).cell? ⟨w1.heap.size, 2, none⟩ = some (.int .i64 100) := fun u => (y u _ _ hgl).trans c2
  have d3 : ∀ u, (wx w8 u).cell? ⟨w1.heap.size, 3, none⟩ = some (.int .i64 200) := fun u => (y u _ _ hgl).trans c3
  have d4 : ∀ u, (wx w8 u).cell? ⟨w1.heap.size, 4, none⟩ = some (.int .i64 5000000000) := fun u => (y u _ _ hgl).trans c4
  have z0 : ∀ u, (wx w8 u).cell? ⟨g8, 0, none⟩ = some (.string exId) := fun u => (y u _ _ hlt8).trans x0
  have z1 : ∀ u, (wx w8 u).cell? ⟨g8, 1, none⟩ = some (.string ⟨#[112, 105, 110, 101]⟩) := fun u => (y u _ _ hlt8).trans x1
  have z2 : ∀ u, (wx w8 u).cell? ⟨g8, 2, none⟩ = some (.int .i64 100) := fun u => (y u _ _ hlt8).trans x2
  have z3 : ∀ u, (wx w8 u).cell? ⟨g8, 3, none⟩ = some (.int .i64 200) := fun u => (y u _ _ hlt8).trans x3
  have z4 : ∀ u, (wx w8 u).cell? ⟨g8, 4, none⟩ = some (.int .i64 5000000000) := fun u => (y u _ _ hlt8).trans x4
  clear y x0 x1 x2 x3 x4 c0 c1 c2 c3 c4
  go_wp2_with fail
  refine wp_region_grows (by kernel_rfl) (by kernel_rfl) ?_
  repeat (go_big_quiet_step ((go_at_call 22; (first | (with_reducible exact calls_grows (fell_eq _ _ _ _ exF1 _ (HX _) HO)) | (with_reducible exact calls_grows (fell_eq _ _ _ _ exF2 _ (HX _) HO)) | (with_reducible exact calls_grows (fell_eq _ _ _ _ exF3 _ (HX _) HO)) | (with_reducible exact calls_grows (fell_eq _ _ _ _ exF4 _ (HX _) HO))))))
  refine wpQuiet_nil ?_
  rintro _ ⟨u, rfl⟩
  go_wp2_with fail
  go_ret
  exact ⟨rfl, below_old HW.out.bel (wx_below _ _)⟩
end Go.Proofs.Ytgkkhbhobbhlpaa
