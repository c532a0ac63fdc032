/- custody: New, hash; the reference's Text and Hash. -/
import Derived.Test.YtpimmdmcmccbpaaDoorGD
import Derived.Deep.QuietTactic
import Derived.Deep.RegionHeld3
import Derived.OwnWalk
namespace Go.Proofs.YtpimmdmcmccbpaaDoor
open Go.RowKit
set_option linter.unusedVariables false
open Cu (Lk Ls)

/-- A link whose texts are short and whose numbers are the machine's. -/
structure Fit_ (x : Lk) : Prop where
  it : (x.it.size : Int) ≤ 1000
  pa : (x.pa.size : Int) ≤ 1000
  sp : (x.sp.size : Int) ≤ 1000
  t0 : -9223372036854775808 ≤ x.ti
  t1 : x.ti ≤ 9223372036854775807
  v0 : -9223372036854775808 ≤ x.vo
  v1 : x.vo ≤ 9223372036854775807
theorem Fit_.tx {x : Lk} (h : Fit_ x) : ((Cu.txS x).size : Int) ≤ 4000 := by
  have h1 := itS_size h.t0 h.t1
  have h2 := itS_size h.v0 h.v1
  have := h.it
  have := h.pa
  have := h.sp
  have e : (⟨#[32]⟩ : ByteArray).size = 1 := rfl
  unfold Cu.txS
  simp only [ba_sizeApp, e]
  omega
theorem join5 (a b c d e : ByteArray) : (⟨(Lib.join ([a, b, c, d, e].map (·.data.toList)) (⟨#[32]⟩ : ByteArray).data.toList).toArray⟩ : ByteArray) = a ++ ⟨#[32]⟩ ++ b ++ ⟨#[32]⟩ ++ c ++ ⟨#[32]⟩ ++ d ++ ⟨#[32]⟩ ++ e := by
  apply ByteArray.ext
  apply Array.toList_inj.1
  simp [Lib.join, List.intercalate, List.intersperse, ByteArray.data_append, List.append_assoc]

theorem cnew_any (w : World) : Calls Tryd.prog 14 #[] w fun e w' => e = .returned (.pointer (some ⟨w.heap.size + 2, 0, none⟩)) ∧ w' = ((w.alloc (.map #[] 0)).alloc (.map #[] 0)).alloc (.cells #[.slice none 0 0, .map (some w.heap.size), .map (some (w.heap.size + 1))] 82) := by
  have hmm := @run_makeMap Tryd.prog
  go_enter Tryd.func14, Tryd.ntmps14
  go_wp2_with fail
  go_ret
  exact ⟨rfl, rfl⟩
theorem CReg.new (w : World) : CReg (((w.alloc (.map #[] 0)).alloc (.map #[] 0)).alloc (.cells #[.slice none 0 0, .map (some w.heap.size), .map (some (w.heap.size + 1))] 82)) w.heap.size (w.heap.size + 2) [] (.slice none 0 0) w.heap.size (w.heap.size + 1) := by
  have b1 := (Below.refl _ (w.alloc (.map #[] 0))).alloc (Nat.le_refl _) (.map #[] 0)
  have b2 := (Below.refl _ ((w.alloc (.map #[] 0)).alloc (.map #[] 0))).alloc (Nat.le_refl _) (.cells #[.slice none 0 0, .map (some w.heap.size), .map (some (w.heap.size + 1))] 82)
  refine ⟨by omega, Nat.le_refl _, by omega, by omega, ?_, World.ownsRow_nil _ _ _ _, ?_, ?_⟩
  · have := Blk.new ((w.alloc (.map #[] 0)).alloc (.map #[] 0)) 82 #[.slice none 0 0, .map (some w.heap.size), .map (some (w.heap.size + 1))]
    simpa using this
  · exact (((MapIs.made w).below b1).below b2).congr fun s => rfl
  · have := (MapIs.made (w.alloc (.map #[] 0))).below b2
    have e : (w.alloc (.map #[] 0)).heap.size = w.heap.size + 1 := by simp
    rw [e] at this
    exact this.congr fun s => by simp [f2]

set_option maxHeartbeats 4000000 in
theorem rtext_any (x : Lk) (hf : Fit_ x) (w : World) :
    Calls Tryd.prog 47 #[.agg #[.string x.it, .string x.pa, .int .i64 x.ti, .int .i64 x.vo, .string x.sp, .int .u64 x.ha]] w fun e w' => e = .returned (.string (Cu.txS x)) ∧ Below w.heap.size w w' := by
  obtain ⟨i1, i2, i3, t0, t1, v0, v1⟩ := hf
  have h1 := itS_size t0 t1
  have h2 := itS_size v0 v1
  have HT := Lib.hid (fun w => decimal_any x.ti t0 t1 w)
  have HV := Lib.hid (fun w => decimal_any x.vo v0 v1 w)
  have hbx := (Below.refl w.heap.size w).alloc (Nat.le_refl _) (.cells #[.string x.it, .string x.pa, .int .i64 x.ti, .int .i64 x.vo, .string x.sp, .int .u64 x.ha] 36)
  have HB : Hid (LBox (w.alloc (.cells #[.string x.it, .string x.pa, .int .i64 x.ti, .int .i64 x.vo, .string x.sp, .int .u64 x.ha] 36)) w.heap.size x) := Blk.new _ _ _
  have HE : Hid (Cu.txS x = x.it ++ ⟨#[32]⟩ ++ x.pa ++ ⟨#[32]⟩ ++ x.sp ++ ⟨#[32]⟩ ++ itS x.ti ++ ⟨#[32]⟩ ++ itS x.vo) := rfl
  generalize itS x.ti = T at *
  generalize itS x.vo = V at *
  go_enter Tryd.func47, Tryd.ntmps47
  go_wp2_with fail
  generalize w.alloc (.cells #[.string x.it, .string x.pa, .int .i64 x.ti, .int .i64 x.vo, .string x.sp, .int .u64 x.ha] 36) = w1 at *
  have d0 := fun u => (LBox.below HB.out (wx_below w1 u)).cells.1
  have d1 := fun u => (LBox.below HB.out (wx_below w1 u)).cells.2.1
  have d2 := fun u => (LBox.below HB.out (wx_below w1 u)).cells.2.2.1
  have d3 := fun u => (LBox.below HB.out (wx_below w1 u)).cells.2.2.2.1
  have d4 := fun u => (LBox.below HB.out (wx_below w1 u)).cells.2.2.2.2.1
  refine wp_region_grows (by kernel_rfl) (by kernel_rfl) ?_
  repeat (go_big_quiet_step ((go_at_call 59; (first | (with_reducible exact calls_grows (HT.out _)) | (with_reducible exact calls_grows (HV.out _))))))
  refine wpQuiet_nil ?_
  rintro _ ⟨u, rfl⟩
  go_wp2_with fail
  go_ret
  exact ⟨ret_str HE.out.symm, below_old hbx (wx_below _ _)⟩
end Go.Proofs.YtpimmdmcmccbpaaDoor
