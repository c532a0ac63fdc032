/- The walks of the laws of chapter 32 that compare with the reference. -/
import Derived.Test.YtgkkhbhobbhlpaaS4
namespace Go.Proofs.Ytgkkhbhobbhlpaa
open Go.RowKit
set_option linter.unusedVariables false

set_option maxHeartbeats 2000000 in
theorem stackWeights_walk (v d m : Int) (w : World) : Calls Try.prog 10 #[.int .i64 v, .int .i64 d, .int .i64 m] w fun e w' => e = .returned (.bool true) ∧ Below w.heap.size w w' := by
  go_enter Try.func10, Try.ntmps10
  go_wp2_with fail
  refine (weight_any _ _ _ _).mono ?_
  rintro e w1 ⟨rfl, n, rfl⟩
  go_wp2_with fail
  refine (rweight_any _ _ _ _).mono ?_
  rintro e w1 ⟨rfl, rfl⟩
  go_wp2_with fail
  refine (awake_any _).mono ?_
  rintro e w1 ⟨rfl, hb⟩
  go_wp2_with fail
  go_ret
  exact ⟨rfl, below_old (below_drewN (Below.refl _ _) n) hb⟩

set_option maxHeartbeats 2000000 in
theorem stackPlaces_walk (a b c i : Int) (hi0 : -9223372036854775808 ≤ i) (hi1 : i ≤ 9223372036854775807) (w : World) :
    Calls Try.prog 8 #[.agg #[.int .i64 a, .int .i64 b, .int .i64 c], .int .i64 i] w fun e w' => e = .returned (.bool true) ∧ Below w.heap.size w w' := by
  go_enter Try.func8, Try.ntmps8
  go_wp2_with fail
  refine (shape_any _ _ _ _).mono ?_
  rintro e w1 ⟨rfl, hb⟩
  obtain ⟨c0, c1, c2, hlt, hbel⟩ := box_cells hb
  clear hb
  go_wp2_with fail
  refine (place_any _ _ _ _ hi0 hi1 _).mono ?_
  rintro e w2 ⟨rfl, hb⟩
  have d0 := (hb.cell (p := ⟨w.heap.size, 0, none⟩) hlt).trans c0
  have d1 := (hb.cell (p := ⟨w.heap.size, 1, none⟩) hlt).trans c1
  have d2 := (hb.cell (p := ⟨w.heap.size, 2, none⟩) hlt).trans c2
  have hlt2 : w.heap.size < w2.heap.size := Nat.lt_of_lt_of_le hlt hb.size
  have hbel2 := below_old hbel hb
  clear hb c0 c1 c2 hlt hbel
  go_wp2_with fail
  refine (rplace_any _ _ _ _ hi0 hi1 _).mono ?_
  rintro e w3 ⟨rfl, hb⟩
  have c0 := (hb.cell (p := ⟨w.heap.size, 0, none⟩) hlt2).trans d0
  have c1 := (hb.cell (p := ⟨w.heap.size, 1, none⟩) hlt2).trans d1
  have c2 := (hb.cell (p := ⟨w.heap.size, 2, none⟩) hlt2).trans d2
  have hlt3 : w.heap.size < w3.heap.size := Nat.lt_of_lt_of_le hlt2 hb.size
  have hbel3 := below_old hbel2 hb
  clear hb d0 d1 d2 hlt2 hbel2
  go_wp2_with fail
  have e0 : ∀ u, (wx w3 u).cell? ⟨w.heap.size, 0, none⟩ = some (.int .i64 a) := fun u => by rw [wx_cell _ _ _ _ _ hlt3]; exact c0
  have e1 : ∀ u, (wx w3 u).cell? ⟨w.heap.size, 1, none⟩ = some (.int .i64 b) := fun u => by rw [wx_cell _ _ _ _ _ hlt3]; exact c1
  have e2 : ∀ u, (wx w3 u).cell? ⟨w.heap.size, 2, none⟩ = some (.int .i64 c) := fun u => by rw [wx_cell _ _ _ _ _ hlt3]; exact c2
  refine wp_region_grows (by kernel_rfl) (by kernel_rfl) ?_
  repeat (go_big_quiet_step ((first | (go_at_call 30; (with_reducible exact calls_grows (shape_any _ _ _ _))) | (go_at_call 32; (with_reducible exact calls_grows (check_any _ _ _ _))) | (go_at_call 33; (with_reducible exact calls_grows (rcheck_any _ _ _ _))) | (go_at_call 34; (with_reducible exact calls_grows (awake_any _))))))
  refine wpQuiet_nil ?_
  rintro _ ⟨u, rfl⟩
  go_wp2_with fail
  go_ret
  exact ⟨rfl, below_old hbel3 (wx_below _ _)⟩
end Go.Proofs.Ytgkkhbhobbhlpaa
