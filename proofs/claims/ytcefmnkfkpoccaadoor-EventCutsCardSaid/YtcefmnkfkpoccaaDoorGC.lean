/- The reference of wire: Ints, and its readers. -/
import Derived.Test.YtcefmnkfkpoccaaDoorGB
import Derived.Laws.ResultCell
import Derived.Laws.Rows
namespace Go.Proofs.YtcefmnkfkpoccaaDoor
open Go.RowKit
set_option linter.unusedVariables false
open Wi Evn
theorem lb_app (a b : List UInt8) : lb a ++ lb b = lb (a ++ b) := by
  apply ByteArray.ext
  apply Array.ext'
  simp [lb]
set_option maxRecDepth 100000 in
set_option maxHeartbeats 8000000 in
theorem rints_any (l : List Int) (A : Option Addr) (c : Nat) (hl : (l.length : Int) ≤ 100000) (HO : Hid (∀ x ∈ l, I64 x)) (T : ByteArray) (hT : Hid (lb (isL l) = T)) (w : World) (HS : Hid (SlR w A (i64c l))) :
    Calls Tryd.prog 60 #[.slice A l.length c] w fun e w' => e = .returned (.string T) ∧ Below w.heap.size w w' := by
  obtain ⟨U, hU⟩ : ∃ U, lb (uvL l.length) = U := ⟨_, rfl⟩
  have HU := Lib.hid hU
  clear hU
  go_enter Tryd.func60, Tryd.ntmps60
  go_wp2_with fail
  (with_reducible refine (ruint_eq _ l.length (Lib.hid rfl) (by omega) U HU _).mono ?_)
  rintro e w1 ⟨rfl, hb⟩
  have HW1 := Lib.hid hb
  clear hb
  go_wp2_with fail
  go_loopw [3, 4] (fun v i wr => ∃ (k : Nat) (X : ByteArray), v = .string X ∧ i = .int .i64 k ∧ k ≤ l.length ∧ Hid (lb (uvL l.length ++ (l.take k).flatMap inL) = X) ∧ Hid (Below w.heap.size w wr)) (fun _ i _ => l.length - (intOf i).toNat)
  case atStart => exact ⟨0, U, rfl, rfl, by omega, by show _ = _; simpa using HU.out, HW1⟩
  case round =>
    obtain ⟨k, X, rfl, rfl, hk, HX, HW⟩ := hrel
    by_cases h : k < l.length
    · obtain ⟨x, hx⟩ : ∃ x, l[k] = x := ⟨_, rfl⟩
      obtain ⟨bb, off, hA, hbl, x0⟩ := int_cells (HS.out.below HW.out) h hx
      subst hA
      have hxr : I64 x := by rw [← hx]; exact HO.out _ (List.getElem_mem h)
      obtain ⟨V, hV⟩ : ∃ V, lb (inL x) = V := ⟨_, rfl⟩
      have HV := Lib.hid hV
      have hvs : V.size ≤ 10 := by rw [← hV]; exact inL_len x
      have hxs : X.size ≤ 10 + 10 * 100000 := by
        rw [← HX.out]
        show (uvL l.length ++ (l.take k).flatMap inL).length ≤ _
        rw [List.length_append]
        have h1 := (uvL_len l.length).2
        have h2 := flat_le (l.take k)
        rw [List.length_take] at h2
        omega
      have hcat : ¬ 9223372036854775807 < X.size + V.size := by omega
      have HX2 : Hid (lb (uvL l.length ++ (l.take (k + 1)).flatMap inL) = X ++ V) := by
        show _ = _
        rw [isL_take h, hx, ← List.append_assoc, ← lb_app, HX.out, hV]
      have zk : (k : Int) < (l.length : Int) := by omega
      clear hx hV
      go_wp2_with fail
      (with_reducible refine (rint_any x hxr.1 hxr.2 V HV _).mono ?_)
      rintro e w3 ⟨rfl, hb⟩
      have HW3 := Lib.hid (below_old HW.out hb)
      clear hb
      go_wp2_with fail
      go_roundw
      case rel => exact ⟨k + 1, X ++ V, rfl, by go_num, by omega, HX2, HW3⟩
      case measure => simp [intOf]; omega
    · have hE : l.take k = l := List.take_of_length_le (by omega)
      rw [hE] at HX
      have HXT : Hid (X = T) := by show _ = _; rw [← HX.out, ← hT.out]; rfl
      have zk : (l.length : Int) ≤ (k : Int) := by omega
      clear hE
      go_wp2_with fail
      go_ret
      exact ⟨ret_st HXT.out, HW.out⟩
/-- A reader as a value. -/
abbrev rg (s : ByteArray) (t : St) : Value := .agg #[.string s, .int .i64 (t.1 : Int), .int .i64 t.2]
theorem two_bel (w : World) (a b : Obj) : Below w.heap.size w ((w.alloc a).alloc b) := ((Below.refl w.heap.size w).alloc (Nat.le_refl _) a).alloc (by simp) b
theorem two_box (w : World) (a b : Obj) : ((w.alloc a).alloc b).heap[w.heap.size + 1]? = some b := by
  have := heap_alloc_new (w.alloc a) b
  have e : (w.alloc a).heap.size = w.heap.size + 1 := by simp
  rw [e] at this
  exact this
set_option maxHeartbeats 2000000 in
theorem rfail_any (s : ByteArray) (p x y : Int) (w : World) : Calls Tryd.prog 68 #[.agg #[.string s, .int .i64 p, .int .i64 y], .int .i64 x] w fun e w' => e = .returned (.agg #[.string s, .int .i64 p, .int .i64 x]) ∧ Below w.heap.size w w' := by
  go_enter Tryd.func68, Tryd.ntmps68
  go_wp2_with fail
  (try simp only [Exit.inBlock, Exit.then])
  exact bodyPost_ret (results_cell_row rfl _ _ (w.heap.size + 1) 63 _ (0, 0) _ rfl (two_box w _ _) Tryd.underlying63 rfl (by kernel_rfl)) rfl ⟨rfl, two_bel w _ _⟩
theorem two_out {w0 w w' : World} (h : Below w0.heap.size w0 w) (a b : Obj) (hb : Below ((w.alloc a).alloc b).heap.size ((w.alloc a).alloc b) w') : Below w0.heap.size w0 w' := below_old (below_old h (two_bel w a b)) hb
/-- The cells of two boxes that were made, later on. -/
theorem two_cells {w w1 : World} {x0 x1 x2 y0 y1 y2 : Value} {t : TypeId} (hb : Below ((w.alloc (.cells #[x0, x1, x2] t)).alloc (.cells #[y0, y1, y2] t)).heap.size ((w.alloc (.cells #[x0, x1, x2] t)).alloc (.cells #[y0, y1, y2] t)) w1) :
    Blk w1 w.heap.size t #[x0, x1, x2] ∧ Blk w1 (w.heap.size + 1) t #[y0, y1, y2] := by
  have h1 : Blk ((w.alloc (.cells #[x0, x1, x2] t)).alloc (.cells #[y0, y1, y2] t)) w.heap.size t #[x0, x1, x2] := (Blk.new w t #[x0, x1, x2]).below ((Below.refl _ _).alloc (Nat.le_refl _) _)
  have h2 : Blk ((w.alloc (.cells #[x0, x1, x2] t)).alloc (.cells #[y0, y1, y2] t)) (w.heap.size + 1) t #[y0, y1, y2] := two_box w _ _
  exact ⟨h1.below hb, h2.below hb⟩
theorem set3_bel {w w1 : World} {b : Nat} (h : Below w.heap.size w w1) (hb : w.heap.size ≤ b) (x0 x1 x2 : Value) : Below w.heap.size w (((w1.setCell ⟨b, 0, none⟩ x0).setCell ⟨b, 1, none⟩ x1).setCell ⟨b, 2, none⟩ x2) :=
  ((h.setCell (p := ⟨b, 0, none⟩) hb x0).setCell (p := ⟨b, 1, none⟩) hb x1).setCell (p := ⟨b, 2, none⟩) hb x2
set_option maxRecDepth 100000 in
set_option maxHeartbeats 4000000 in
theorem rreadInt_any (s : ByteArray) (t : St) (hp : t.1 ≤ s.size) (hs : (s.size : Int) ≤ 1000000) (lo hi : Int) (T : St) (N : Int) (h : Hid (rdI (bl s) t lo hi = (T, N))) (w : World) :
    Calls Tryd.prog 41 #[rg s t, .int .i64 lo, .int .i64 hi] w fun e w' => e = .returned (.tuple #[rg s T, .int .i64 N]) ∧ Below w.heap.size w w' := by
  by_cases h0 : t.2 = 0
  · obtain ⟨n, q, x, hN⟩ : ∃ n q x, sgnR (bl s) t.1 lo hi = (n, q, x) := ⟨_, _, _, rfl⟩
    have HN := Lib.hid hN
    have h' := h.out
    rw [rdI_eq h0 hN] at h'
    simp only [Prod.mk.injEq] at h'
    obtain ⟨e1, e2⟩ := h'
    subst e2
    obtain ⟨p, y⟩ := t
    simp only at h0 hp HN
    subst h0
    by_cases hx : x = 0
    · subst hx
      have HT : Hid (T = (q, 0)) := e1.symm
      clear h hN e1
      go_enter Tryd.func41, Tryd.ntmps41
      go_wp2_with fail
      (with_reducible refine (rsigned_any s p hp hs lo hi n q 0 HN _).mono ?_)
      rintro e w1 ⟨rfl, hw⟩
      subst hw
      go_wp2_with fail
      (try simp only [Exit.inBlock, Exit.then])
      refine bodyPost_ret (v := .tuple #[.agg #[.string s, .int .i64 (q : Int), .int .i64 0], .int .i64 n]) ?_ rfl ⟨?_, two_bel w _ _⟩
      rotate_left
      · rw [HT.out]
      · rw [results_cell_tmp rfl]
        go_simp
    · have hn0 : n = 0 := by have := sgnR_bad (s := bl s) (p := p) (lo := lo) (hi := hi) (by rw [HN.out]; exact hx); rw [HN.out] at this; exact this
      subst hn0
      have HT : Hid (T = (p, x)) := by show _ = _; rw [← e1, dnS, if_neg hx]
      have qx : (x == 0) = false := by simpa using hx
      have qx2 : (x != 0) = true := by simpa using hx
      clear h hN e1 hx
      go_enter Tryd.func41, Tryd.ntmps41
      go_wp2_with fail
      (with_reducible refine (rsigned_any s p hp hs lo hi 0 q x HN _).mono ?_)
      rintro e w1 ⟨rfl, hw⟩
      subst hw
      go_wp2_with fail
      (with_reducible refine (rfail_any s (p : Int) x 0 _).mono ?_)
      rintro e w1 ⟨rfl, hb⟩
      obtain ⟨B1, B2⟩ := two_cells hb
      have HW1 := Lib.hid (below_old (two_bel w _ _) hb)
      have r0 : w1.cell? ⟨w.heap.size + 1, 0, none⟩ = _ := B2.cell 0
      have r1 : w1.cell? ⟨w.heap.size + 1, 1, none⟩ = _ := B2.cell 1
      have r2 : w1.cell? ⟨w.heap.size + 1, 2, none⟩ = _ := B2.cell 2
      have fz := B2.frozen
      clear hb B1 B2
      go_wp2_with fail
      (try simp only [Exit.inBlock, Exit.then])
      refine bodyPost_ret (v := .tuple #[.agg #[.string s, .int .i64 (p : Int), .int .i64 x], .int .i64 0]) ?_ rfl ⟨?_, set3_bel HW1.out (Nat.le_succ _) _ _ _⟩
      rotate_left
      · rw [HT.out]
      · rw [results_cell_tmp rfl]
        go_simp
  · have h' := h.out
    rw [rdI_bad h0] at h'
    simp only [Prod.mk.injEq] at h'
    obtain ⟨e1, e2⟩ := h'
    subst e1 e2
    have qx : (t.2 == 0) = false := by simpa using h0
    have qx2 : (t.2 != 0) = true := by simpa using h0
    clear h h0
    go_enter Tryd.func41, Tryd.ntmps41
    go_wp2_with fail
    (try simp only [Exit.inBlock, Exit.then])
    refine bodyPost_ret (v := .tuple #[.agg #[.string s, .int .i64 (t.1 : Int), .int .i64 t.2], .int .i64 0]) ?_ rfl ⟨rfl, two_bel w _ _⟩
    rw [results_cell_tmp rfl]
    go_simp
end Go.Proofs.YtcefmnkfkpoccaaDoor
