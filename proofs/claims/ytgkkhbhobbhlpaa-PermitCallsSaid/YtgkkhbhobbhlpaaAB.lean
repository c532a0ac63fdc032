/- The laws' list of calls: short, play. -/
import Derived.Test.YtgkkhbhobbhlpaaAA
import Derived.Test.YtgkkhbhobbhlpaaQ
namespace Go.Proofs.Ytgkkhbhobbhlpaa
open Go.RowKit Go.ChangeShapes Go.WideShapes Go.Deep
set_option linter.unusedVariables false

/-- A call of the laws. -/
structure Opr where
  k : Int
  p : Pt.Pm
  n : Int
def ocells (o : Opr) : List Value := [.int .i64 o.k, .string o.p.id, .string o.p.sp, .int .i64 o.p.fr, .int .i64 o.p.un, .int .i64 o.p.qu, .int .i64 o.n]
def orow (l : List Opr) : List Value := l.flatMap ocells
theorem orow_length (l : List Opr) : (orow l).length = l.length * 7 := by
  induction l with
  | nil => rfl
  | cons e r ih => simp only [orow, List.flatMap_cons, List.length_append, List.length_cons] at ih ⊢; rw [ih]; simp [ocells]; omega
theorem orow_at (l : List Opr) (i j : Nat) (h : i < l.length) (hj : j < 7) : (orow l)[i * 7 + j]? = (ocells l[i])[j]? := by
  induction l generalizing i with
  | nil => simp at h
  | cons e r ih =>
    have h7 : (ocells e).length = 7 := rfl
    simp only [orow, List.flatMap_cons] at ih ⊢
    cases i with
    | zero => rw [List.getElem?_append_left (by omega)]; simp
    | succ i =>
      rw [List.getElem?_append_right (by omega), h7, show (i + 1) * 7 + j - 7 = i * 7 + j by omega, ih i (by simpa using h)]
      simp
theorem SlR.op {w : World} {A : Option Addr} {l : List Opr} (h : SlR w A (orow l)) {i : Nat} (hi : i < l.length) :
    ∃ b off, A = some ⟨b, off, none⟩ ∧ b < w.heap.size ∧ w.cell? ⟨b, off + i * 7, none⟩ = some (.int .i64 (l[i]).k) ∧ w.cell? ⟨b, off + i * 7 + 1, none⟩ = some (.string (l[i]).p.id) ∧ w.cell? ⟨b, off + i * 7 + 2, none⟩ = some (.string (l[i]).p.sp) ∧
      w.cell? ⟨b, off + i * 7 + 3, none⟩ = some (.int .i64 (l[i]).p.fr) ∧ w.cell? ⟨b, off + i * 7 + 4, none⟩ = some (.int .i64 (l[i]).p.un) ∧ w.cell? ⟨b, off + i * 7 + 5, none⟩ = some (.int .i64 (l[i]).p.qu) ∧ w.cell? ⟨b, off + i * 7 + 6, none⟩ = some (.int .i64 (l[i]).n) := by
  have hl := orow_length l
  obtain ⟨b, off, e, hb, hc⟩ := h (by omega)
  have at_ : ∀ j, j < 7 → w.cell? ⟨b, off + i * 7 + j, none⟩ = (ocells l[i])[j]? := fun j hj => by
    have hlt : i * 7 + j < (orow l).length := by omega
    have e1 := orow_at l i j hi hj
    rw [List.getElem?_eq_getElem hlt] at e1
    rw [Nat.add_assoc, hc _ hlt, e1]
  exact ⟨b, off, e, hb, at_ 0 (by omega), at_ 1 (by omega), at_ 2 (by omega), at_ 3 (by omega), at_ 4 (by omega), at_ 5 (by omega), at_ 6 (by omega)⟩

/-- The strings of the calls fit. -/
def shortB (l : List Opr) : Bool := decide (l.length ≤ 60) && l.all fun o => decide (o.p.id.size ≤ 40 ∧ o.p.sp.size ≤ 40)
theorem short_len {l : List Opr} (h : shortB l = true) : l.length ≤ 60 := by simp [shortB] at h; exact h.1
theorem short_at {l : List Opr} (h : shortB l = true) {i : Nat} (hi : i < l.length) : (l[i]).p.id.size ≤ 40 ∧ (l[i]).p.sp.size ≤ 40 := by simp [shortB] at h; exact h.2 _ (List.getElem_mem hi)
theorem short_no {l : List Opr} {i : Nat} (hi : i < l.length) (h : ¬ ((l[i]).p.id.size ≤ 40 ∧ (l[i]).p.sp.size ≤ 40)) : shortB l = false := by
  cases hs : shortB l with
  | false => rfl
  | true => exact absurd (short_at hs hi) h
theorem short_long {l : List Opr} (h : ¬ l.length ≤ 60) : shortB l = false := by simp [shortB, h]
theorem short_yes {l : List Opr} (h : l.length ≤ 60) (h2 : ∀ i (hi : i < l.length), (l[i]).p.id.size ≤ 40 ∧ (l[i]).p.sp.size ≤ 40) : shortB l = true := by
  simp only [shortB, h, decide_true, Bool.true_and, List.all_eq_true, decide_eq_true_eq]
  intro o ho
  obtain ⟨i, hi, rfl⟩ := List.getElem_of_mem ho
  exact h2 i hi

/-- Strings whose sizes a machine's word bears. -/
def Sized (l : List Opr) : Prop := ∀ i (hi : i < l.length), ((l[i]).p.id.size : Int) ≤ 9223372036854775807 ∧ ((l[i]).p.sp.size : Int) ≤ 9223372036854775807

set_option maxHeartbeats 4000000 in
theorem short_any (A : Option Addr) (c : Nat) (l : List Opr) (w : World) (HS : Hid (SlR w A (orow l))) (hl : (l.length : Int) ≤ 9223372036854775807) (HZ : Hid (Sized l)) :
    Calls Try.prog 15 #[.slice A l.length c] w fun e w' => e = .returned (.bool (shortB l)) ∧ w' = w := by
  by_cases h60 : l.length ≤ 60
  · have z60 : (l.length : Int) ≤ 60 := by omega
    go_enter Try.func15, Try.ntmps15
    go_wp2_with fail
    go_loopw [3] (fun i wr => ∃ k : Nat, i = .int .i64 k ∧ k ≤ l.length ∧ Hid (∀ j (hj : j < l.length), j < k → (l[j]).p.id.size ≤ 40 ∧ (l[j]).p.sp.size ≤ 40) ∧ wr = w) (fun i _ => l.length - (intOf i).toNat)
    case atStart => exact ⟨0, rfl, by omega, fun j _ h => absurd h (Nat.not_lt_zero _), rfl⟩
    case round =>
      obtain ⟨k, rfl, hk, hF, rfl⟩ := hrel
      by_cases hlt : k < l.length
      · obtain ⟨b, off, rfl, hb, c0, c1, c2, c3, c4, c5, c6⟩ := HS.out.op hlt
        have zk : (k : Int) < (l.length : Int) := by omega
        obtain ⟨z1, z2⟩ := HZ.out k hlt
        by_cases g : (l[k]).p.id.size ≤ 40 ∧ (l[k]).p.sp.size ≤ 40
        · have hF2 : Hid (∀ j (hj : j < l.length), j < k + 1 → (l[j]).p.id.size ≤ 40 ∧ (l[j]).p.sp.size ≤ 40) := fun j hj hjk => by
            rcases Nat.lt_or_ge j k with q | q
            · exact hF.out j hj q
            · obtain rfl : j = k := by omega
              exact g
          have g1 : ((l[k]).p.id.size : Int) ≤ 40 := by omega
          have g2 : ((l[k]).p.sp.size : Int) ≤ 40 := by omega
          clear g
          go_wp2_with fail
          go_roundw
          case rel => exact ⟨k + 1, by go_num, by omega, hF2, trivial⟩
          case measure => simp [intOf]; omega
        · have hE := Lib.hid (short_no hlt g)
          by_cases g1 : (l[k]).p.id.size ≤ 40
          · have g2 : (40 : Int) < ((l[k]).p.sp.size : Int) := by omega
            have g3 : ((l[k]).p.id.size : Int) ≤ 40 := by omega
            clear g g1
            go_wp2_with fail
            go_ret
            exact ⟨ret_bool hE.out.symm, rfl⟩
          · have g3 : (40 : Int) < ((l[k]).p.id.size : Int) := by omega
            clear g g1
            go_wp2_with fail
            go_ret
            exact ⟨ret_bool hE.out.symm, rfl⟩
      · have hE := Lib.hid (short_yes h60 fun i hi => hF.out i hi (by omega))
        go_wp2_with fail
        go_ret
        exact ⟨ret_bool hE.out.symm, rfl⟩
  · have hE := Lib.hid (short_long h60)
    have z60 : (60 : Int) < (l.length : Int) := by omega
    clear h60
    go_enter Try.func15, Try.ntmps15
    go_wp2_with fail
    go_ret
    exact ⟨ret_bool hE.out.symm, rfl⟩

/-- The register after the calls. -/
def stepR (R : Pt.Rg) (o : Opr) : Pt.Rg := if o.k = 0 then Pt.adR R o.p else if o.k = 1 then Pt.usR R o.p.id o.n else R
def plR (l : List Opr) : Pt.Rg := l.foldl stepR []
theorem stepOk {R : Pt.Rg} (h : Pt.Ok R) (o : Opr) : Pt.Ok (stepR R o) := by
  unfold stepR
  split
  · exact h.add _
  · split
    · exact h.use _ _
    · exact h
theorem foldOk : ∀ (l : List Opr) (R : Pt.Rg), Pt.Ok R → Pt.Ok (l.foldl stepR R)
  | [], _, h => h
  | o :: l, R, h => foldOk l _ (stepOk h o)
theorem plOk (l : List Opr) : Pt.Ok (plR l) := foldOk l [] Pt.Ok.nil
theorem pl_next (l : List Opr) (k : Nat) (hk : k < l.length) : plR (l.take (k + 1)) = stepR (plR (l.take k)) l[k] := by
  have e : l.take (k + 1) = l.take k ++ [l[k]] := by rw [List.take_add_one, List.getElem?_eq_getElem hk]; rfl
  rw [e]
  unfold plR
  rw [List.foldl_append]
  rfl

/-- The register under way. -/
structure PlW (w0 w : World) (R : Pt.Rg) : Prop where
  reg : ∃ vp vu, Reg w w0.heap.size w0.heap.size R vp vu
  bel : Below w0.heap.size w0 w
theorem PlW.added {w0 w w' : World} {R R' : Pt.Rg} {vp vu : Value} (h : PlW w0 w R) (ha : Added w w' w0.heap.size w0.heap.size R' vp vu) : PlW w0 w' R' := by
  obtain ⟨vp', vu', hr', _, _⟩ := ha.reg
  exact ⟨⟨vp', vu', hr'⟩, h.bel.grown ha.grown h.bel.size (fun k hk => by cases hk; exact Nat.le_refl _)⟩
theorem PlW.used {w0 w w' : World} {R R' : Pt.Rg} {vp vu : Value} (h : PlW w0 w R) (hr : Reg w w0.heap.size w0.heap.size R vp vu) (hr' : Reg w' w0.heap.size w0.heap.size R' vp vu) (hg : w.grownBy w' vu.ownBlock) : PlW w0 w' R' :=
  ⟨⟨vp, vu, hr'⟩, h.bel.grown hg h.bel.size (fun k hk => (hr.use.lt k hk).1)⟩
theorem PlW.below {w0 w w' : World} {R : Pt.Rg} (h : PlW w0 w R) (hb : Below w.heap.size w w') : PlW w0 w' R := by
  obtain ⟨vp, vu, hr⟩ := h.reg
  exact ⟨⟨vp, vu, hr.below hb⟩, below_old h.bel hb⟩
theorem PlW.new (w : World) : PlW w (w.alloc (.cells #[.slice none 0 0, .slice none 0 0] 77)) [] := ⟨⟨_, _, Reg.new w⟩, (Below.refl _ _).alloc (Nat.le_refl _) _⟩

set_option maxHeartbeats 8000000 in
theorem play_any (A : Option Addr) (c : Nat) (l : List Opr) (w : World) (HS : Hid (SlR w A (orow l))) (hl : shortB l = true) :
    Calls Try.prog 28 #[.slice A l.length c] w fun e w' => e = .returned (.pointer (some ⟨w.heap.size, 0, none⟩)) ∧ PlW w w' (plR l) := by
  have z60 : (l.length : Int) ≤ 60 := by have := short_len hl; omega
  have HSH := Lib.hid hl
  clear hl
  go_enter Try.func28, Try.ntmps28
  go_wp2_with fail
  (with_reducible refine (new_any _).mono ?_)
  rintro e w1 ⟨rfl, rfl⟩
  go_wp2_with fail
  go_loopw [4] (fun i wr => ∃ k : Nat, i = .int .i64 k ∧ k ≤ l.length ∧ Hid (PlW w wr (plR (l.take k)))) (fun i _ => l.length - (intOf i).toNat)
  case atStart => exact ⟨0, rfl, by omega, PlW.new w⟩
  case round =>
    obtain ⟨k, rfl, hk, HW⟩ := hrel
    by_cases hlt : k < l.length
    · have HS2 := Lib.hid (HS.out.below HW.out.bel)
      obtain ⟨b, off, rfl, hb, c0, c1, c2, c3, c4, c5, c6⟩ := HS2.out.op hlt
      have zk : (k : Int) < (l.length : Int) := by omega
      obtain ⟨z1, z2⟩ := short_at HSH.out hlt
      have hN := pl_next l k hlt
      have HO := Lib.hid (plOk (l.take k))
      obtain ⟨vp, vu, hr⟩ := HW.out.reg
      have HR := Lib.hid hr
      clear hr
      obtain ⟨o, ho⟩ : ∃ o, l[k] = o := ⟨_, rfl⟩
      rw [ho] at c0 c1 c2 c3 c4 c5 c6 z1 z2 hN
      clear ho
      by_cases h0 : o.k = 0
      · have HN : Hid (plR (l.take (k + 1)) = Pt.adR (plR (l.take k)) o.p) := by show _ = _; rw [hN, stepR, if_pos h0]
        clear hN
        have hk0 : (o.k == 0) = true := by simpa using h0
        go_wp2_with fail
        (with_reducible refine (add_any o.p (by omega) (by omega) _ HR HO).mono ?_)
        rintro e w2 ⟨rfl, ha⟩
        have HW2 : Hid (PlW w w2 (plR (l.take (k + 1)))) := by show PlW _ _ _; rw [HN.out]; exact HW.out.added ha
        clear ha
        go_wp2_with fail
        go_roundw
        case rel => exact ⟨k + 1, by go_num, by omega, HW2⟩
        case measure => simp [intOf]; omega
      · have hk0 : (o.k == 0) = false := by simpa using h0
        by_cases h1 : o.k = 1
        · have HN : Hid (plR (l.take (k + 1)) = Pt.usR (plR (l.take k)) o.p.id o.n) := by show _ = _; rw [hN, stepR, if_neg h0, if_pos h1]
          clear hN
          have hk1 : (o.k == 1) = true := by simpa using h1
          go_wp2_with fail
          have d1 := fun u => ((wx_below wr u).cell (p := ⟨b, off + k * 7 + 1, none⟩) hb).trans c1
          have d6 := fun u => ((wx_below wr u).cell (p := ⟨b, off + k * 7 + 6, none⟩) hb).trans c6
          refine wp_region_grows_tail 12 (by kernel_rfl) (by kernel_rfl) ?_
          simp only [List.take_succ_cons, List.take_zero, List.drop_succ_cons, List.drop_zero]
          repeat (go_big_quiet_step (fail))
          refine wpQuiet_nil ?_
          rintro _ ⟨u, rfl⟩
          have HW3 := Lib.hid (HW.out.below (wx_below wr u))
          have HR3 := Lib.hid (HR.out.below (wx_below wr u))
          clear d1 d6 c0 c1 c2 c3 c4 c5 c6
          generalize wx wr u = w3 at *
          go_wp2_with fail
          (with_reducible refine (use_any o.p.id o.n _ HR3 HO).mono ?_)
          rintro e w2 ⟨rfl, hr', hg⟩
          have HW2 : Hid (PlW w w2 (plR (l.take (k + 1)))) := by show PlW _ _ _; rw [HN.out]; exact HW3.out.used HR3.out hr' hg
          clear hr' hg
          go_wp2_with fail
          go_roundw
          case rel => exact ⟨k + 1, by go_num, by omega, HW2⟩
          case measure => simp [intOf]; omega
        · have HN : Hid (plR (l.take (k + 1)) = plR (l.take k)) := by show _ = _; rw [hN, stepR, if_neg h0, if_neg h1]
          clear hN
          have hk1 : (o.k == 1) = false := by simpa using h1
          have HW2 : Hid (PlW w wr (plR (l.take (k + 1)))) := by show PlW _ _ _; rw [HN.out]; exact HW.out
          go_wp2_with fail
          go_roundw
          case rel => exact ⟨k + 1, by go_num, by omega, HW2⟩
          case measure => simp [intOf]; omega
    · have hE : l.take k = l := List.take_of_length_le (by omega)
      rw [hE] at HW
      clear hE
      go_wp2_with fail
      go_ret
      exact ⟨rfl, HW.out⟩
end Go.Proofs.Ytgkkhbhobbhlpaa
