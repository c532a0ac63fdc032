/- event: Line; the reference's. -/
import Derived.Test.YtcefmnkfkpoccaaDoorGR
import Derived.Lib.Join
namespace Go.Proofs.YtcefmnkfkpoccaaDoor
open Go.RowKit
set_option linter.unusedVariables false
open Wi Evn
abbrev jt (l : List ByteArray) : List UInt8 := Lib.joinTail [32] (l.map bl)
theorem jt_nil : jt [] = [] := rfl
theorem jt_app (a b : List ByteArray) : jt (a ++ b) = jt a ++ jt b := by simp [jt, Lib.joinTail]
theorem jt_one (x : ByteArray) : jt [x] = 32 :: bl x := by simp [jt, Lib.joinTail]
def opt (s : ByteArray) : List ByteArray := if s = ByteArray.empty then [] else [s]
theorem opt_no {s : ByteArray} (h : s = ByteArray.empty) : opt s = [] := if_pos h
theorem opt_yes {s : ByteArray} (h : ¬ s = ByteArray.empty) : opt s = [s] := if_neg h
/-- The words of a line behind the first one. -/
def wds (e : Ev) (k : Nat) : List ByteArray := [nmS e.ki] ++ opt e.it ++ opt e.of_ ++ (e.nn.take k).map itS
/-- The line of an event. -/
def lnT (e : Ev) : List UInt8 := Ck.fmT e.ti ++ jt (wds e e.nn.length) ++ [10]
def linS (e : Ev) : ByteArray := if chk e = 0 then lb (lnT e) else ⟨#[]⟩
theorem linS_ok {e : Ev} (h : chk e = 0) : linS e = lb (lnT e) := if_pos h
theorem linS_no {e : Ev} (h : ¬ chk e = 0) : linS e = ⟨#[]⟩ := if_neg h
theorem wds_succ (e : Ev) {k : Nat} (h : k < e.nn.length) : wds e (k + 1) = wds e k ++ [itS e.nn[k]] := by
  unfold wds
  rw [List.take_succ_eq_append_getElem h, List.map_append]
  simp only [List.map_cons, List.map_nil, List.append_assoc]
theorem sp_app (X D : ByteArray) (l : List UInt8) (h : X = lb l) : X ++ ⟨#[32]⟩ ++ D = lb (l ++ (32 :: bl D)) := by
  subst h
  apply ByteArray.ext
  apply Array.ext'
  simp [lb, bl]
theorem nmS_none {k : Int} (h : ¬ (1 ≤ k ∧ k ≤ 14)) : nmS k = ⟨#[]⟩ := by
  have := fm_no h
  unfold fmV at this
  simp only [Value.agg.injEq, Array.mk.injEq, List.cons.injEq, Value.string.injEq] at this
  exact this.1
theorem nmS_size (k : Int) : (nmS k).size ≤ 6 := by
  by_cases hk : 1 ≤ k ∧ k ≤ 14
  · have h : k = 1 ∨ k = 2 ∨ k = 3 ∨ k = 4 ∨ k = 5 ∨ k = 6 ∨ k = 7 ∨ k = 8 ∨ k = 9 ∨ k = 10 ∨ k = 11 ∨ k = 12 ∨ k = 13 ∨ k = 14 := by omega
    rcases h with h | h | h | h | h | h | h | h | h | h | h | h | h | h <;> (subst h; decide)
  · rw [nmS_none hk]; decide
theorem jt_len (l : List ByteArray) (c : Nat) (h : ∀ x ∈ l, x.size ≤ c) : (jt l).length ≤ (c + 1) * l.length := by
  induction l with
  | nil => simp [jt, Lib.joinTail]
  | cons a r ih =>
    have h1 := ih (fun x hx => h x (by simp [hx]))
    have h2 := h a (by simp)
    rw [show a :: r = [a] ++ r from rfl, jt_app, jt_one, List.length_append, List.length_append]
    have h3 : (bl a).length = a.size := rfl
    simp only [List.length_cons, List.length_nil]
    rw [Nat.mul_add]
    omega
theorem wds_len {e : Ev} (HO : EvOk e) (k : Nat) : (jt (wds e k)).length ≤ 10000000 := by
  have h1 : (jt [nmS e.ki]).length ≤ 7 := by rw [jt_one]; have := nmS_size e.ki; have : (bl (nmS e.ki)).length = (nmS e.ki).size := rfl; simp; omega
  have h2 : ∀ s : ByteArray, (s.size : Int) ≤ 100000 → (jt (opt s)).length ≤ 100001 := fun s hs => by
    by_cases g : s = ByteArray.empty
    · rw [opt_no g]; simp [jt, Lib.joinTail]
    · rw [opt_yes g, jt_one]
      have : (bl s).length = s.size := rfl
      simp
      omega
  have h3 : (jt ((e.nn.take k).map itS)).length ≤ 22 * (e.nn.take k).length := by
    have := jt_len ((e.nn.take k).map itS) 21 (fun x hx => by
      obtain ⟨n, hn, rfl⟩ := List.mem_map.1 hx
      exact itS_size (HO.nn n (List.mem_of_mem_take hn)))
    simpa using this
  have h4 : (e.nn.take k).length ≤ e.nn.length := by rw [List.length_take]; omega
  have h5 := HO.nl
  have h6 := h2 e.it HO.it
  have h7 := h2 e.of_ HO.of_
  unfold wds
  rw [jt_app, jt_app, jt_app, List.length_append, List.length_append, List.length_append]
  omega
theorem fm_len {t : Int} : (Ck.fmT t).length ≤ 100 := by
  unfold Ck.fmT
  split
  · rename_i h
    unfold Ck.fmN Ck.two
    have := Lib.nDigits_le20 (t.toNat / 1440) (by omega)
    simp only [List.length_cons, List.length_append, List.length_nil, Lib.decDigits_length]
    omega
  · simp
set_option maxRecDepth 100000 in
set_option maxHeartbeats 8000000 in
theorem rline_any (e : Ev) (A : Option Addr) (c : Nat) (HO : Hid (EvOk e)) (w : World) (HS : Hid (SlR w A (i64c e.nn))) :
    Calls Tryd.prog 21 #[agE e A c] w fun r w' => r = .returned (.string (linS e)) ∧ Below w.heap.size w w' := by
  obtain ⟨i1, i2, i3, i4, i5, i6, -⟩ := HO.out
  have HBX0 : Hid (EBox (w.alloc (.cells #[.int .i64 e.ki, .int .i64 e.ti, .string e.it, .string e.of_, .slice A e.nn.length c, .string e.tx] 24)) w.heap.size e A c) := Blk.new _ _ _
  have HAL := Lib.hid ((Below.refl w.heap.size w).alloc (Nat.le_refl _) (.cells #[.int .i64 e.ki, .int .i64 e.ti, .string e.it, .string e.of_, .slice A e.nn.length c, .string e.tx] 24))
  obtain ⟨x, hx⟩ : ∃ x, chk e = x := ⟨_, rfl⟩
  have HX := Lib.hid hx
  clear hx
  by_cases h0 : x = 0
  · subst h0
    have HE := Lib.hid (linS_ok HX.out)
    obtain ⟨F, hF⟩ : ∃ F, lb (Ck.fmT e.ti) = F := ⟨_, rfl⟩
    have HF := Lib.hid hF
    have hfs : F.size ≤ 100 := by rw [← hF]; exact fm_len
    obtain ⟨N, hN⟩ : ∃ N, nmS e.ki = N := ⟨_, rfl⟩
    have HN := Lib.hid hN
    have hns : N.size ≤ 6 := by rw [← hN]; exact nmS_size _
    have HNM := Lib.hid (rname_any e.ki)
    rw [hN] at HNM
    have s1 : (⟨#[32]⟩ : ByteArray).size = 1 := rfl
    have k1 : ¬ 9223372036854775807 < F.size + (⟨#[32]⟩ : ByteArray).size := by omega
    have k2 : ¬ 9223372036854775807 < F.size + 1 + N.size := by omega
    have k3 : ¬ 9223372036854775807 < (F ++ ⟨#[32]⟩).size + N.size := by rw [ByteArray.size_append]; omega
    have HS0 : Hid (F ++ ⟨#[32]⟩ ++ N = lb (Ck.fmT e.ti ++ jt [nmS e.ki])) := by show _ = _; rw [sp_app F N _ hF.symm, jt_one, hN]
    have hs0 : (F ++ ⟨#[32]⟩ ++ N).size ≤ 107 := by rw [ByteArray.size_append, ByteArray.size_append]; omega
    clear hF hN
    go_enter Tryd.func21, Tryd.ntmps21
    go_wp2_with fail
    generalize w.alloc (.cells #[.int .i64 e.ki, .int .i64 e.ti, .string e.it, .string e.of_, .slice A e.nn.length c, .string e.tx] 24) = w0 at *
    (with_reducible refine (rcheck_any e A c HO 0 HX _ (Lib.hid (HS.out.below HAL.out))).mono ?_)
    rintro r w1 ⟨rfl, hb⟩
    have HB1 := Lib.hid (below_old HAL.out hb)
    have HBX1 : Hid (EBox w1 w.heap.size e A c) := Blk.below HBX0.out hb
    clear hb HBX0 HAL
    go_wp2_with fail
    have y0 := fun u => EBox.cells (Blk.below HBX1.out (wx_below w1 u) : EBox (wx w1 u) w.heap.size e A c)
    refine wp_region_grows (by kernel_rfl) (by kernel_rfl) ?_
    repeat (go_big_quiet_step ((first | (go_at_call 48; (with_reducible exact calls_grows (rformat_eq e.ti F HF _))) | (go_at_call 14; (with_reducible exact calls_grows (HNM.out _))))))
    refine wpQuiet_nil ?_
    rintro _ ⟨u, rfl⟩
    have HB2 := Lib.hid (below_old HB1.out (wx_below w1 u))
    have HBX2 : Hid (EBox (wx w1 u) w.heap.size e A c) := Blk.below HBX1.out (wx_below w1 u)
    clear y0 HB1 HBX1 k1 k2 k3
    generalize wx w1 u = w2 at *
    obtain ⟨X0, hX0⟩ : ∃ X0, F ++ ⟨#[32]⟩ ++ N = X0 := ⟨_, rfl⟩
    rw [hX0] at HS0 hs0
    simp only [hX0]
    clear hX0
    obtain ⟨x0, x1, x2, x3, x4, x5⟩ := HBX2.out.cells
    by_cases hi : e.it = ByteArray.empty
    · have qi : (e.it.toList == []) = true := by rw [sempty]; exact decide_eq_true hi
      have HOI := Lib.hid (opt_no hi)
      clear hi
      by_cases ho : e.of_ = ByteArray.empty
      · have qo : (e.of_.toList == []) = true := by rw [sempty]; exact decide_eq_true ho
        have HOO := Lib.hid (opt_no ho)
        clear ho
        go_wp2_with fail
        have HBL := Lib.hid HB2.out
        have HBXL : Hid (EBox w2 w.heap.size e A c) := HBX2.out
        clear x0 x1 x2 x3 x4 x5
        -- the loop over the numbers: X: the text so far
        go_loopw [3, 4] (fun v i wr => ∃ (k : Nat) (Y : ByteArray), v = .string Y ∧ i = .int .i64 k ∧ k ≤ e.nn.length ∧ Hid (Y = lb (Ck.fmT e.ti ++ jt (wds e k))) ∧ Hid (Below w.heap.size w wr) ∧ Hid (EBox wr w.heap.size e A c)) (fun _ i _ => e.nn.length - (intOf i).toNat)
        case atStart => exact ⟨0, _, rfl, rfl, by omega, (by show _ = _; rw [HS0.out]; simp [wds, HOI.out, HOO.out]), HBL, HBXL⟩
        case round =>
          obtain ⟨k, Y, rfl, rfl, hk, HY, HB, HBX⟩ := hrel
          have hys : Y.size ≤ 10000100 := by
            rw [HY.out]
            show (Ck.fmT e.ti ++ jt (wds e k)).length ≤ _
            rw [List.length_append]
            have h1 := fm_len (t := e.ti)
            have h2 := wds_len HO.out k
            omega
          obtain ⟨-, -, -, -, x4, -⟩ := HBX.out.cells
          by_cases hkl : k < e.nn.length
          · obtain ⟨m, hm⟩ : ∃ m, e.nn[k] = m := ⟨_, rfl⟩
            obtain ⟨bb, off, hA, hbl, c0⟩ := int_cells (HS.out.below HB.out) hkl hm
            subst hA
            have zk : (k : Int) < (e.nn.length : Int) := by omega
            have hmr : I64 m := by rw [← hm]; exact HO.out.nn _ (List.getElem_mem hkl)
            obtain ⟨D, hD⟩ : ∃ D, itS m = D := ⟨_, rfl⟩
            have HD := Lib.hid hD
            have hds : D.size ≤ 21 := by rw [← hD]; exact itS_size hmr
            have HY2 : Hid (Y ++ ⟨#[32]⟩ ++ D = lb (Ck.fmT e.ti ++ jt (wds e (k + 1)))) := by
              show _ = _
              rw [sp_app Y D _ HY.out, wds_succ e hkl, jt_app, jt_one, hm, hD, List.append_assoc]
            have s1 : (⟨#[32]⟩ : ByteArray).size = 1 := rfl
            have k1 : ¬ 9223372036854775807 < Y.size + (⟨#[32]⟩ : ByteArray).size := by omega
            have k2 : ¬ 9223372036854775807 < Y.size + 1 + D.size := by omega
            have k3 : ¬ 9223372036854775807 < (Y ++ ⟨#[32]⟩).size + D.size := by rw [ByteArray.size_append]; omega
            clear hm hD s1
            go_wp2_with fail
            (with_reducible refine (rdigits_any m hmr D HD _).mono ?_)
            rintro r v1 ⟨rfl, hb⟩
            have HB2 := Lib.hid (below_old HB.out hb)
            have HBX2 : Hid (EBox v1 w.heap.size e (some ⟨bb, off, none⟩) c) := Blk.below HBX.out hb
            clear hb
            go_wp2_with fail
            go_roundw
            case rel => exact ⟨k + 1, _, rfl, by go_num, by omega, HY2, HB2, HBX2⟩
            case measure => simp [intOf]; omega
          · have hkk : k = e.nn.length := by omega
            have HL : Hid (Y ++ ⟨#[10]⟩ = lb (lnT e)) := by
              show _ = _
              rw [HY.out, hkk]
              unfold lnT
              apply ByteArray.ext
              apply Array.ext'
              simp [lb]
            have zk : (e.nn.length : Int) ≤ (k : Int) := by omega
            have k1 : ¬ 9223372036854775807 < Y.size + (⟨#[10]⟩ : ByteArray).size := by have : (⟨#[10]⟩ : ByteArray).size = 1 := rfl; omega
            clear hkk
            go_wp2_with fail
            go_ret
            exact ⟨ret_st (HL.out.trans HE.out.symm), HB.out⟩
      · have qo : (e.of_.toList == []) = false := by rw [sempty]; exact decide_eq_false ho
        have HOO := Lib.hid (opt_yes ho)
        clear ho
        have k1 : ¬ 9223372036854775807 < X0.size + (⟨#[32]⟩ : ByteArray).size := by omega
        have k2 : ¬ 9223372036854775807 < X0.size + 1 + e.of_.size := by omega
        have k3 : ¬ 9223372036854775807 < (X0 ++ ⟨#[32]⟩).size + e.of_.size := by rw [ByteArray.size_append]; omega
        go_wp2_with fail
        have HBL := Lib.hid HB2.out
        have HBXL : Hid (EBox w2 w.heap.size e A c) := HBX2.out
        clear x0 x1 x2 x3 x4 x5 k1 k2 k3
        -- the loop over the numbers: X: the text so far
        go_loopw [3, 4] (fun v i wr => ∃ (k : Nat) (Y : ByteArray), v = .string Y ∧ i = .int .i64 k ∧ k ≤ e.nn.length ∧ Hid (Y = lb (Ck.fmT e.ti ++ jt (wds e k))) ∧ Hid (Below w.heap.size w wr) ∧ Hid (EBox wr w.heap.size e A c)) (fun _ i _ => e.nn.length - (intOf i).toNat)
        case atStart => exact ⟨0, _, rfl, rfl, by omega, (by show _ = _; rw [sp_app X0 e.of_ _ HS0.out, List.append_assoc, ← jt_one, ← jt_app]; simp [wds, HOI.out, HOO.out]), HBL, HBXL⟩
        case round =>
          obtain ⟨k, Y, rfl, rfl, hk, HY, HB, HBX⟩ := hrel
          have hys : Y.size ≤ 10000100 := by
            rw [HY.out]
            show (Ck.fmT e.ti ++ jt (wds e k)).length ≤ _
            rw [List.length_append]
            have h1 := fm_len (t := e.ti)
            have h2 := wds_len HO.out k
            omega
          obtain ⟨-, -, -, -, x4, -⟩ := HBX.out.cells
          by_cases hkl : k < e.nn.length
          · obtain ⟨m, hm⟩ : ∃ m, e.nn[k] = m := ⟨_, rfl⟩
            obtain ⟨bb, off, hA, hbl, c0⟩ := int_cells (HS.out.below HB.out) hkl hm
            subst hA
            have zk : (k : Int) < (e.nn.length : Int) := by omega
            have hmr : I64 m := by rw [← hm]; exact HO.out.nn _ (List.getElem_mem hkl)
            obtain ⟨D, hD⟩ : ∃ D, itS m = D := ⟨_, rfl⟩
            have HD := Lib.hid hD
            have hds : D.size ≤ 21 := by rw [← hD]; exact itS_size hmr
            have HY2 : Hid (Y ++ ⟨#[32]⟩ ++ D = lb (Ck.fmT e.ti ++ jt (wds e (k + 1)))) := by
              show _ = _
              rw [sp_app Y D _ HY.out, wds_succ e hkl, jt_app, jt_one, hm, hD, List.append_assoc]
            have s1 : (⟨#[32]⟩ : ByteArray).size = 1 := rfl
            have k1 : ¬ 9223372036854775807 < Y.size + (⟨#[32]⟩ : ByteArray).size := by omega
            have k2 : ¬ 9223372036854775807 < Y.size + 1 + D.size := by omega
            have k3 : ¬ 9223372036854775807 < (Y ++ ⟨#[32]⟩).size + D.size := by rw [ByteArray.size_append]; omega
            clear hm hD s1
            go_wp2_with fail
            (with_reducible refine (rdigits_any m hmr D HD _).mono ?_)
            rintro r v1 ⟨rfl, hb⟩
            have HB2 := Lib.hid (below_old HB.out hb)
            have HBX2 : Hid (EBox v1 w.heap.size e (some ⟨bb, off, none⟩) c) := Blk.below HBX.out hb
            clear hb
            go_wp2_with fail
            go_roundw
            case rel => exact ⟨k + 1, _, rfl, by go_num, by omega, HY2, HB2, HBX2⟩
            case measure => simp [intOf]; omega
          · have hkk : k = e.nn.length := by omega
            have HL : Hid (Y ++ ⟨#[10]⟩ = lb (lnT e)) := by
              show _ = _
              rw [HY.out, hkk]
              unfold lnT
              apply ByteArray.ext
              apply Array.ext'
              simp [lb]
            have zk : (e.nn.length : Int) ≤ (k : Int) := by omega
            have k1 : ¬ 9223372036854775807 < Y.size + (⟨#[10]⟩ : ByteArray).size := by have : (⟨#[10]⟩ : ByteArray).size = 1 := rfl; omega
            clear hkk
            go_wp2_with fail
            go_ret
            exact ⟨ret_st (HL.out.trans HE.out.symm), HB.out⟩
    · have qi : (e.it.toList == []) = false := by rw [sempty]; exact decide_eq_false hi
      have HOI := Lib.hid (opt_yes hi)
      clear hi
      by_cases ho : e.of_ = ByteArray.empty
      · have qo : (e.of_.toList == []) = true := by rw [sempty]; exact decide_eq_true ho
        have HOO := Lib.hid (opt_no ho)
        clear ho
        have k1 : ¬ 9223372036854775807 < X0.size + (⟨#[32]⟩ : ByteArray).size := by omega
        have k2 : ¬ 9223372036854775807 < X0.size + 1 + e.it.size := by omega
        have k3 : ¬ 9223372036854775807 < (X0 ++ ⟨#[32]⟩).size + e.it.size := by rw [ByteArray.size_append]; omega
        go_wp2_with fail
        have HBL := Lib.hid HB2.out
        have HBXL : Hid (EBox w2 w.heap.size e A c) := HBX2.out
        clear x0 x1 x2 x3 x4 x5 k1 k2 k3
        -- the loop over the numbers: X: the text so far
        go_loopw [3, 4] (fun v i wr => ∃ (k : Nat) (Y : ByteArray), v = .string Y ∧ i = .int .i64 k ∧ k ≤ e.nn.length ∧ Hid (Y = lb (Ck.fmT e.ti ++ jt (wds e k))) ∧ Hid (Below w.heap.size w wr) ∧ Hid (EBox wr w.heap.size e A c)) (fun _ i _ => e.nn.length - (intOf i).toNat)
        case atStart => exact ⟨0, _, rfl, rfl, by omega, (by show _ = _; rw [sp_app X0 e.it _ HS0.out, List.append_assoc, ← jt_one, ← jt_app]; simp [wds, HOI.out, HOO.out]), HBL, HBXL⟩
        case round =>
          obtain ⟨k, Y, rfl, rfl, hk, HY, HB, HBX⟩ := hrel
          have hys : Y.size ≤ 10000100 := by
            rw [HY.out]
            show (Ck.fmT e.ti ++ jt (wds e k)).length ≤ _
            rw [List.length_append]
            have h1 := fm_len (t := e.ti)
            have h2 := wds_len HO.out k
            omega
          obtain ⟨-, -, -, -, x4, -⟩ := HBX.out.cells
          by_cases hkl : k < e.nn.length
          · obtain ⟨m, hm⟩ : ∃ m, e.nn[k] = m := ⟨_, rfl⟩
            obtain ⟨bb, off, hA, hbl, c0⟩ := int_cells (HS.out.below HB.out) hkl hm
            subst hA
            have zk : (k : Int) < (e.nn.length : Int) := by omega
            have hmr : I64 m := by rw [← hm]; exact HO.out.nn _ (List.getElem_mem hkl)
            obtain ⟨D, hD⟩ : ∃ D, itS m = D := ⟨_, rfl⟩
            have HD := Lib.hid hD
            have hds : D.size ≤ 21 := by rw [← hD]; exact itS_size hmr
            have HY2 : Hid (Y ++ ⟨#[32]⟩ ++ D = lb (Ck.fmT e.ti ++ jt (wds e (k + 1)))) := by
              show _ = _
              rw [sp_app Y D _ HY.out, wds_succ e hkl, jt_app, jt_one, hm, hD, List.append_assoc]
            have s1 : (⟨#[32]⟩ : ByteArray).size = 1 := rfl
            have k1 : ¬ 9223372036854775807 < Y.size + (⟨#[32]⟩ : ByteArray).size := by omega
            have k2 : ¬ 9223372036854775807 < Y.size + 1 + D.size := by omega
            have k3 : ¬ 9223372036854775807 < (Y ++ ⟨#[32]⟩).size + D.size := by rw [ByteArray.size_append]; omega
            clear hm hD s1
            go_wp2_with fail
            (with_reducible refine (rdigits_any m hmr D HD _).mono ?_)
            rintro r v1 ⟨rfl, hb⟩
            have HB2 := Lib.hid (below_old HB.out hb)
            have HBX2 : Hid (EBox v1 w.heap.size e (some ⟨bb, off, none⟩) c) := Blk.below HBX.out hb
            clear hb
            go_wp2_with fail
            go_roundw
            case rel => exact ⟨k + 1, _, rfl, by go_num, by omega, HY2, HB2, HBX2⟩
            case measure => simp [intOf]; omega
          · have hkk : k = e.nn.length := by omega
            have HL : Hid (Y ++ ⟨#[10]⟩ = lb (lnT e)) := by
              show _ = _
              rw [HY.out, hkk]
              unfold lnT
              apply ByteArray.ext
              apply Array.ext'
              simp [lb]
            have zk : (e.nn.length : Int) ≤ (k : Int) := by omega
            have k1 : ¬ 9223372036854775807 < Y.size + (⟨#[10]⟩ : ByteArray).size := by have : (⟨#[10]⟩ : ByteArray).size = 1 := rfl; omega
            clear hkk
            go_wp2_with fail
            go_ret
            exact ⟨ret_st (HL.out.trans HE.out.symm), HB.out⟩
      · have qo : (e.of_.toList == []) = false := by rw [sempty]; exact decide_eq_false ho
        have HOO := Lib.hid (opt_yes ho)
        clear ho
        have k4 : ¬ 9223372036854775807 < (X0 ++ ⟨#[32]⟩ ++ e.it).size + (⟨#[32]⟩ : ByteArray).size := by rw [ByteArray.size_append, ByteArray.size_append]; omega
        have k5 : ¬ 9223372036854775807 < (X0 ++ ⟨#[32]⟩ ++ e.it ++ ⟨#[32]⟩).size + e.of_.size := by rw [ByteArray.size_append, ByteArray.size_append, ByteArray.size_append]; omega
        have k6 : ¬ 9223372036854775807 < X0.size + 1 + e.it.size + 1 := by omega
        have k7 : ¬ 9223372036854775807 < X0.size + 1 + e.it.size + 1 + e.of_.size := by omega
        have k1 : ¬ 9223372036854775807 < X0.size + (⟨#[32]⟩ : ByteArray).size := by omega
        have k2 : ¬ 9223372036854775807 < X0.size + 1 + e.it.size := by omega
        have k3 : ¬ 9223372036854775807 < (X0 ++ ⟨#[32]⟩).size + e.it.size := by rw [ByteArray.size_append]; omega
        go_wp2_with fail
        have HBL := Lib.hid HB2.out
        have HBXL : Hid (EBox w2 w.heap.size e A c) := HBX2.out
        clear x0 x1 x2 x3 x4 x5 k1 k2 k3
        clear k4 k5 k6 k7
        -- the loop over the numbers: X: the text so far
        go_loopw [3, 4] (fun v i wr => ∃ (k : Nat) (Y : ByteArray), v = .string Y ∧ i = .int .i64 k ∧ k ≤ e.nn.length ∧ Hid (Y = lb (Ck.fmT e.ti ++ jt (wds e k))) ∧ Hid (Below w.heap.size w wr) ∧ Hid (EBox wr w.heap.size e A c)) (fun _ i _ => e.nn.length - (intOf i).toNat)
        case atStart => exact ⟨0, _, rfl, rfl, by omega, (by show _ = _; rw [sp_app _ e.of_ _ (sp_app X0 e.it _ HS0.out), List.append_assoc, List.append_assoc, ← jt_one, ← jt_one, ← jt_app, ← jt_app]; simp [wds, HOI.out, HOO.out]), HBL, HBXL⟩
        case round =>
          obtain ⟨k, Y, rfl, rfl, hk, HY, HB, HBX⟩ := hrel
          have hys : Y.size ≤ 10000100 := by
            rw [HY.out]
            show (Ck.fmT e.ti ++ jt (wds e k)).length ≤ _
            rw [List.length_append]
            have h1 := fm_len (t := e.ti)
            have h2 := wds_len HO.out k
            omega
          obtain ⟨-, -, -, -, x4, -⟩ := HBX.out.cells
          by_cases hkl : k < e.nn.length
          · obtain ⟨m, hm⟩ : ∃ m, e.nn[k] = m := ⟨_, rfl⟩
            obtain ⟨bb, off, hA, hbl, c0⟩ := int_cells (HS.out.below HB.out) hkl hm
            subst hA
            have zk : (k : Int) < (e.nn.length : Int) := by omega
            have hmr : I64 m := by rw [← hm]; exact HO.out.nn _ (List.getElem_mem hkl)
            obtain ⟨D, hD⟩ : ∃ D, itS m = D := ⟨_, rfl⟩
            have HD := Lib.hid hD
            have hds : D.size ≤ 21 := by rw [← hD]; exact itS_size hmr
            have HY2 : Hid (Y ++ ⟨#[32]⟩ ++ D = lb (Ck.fmT e.ti ++ jt (wds e (k + 1)))) := by
              show _ = _
              rw [sp_app Y D _ HY.out, wds_succ e hkl, jt_app, jt_one, hm, hD, List.append_assoc]
            have s1 : (⟨#[32]⟩ : ByteArray).size = 1 := rfl
            have k1 : ¬ 9223372036854775807 < Y.size + (⟨#[32]⟩ : ByteArray).size := by omega
            have k2 : ¬ 9223372036854775807 < Y.size + 1 + D.size := by omega
            have k3 : ¬ 9223372036854775807 < (Y ++ ⟨#[32]⟩).size + D.size := by rw [ByteArray.size_append]; omega
            clear hm hD s1
            go_wp2_with fail
            (with_reducible refine (rdigits_any m hmr D HD _).mono ?_)
            rintro r v1 ⟨rfl, hb⟩
            have HB2 := Lib.hid (below_old HB.out hb)
            have HBX2 : Hid (EBox v1 w.heap.size e (some ⟨bb, off, none⟩) c) := Blk.below HBX.out hb
            clear hb
            go_wp2_with fail
            go_roundw
            case rel => exact ⟨k + 1, _, rfl, by go_num, by omega, HY2, HB2, HBX2⟩
            case measure => simp [intOf]; omega
          · have hkk : k = e.nn.length := by omega
            have HL : Hid (Y ++ ⟨#[10]⟩ = lb (lnT e)) := by
              show _ = _
              rw [HY.out, hkk]
              unfold lnT
              apply ByteArray.ext
              apply Array.ext'
              simp [lb]
            have zk : (e.nn.length : Int) ≤ (k : Int) := by omega
            have k1 : ¬ 9223372036854775807 < Y.size + (⟨#[10]⟩ : ByteArray).size := by have : (⟨#[10]⟩ : ByteArray).size = 1 := rfl; omega
            clear hkk
            go_wp2_with fail
            go_ret
            exact ⟨ret_st (HL.out.trans HE.out.symm), HB.out⟩
  · have HE := Lib.hid (linS_no (by rw [HX.out]; exact h0))
    have q : (x == 0) = false := by simpa using h0
    have q2 : (x != 0) = true := by simpa using h0
    clear h0
    go_enter Tryd.func21, Tryd.ntmps21
    go_wp2_with fail
    (with_reducible refine (rcheck_any e A c HO x HX _ (Lib.hid (HS.out.below HAL.out))).mono ?_)
    rintro r w1 ⟨rfl, hb⟩
    have HB1 := Lib.hid (below_old HAL.out hb)
    clear hb
    go_wp2_with fail
    go_ret
    exact ⟨ret_st HE.out.symm, HB1.out⟩
end Go.Proofs.YtcefmnkfkpoccaaDoor
