/- event: Line. -/
import Derived.Test.YtcefmnkfkpoccaaDoorGS
import Derived.Test.YtcefmnkfkpoccaaDoorQ
import Derived.Deep.Cut
namespace Go.Proofs.YtcefmnkfkpoccaaDoor
open Go.RowKit
set_option linter.unusedVariables false
open Wi Evn
def strc (l : List ByteArray) : List Value := l.map fun s => .string s
theorem strc_len (l : List ByteArray) : (strc l).length = l.length := by simp [strc]
theorem strc_snoc (l : List ByteArray) (x : ByteArray) : strc (l ++ [x]) = strc l ++ [.string x] := by simp [strc]
theorem infoS : (Tryd.prog.info? 9).map (fun i => (i.zero, i.size, i.bytes)) = some (some (.string ⟨#[]⟩), 1, 16) := by kernel_rfl
theorem own_two (w : World) (B g : Nat) (hB : B ≤ g) (hg : g = w.heap.size) (F N : ByteArray) : (w.alloc (.cells #[.string F, .string N] 9)).ownsRow B 9 1 (.slice (some ⟨g, 0, none⟩) 2 2) 2 (strc [F, N]) := by
  subst hg
  exact ⟨rfl, .inr ⟨w.heap.size, 2, #[.string F, .string N], rfl, hB, heap_alloc_new w _, by omega, by unfold maxLen; omega, rfl, rfl⟩⟩
theorem join_is (F : ByteArray) (l : List ByteArray) : Lib.join ((F :: l).map (·.data.toList)) (⟨#[32]⟩ : ByteArray).data.toList = bl F ++ jt l := by
  rw [List.map_cons, Lib.join_cons]
theorem joinw_any (F : ByteArray) (l : List ByteArray) (A : Option Addr) (c : Nat) (w : World) (B : Nat) (h : Hid (w.ownsRow B 9 1 (.slice A (F :: l).length c) (F :: l).length (strc (F :: l)))) (hl : (F :: l).length ≤ 100000000) (hj : (bl F ++ jt l).length ≤ 100000000) (T : ByteArray) (hT : Hid (lb (bl F ++ jt l) = T)) :
    Calls Tryd.prog 47 #[.slice A (F :: l).length c, .string ⟨#[32]⟩] w fun r w' => r = .returned (.string T) ∧ Below w.heap.size w w' := by
  rcases h.out.2 with ⟨_, h0⟩ | ⟨g, cap, cur, hv, hb, hg, hc1, hc2, hc3, hc4⟩
  · simp at h0
  · simp only [Value.slice.injEq, true_and] at hv
    obtain ⟨rfl, rfl⟩ := hv
    have := Tryd.strings_Join g 0 c (F :: l) ⟨#[32]⟩ w (fun j x hx => by
      rw [Nat.zero_add, h.out.cellAt j (by have := (List.getElem?_eq_some_iff.1 hx).1; omega)]
      simp only [strc, List.getElem?_map, hx, Option.map_some]) (Array.getElem?_eq_some_iff.1 hg).1 (by omega) hc1 (by rw [join_is]; omega)
    rw [join_is, show (⟨(bl F ++ jt l).toArray⟩ : ByteArray) = T from hT.out] at this
    exact this
/-- The line's world: the event's box and the row of words. -/
structure LnW (w w' : World) (e : Ev) (A : Option Addr) (c : Nat) (v : Value) (l : List ByteArray) : Prop where
  bel : Below w.heap.size w w'
  box : EBox w' w.heap.size e A c
  row : w'.ownsRow (w.heap.size + 1) 9 1 v l.length (strc l)
theorem LnW.below {w w' w'' : World} {e : Ev} {A : Option Addr} {c : Nat} {v : Value} {l : List ByteArray} (h : LnW w w' e A c v l) (hb : Below w'.heap.size w' w'') : LnW w w'' e A c v l :=
  ⟨below_old h.bel hb, Blk.below h.box hb, h.row.kept (below_grown hb none) (by cases v.ownBlock <;> simp)⟩
theorem LnW.app {w w' w'' : World} {e : Ev} {A : Option Addr} {c : Nat} {v v' : Value} {l : List ByteArray} {x : ByteArray} (h : LnW w w' e A c v l) (hr : w''.ownsRow (w.heap.size + 1) 9 1 v' (l.length + 1) (strc l ++ [.string x])) (hg : (w'.alloc (.cells #[.string x] 9)).grownBy w'' v.ownBlock) : LnW w w'' e A c v' (l ++ [x]) := by
  have h1 := h.below ((Below.refl _ _).alloc (Nat.le_refl _) (.cells #[.string x] 9))
  have hne : ∀ j, v.ownBlock = some j → w.heap.size + 1 ≤ j := fun j hj => (h1.row.lt j hj).1
  refine ⟨h1.bel.grown hg h1.bel.size (fun j hj => by have := hne j hj; omega), Blk.grown h1.box hg (fun e1 => by have := hne _ e1.symm; omega), ?_⟩
  rw [strc_snoc, List.length_append]
  exact hr
theorem wds_count (e : Ev) (k : Nat) : (wds e k).length ≤ 3 + e.nn.length := by
  have h : ∀ s, (opt s).length ≤ 1 := fun s => by
    unfold opt
    split <;> simp
  have h1 := h e.it
  have h2 := h e.of_
  unfold wds
  simp only [List.length_append, List.length_cons, List.length_nil, List.length_map, List.length_take]
  omega
set_option maxRecDepth 100000 in
set_option maxHeartbeats 8000000 in
theorem line_any (e : Ev) (A : Option Addr) (c : Nat) (HO : Hid (EvOk e)) (w : World) (HS : Hid (SlR w A (i64c e.nn))) (HT : Hid (TabOk w)) :
    Calls Tryd.prog 20 #[agE e A c] w fun r w' => r = .returned (.string (linS e)) ∧ Below w.heap.size w w' := by
  obtain ⟨i1, i2, i3, i4, i5, i6, -⟩ := HO.out
  have HBX0 : Hid (EBox (w.alloc (.cells #[.int .i64 e.ki, .int .i64 e.ti, .string e.it, .string e.of_, .slice A e.nn.length c, .string e.tx] 24)) w.heap.size e A c) := Blk.new _ _ _
  have HAL := Lib.hid ((Below.refl w.heap.size w).alloc (Nat.le_refl _) (.cells #[.int .i64 e.ki, .int .i64 e.ti, .string e.it, .string e.of_, .slice A e.nn.length c, .string e.tx] 24))
  obtain ⟨x, hx⟩ : ∃ x, chk e = x := ⟨_, rfl⟩
  have HX := Lib.hid hx
  clear hx
  by_cases h0 : x = 0
  · subst h0
    have HE := Lib.hid (linS_ok HX.out)
    obtain ⟨F, hF⟩ : ∃ F, lb (Ck.fmT e.ti) = F := ⟨_, rfl⟩
    have HF := Lib.hid hF
    have hfs : F.size ≤ 100 := by rw [← hF]; exact fm_len
    obtain ⟨N, hN⟩ : ∃ N, nmS e.ki = N := ⟨_, rfl⟩
    have HN := Lib.hid hN
    have HNM := Lib.hid (name_any e.ki)
    rw [hN] at HNM
    clear hF hN
    go_enter Tryd.func20, Tryd.ntmps20
    go_wp2_with fail
    generalize w.alloc (.cells #[.int .i64 e.ki, .int .i64 e.ti, .string e.it, .string e.of_, .slice A e.nn.length c, .string e.tx] 24) = w0 at *
    (with_reducible refine (check_any e A c HO 0 HX _ (Lib.hid (HS.out.below HAL.out))).mono ?_)
    rintro r w1 ⟨rfl, hb⟩
    have HB1 := Lib.hid (below_old HAL.out hb)
    have HBX1 : Hid (EBox w1 w.heap.size e A c) := Blk.below HBX0.out hb
    clear hb HBX0 HAL
    go_wp2_with fail
    have y0 := fun u => EBox.cells (Blk.below HBX1.out (wx_below w1 u) : EBox (wx w1 u) w.heap.size e A c)
    have HTX : Hid (∀ u, Hid (TabOk (wx w1 u))) := fun u => (HT.out.below HB1.out).below (wx_below w1 u)
    refine wp_region_grows_tail 6 (by kernel_rfl) (by kernel_rfl) ?_
    simp only [List.take_succ_cons, List.take_zero, List.drop_succ_cons, List.drop_zero]
    repeat (go_big_quiet_step ((first | (go_at_call 45; (with_reducible exact calls_grows (format_eq e.ti F HF _ (HTX.out _)))) | (go_at_call 13; (with_reducible exact calls_grows (HNM.out _))))))
    refine wpQuiet_nil ?_
    rintro _ ⟨u, rfl⟩
    have HB2 := Lib.hid (below_old HB1.out (wx_below w1 u))
    have HBX2 : Hid (EBox (wx w1 u) w.heap.size e A c) := Blk.below HBX1.out (wx_below w1 u)
    clear y0 HB1 HBX1
    generalize wx w1 u = w2 at *
    have HL2 : Hid (LnW w (w2.alloc (.cells #[.string F, .string N] 9)) e A c (.slice (some ⟨w2.heap.size, 0, none⟩) 2 2) [F, N]) := by
      have hal := (Below.refl w2.heap.size w2).alloc (Nat.le_refl _) (.cells #[.string F, .string N] 9)
      exact ⟨below_old HB2.out hal, Blk.below HBX2.out hal, own_two w2 _ _ (by have := Blk.lt HBX2.out; omega) rfl F N⟩
    clear HB2 HBX2
    go_upto_region 4 with (fail)
    generalize w2.alloc (.cells #[.string F, .string N] 9) = w3 at *
    generalize w2.heap.size = g2 at *
    obtain ⟨x0, x1, x2, x3, x4, x5⟩ := HL2.out.box.cells
    by_cases hi : e.it = ByteArray.empty
    · have qi : (e.it.toList == []) = true := by rw [sempty]; exact decide_eq_true hi
      have HOI := Lib.hid (opt_no hi)
      clear hi
      by_cases ho : e.of_ = ByteArray.empty
      · have qo : (e.of_.toList == []) = true := by rw [sempty]; exact decide_eq_true ho
        have HOO := Lib.hid (opt_no ho)
        clear ho
        go_wp2_with fail
        clear x0 x1 x2 x3 x4 x5
        -- the loop over the numbers; HL2 : Hid (LnW w w3 e A c (.slice (some ⟨g2, 0, none⟩) 2 2) [F, N]), [F, N] = F :: wds e 0
        have HL0 : Hid (LnW w w3 e A c (.slice (some ⟨g2, 0, none⟩) 2 2) (F :: wds e 0)) := by
          have h := HL2.out
          have e0 : [F, N] = F :: wds e 0 := by simp [wds, HOI.out, HOO.out, HN.out]
          rw [e0] at h
          exact h
        clear HL2
        go_loopw [3, 35] (fun v i wr => ∃ (k : Nat), i = .int .i64 k ∧ k ≤ e.nn.length ∧ Hid (LnW w wr e A c v (F :: wds e k))) (fun _ i _ => e.nn.length - (intOf i).toNat)
        case atStart => exact ⟨0, rfl, by omega, HL0⟩
        case round =>
          clear HL0
          obtain ⟨k, rfl, hk, HL⟩ := hrel
          have hwc := wds_count e k
          by_cases hkl : k < e.nn.length
          · obtain ⟨m, hm⟩ : ∃ m, e.nn[k] = m := ⟨_, rfl⟩
            obtain ⟨bb, off, hA, hbl, c0⟩ := int_cells (HS.out.below HL.out.bel) hkl hm
            subst hA
            have zk : (k : Int) < (e.nn.length : Int) := by omega
            have hmr : I64 m := by rw [← hm]; exact HO.out.nn _ (List.getElem_mem hkl)
            obtain ⟨D, hD⟩ : ∃ D, itS m = D := ⟨_, rfl⟩
            have HD := Lib.hid hD
            have HWS : Hid (F :: wds e k ++ [D] = F :: wds e (k + 1)) := by show _ = _; rw [wds_succ e hkl, hm, hD]; rfl
            clear hm hD
            go_wp2_with fail
            (with_reducible refine (itoa_i m hmr D HD _ (Lib.hid (HT.out.below HL.out.bel))).mono ?_)
            rintro r v1 ⟨rfl, hb⟩
            have HL1 := Lib.hid (HL.out.below hb)
            clear hb HL
            obtain ⟨ws, hws⟩ : ∃ ws, F :: wds e k = ws := ⟨_, rfl⟩
            rw [hws] at HL1 HWS
            have hwl : ws.length ≤ 100010 := by rw [← hws]; simp; omega
            clear hws
            -- one word more: X; the world wq with HL : Hid (LnW w wq e A c vq ws)
            have hrow := HL1.out.row.alloc (.cells #[.string D] 9)
            have hszq : w.heap.size + 1 ≤ v1.heap.size := by have := Blk.lt HL1.out.box; omega
            go_wp2_with (at_builtin; refine wpList_append_c rfl _ _ 53 rfl (w.heap.size + 1) 9 (.string ⟨#[]⟩) 1 16 Tryd.underlying53 infoS rfl (by decide) _ _ _ rfl hrow ⟨v1.heap.size, 0, none⟩ 1 1 [.string D] rfl rfl (cell_one_new _ _ _) (by intro u hu; simp at hu; subst hu; rfl) (by unfold maxLen; skip; omega) (by skip; omega) (by simp; omega) ?_)
            intro v2 w3 hown' hgrow
            have HL2 := Lib.hid (HL1.out.app hown' hgrow)
            clear hrow hszq hown' hgrow
            rw [HWS.out] at HL2
            go_wp2_with fail
            go_roundw
            case rel => exact ⟨k + 1, by go_num, by omega, HL2⟩
            case measure => simp [intOf]; omega
          · have hkk : k = e.nn.length := by omega
            rw [hkk] at HL
            obtain ⟨A9, c9, hv9⟩ := row_form HL.out.row
            subst hv9
            have zk : (e.nn.length : Int) ≤ (k : Int) := by omega
            obtain ⟨J, hJ⟩ : ∃ J, lb (bl F ++ jt (wds e e.nn.length)) = J := ⟨_, rfl⟩
            have HJ := Lib.hid hJ
            have hjl : (bl F ++ jt (wds e e.nn.length)).length ≤ 100000000 := by
              rw [List.length_append]
              have h1 : (bl F).length ≤ 100 := hfs
              have h2 := wds_len HO.out e.nn.length
              omega
            have hjs : J.size ≤ 100000000 := by rw [← hJ]; exact hjl
            have hwl : (F :: wds e e.nn.length).length ≤ 100000000 := by simp; have := wds_count e e.nn.length; omega
            have HJN := Lib.hid (joinw_any F (wds e e.nn.length) A9 c9 wr _ (Lib.hid HL.out.row) hwl hjl J HJ)
            have HBB := Lib.hid HL.out.bel
            have HLN : Hid (J ++ ⟨#[10]⟩ = lb (lnT e)) := by
              show _ = _
              rw [← hJ, ← HF.out]
              unfold lnT
              apply ByteArray.ext
              apply Array.ext'
              simp [lb, bl]
            have k1 : ¬ 9223372036854775807 < J.size + (⟨#[10]⟩ : ByteArray).size := by have : (⟨#[10]⟩ : ByteArray).size = 1 := rfl; omega
            obtain ⟨nw, hnw⟩ : ∃ nw, (F :: wds e e.nn.length).length = nw := ⟨_, rfl⟩
            rw [hnw] at HJN ⊢
            clear hkk hJ hjl hwl HL hnw
            go_wp2_with fail
            (with_reducible refine HJN.out.mono ?_)
            rintro r v1 ⟨rfl, hb⟩
            have HB9 := Lib.hid (below_old HBB.out hb)
            clear hb
            go_wp2_with fail
            go_ret
            exact ⟨ret_st (HLN.out.trans HE.out.symm), HB9.out⟩
      · have qo : (e.of_.toList == []) = false := by rw [sempty]; exact decide_eq_false ho
        have HOO := Lib.hid (opt_yes ho)
        clear ho
        -- one word more: X; the world wq with HL : Hid (LnW w wq e A c vq ws)
        have hrow := HL2.out.row.alloc (.cells #[.string e.of_] 9)
        have hszq : w.heap.size + 1 ≤ w3.heap.size := by have := Blk.lt HL2.out.box; omega
        go_wp2_with (at_builtin; refine wpList_append_c rfl _ _ 53 rfl (w.heap.size + 1) 9 (.string ⟨#[]⟩) 1 16 Tryd.underlying53 infoS rfl (by decide) _ _ _ rfl hrow ⟨w3.heap.size, 0, none⟩ 1 1 [.string e.of_] rfl rfl (cell_one_new _ _ _) (by intro u hu; simp at hu; subst hu; rfl) (by unfold maxLen; simp only [List.length_cons, List.length_nil]; omega) (by simp only [List.length_cons, List.length_nil]; omega) (by simp; omega) ?_)
        intro v4 w4 hown' hgrow
        have HL4 := Lib.hid (HL2.out.app hown' hgrow)
        clear hrow hszq hown' hgrow
        clear x0 x1 x2 x3 x4 x5
        obtain ⟨x0, x1, x2, x3, x4, x5⟩ := HL4.out.box.cells
        go_wp2_with fail
        clear x0 x1 x2 x3 x4 x5
        -- the loop over the numbers; HL4 : Hid (LnW w w4 e A c v4 [F, N] ++ [e.of_]), [F, N] ++ [e.of_] = F :: wds e 0
        have HL0 : Hid (LnW w w4 e A c v4 (F :: wds e 0)) := by
          have h := HL4.out
          have e0 : [F, N] ++ [e.of_] = F :: wds e 0 := by simp [wds, HOI.out, HOO.out, HN.out]
          rw [e0] at h
          exact h
        clear HL4
        go_loopw [3, 35] (fun v i wr => ∃ (k : Nat), i = .int .i64 k ∧ k ≤ e.nn.length ∧ Hid (LnW w wr e A c v (F :: wds e k))) (fun _ i _ => e.nn.length - (intOf i).toNat)
        case atStart => exact ⟨0, rfl, by omega, HL0⟩
        case round =>
          clear HL0
          obtain ⟨k, rfl, hk, HL⟩ := hrel
          have hwc := wds_count e k
          by_cases hkl : k < e.nn.length
          · obtain ⟨m, hm⟩ : ∃ m, e.nn[k] = m := ⟨_, rfl⟩
            obtain ⟨bb, off, hA, hbl, c0⟩ := int_cells (HS.out.below HL.out.bel) hkl hm
            subst hA
            have zk : (k : Int) < (e.nn.length : Int) := by omega
            have hmr : I64 m := by rw [← hm]; exact HO.out.nn _ (List.getElem_mem hkl)
            obtain ⟨D, hD⟩ : ∃ D, itS m = D := ⟨_, rfl⟩
            have HD := Lib.hid hD
            have HWS : Hid (F :: wds e k ++ [D] = F :: wds e (k + 1)) := by show _ = _; rw [wds_succ e hkl, hm, hD]; rfl
            clear hm hD
            go_wp2_with fail
            (with_reducible refine (itoa_i m hmr D HD _ (Lib.hid (HT.out.below HL.out.bel))).mono ?_)
            rintro r v1 ⟨rfl, hb⟩
            have HL1 := Lib.hid (HL.out.below hb)
            clear hb HL
            obtain ⟨ws, hws⟩ : ∃ ws, F :: wds e k = ws := ⟨_, rfl⟩
            rw [hws] at HL1 HWS
            have hwl : ws.length ≤ 100010 := by rw [← hws]; simp; omega
            clear hws
            -- one word more: X; the world wq with HL : Hid (LnW w wq e A c vq ws)
            have hrow := HL1.out.row.alloc (.cells #[.string D] 9)
            have hszq : w.heap.size + 1 ≤ v1.heap.size := by have := Blk.lt HL1.out.box; omega
            go_wp2_with (at_builtin; refine wpList_append_c rfl _ _ 53 rfl (w.heap.size + 1) 9 (.string ⟨#[]⟩) 1 16 Tryd.underlying53 infoS rfl (by decide) _ _ _ rfl hrow ⟨v1.heap.size, 0, none⟩ 1 1 [.string D] rfl rfl (cell_one_new _ _ _) (by intro u hu; simp at hu; subst hu; rfl) (by unfold maxLen; skip; omega) (by skip; omega) (by simp; omega) ?_)
            intro v2 w3 hown' hgrow
            have HL2 := Lib.hid (HL1.out.app hown' hgrow)
            clear hrow hszq hown' hgrow
            rw [HWS.out] at HL2
            go_wp2_with fail
            go_roundw
            case rel => exact ⟨k + 1, by go_num, by omega, HL2⟩
            case measure => simp [intOf]; omega
          · have hkk : k = e.nn.length := by omega
            rw [hkk] at HL
            obtain ⟨A9, c9, hv9⟩ := row_form HL.out.row
            subst hv9
            have zk : (e.nn.length : Int) ≤ (k : Int) := by omega
            obtain ⟨J, hJ⟩ : ∃ J, lb (bl F ++ jt (wds e e.nn.length)) = J := ⟨_, rfl⟩
            have HJ := Lib.hid hJ
            have hjl : (bl F ++ jt (wds e e.nn.length)).length ≤ 100000000 := by
              rw [List.length_append]
              have h1 : (bl F).length ≤ 100 := hfs
              have h2 := wds_len HO.out e.nn.length
              omega
            have hjs : J.size ≤ 100000000 := by rw [← hJ]; exact hjl
            have hwl : (F :: wds e e.nn.length).length ≤ 100000000 := by simp; have := wds_count e e.nn.length; omega
            have HJN := Lib.hid (joinw_any F (wds e e.nn.length) A9 c9 wr _ (Lib.hid HL.out.row) hwl hjl J HJ)
            have HBB := Lib.hid HL.out.bel
            have HLN : Hid (J ++ ⟨#[10]⟩ = lb (lnT e)) := by
              show _ = _
              rw [← hJ, ← HF.out]
              unfold lnT
              apply ByteArray.ext
              apply Array.ext'
              simp [lb, bl]
            have k1 : ¬ 9223372036854775807 < J.size + (⟨#[10]⟩ : ByteArray).size := by have : (⟨#[10]⟩ : ByteArray).size = 1 := rfl; omega
            obtain ⟨nw, hnw⟩ : ∃ nw, (F :: wds e e.nn.length).length = nw := ⟨_, rfl⟩
            rw [hnw] at HJN ⊢
            clear hkk hJ hjl hwl HL hnw
            go_wp2_with fail
            (with_reducible refine HJN.out.mono ?_)
            rintro r v1 ⟨rfl, hb⟩
            have HB9 := Lib.hid (below_old HBB.out hb)
            clear hb
            go_wp2_with fail
            go_ret
            exact ⟨ret_st (HLN.out.trans HE.out.symm), HB9.out⟩
    · have qi : (e.it.toList == []) = false := by rw [sempty]; exact decide_eq_false hi
      have HOI := Lib.hid (opt_yes hi)
      clear hi
      -- one word more: X; the world wq with HL : Hid (LnW w wq e A c vq ws)
      have hrow := HL2.out.row.alloc (.cells #[.string e.it] 9)
      have hszq : w.heap.size + 1 ≤ w3.heap.size := by have := Blk.lt HL2.out.box; omega
      go_wp2_with (at_builtin; refine wpList_append_c rfl _ _ 53 rfl (w.heap.size + 1) 9 (.string ⟨#[]⟩) 1 16 Tryd.underlying53 infoS rfl (by decide) _ _ _ rfl hrow ⟨w3.heap.size, 0, none⟩ 1 1 [.string e.it] rfl rfl (cell_one_new _ _ _) (by intro u hu; simp at hu; subst hu; rfl) (by unfold maxLen; simp only [List.length_cons, List.length_nil]; omega) (by simp only [List.length_cons, List.length_nil]; omega) (by simp; omega) ?_)
      intro v4 w4 hown' hgrow
      have HL4 := Lib.hid (HL2.out.app hown' hgrow)
      clear hrow hszq hown' hgrow
      clear x0 x1 x2 x3 x4 x5
      obtain ⟨x0, x1, x2, x3, x4, x5⟩ := HL4.out.box.cells
      by_cases ho : e.of_ = ByteArray.empty
      · have qo : (e.of_.toList == []) = true := by rw [sempty]; exact decide_eq_true ho
        have HOO := Lib.hid (opt_no ho)
        clear ho
        go_wp2_with fail
        clear x0 x1 x2 x3 x4 x5
        -- the loop over the numbers; HL4 : Hid (LnW w w4 e A c v4 [F, N] ++ [e.it]), [F, N] ++ [e.it] = F :: wds e 0
        have HL0 : Hid (LnW w w4 e A c v4 (F :: wds e 0)) := by
          have h := HL4.out
          have e0 : [F, N] ++ [e.it] = F :: wds e 0 := by simp [wds, HOI.out, HOO.out, HN.out]
          rw [e0] at h
          exact h
        clear HL4
        go_loopw [3, 35] (fun v i wr => ∃ (k : Nat), i = .int .i64 k ∧ k ≤ e.nn.length ∧ Hid (LnW w wr e A c v (F :: wds e k))) (fun _ i _ => e.nn.length - (intOf i).toNat)
        case atStart => exact ⟨0, rfl, by omega, HL0⟩
        case round =>
          clear HL0
          obtain ⟨k, rfl, hk, HL⟩ := hrel
          have hwc := wds_count e k
          by_cases hkl : k < e.nn.length
          · obtain ⟨m, hm⟩ : ∃ m, e.nn[k] = m := ⟨_, rfl⟩
            obtain ⟨bb, off, hA, hbl, c0⟩ := int_cells (HS.out.below HL.out.bel) hkl hm
            subst hA
            have zk : (k : Int) < (e.nn.length : Int) := by omega
            have hmr : I64 m := by rw [← hm]; exact HO.out.nn _ (List.getElem_mem hkl)
            obtain ⟨D, hD⟩ : ∃ D, itS m = D := ⟨_, rfl⟩
            have HD := Lib.hid hD
            have HWS : Hid (F :: wds e k ++ [D] = F :: wds e (k + 1)) := by show _ = _; rw [wds_succ e hkl, hm, hD]; rfl
            clear hm hD
            go_wp2_with fail
            (with_reducible refine (itoa_i m hmr D HD _ (Lib.hid (HT.out.below HL.out.bel))).mono ?_)
            rintro r v1 ⟨rfl, hb⟩
            have HL1 := Lib.hid (HL.out.below hb)
            clear hb HL
            obtain ⟨ws, hws⟩ : ∃ ws, F :: wds e k = ws := ⟨_, rfl⟩
            rw [hws] at HL1 HWS
            have hwl : ws.length ≤ 100010 := by rw [← hws]; simp; omega
            clear hws
            -- one word more: X; the world wq with HL : Hid (LnW w wq e A c vq ws)
            have hrow := HL1.out.row.alloc (.cells #[.string D] 9)
            have hszq : w.heap.size + 1 ≤ v1.heap.size := by have := Blk.lt HL1.out.box; omega
            go_wp2_with (at_builtin; refine wpList_append_c rfl _ _ 53 rfl (w.heap.size + 1) 9 (.string ⟨#[]⟩) 1 16 Tryd.underlying53 infoS rfl (by decide) _ _ _ rfl hrow ⟨v1.heap.size, 0, none⟩ 1 1 [.string D] rfl rfl (cell_one_new _ _ _) (by intro u hu; simp at hu; subst hu; rfl) (by unfold maxLen; skip; omega) (by skip; omega) (by simp; omega) ?_)
            intro v2 w3 hown' hgrow
            have HL2 := Lib.hid (HL1.out.app hown' hgrow)
            clear hrow hszq hown' hgrow
            rw [HWS.out] at HL2
            go_wp2_with fail
            go_roundw
            case rel => exact ⟨k + 1, by go_num, by omega, HL2⟩
            case measure => simp [intOf]; omega
          · have hkk : k = e.nn.length := by omega
            rw [hkk] at HL
            obtain ⟨A9, c9, hv9⟩ := row_form HL.out.row
            subst hv9
            have zk : (e.nn.length : Int) ≤ (k : Int) := by omega
            obtain ⟨J, hJ⟩ : ∃ J, lb (bl F ++ jt (wds e e.nn.length)) = J := ⟨_, rfl⟩
            have HJ := Lib.hid hJ
            have hjl : (bl F ++ jt (wds e e.nn.length)).length ≤ 100000000 := by
              rw [List.length_append]
              have h1 : (bl F).length ≤ 100 := hfs
              have h2 := wds_len HO.out e.nn.length
              omega
            have hjs : J.size ≤ 100000000 := by rw [← hJ]; exact hjl
            have hwl : (F :: wds e e.nn.length).length ≤ 100000000 := by simp; have := wds_count e e.nn.length; omega
            have HJN := Lib.hid (joinw_any F (wds e e.nn.length) A9 c9 wr _ (Lib.hid HL.out.row) hwl hjl J HJ)
            have HBB := Lib.hid HL.out.bel
            have HLN : Hid (J ++ ⟨#[10]⟩ = lb (lnT e)) := by
              show _ = _
              rw [← hJ, ← HF.out]
              unfold lnT
              apply ByteArray.ext
              apply Array.ext'
              simp [lb, bl]
            have k1 : ¬ 9223372036854775807 < J.size + (⟨#[10]⟩ : ByteArray).size := by have : (⟨#[10]⟩ : ByteArray).size = 1 := rfl; omega
            obtain ⟨nw, hnw⟩ : ∃ nw, (F :: wds e e.nn.length).length = nw := ⟨_, rfl⟩
            rw [hnw] at HJN ⊢
            clear hkk hJ hjl hwl HL hnw
            go_wp2_with fail
            (with_reducible refine HJN.out.mono ?_)
            rintro r v1 ⟨rfl, hb⟩
            have HB9 := Lib.hid (below_old HBB.out hb)
            clear hb
            go_wp2_with fail
            go_ret
            exact ⟨ret_st (HLN.out.trans HE.out.symm), HB9.out⟩
      · have qo : (e.of_.toList == []) = false := by rw [sempty]; exact decide_eq_false ho
        have HOO := Lib.hid (opt_yes ho)
        clear ho
        -- one word more: X; the world wq with HL : Hid (LnW w wq e A c vq ws)
        have hrow := HL4.out.row.alloc (.cells #[.string e.of_] 9)
        have hszq : w.heap.size + 1 ≤ w4.heap.size := by have := Blk.lt HL4.out.box; omega
        go_wp2_with (at_builtin; refine wpList_append_c rfl _ _ 53 rfl (w.heap.size + 1) 9 (.string ⟨#[]⟩) 1 16 Tryd.underlying53 infoS rfl (by decide) _ _ _ rfl hrow ⟨w4.heap.size, 0, none⟩ 1 1 [.string e.of_] rfl rfl (cell_one_new _ _ _) (by intro u hu; simp at hu; subst hu; rfl) (by unfold maxLen; simp only [List.length_append, List.length_cons, List.length_nil]; omega) (by simp only [List.length_append, List.length_cons, List.length_nil]; omega) (by simp; omega) ?_)
        intro v5 w5 hown' hgrow
        have HL5 := Lib.hid (HL4.out.app hown' hgrow)
        clear hrow hszq hown' hgrow
        clear x0 x1 x2 x3 x4 x5
        obtain ⟨x0, x1, x2, x3, x4, x5⟩ := HL5.out.box.cells
        go_wp2_with fail
        clear x0 x1 x2 x3 x4 x5
        -- the loop over the numbers; HL5 : Hid (LnW w w5 e A c v5 [F, N] ++ [e.it] ++ [e.of_]), [F, N] ++ [e.it] ++ [e.of_] = F :: wds e 0
        have HL0 : Hid (LnW w w5 e A c v5 (F :: wds e 0)) := by
          have h := HL5.out
          have e0 : [F, N] ++ [e.it] ++ [e.of_] = F :: wds e 0 := by simp [wds, HOI.out, HOO.out, HN.out]
          rw [e0] at h
          exact h
        clear HL5
        go_loopw [3, 35] (fun v i wr => ∃ (k : Nat), i = .int .i64 k ∧ k ≤ e.nn.length ∧ Hid (LnW w wr e A c v (F :: wds e k))) (fun _ i _ => e.nn.length - (intOf i).toNat)
        case atStart => exact ⟨0, rfl, by omega, HL0⟩
        case round =>
          clear HL0
          obtain ⟨k, rfl, hk, HL⟩ := hrel
          have hwc := wds_count e k
          by_cases hkl : k < e.nn.length
          · obtain ⟨m, hm⟩ : ∃ m, e.nn[k] = m := ⟨_, rfl⟩
            obtain ⟨bb, off, hA, hbl, c0⟩ := int_cells (HS.out.below HL.out.bel) hkl hm
            subst hA
            have zk : (k : Int) < (e.nn.length : Int) := by omega
            have hmr : I64 m := by rw [← hm]; exact HO.out.nn _ (List.getElem_mem hkl)
            obtain ⟨D, hD⟩ : ∃ D, itS m = D := ⟨_, rfl⟩
            have HD := Lib.hid hD
            have HWS : Hid (F :: wds e k ++ [D] = F :: wds e (k + 1)) := by show _ = _; rw [wds_succ e hkl, hm, hD]; rfl
            clear hm hD
            go_wp2_with fail
            (with_reducible refine (itoa_i m hmr D HD _ (Lib.hid (HT.out.below HL.out.bel))).mono ?_)
            rintro r v1 ⟨rfl, hb⟩
            have HL1 := Lib.hid (HL.out.below hb)
            clear hb HL
            obtain ⟨ws, hws⟩ : ∃ ws, F :: wds e k = ws := ⟨_, rfl⟩
            rw [hws] at HL1 HWS
            have hwl : ws.length ≤ 100010 := by rw [← hws]; simp; omega
            clear hws
            -- one word more: X; the world wq with HL : Hid (LnW w wq e A c vq ws)
            have hrow := HL1.out.row.alloc (.cells #[.string D] 9)
            have hszq : w.heap.size + 1 ≤ v1.heap.size := by have := Blk.lt HL1.out.box; omega
            go_wp2_with (at_builtin; refine wpList_append_c rfl _ _ 53 rfl (w.heap.size + 1) 9 (.string ⟨#[]⟩) 1 16 Tryd.underlying53 infoS rfl (by decide) _ _ _ rfl hrow ⟨v1.heap.size, 0, none⟩ 1 1 [.string D] rfl rfl (cell_one_new _ _ _) (by intro u hu; simp at hu; subst hu; rfl) (by unfold maxLen; skip; omega) (by skip; omega) (by simp; omega) ?_)
            intro v2 w3 hown' hgrow
            have HL2 := Lib.hid (HL1.out.app hown' hgrow)
            clear hrow hszq hown' hgrow
            rw [HWS.out] at HL2
            go_wp2_with fail
            go_roundw
            case rel => exact ⟨k + 1, by go_num, by omega, HL2⟩
            case measure => simp [intOf]; omega
          · have hkk : k = e.nn.length := by omega
            rw [hkk] at HL
            obtain ⟨A9, c9, hv9⟩ := row_form HL.out.row
            subst hv9
            have zk : (e.nn.length : Int) ≤ (k : Int) := by omega
            obtain ⟨J, hJ⟩ : ∃ J, lb (bl F ++ jt (wds e e.nn.length)) = J := ⟨_, rfl⟩
            have HJ := Lib.hid hJ
            have hjl : (bl F ++ jt (wds e e.nn.length)).length ≤ 100000000 := by
              rw [List.length_append]
              have h1 : (bl F).length ≤ 100 := hfs
              have h2 := wds_len HO.out e.nn.length
              omega
            have hjs : J.size ≤ 100000000 := by rw [← hJ]; exact hjl
            have hwl : (F :: wds e e.nn.length).length ≤ 100000000 := by simp; have := wds_count e e.nn.length; omega
            have HJN := Lib.hid (joinw_any F (wds e e.nn.length) A9 c9 wr _ (Lib.hid HL.out.row) hwl hjl J HJ)
            have HBB := Lib.hid HL.out.bel
            have HLN : Hid (J ++ ⟨#[10]⟩ = lb (lnT e)) := by
              show _ = _
              rw [← hJ, ← HF.out]
              unfold lnT
              apply ByteArray.ext
              apply Array.ext'
              simp [lb, bl]
            have k1 : ¬ 9223372036854775807 < J.size + (⟨#[10]⟩ : ByteArray).size := by have : (⟨#[10]⟩ : ByteArray).size = 1 := rfl; omega
            obtain ⟨nw, hnw⟩ : ∃ nw, (F :: wds e e.nn.length).length = nw := ⟨_, rfl⟩
            rw [hnw] at HJN ⊢
            clear hkk hJ hjl hwl HL hnw
            go_wp2_with fail
            (with_reducible refine HJN.out.mono ?_)
            rintro r v1 ⟨rfl, hb⟩
            have HB9 := Lib.hid (below_old HBB.out hb)
            clear hb
            go_wp2_with fail
            go_ret
            exact ⟨ret_st (HLN.out.trans HE.out.symm), HB9.out⟩
  · have HE := Lib.hid (linS_no (by rw [HX.out]; exact h0))
    have q : (x == 0) = false := by simpa using h0
    have q2 : (x != 0) = true := by simpa using h0
    clear h0
    go_enter Tryd.func20, Tryd.ntmps20
    go_wp2_with fail
    (with_reducible refine (check_any e A c HO x HX _ (Lib.hid (HS.out.below HAL.out))).mono ?_)
    rintro r w1 ⟨rfl, hb⟩
    have HB1 := Lib.hid (below_old HAL.out hb)
    clear hb
    go_wp2_with fail
    go_ret
    exact ⟨ret_st HE.out.symm, HB1.out⟩
end Go.Proofs.YtcefmnkfkpoccaaDoor
