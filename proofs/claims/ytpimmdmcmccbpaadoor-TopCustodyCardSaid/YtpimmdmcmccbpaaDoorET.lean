/- The reference of custody: Trace, Root, Children, Verify, SameLinks, Same. -/
import Derived.Test.YtpimmdmcmccbpaaDoorES
namespace Go.Proofs.YtpimmdmcmccbpaaDoor
open Go.RowKit
set_option linter.unusedVariables false
open Cu (Lk Ls)
theorem lrowL_take (L : Ls) (k : Nat) : lrowL (L.take k) = (lrowL L).take (k * 6) := by
  induction L generalizing k with
  | nil => simp [lrowL]
  | cons e r ih =>
    cases k with
    | zero => simp [lrowL]
    | succ k =>
      have h6 : (lcells e).length = 6 := rfl
      simp only [lrowL, List.take_succ_cons, List.flatMap_cons] at ih ⊢
      have e1 : (lcells e).take ((k + 1) * 6) = lcells e := List.take_of_length_le (by rw [h6]; omega)
      have e2 : (k + 1) * 6 - 6 = k * 6 := by omega
      rw [List.take_append, h6, e1, e2, ih k]
theorem SlR.take {w : World} {A : Option Addr} {L : Ls} (h : SlR w A (lrowL L)) (k : Nat) : SlR w A (lrowL (L.take k)) := fun g => by
  rw [lrowL_take] at g ⊢
  have hlen : ((lrowL L).take (k * 6)).length ≤ (lrowL L).length := by rw [List.length_take]; omega
  obtain ⟨b, off, e, hb, hc⟩ := h (by omega)
  refine ⟨b, off, e, hb, fun j hj => ?_⟩
  rw [hc j (by omega), List.getElem_take]
theorem Cu.ix_take {L : Ls} {s : ByteArray} {k : Nat} (hk : k ≤ L.length) (h : Cu.ix s L < k) : Cu.ix s (L.take k) = Cu.ix s L := by
  have hl : (L.take k).length = k := by rw [List.length_take]; omega
  refine Cu.ix_eq (by omega) ?_ fun j hj hlt => ?_
  · rw [List.getElem_take]; exact Cu.ix_at s L (by omega)
  · rw [List.getElem_take]; exact Cu.ix_first s L j (by omega) hlt
theorem rat_n (L : Ls) (A : Option Addr) (n c : Nat) (hn : Hid (L.length = n)) (s : ByteArray) (x : Int) (hx : Hid (Cu.atI L s = x)) (w : World) (HS : Hid (SlR w A (lrowL L))) (hl : (n : Int) ≤ 2000) :
    Calls Tryd.prog 53 #[.slice A n c, .string s] w fun e w' => e = .returned (.int .i64 x) ∧ w' = w := by
  have h := hn.out
  subst h
  exact rat_eq L A c s x hx w HS hl
theorem TrI.on {w wr w5 : World} {L : Ls} {item s : ByteArray} {T : Ls} {v v' : Value} {k : Nat} {o : Obj} (HO : Cu.Ord L) (h : TrI w wr L item s T v k true) (hk : k < L.length) (hg : (wr.alloc o).grownBy w5 v.ownBlock) (ho : w5.ownsRow w.heap.size 36 6 v' (T.length + 1) (lrowL T ++ lcells L[k])) : T ++ [L[k]] ++ Cu.trc L (L[k]).pa = Cu.trc L item := by
  obtain ⟨y1, y2⟩ := h.yes rfl
  have e := h.all
  rw [HO.trc_yes y1] at e
  subst y2
  rw [← e]
  simp
set_option maxRecDepth 100000 in
set_option maxHeartbeats 8000000 in
theorem rtrace_yes (L : Ls) (A : Option Addr) (c : Nat) (hc : L.length ≤ c) (item : ByteArray) (w : World) (HS : Hid (SlR w A (lrowL L))) (HO : Hid (Cu.Ord L)) (hl : (L.length : Int) ≤ 2000) (hi : Hid (Cu.ix item L < L.length)) :
    Calls Tryd.prog 37 #[.slice A L.length c, .string item] w fun e w' => ∃ v, e = .returned (.tuple #[v, .int .i64 0]) ∧ w'.ownsRow w.heap.size 36 6 v (Cu.trc L item).length (lrowL (Cu.trc L item)) ∧ Below w.heap.size w w' := by
  obtain ⟨k0, hk0⟩ : ∃ k, k = Cu.ix item L := ⟨_, rfl⟩
  have HK0 : Hid (k0 = Cu.ix item L) := hk0
  have HA0 : Hid (Cu.atI L item = (k0 : Int)) := by show _ = _; rw [Cu.atI_yes hi.out, hk0]
  clear hk0
  have hne : item ≠ ByteArray.empty := fun e => HO.out.ne (by have := hi.out; rw [e] at this; exact this)
  obtain ⟨q1, q2, q3⟩ := pa_some hne
  clear hne
  obtain ⟨bb, off, hA, hbl, -⟩ := HS.out.link hi.out
  subst hA
  go_enter Tryd.func37, Tryd.ntmps37
  go_wp2_with fail
  (with_reducible refine (rat_eq L _ c item k0 HA0 _ HS hl).mono ?_)
  rintro e w1 ⟨rfl, hw1⟩
  subst w1
  go_wp2_with fail
  go_loopw [6, 7] (fun v i wr => ∃ (T : Ls) (s : ByteArray) (k : Nat), i = .int .i64 k ∧ Hid (TrI w wr L item s T v k true)) (fun _ i _ => (intOf i).toNat)
  case atStart => exact ⟨[], item, k0, rfl, World.ownsRow_nil _ _ _ _, Below.refl _ _, rfl, fun _ => ⟨hi.out, HK0.out⟩, fun h => by cases h⟩
  case round =>
    obtain ⟨T, s, k, rfl, HI⟩ := hrel
    clear q1 q2 q3
    obtain ⟨hix, hk⟩ := HI.out.yes rfl
    have hkl : k < L.length := by omega
    have zk : (k : Int) < (L.length : Int) := by omega
    have zc : (k : Int) ≤ (c : Int) := by omega
    have HT := Lib.hid HI.out.len
    clear hix hk HK0 HA0
    obtain ⟨e, he⟩ : ∃ e, L[k] = e := ⟨_, rfl⟩
    have HEK := Lib.hid he
    clear he
    obtain ⟨bb', off', hA', hbl', p0, p1, p2, p3, p4, p5⟩ := (HS.out.below HI.out.bel).link hkl
    simp only [Option.some.injEq, Addr.mk.injEq, and_true] at hA'
    obtain ⟨rfl, rfl⟩ := hA'
    rw [HEK.out] at p0 p1 p2 p3 p4 p5
    have hm1 : Hid (T.length + 1 ≤ maxLen) := by show _ ≤ _; have := HT.out; unfold maxLen; omega
    have hm2 : Hid ((T.length + 1) * 72 ≤ 140737488355328) := by show _ ≤ _; have := HT.out; omega
    have HBS := Lib.hid HI.out.bel.size
    go_wp2_with (at_builtin; refine wpList_lies_c rfl (.tmp 19) (.tmp 24) 33 rfl w.heap.size 36 _ 6 72 Tryd.underlying33 infoLk rfl (by decide) u6 T.length (lrowL T) (by rfl) (row_below HI.out.row ((Below.refl _ _).alloc (Nat.le_refl _) _)) ⟨wr.heap.size, 0, none⟩ 1 1 (lcells e) (by rfl) rfl (World.news_of_block (Blk.new _ _ _)) (lcells_one e) (by decide) hm1.out hm2.out (Nat.le_trans HBS.out (by simp)) ?_)
    intro g5 cap5 w5 hown hgrow hgv
    have HB5 := Lib.hid (HI.out.bel5 hgrow)
    have HALL : Hid (T ++ [e] ++ Cu.trc L e.pa = Cu.trc L item) := by
      show _ = _
      have := HI.out.on HO.out hkl hgrow (by rw [HEK.out]; exact hown)
      rwa [HEK.out] at this
    have HOW := Lib.hid hown
    clear hown hgrow hgv p0 p1 p2 p3 p4 p5 hbl'
    obtain ⟨bb', off', hA', hbl', -, p1, -, -, -, -⟩ := (HS.out.below HB5.out).link hkl
    simp only [Option.some.injEq, Addr.mk.injEq, and_true] at hA'
    obtain ⟨rfl, rfl⟩ := hA'
    rw [HEK.out] at p1
    by_cases hpa : e.pa = ByteArray.empty
    · have HFIN : Hid (T ++ [e] = Cu.trc L item) := by
        show _ = _
        rw [← HALL.out, hpa, Cu.trc_no HO.out.ne, List.append_nil]
      have q1 : (e.pa.toList == []) = true := by rw [hpa, ByteArray.toList_eq]; rfl
      clear hpa
      go_wp2_with fail
      (try simp only [Exit.inBlock, Exit.then])
      refine bodyPost_ret (results_tmp2 rfl _ _ _) rfl ⟨_, rfl, ?_, HB5.out⟩
      rw [← HFIN.out, lrowL_snoc, List.length_append]
      exact HOW.out
    · obtain ⟨q1, q2, q3⟩ := pa_some hpa
      have hup : Cu.ix e.pa L < k := by
        have := HO.out.par k hkl
        rw [HEK.out] at this
        exact this hpa
      obtain ⟨k', hk'⟩ : ∃ k', k' = Cu.ix e.pa L := ⟨_, rfl⟩
      have hkk : k' < k := by omega
      have HNX : Hid (Cu.ix e.pa L < L.length ∧ k' = Cu.ix e.pa L) := ⟨by omega, hk'⟩
      have HLN : Hid ((L.take k).length = k) := by show _ = _; rw [List.length_take]; omega
      have HAT : Hid (Cu.atI (L.take k) e.pa = (k' : Int)) := by
        show _ = _
        have h1 := Cu.ix_take (Nat.le_of_lt hkl) hup
        rw [Cu.atI_yes (by rw [h1, HLN.out]; exact hup), h1, hk']
      have HSD : Hid (∀ n, SlR (w5.drewN n) (some ⟨bb, off, none⟩) (lrowL (L.take k))) := fun n => ((HS.out.below HB5.out).take k).below (below_drewN (Below.refl _ _) n)
      clear hpa hup hk'
      go_wp2_with fail
      go_quiet ((go_at_call 53; (with_reducible exact Calls.quiet_of_same (rat_n (L.take k) _ k c HLN e.pa k' HAT _ (Lib.hid (HSD.out _)) (by omega)))))
      have HI6 : Hid (TrI w (w5.drewN nq) L item e.pa (T ++ [e]) (.slice (some ⟨g5, 0, none⟩) (T.length + 1) cap5) k' true) :=
        ⟨by rw [List.length_append, lrowL_snoc]; exact row_below HOW.out (below_drewN (Below.refl _ _) nq), below_drewN HB5.out nq, HALL.out, fun _ => HNX.out, fun h => by cases h⟩
      go_wp2_with fail
      go_roundw
      case rel => exact ⟨_, _, k', rfl, HI6⟩
      case measure => simp [intOf]; omega
set_option maxHeartbeats 4000000 in
theorem rtrace_no (L : Ls) (A : Option Addr) (c : Nat) (item : ByteArray) (w : World) (HS : Hid (SlR w A (lrowL L))) (hl : (L.length : Int) ≤ 2000) (hi : Hid (¬ Cu.ix item L < L.length)) :
    Calls Tryd.prog 37 #[.slice A L.length c, .string item] w fun e w' => e = .returned (.tuple #[.slice none 0 0, .int .i64 8]) ∧ w' = w := by
  have HA0 : Hid (Cu.atI L item = -1) := Cu.atI_no hi.out
  go_enter Tryd.func37, Tryd.ntmps37
  go_wp2_with fail
  (with_reducible refine (rat_eq L _ c item (-1) HA0 _ HS hl).mono ?_)
  rintro e w1 ⟨rfl, hw1⟩
  subst w1
  go_wp2_with fail
  (try simp only [Exit.inBlock, Exit.then])
  exact bodyPost_ret (results_tmp2 rfl _ _ _) rfl ⟨rfl, rfl⟩
theorem rtrace_any (L : Ls) (A : Option Addr) (c : Nat) (hc : L.length ≤ c) (item : ByteArray) (w : World) (HS : Hid (SlR w A (lrowL L))) (HO : Hid (Cu.Ord L)) (hl : (L.length : Int) ≤ 2000) :
    Calls Tryd.prog 37 #[.slice A L.length c, .string item] w fun e w' => ∃ v, e = .returned (.tuple #[v, .int .i64 (Cu.trE L item)]) ∧ w'.ownsRow w.heap.size 36 6 v (Cu.trc L item).length (lrowL (Cu.trc L item)) ∧ Below w.heap.size w w' := by
  unfold Cu.trE
  by_cases h : Cu.ix item L < L.length
  · rw [if_pos h]
    exact rtrace_yes L A c hc item w HS HO hl (Lib.hid h)
  · rw [if_neg h, Cu.trc_no h]
    exact (rtrace_no L A c item w HS hl (Lib.hid h)).mono fun e w' ⟨h1, h2⟩ => ⟨_, h1, World.ownsRow_nil _ _ _ _, by rw [h2]; exact Below.refl _ _⟩
set_option maxHeartbeats 4000000 in
theorem rroot_yes (L : Ls) (A : Option Addr) (c : Nat) (hc : L.length ≤ c) (item : ByteArray) (w : World) (HS : Hid (SlR w A (lrowL L))) (HO : Hid (Cu.Ord L)) (hl : (L.length : Int) ≤ 2000) (hi : Hid (Cu.ix item L < L.length)) :
    Calls Tryd.prog 38 #[.slice A L.length c, .string item] w fun e w' => e = .returned (.tuple #[.string (Cu.rtS L item), .bool true]) ∧ Below w.heap.size w w' := by
  have HT := Lib.hid (rtrace_yes L A c hc item w HS HO hl hi)
  have htl := Cu.trc_length L item
  have hy := HO.out.trc_yes hi.out
  obtain ⟨k, hk⟩ : ∃ k, (Cu.trc L item).length = k + 1 := ⟨(Cu.trc L (L[Cu.ix item L]'hi.out).pa).length, by rw [hy]; rfl⟩
  clear hy
  have HR : Hid (∃ h : k < (Cu.trc L item).length, Cu.rtS L item = ((Cu.trc L item)[k]'h).it) := ⟨by omega, Cu.rtS_yes k hk⟩
  have zk : (k : Int) ≤ 2000 := by omega
  have HKL : Hid (k < (Cu.trc L item).length) := by show _ < _; omega
  rw [hk] at HT
  clear hk htl
  go_enter Tryd.func38, Tryd.ntmps38
  go_wp2_with fail
  (with_reducible refine HT.out.mono ?_)
  rintro e w1 ⟨v1, rfl, hrow, hB⟩
  obtain ⟨A, c, hv⟩ := row_form hrow
  subst hv
  obtain ⟨bb, off, hA, hbl, p0, -⟩ := (row_slr hrow _ _ rfl).link HKL.out
  subst hA
  rw [← HR.out.2] at p0
  have HB := Lib.hid hB
  clear hrow hB
  go_wp2_with fail
  (try simp only [Exit.inBlock, Exit.then])
  exact bodyPost_ret (results_tmp2 rfl _ _ _) rfl ⟨rfl, HB.out⟩
set_option maxHeartbeats 4000000 in
theorem rroot_no (L : Ls) (A : Option Addr) (c : Nat) (item : ByteArray) (w : World) (HS : Hid (SlR w A (lrowL L))) (hl : (L.length : Int) ≤ 2000) (hi : Hid (¬ Cu.ix item L < L.length)) :
    Calls Tryd.prog 38 #[.slice A L.length c, .string item] w fun e w' => e = .returned (.tuple #[.string ByteArray.empty, .bool false]) ∧ w' = w := by
  go_enter Tryd.func38, Tryd.ntmps38
  go_wp2_with fail
  (with_reducible refine (rtrace_no L A c item w HS hl hi).mono ?_)
  rintro e w1 ⟨rfl, h⟩
  subst w1
  go_wp2_with fail
  (try simp only [Exit.inBlock, Exit.then])
  exact bodyPost_ret (results_tmp2 rfl _ _ _) rfl ⟨rfl, rfl⟩
theorem rroot_any (L : Ls) (A : Option Addr) (c : Nat) (hc : L.length ≤ c) (item : ByteArray) (w : World) (HS : Hid (SlR w A (lrowL L))) (HO : Hid (Cu.Ord L)) (hl : (L.length : Int) ≤ 2000) (x : Bool) (hx : Hid (x = decide (Cu.ix item L < L.length))) :
    Calls Tryd.prog 38 #[.slice A L.length c, .string item] w fun e w' => e = .returned (.tuple #[.string (Cu.rtS L item), .bool x]) ∧ Below w.heap.size w w' := by
  by_cases h : Cu.ix item L < L.length
  · have e : x = true := by rw [hx.out]; simpa using h
    subst e
    exact rroot_yes L A c hc item w HS HO hl (Lib.hid h)
  · have e : x = false := by rw [hx.out]; simpa using h
    subst e
    rw [Cu.rtS_no (Cu.trc_no h)]
    exact (rroot_no L A c item w HS hl (Lib.hid h)).mono fun e w' ⟨h1, h2⟩ => ⟨h1, by rw [h2]; exact Below.refl _ _⟩
set_option maxRecDepth 100000 in
set_option maxHeartbeats 8000000 in
theorem rkids_yes (L : Ls) (A : Option Addr) (c : Nat) (item : ByteArray) (w : World) (HS : Hid (SlR w A (lrowL L))) (hl : (L.length : Int) ≤ 2000) (q1 : (item.toList == []) = false) :
    Calls Tryd.prog 40 #[.slice A L.length c, .string item] w fun e w' => ∃ v, e = .returned v ∧ w'.ownsRow w.heap.size 9 1 v (Cu.kids L item).length (srow (Cu.kids L item)) ∧ Below w.heap.size w w' := by
  go_enter Tryd.func40, Tryd.ntmps40
  go_wp2_with fail
  go_loopw [5, 6] (fun v i wr => ∃ k : Nat, i = .int .i64 k ∧ k ≤ L.length ∧ Hid (wr.ownsRow w.heap.size 9 1 v (Cu.kids (L.take k) item).length (srow (Cu.kids (L.take k) item))) ∧ Hid (Below w.heap.size w wr)) (fun _ i _ => L.length - (intOf i).toNat)
  case atStart => exact ⟨0, rfl, by omega, World.ownsRow_nil _ _ _ _, Below.refl _ _⟩
  case round =>
    obtain ⟨k, rfl, hk, HR, HB⟩ := hrel
    by_cases h : k < L.length
    · obtain ⟨e, he⟩ : ∃ e, L[k] = e := ⟨_, rfl⟩
      have HEK := Lib.hid he
      clear he
      obtain ⟨bb, off, hA, hbl, p0, p1, -, -, -, -⟩ := (HS.out.below HB.out).link h
      subst hA
      rw [HEK.out] at p0 p1
      have zk : (k : Int) < (L.length : Int) := by omega
      have HS1 := Lib.hid (Cu.kids_succ (s := item) h)
      rw [HEK.out] at HS1
      have HLE := Lib.hid (Nat.le_trans (Cu.kids_length (L.take k) item) (List.length_take_le k L))
      by_cases g : e.pa = item
      · have q := seq_t g
        have HS2 : Hid (Cu.kids (L.take (k + 1)) item = Cu.kids (L.take k) item ++ [e.it]) := by show _ = _; rw [HS1.out, if_pos g]
        clear g HS1
        have hm1 : Hid ((Cu.kids (L.take k) item).length + 1 ≤ maxLen) := by show _ ≤ _; have := HLE.out; unfold maxLen; omega
        have hm2 : Hid (((Cu.kids (L.take k) item).length + 1) * 16 ≤ 140737488355328) := by show _ ≤ _; have := HLE.out; omega
        have HBS := Lib.hid HB.out.size
        go_wp2_with (at_builtin; refine wpList_lies_c rfl (.tmp 24) (.tmp 30) 52 rfl w.heap.size 9 _ 1 16 Tryd.underlying52 infoStr rfl (by decide) u5 (Cu.kids (L.take k) item).length (srow (Cu.kids (L.take k) item)) (by rfl) (row_below HR.out ((Below.refl wr.heap.size wr).alloc (Nat.le_refl _) _)) ⟨wr.heap.size, 0, none⟩ 1 1 [.string e.it] (by rfl) rfl (World.news_of_block (Blk.new _ _ _)) (by intro u hu; simp at hu; subst hu; rfl) (by decide) hm1.out hm2.out (Nat.le_trans HBS.out (by simp)) ?_)
        intro g5 cap5 w5 hown hgrow hgv
        have HR5 : Hid (w5.ownsRow w.heap.size 9 1 (.slice (some ⟨g5, 0, none⟩) ((Cu.kids (L.take k) item).length + 1) cap5) (Cu.kids (L.take (k + 1)) item).length (srow (Cu.kids (L.take (k + 1)) item))) := by
          show World.ownsRow _ _ _ _ _ _ _
          rw [HS2.out, srow_snoc, List.length_append]
          exact hown
        have HB5 : Hid (Below w.heap.size w w5) := (HB.out.alloc HB.out.size _).grown hgrow (HB.out.alloc HB.out.size _).size (fun j hj => (HR.out.lt j hj).1)
        clear hown hgrow hgv
        go_wp2_with fail
        go_roundw
        case rel => exact ⟨k + 1, by go_num, by omega, HR5, HB5⟩
        case measure => simp [intOf]; omega
      · have q := seq_f g
        have HR2 : Hid (wr.ownsRow w.heap.size 9 1 u5 (Cu.kids (L.take (k + 1)) item).length (srow (Cu.kids (L.take (k + 1)) item))) := by
          show World.ownsRow _ _ _ _ _ _ _
          rw [HS1.out, if_neg g, List.append_nil]
          exact HR.out
        clear g
        go_wp2_with fail
        go_roundw
        case rel => exact ⟨k + 1, by go_num, by omega, HR2, HB⟩
        case measure => simp [intOf]; omega
    · have hE : L.take k = L := List.take_of_length_le (by omega)
      rw [hE] at HR
      have zk : (L.length : Int) ≤ (k : Int) := by omega
      clear hE
      go_wp2_with fail
      go_ret
      exact ⟨u5, rfl, HR.out, HB.out⟩
set_option maxRecDepth 100000 in
set_option maxHeartbeats 8000000 in
theorem rkids_no (L : Ls) (A : Option Addr) (c : Nat) (w : World) (hl : (L.length : Int) ≤ 2000) :
    Calls Tryd.prog 40 #[.slice A L.length c, .string ByteArray.empty] w fun e w' => e = .returned (.slice none 0 0) ∧ w' = w := by
  go_enter Tryd.func40, Tryd.ntmps40
  go_wp2_with fail
  go_loopw [5, 6] (fun v i wr => ∃ k : Nat, v = .slice none 0 0 ∧ i = .int .i64 k ∧ k ≤ L.length ∧ wr = w) (fun _ i _ => L.length - (intOf i).toNat)
  case atStart => exact ⟨0, rfl, rfl, by omega, rfl⟩
  case round =>
    obtain ⟨k, rfl, rfl, hk, hw⟩ := hrel
    subst wr
    by_cases h : k < L.length
    · have zk : (k : Int) < (L.length : Int) := by omega
      go_wp2_with fail
      go_roundw
      case rel => exact ⟨k + 1, rfl, by go_num, by omega, trivial⟩
      case measure => simp [intOf]; omega
    · have zk : (L.length : Int) ≤ (k : Int) := by omega
      go_wp2_with fail
      go_ret
      exact ⟨rfl, rfl⟩
theorem rkids_any (L : Ls) (A : Option Addr) (c : Nat) (item : ByteArray) (w : World) (HS : Hid (SlR w A (lrowL L))) (hl : (L.length : Int) ≤ 2000) :
    Calls Tryd.prog 40 #[.slice A L.length c, .string item] w fun e w' => ∃ v, e = .returned v ∧ w'.ownsRow w.heap.size 9 1 v (Cu.chl L item).length (srow (Cu.chl L item)) ∧ Below w.heap.size w w' := by
  unfold Cu.chl
  by_cases h : item = ByteArray.empty
  · subst h
    rw [if_pos rfl]
    exact (rkids_no L A c w hl).mono fun e w' ⟨h1, h2⟩ => ⟨_, h1, World.ownsRow_nil _ _ _ _, by rw [h2]; exact Below.refl _ _⟩
  · rw [if_neg h]
    exact rkids_yes L A c item w HS hl (pa_some h).1
set_option maxHeartbeats 4000000 in
theorem same_links (A A' : Option Addr) (c c' : Nat) (L : Ls) (w : World) (HS : Hid (SlR w A (lrowL L))) (HS' : Hid (SlR w A' (lrowL L))) (hl : (L.length : Int) ≤ 2000) :
    Calls Tryd.prog 31 #[.slice A L.length c, .slice A' L.length c'] w fun e w' => e = .returned (.bool true) ∧ Below w.heap.size w w' := by
  go_enter Tryd.func31, Tryd.ntmps31
  go_wp2_with fail
  go_loopw [5] (fun i wr => ∃ k : Nat, i = .int .i64 k ∧ k ≤ L.length ∧ Below w.heap.size w wr) (fun i _ => L.length - (intOf i).toNat)
  case atStart => exact ⟨0, rfl, by omega, Below.refl _ _⟩
  case round =>
    obtain ⟨k, rfl, hk, hB⟩ := hrel
    by_cases hlt : k < L.length
    · obtain ⟨b, off, rfl, hb, c0, c1, c2, c3, c4, c5⟩ := (HS.out.below hB).link hlt
      obtain ⟨b', off', rfl, hb', d0, d1, d2, d3, d4, d5⟩ := (HS'.out.below hB).link hlt
      have zk : (k : Int) < (L.length : Int) := by omega
      go_wp2_with fail
      go_quiet (fail)
      go_wp2_with fail
      go_roundw
      case rel => exact ⟨k + 1, by go_num, by omega, below_drewN hB _⟩
      case measure => simp [intOf]; omega
    · go_wp2_with fail
      go_ret
      exact ⟨rfl, hB⟩
theorem SlR.str {w : World} {A : Option Addr} {l : List ByteArray} (h : SlR w A (srow l)) {i : Nat} (hi : i < l.length) : ∃ b off, A = some ⟨b, off, none⟩ ∧ b < w.heap.size ∧ w.cell? ⟨b, off + i, none⟩ = some (.string l[i]) := by
  have hl : (srow l).length = l.length := by simp [srow]
  obtain ⟨b, off, e, hb, hc⟩ := h (by omega)
  refine ⟨b, off, e, hb, ?_⟩
  rw [hc i (by omega)]
  simp [srow]
set_option maxHeartbeats 4000000 in
theorem same_strs (A A' : Option Addr) (c c' : Nat) (L : List ByteArray) (w : World) (HS : Hid (SlR w A (srow L))) (HS' : Hid (SlR w A' (srow L))) (hl : (L.length : Int) ≤ 2000) :
    Calls Tryd.prog 39 #[.slice A L.length c, .slice A' L.length c'] w fun e w' => e = .returned (.bool true) ∧ Below w.heap.size w w' := by
  go_enter Tryd.func39, Tryd.ntmps39
  go_wp2_with fail
  go_loopw [5] (fun i wr => ∃ k : Nat, i = .int .i64 k ∧ k ≤ L.length ∧ Below w.heap.size w wr) (fun i _ => L.length - (intOf i).toNat)
  case atStart => exact ⟨0, rfl, by omega, Below.refl _ _⟩
  case round =>
    obtain ⟨k, rfl, hk, hB⟩ := hrel
    by_cases hlt : k < L.length
    · obtain ⟨b, off, rfl, hb, c0⟩ := (HS.out.below hB).str hlt
      obtain ⟨b', off', rfl, hb', d0⟩ := (HS'.out.below hB).str hlt
      have zk : (k : Int) < (L.length : Int) := by omega
      go_wp2_with fail
      go_quiet (fail)
      go_wp2_with fail
      go_roundw
      case rel => exact ⟨k + 1, by go_num, by omega, below_drewN hB _⟩
      case measure => simp [intOf]; omega
    · go_wp2_with fail
      go_ret
      exact ⟨rfl, hB⟩
end Go.Proofs.YtpimmdmcmccbpaaDoor
