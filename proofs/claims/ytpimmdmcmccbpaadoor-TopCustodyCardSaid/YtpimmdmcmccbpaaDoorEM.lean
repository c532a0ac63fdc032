/- custody: Verify. -/
import Derived.Test.YtpimmdmcmccbpaaDoorGG
namespace Go.Proofs.YtpimmdmcmccbpaaDoor
open Go.RowKit
set_option linter.unusedVariables false
open Cu (Lk Ls)
open Classical in
/-- What Verify answers for links behind good ones. -/
noncomputable def Cu.vfy (D : Ls) : Ls → Nat → Int × Int
  | [], _ => (-1, 0)
  | x :: r, i => if Cu.chE D x = 0 then (if x.ha = Cu.hsV D x then Cu.vfy (D ++ [x]) r (i + 1) else (i, 29)) else (i, Cu.chE D x)
theorem Cu.vfy_drop {l : Ls} {k : Nat} (h : k < l.length) : Cu.vfy (l.take k) (l.drop k) k = if Cu.chE (l.take k) l[k] = 0 then (if (l[k]).ha = Cu.hsV (l.take k) l[k] then Cu.vfy (l.take (k + 1)) (l.drop (k + 1)) (k + 1) else (k, 29)) else (k, Cu.chE (l.take k) l[k]) := by
  rw [List.drop_eq_getElem_cons h, Cu.vfy, List.take_succ_eq_append_getElem h]
theorem Cu.vfy_end {l : Ls} {k : Nat} (h : l.length ≤ k) : Cu.vfy (l.take k) (l.drop k) k = (-1, 0) := by
  rw [List.drop_eq_nil_of_le h, Cu.vfy]
/-- Where Verify stands. -/
structure VfI (w wr : World) (l : Ls) (k : Nat) (v : Value) : Prop where
  c : CReg wr w.heap.size (w.heap.size + 2) (l.take k) v w.heap.size (w.heap.size + 1)
  bel : Below w.heap.size w wr
  good : Cu.Good (l.take k)
  ans : Cu.vfy [] l 0 = Cu.vfy (l.take k) (l.drop k) k
theorem VfI.start (w : World) (l : Ls) : VfI w (((w.alloc (.map #[] 0)).alloc (.map #[] 0)).alloc (.cells #[.slice none 0 0, .map (some w.heap.size), .map (some (w.heap.size + 1))] 82)) l 0 (.slice none 0 0) :=
  ⟨CReg.new w, (((Below.refl w.heap.size w).alloc (Nat.le_refl _) _).alloc (by simp) _).alloc (by simp; omega) _, .nil, rfl⟩
theorem VfI.next {w wr w1 w2 : World} {l : Ls} {k : Nat} {v : Value} (h : VfI w wr l k v) (hk : k < l.length) (hb : Below wr.heap.size wr w1) (hc : Cu.chE (l.take k) l[k] = 0) (hh : (l[k]).ha = Cu.hsV (l.take k) l[k]) (hr : Rec w1 w2 w.heap.size (w.heap.size + 2) (l.take k ++ [l[k]]) v w.heap.size (w.heap.size + 1)) : ∃ v', VfI w w2 l (k + 1) v' := by
  obtain ⟨v', h1, h2, h3⟩ := hr
  refine ⟨v', ?_, ?_, ?_, ?_⟩
  · rw [List.take_succ_eq_append_getElem hk]; exact h1
  · have hb1 := below_old h.bel hb
    have h4 := (h.c.below hb)
    exact hb1.trans (h2.below (Nat.le_trans hb1.size (Nat.le_refl _)) (fun j hj => (h4.cs_lt hj).1))
  · rw [List.take_succ_eq_append_getElem hk]; exact .snoc h.good (Cu.can_of hc) hh
  · rw [h.ans, Cu.vfy_drop hk, if_pos hc, if_pos hh]
set_option maxRecDepth 100000 in
set_option maxHeartbeats 8000000 in
theorem verify_any (l : Ls) (A : Option Addr) (c : Nat) (w : World) (HS : Hid (SlR w A (lrowL l))) (HF : Hid (∀ e ∈ l, Fit_ e)) (hl : (l.length : Int) ≤ 2000) (HT : Hid (TabOk w)) :
    Calls Tryd.prog 19 #[.slice A l.length c] w fun e w' => e = .returned (.tuple #[.int .i64 (Cu.vfy [] l 0).1, .int .i64 (Cu.vfy [] l 0).2]) ∧ Below w.heap.size w w' := by
  go_enter Tryd.func19, Tryd.ntmps19
  go_wp2_with fail
  (with_reducible refine (cnew_any _).mono ?_)
  rintro e w0 ⟨rfl, hw⟩
  have HV := Lib.hid (VfI.start w l)
  rw [← hw] at HV
  clear hw
  go_wp2_with fail
  go_loopw [11] (fun i wr => ∃ (k : Nat) (v : Value), i = .int .i64 k ∧ k ≤ l.length ∧ Hid (VfI w wr l k v)) (fun i _ => l.length - (intOf i).toNat)
  case atStart => exact ⟨0, _, rfl, by omega, HV⟩
  case round =>
    clear HV
    obtain ⟨k, v, rfl, hk, HI⟩ := hrel
    by_cases h : k < l.length
    · obtain ⟨⟨it, pa, ti, vo, sp, ha⟩, he⟩ : ∃ e, l[k] = e := ⟨_, rfl⟩
      have HEK := Lib.hid he
      have HFK : Hid (Fit_ ⟨it, pa, ti, vo, sp, ha⟩) := by show Fit_ _; rw [← he]; exact HF.out _ (List.getElem_mem h)
      clear he
      obtain ⟨bb, off, hA, hbl, p0, p1, p2, p3, p4, p5⟩ := (HS.out.below HI.out.bel).link h
      subst hA
      rw [HEK.out] at p0 p1 p2 p3 p4 p5
      simp only at p0 p1 p2 p3 p4 p5
      have zk : (k : Int) < (l.length : Int) := by omega
      have HC0 := Lib.hid (CkW.new HI.out.c ⟨it, pa, ti, vo, sp, ha⟩)
      have HG := Lib.hid HI.out.good
      have HVD := Lib.hid (HI.out.ans.trans (Cu.vfy_drop h))
      rw [HEK.out] at HVD
      obtain ⟨E, hE⟩ : ∃ E, Cu.chE (l.take k) ⟨it, pa, ti, vo, sp, ha⟩ = E := ⟨_, rfl⟩
      have HE := Lib.hid hE
      clear hE
      go_wp2_with fail
      (with_reducible refine (check_eq it pa ti vo sp ha HFK _ (Lib.hid HC0.out.c) HG E HE).mono ?_)
      rintro e w1 ⟨rfl, hb⟩
      have HK1 := Lib.hid (HC0.out.below hb)
      clear hb HC0 p0 p1 p2 p3 p4 p5
      by_cases hz : E = 0
      · subst hz
        obtain ⟨H, hH⟩ : ∃ H, Cu.hsV (l.take k) ⟨it, pa, ti, vo, sp, ha⟩ = H := ⟨_, rfl⟩
        have HH := Lib.hid hH
        clear hH
        have HT1 : Hid (TabOk w1) := HT.out.below (below_old HI.out.bel HK1.out.bel)
        go_wp2_with fail
        have z0 := fun u => (HK1.out.below (wx_below w1 u)).b.cells
        simp only at z0
        refine wp_region_grows (by kernel_rfl) (by kernel_rfl) ?_
        repeat (go_big_quiet_step ((go_at_call 43; (with_reducible exact calls_grows (chash_eq it pa ti vo sp ha HFK _ (Lib.hid (HK1.out.below (wx_below w1 _)).c) (Lib.hid (HT1.out.below (wx_below w1 _))) HG H HH)))))
        refine wpQuiet_nil ?_
        rintro _ ⟨u, rfl⟩
        have HK2 := Lib.hid (HK1.out.below (wx_below w1 u))
        clear z0 HK1 HT1
        generalize wx w1 u = w2 at *
        obtain ⟨z0, z1, z2, z3, z4, z5⟩ := HK2.out.b.cells
        simp only at z0 z1 z2 z3 z4 z5
        by_cases hh : ha = H
        · have hq : (ha == H) = true := by simpa using hh
          have HHH : Hid (ha = H) := hh
          clear hh
          have HCAN : Hid (Cu.Can (l.take k) ⟨it, pa, ti, vo, sp, ha⟩) := Cu.can_of HE.out
          go_wp2_with fail
          (with_reducible refine (record_any it pa ti vo sp ha HFK.out _ (Lib.hid HK2.out.c) HG.out.mild HCAN.out).mono ?_)
          rintro e w4 ⟨rfl, hrec⟩
          have HN : Hid (∃ v', VfI w w4 l (k + 1) v') := HI.out.next h HK2.out.bel (by rw [HEK.out]; exact HE.out) (by rw [HEK.out]; exact HHH.out.trans HH.out.symm) (by rw [HEK.out]; exact hrec)
          clear hrec z0 z1 z2 z3 z4 z5
          obtain ⟨v', hN⟩ := HN.out
          have HN' := Lib.hid hN
          clear hN
          go_wp2_with fail
          go_roundw
          case rel => exact ⟨k + 1, v', by go_num, by omega, HN'⟩
          case measure => simp [intOf]; omega
        · have hq : (ha == H) = false := by simpa using hh
          have HVE : Hid (Cu.vfy [] l 0 = ((k : Int), 29)) := by show _ = _; rw [HVD.out, HE.out, if_pos rfl, HH.out, if_neg hh]
          clear hh
          go_wp2_with fail
          (try simp only [Exit.inBlock, Exit.then])
          exact bodyPost_ret (results_tmp2 rfl _ _ _) rfl ⟨by rw [HVE.out]; rfl, below_old HI.out.bel HK2.out.bel⟩
      · have hz2 : (E == 0) = false := by simpa using hz
        have HVE : Hid (Cu.vfy [] l 0 = ((k : Int), E)) := by show _ = _; rw [HVD.out, HE.out, if_neg hz]
        go_wp2_with fail
        (try simp only [Exit.inBlock, Exit.then])
        exact bodyPost_ret (results_tmp2 rfl _ _ _) rfl ⟨by rw [HVE.out]; rfl, below_old HI.out.bel HK1.out.bel⟩
    · have HE := Lib.hid (HI.out.ans.trans (Cu.vfy_end (by omega)))
      have zk : (l.length : Int) ≤ (k : Int) := by omega
      go_wp2_with fail
      (try simp only [Exit.inBlock, Exit.then])
      exact bodyPost_ret (results_tmp2 rfl _ _ _) rfl ⟨by rw [HE.out]; rfl, HI.out.bel⟩
end Go.Proofs.YtpimmdmcmccbpaaDoor
