/- The reference of custody: Verify. -/
import Derived.Test.YtpimmdmcmccbpaaDoorET
namespace Go.Proofs.YtpimmdmcmccbpaaDoor
open Go.RowKit
set_option linter.unusedVariables false
open Cu (Lk Ls)
theorem rcan_n (L : Ls) (A : Option Addr) (n c : Nat) (hn : Hid (L.length = n)) (it pa : ByteArray) (ti vo : Int) (sp : ByteArray) (ha : Int) (hf : Hid (Fit_ ⟨it, pa, ti, vo, sp, ha⟩)) (E : Int) (HE : Hid (Cu.chE L ⟨it, pa, ti, vo, sp, ha⟩ = E)) (w : World) (HS : Hid (SlR w A (lrowL L))) (HG : Hid (Cu.Good L)) :
    Calls Tryd.prog 52 #[.slice A n c, .agg #[.string it, .string pa, .int .i64 ti, .int .i64 vo, .string sp, .int .u64 ha]] w fun e w' => e = .returned (.int .i64 E) ∧ Below w.heap.size w w' := by
  have h := hn.out
  subst h
  exact rcan_eq L A c it pa ti vo sp ha hf E HE w HS HG
theorem rafter_n (L : Ls) (A : Option Addr) (n c : Nat) (hn : Hid (L.length = n)) (it pa : ByteArray) (ti vo : Int) (sp : ByteArray) (ha : Int) (hf : Hid (Fit_ ⟨it, pa, ti, vo, sp, ha⟩)) (w : World) (HS : Hid (SlR w A (lrowL L))) (HG : Hid (Cu.Good L)) (X : Int) (HX : Hid (Cu.hsV L ⟨it, pa, ti, vo, sp, ha⟩ = X)) :
    Calls Tryd.prog 36 #[.slice A n c, .agg #[.string it, .string pa, .int .i64 ti, .int .i64 vo, .string sp, .int .u64 ha]] w fun e w' => e = .returned (.int .u64 X) ∧ Below w.heap.size w w' := by
  have h := hn.out
  subst h
  exact rafter_any L A c it pa ti vo sp ha hf w HS HG X HX
/-- Where the reference's Verify stands. -/
structure RvI (w wr : World) (l : Ls) (k : Nat) : Prop where
  bel : Below w.heap.size w wr
  good : Cu.Good (l.take k)
  ans : Cu.vfy [] l 0 = Cu.vfy (l.take k) (l.drop k) k
theorem RvI.next {w wr w1 : World} {l : Ls} {k : Nat} (h : RvI w wr l k) (hk : k < l.length) (hb : Below wr.heap.size wr w1) (hc : Cu.chE (l.take k) l[k] = 0) (hh : (l[k]).ha = Cu.hsV (l.take k) l[k]) : RvI w w1 l (k + 1) := by
  refine ⟨below_old h.bel hb, ?_, ?_⟩
  · rw [List.take_succ_eq_append_getElem hk]; exact .snoc h.good (Cu.can_of hc) hh
  · rw [h.ans, Cu.vfy_drop hk, if_pos hc, if_pos hh]
set_option maxRecDepth 100000 in
set_option maxHeartbeats 8000000 in
theorem rverify_any (l : Ls) (A : Option Addr) (c : Nat) (hc : l.length ≤ c) (w : World) (HS : Hid (SlR w A (lrowL l))) (HF : Hid (∀ e ∈ l, Fit_ e)) (hl : (l.length : Int) ≤ 2000) :
    Calls Tryd.prog 33 #[.slice A l.length c] w fun e w' => e = .returned (.tuple #[.int .i64 (Cu.vfy [] l 0).1, .int .i64 (Cu.vfy [] l 0).2]) ∧ Below w.heap.size w w' := by
  go_enter Tryd.func33, Tryd.ntmps33
  go_wp2_with fail
  go_loopw [4] (fun i wr => ∃ (k : Nat), i = .int .i64 k ∧ k ≤ l.length ∧ Hid (RvI w wr l k)) (fun i _ => l.length - (intOf i).toNat)
  case atStart => exact ⟨0, rfl, by omega, ⟨Below.refl _ _, .nil, rfl⟩⟩
  case round =>
    obtain ⟨k, rfl, hk, HI⟩ := hrel
    by_cases h : k < l.length
    · obtain ⟨⟨it, pa, ti, vo, sp, ha⟩, he⟩ : ∃ e, l[k] = e := ⟨_, rfl⟩
      have HEK := Lib.hid he
      have HFK : Hid (Fit_ ⟨it, pa, ti, vo, sp, ha⟩) := by show Fit_ _; rw [← he]; exact HF.out _ (List.getElem_mem h)
      clear he
      have HLN : Hid ((l.take k).length = k) := by show _ = _; rw [List.length_take]; omega
      have HSr := Lib.hid (HS.out.below HI.out.bel)
      obtain ⟨bb, off, hA, hbl, -⟩ := HSr.out.link h
      subst hA
      have zk : (k : Int) < (l.length : Int) := by omega
      have zc : (k : Int) ≤ (c : Int) := by omega
      have HG := Lib.hid HI.out.good
      have HVD := Lib.hid (HI.out.ans.trans (Cu.vfy_drop h))
      rw [HEK.out] at HVD
      obtain ⟨E, hE⟩ : ∃ E, Cu.chE (l.take k) ⟨it, pa, ti, vo, sp, ha⟩ = E := ⟨_, rfl⟩
      have HE := Lib.hid hE
      clear hE
      obtain ⟨H, hH⟩ : ∃ H, Cu.hsV (l.take k) ⟨it, pa, ti, vo, sp, ha⟩ = H := ⟨_, rfl⟩
      have HH := Lib.hid hH
      clear hH
      have HCL : Hid (∀ w', Below wr.heap.size wr w' → w'.cell? ⟨bb, off + k * 6, none⟩ = some (.string it) ∧ w'.cell? ⟨bb, off + k * 6 + 1, none⟩ = some (.string pa) ∧ w'.cell? ⟨bb, off + k * 6 + 2, none⟩ = some (.int .i64 ti) ∧ w'.cell? ⟨bb, off + k * 6 + 3, none⟩ = some (.int .i64 vo) ∧ w'.cell? ⟨bb, off + k * 6 + 4, none⟩ = some (.string sp) ∧ w'.cell? ⟨bb, off + k * 6 + 5, none⟩ = some (.int .u64 ha)) := fun w' hb => by
        obtain ⟨b', o', e1, -, e2⟩ := (HSr.out.below hb).link h
        simp only [Option.some.injEq, Addr.mk.injEq, and_true] at e1
        obtain ⟨rfl, rfl⟩ := e1
        rw [HEK.out] at e2
        exact e2
      have HST : Hid (∀ w', Below wr.heap.size wr w' → SlR w' (some ⟨bb, off, none⟩) (lrowL (l.take k))) := fun w' hb => (HSr.out.take k).below hb
      go_wp2_with fail
      have y0 := fun u => HCL.out _ (wx_below wr u)
      refine wp_region_grows (by kernel_rfl) (by kernel_rfl) ?_
      repeat (go_big_quiet_step ((go_at_call 52; (with_reducible exact calls_grows (rcan_n (l.take k) _ k c HLN it pa ti vo sp ha HFK E HE _ (Lib.hid (HST.out _ (wx_below wr _))) HG)))))
      refine wpQuiet_nil ?_
      rintro _ ⟨u, rfl⟩
      have HB1 := Lib.hid (wx_below wr u)
      clear y0
      generalize wx wr u = w1 at *
      by_cases hz : E = 0
      · subst hz
        go_wp2_with fail
        have y0 := fun u => HCL.out _ (below_old HB1.out (wx_below w1 u))
        refine wp_region_grows (by kernel_rfl) (by kernel_rfl) ?_
        repeat (go_big_quiet_step ((go_at_call 36; (with_reducible exact calls_grows (rafter_n (l.take k) _ k c HLN it pa ti vo sp ha HFK _ (Lib.hid (HST.out _ (below_old HB1.out (wx_below w1 _)))) HG H HH)))))
        refine wpQuiet_nil ?_
        rintro _ ⟨u, rfl⟩
        have HB2 := Lib.hid (below_old HB1.out (wx_below w1 u))
        clear y0
        generalize wx w1 u = w2 at *
        by_cases hh : ha = H
        · have hq : (ha == H) = true := by simpa using hh
          have HN := Lib.hid (HI.out.next h HB2.out (by rw [HEK.out]; exact HE.out) (by rw [HEK.out]; exact hh.trans HH.out.symm))
          clear hh
          go_wp2_with fail
          go_roundw
          case rel => exact ⟨k + 1, by go_num, by omega, HN⟩
          case measure => simp [intOf]; omega
        · have hq : (ha == H) = false := by simpa using hh
          have HVE : Hid (Cu.vfy [] l 0 = ((k : Int), 29)) := by show _ = _; rw [HVD.out, HE.out, if_pos rfl, HH.out, if_neg hh]
          clear hh
          go_wp2_with fail
          (try simp only [Exit.inBlock, Exit.then])
          exact bodyPost_ret (results_tmp2 rfl _ _ _) rfl ⟨by rw [HVE.out]; rfl, below_old HI.out.bel HB2.out⟩
      · have hz2 : (E == 0) = false := by simpa using hz
        have HVE : Hid (Cu.vfy [] l 0 = ((k : Int), E)) := by show _ = _; rw [HVD.out, HE.out, if_neg hz]
        go_wp2_with fail
        (try simp only [Exit.inBlock, Exit.then])
        exact bodyPost_ret (results_tmp2 rfl _ _ _) rfl ⟨by rw [HVE.out]; rfl, below_old HI.out.bel HB1.out⟩
    · have HE := Lib.hid (HI.out.ans.trans (Cu.vfy_end (by omega)))
      have zk : (l.length : Int) ≤ (k : Int) := by omega
      go_wp2_with fail
      (try simp only [Exit.inBlock, Exit.then])
      exact bodyPost_ret (results_tmp2 rfl _ _ _) rfl ⟨by rw [HE.out]; rfl, HI.out.bel⟩
end Go.Proofs.YtpimmdmcmccbpaaDoor
