/- custody: Trace. -/
import Derived.Test.YtpimmdmcmccbpaaDoorGF
namespace Go.Proofs.YtpimmdmcmccbpaaDoor
open Go.RowKit
set_option linter.unusedVariables false
open Cu (Lk Ls)
def trM (ok i : Value) : Nat := match ok with | .bool true => (intOf i).toNat + 1 | _ => 0
/-- Where the walk of Trace stands. -/
structure TrI (w wr : World) (L : Ls) (item s : ByteArray) (T : Ls) (v : Value) (k : Nat) (b : Bool) : Prop where
  row : wr.ownsRow w.heap.size 36 6 v T.length (lrowL T)
  bel : Below w.heap.size w wr
  all : T ++ Cu.trc L s = Cu.trc L item
  yes : b = true → Cu.ix s L < L.length ∧ k = Cu.ix s L
  no : b = false → ¬ Cu.ix s L < L.length ∧ k = 0
theorem f1_pair {w : World} {b n : Nat} {L : Ls} (h : MapIs w b n (f1 L)) (s : ByteArray) (hs : s.size ≤ maxLen) (k : Nat) (x : Bool) (h1 : x = true → Cu.ix s L < L.length ∧ k = Cu.ix s L) (h2 : x = false → ¬ Cu.ix s L < L.length ∧ k = 0) :
    (Instr.lookup 80 (.map (some b)) (.string s) true).run Tryd.prog w = .ok (.tuple #[.int .i64 k, .bool x]) w := by
  have := h.look s hs
  cases x with
  | true => obtain ⟨g, rfl⟩ := h1 rfl; rw [f1_yes g] at this; exact this
  | false => obtain ⟨g, rfl⟩ := h2 rfl; rw [f1_no g] at this; exact this
theorem ix_case (L : Ls) (s : ByteArray) : ∃ (k : Nat) (x : Bool), (x = true → Cu.ix s L < L.length ∧ k = Cu.ix s L) ∧ (x = false → ¬ Cu.ix s L < L.length ∧ k = 0) ∧ k ≤ L.length := by
  by_cases g : Cu.ix s L < L.length
  · exact ⟨_, true, fun _ => ⟨g, rfl⟩, fun h => (by cases h), by omega⟩
  · exact ⟨0, false, fun h => (by cases h), fun _ => ⟨g, rfl⟩, by omega⟩
theorem TrI.step {w wr w5 w6 : World} {L : Ls} {item s : ByteArray} {T : Ls} {v v' : Value} {k k' : Nat} {b' : Bool} {o : Obj} (HO : Cu.Ord L) (h : TrI w wr L item s T v k true) (hk : k < L.length) (hg : (wr.alloc o).grownBy w5 v.ownBlock) (ho : w5.ownsRow w.heap.size 36 6 v' (T.length + 1) (lrowL T ++ lcells L[k])) (h6 : Below w5.heap.size w5 w6)
    (h1 : b' = true → Cu.ix (L[k]).pa L < L.length ∧ k' = Cu.ix (L[k]).pa L) (h2 : b' = false → ¬ Cu.ix (L[k]).pa L < L.length ∧ k' = 0) : TrI w w6 L item (L[k]).pa (T ++ [L[k]]) v' k' b' := by
  have hb5 : Below w.heap.size w w5 := (h.bel.alloc h.bel.size o).grown hg (Nat.le_trans h.bel.size (by simp)) (fun j hj => (h.row.lt j hj).1)
  obtain ⟨y1, y2⟩ := h.yes rfl
  refine ⟨?_, below_old hb5 h6, ?_, h1, h2⟩
  · rw [List.length_append, lrowL_snoc]
    exact row_below ho h6
  · have e := h.all
    rw [HO.trc_yes y1] at e
    subst y2
    rw [← e]
    simp
theorem TrI.bel5 {w wr w5 : World} {L : Ls} {item s : ByteArray} {T : Ls} {v : Value} {k : Nat} {b : Bool} {o : Obj} (h : TrI w wr L item s T v k b) (hg : (wr.alloc o).grownBy w5 v.ownBlock) : Below w.heap.size w w5 := (h.bel.alloc h.bel.size o).grown hg (Nat.le_trans h.bel.size (by simp)) (fun j hj => (h.row.lt j hj).1)
theorem TrI.len {w wr : World} {L : Ls} {item s : ByteArray} {T : Ls} {v : Value} {k : Nat} {b : Bool} (h : TrI w wr L item s T v k b) : T.length ≤ L.length := by
  have e := congrArg List.length h.all
  rw [List.length_append] at e
  have := Cu.trc_length L item
  omega
set_option maxRecDepth 100000 in
set_option maxHeartbeats 8000000 in
theorem trace_yes {B r : Nat} {L : Ls} {A : Option Addr} {c : Nat} {b1 b2 : Nat} (item : ByteArray) (his : (item.size : Int) ≤ 1000) (w : World) (HC : Hid (CReg w B r L (.slice A L.length c) b1 b2)) (HO : Hid (Cu.Ord L)) (HP : Hid (∀ e ∈ L, (e.pa.size : Int) ≤ 1000)) (hl : (L.length : Int) ≤ 2000) (hi : Hid (Cu.ix item L < L.length)) :
    Calls Tryd.prog 25 #[.pointer (some ⟨r, 0, none⟩), .string item] w fun e w' => ∃ v, e = .returned (.tuple #[v, .int .i64 0]) ∧ w'.ownsRow w.heap.size 36 6 v (Cu.trc L item).length (lrowL (Cu.trc L item)) ∧ Below w.heap.size w w' := by
  have him : item.size ≤ maxLen := by unfold maxLen; omega
  obtain ⟨k0, hk0⟩ : ∃ k, k = Cu.ix item L := ⟨_, rfl⟩
  have HK0 : Hid (k0 = Cu.ix item L) := hk0
  clear hk0
  obtain ⟨bb, off, hA, hbl, -⟩ := (row_slr HC.out.row _ _ rfl).link hi.out
  subst hA
  have c1 := HC.out.c1
  have hlk := f1_pair HC.out.m1 item him k0 true (fun _ => ⟨hi.out, HK0.out⟩) (fun h => by cases h)
  go_enter Tryd.func25, Tryd.ntmps25
  go_wp2_with fail
  go_loopw [6, 7, 8] (fun i ok v wr => ∃ (T : Ls) (s : ByteArray) (k : Nat) (b : Bool), i = .int .i64 k ∧ ok = .bool b ∧ Hid (TrI w wr L item s T v k b)) (fun i ok _ _ => trM ok i)
  case atStart => exact ⟨[], item, k0, true, rfl, rfl, World.ownsRow_nil _ _ _ _, Below.refl _ _, rfl, fun _ => ⟨hi.out, HK0.out⟩, fun h => by cases h⟩
  case round =>
    obtain ⟨T, s, k, b, rfl, rfl, HI⟩ := hrel
    clear c1 hlk HK0
    cases b with
    | true =>
      obtain ⟨hix, hk⟩ := HI.out.yes rfl
      have hkl : k < L.length := by omega
      have zk : (k : Int) < (L.length : Int) := by omega
      have HT := Lib.hid HI.out.len
      clear hix hk
      have HCr := Lib.hid (HC.out.below HI.out.bel)
      obtain ⟨e, he⟩ : ∃ e, L[k] = e := ⟨_, rfl⟩
      have HEK := Lib.hid he
      have hpm : e.pa.size ≤ maxLen := by have := HP.out L[k] (List.getElem_mem hkl); rw [he] at this; unfold maxLen; omega
      clear he
      obtain ⟨bb', off', hA', hbl', p0, p1, p2, p3, p4, p5⟩ := (row_slr HCr.out.row _ _ rfl).link hkl
      simp only [Option.some.injEq, Addr.mk.injEq, and_true] at hA'
      obtain ⟨rfl, rfl⟩ := hA'
      rw [HEK.out] at p0 p1 p2 p3 p4 p5
      have r0 := HCr.out.c0
      have hm1 : Hid (T.length + 1 ≤ maxLen) := by show _ ≤ _; have := HT.out; unfold maxLen; omega
      have hm2 : Hid ((T.length + 1) * 72 ≤ 140737488355328) := by show _ ≤ _; have := HT.out; omega
      have HBS := Lib.hid HI.out.bel.size
      go_wp2_with (at_builtin; refine wpList_lies_c rfl (.tmp 23) (.tmp 31) 33 rfl w.heap.size 36 _ 6 72 Tryd.underlying33 infoLk rfl (by decide) u8 T.length (lrowL T) (by rfl) (row_below HI.out.row ((Below.refl _ _).alloc (Nat.le_refl _) _)) ⟨wr.heap.size, 0, none⟩ 1 1 (lcells e) (by rfl) rfl (World.news_of_block (Blk.new _ _ _)) (lcells_one e) (by decide) hm1.out hm2.out (Nat.le_trans HBS.out (by simp)) ?_)
      intro g5 cap5 w5 hown hgrow hgv
      have HC5 := Lib.hid (HC.out.below (HI.out.bel5 hgrow))
      have HOW := Lib.hid hown
      have HGR := Lib.hid hgrow
      clear hown hgrow hgv p0 p1 p2 p3 p4 p5 r0 HCr hbl'
      obtain ⟨k', x', h1, h2, hk'⟩ := ix_case L e.pa
      have H1 := Lib.hid h1
      have H2 := Lib.hid h2
      clear h1 h2
      obtain ⟨bb', off', hA', hbl', p0, p1, p2, p3, p4, p5⟩ := (row_slr HC5.out.row _ _ rfl).link hkl
      simp only [Option.some.injEq, Addr.mk.injEq, and_true] at hA'
      obtain ⟨rfl, rfl⟩ := hA'
      rw [HEK.out] at p1
      have r0 := HC5.out.c0
      have r1 := HC5.out.c1
      have hlk : ∀ n, (Instr.lookup 80 (.map (some b1)) (.string e.pa) true).run Tryd.prog (w5.drewN n) = .ok (.tuple #[.int .i64 k', .bool x']) (w5.drewN n) := fun n =>
        f1_pair (HC5.out.m1.below (below_drewN (Below.refl _ _) n)) e.pa hpm k' x' H1.out H2.out
      clear p0 p2 p3 p4 p5
      go_wp2_with fail
      go_quiet (fail)
      have HI6 : Hid (TrI w (w5.drewN nq) L item e.pa (T ++ [e]) (.slice (some ⟨g5, 0, none⟩) (T.length + 1) cap5) k' x') := by
        show TrI _ _ _ _ _ _ _ _ _
        have := HI.out.step HO.out hkl HGR.out (by rw [HEK.out]; exact HOW.out) (below_drewN (Below.refl _ _) nq) (k' := k') (b' := x') (by rw [HEK.out]; exact H1.out) (by rw [HEK.out]; exact H2.out)
        rwa [HEK.out] at this
      have hmes : trM (.bool x') (.int .i64 k') < trM (.bool true) (.int .i64 k) := by
        cases x' with
        | false => simp [trM]
        | true =>
          have h1 := H1.out rfl
          have h2 := HI.out.yes rfl
          have h3 := HO.out.up h2.1
          have h4 : L[Cu.ix s L]'h2.1 = e := by rw [← HEK.out]; congr 1; exact h2.2.symm
          rw [h4] at h3
          have := h3 h1.1
          simp [trM, intOf]
          omega
      go_wp2_with fail
      go_roundw
      case rel => exact ⟨_, _, k', x', rfl, rfl, HI6⟩
      case measure => exact hmes
    | false =>
      obtain ⟨hix, hk⟩ := HI.out.no rfl
      subst hk
      have hT : T = Cu.trc L item := by rw [← HI.out.all, Cu.trc_no hix, List.append_nil]
      clear hix
      have HTT := Lib.hid hT
      clear hT
      go_wp2_with fail
      (try simp only [Exit.inBlock, Exit.then])
      refine bodyPost_ret (results_tmp2 rfl _ _ _) rfl ⟨u8, rfl, ?_, HI.out.bel⟩
      rw [← HTT.out]
      exact HI.out.row
set_option maxRecDepth 100000 in
set_option maxHeartbeats 8000000 in
theorem trace_no {B r : Nat} {L : Ls} {v : Value} {b1 b2 : Nat} (item : ByteArray) (his : (item.size : Int) ≤ 1000) (w : World) (HC : Hid (CReg w B r L v b1 b2)) (hi : Hid (¬ Cu.ix item L < L.length)) :
    Calls Tryd.prog 25 #[.pointer (some ⟨r, 0, none⟩), .string item] w fun e w' => e = .returned (.tuple #[.slice none 0 0, .int .i64 8]) ∧ w' = w := by
  have him : item.size ≤ maxLen := by unfold maxLen; omega
  have c1 := HC.out.c1
  have hlk := f1_pair HC.out.m1 item him 0 false (fun h => by cases h) (fun _ => ⟨hi.out, rfl⟩)
  go_enter Tryd.func25, Tryd.ntmps25
  go_wp2_with fail
  (try simp only [Exit.inBlock, Exit.then])
  exact bodyPost_ret (results_tmp2 rfl _ _ _) rfl ⟨rfl, rfl⟩
/-- The error of Trace. -/
def Cu.trE (L : Ls) (s : ByteArray) : Int := if Cu.ix s L < L.length then 0 else 8
theorem trace_any {B r : Nat} {L : Ls} {v : Value} {b1 b2 : Nat} (item : ByteArray) (his : (item.size : Int) ≤ 1000) (w : World) (HC : Hid (CReg w B r L v b1 b2)) (HO : Hid (Cu.Ord L)) (HP : Hid (∀ e ∈ L, (e.pa.size : Int) ≤ 1000)) (hl : (L.length : Int) ≤ 2000) :
    Calls Tryd.prog 25 #[.pointer (some ⟨r, 0, none⟩), .string item] w fun e w' => ∃ v, e = .returned (.tuple #[v, .int .i64 (Cu.trE L item)]) ∧ w'.ownsRow w.heap.size 36 6 v (Cu.trc L item).length (lrowL (Cu.trc L item)) ∧ Below w.heap.size w w' := by
  unfold Cu.trE
  by_cases h : Cu.ix item L < L.length
  · rw [if_pos h]
    obtain ⟨A, c, hv⟩ := row_form HC.out.row
    subst hv
    exact trace_yes item his w HC HO HP hl (Lib.hid h)
  · rw [if_neg h, Cu.trc_no h]
    exact (trace_no item his w HC (Lib.hid h)).mono fun e w' ⟨h1, h2⟩ => ⟨_, h1, World.ownsRow_nil _ _ _ _, by rw [h2]; exact Below.refl _ _⟩
end Go.Proofs.YtpimmdmcmccbpaaDoor
