/- custody: Root and Children. -/
import Derived.Test.YtpimmdmcmccbpaaDoorEJ
namespace Go.Proofs.YtpimmdmcmccbpaaDoor
open Go.RowKit
set_option linter.unusedVariables false
open Cu (Lk Ls)
/-- The root of an item. -/
def Cu.rtS (L : Ls) (s : ByteArray) : ByteArray := match (Cu.trc L s).getLast? with | none => ByteArray.empty | some e => e.it
theorem Cu.rtS_no {L : Ls} {s : ByteArray} (h : Cu.trc L s = []) : Cu.rtS L s = ByteArray.empty := by simp [Cu.rtS, h]
theorem Cu.rtS_yes {L : Ls} {s : ByteArray} (k : Nat) (h : (Cu.trc L s).length = k + 1) : Cu.rtS L s = ((Cu.trc L s)[k]'(by omega)).it := by
  have h2 : (Cu.trc L s).getLast? = some ((Cu.trc L s)[k]'(by omega)) := by
    rw [List.getLast?_eq_getElem?, List.getElem?_eq_getElem (by omega)]
    congr 2
    omega
  simp [Cu.rtS, h2]
set_option maxHeartbeats 4000000 in
theorem root_yes {B r : Nat} {L : Ls} {v : Value} {b1 b2 : Nat} (item : ByteArray) (his : (item.size : Int) ≤ 1000) (w : World) (HC : Hid (CReg w B r L v b1 b2)) (HO : Hid (Cu.Ord L)) (HP : Hid (∀ e ∈ L, (e.pa.size : Int) ≤ 1000)) (hl : (L.length : Int) ≤ 2000) (hi : Hid (Cu.ix item L < L.length)) :
    Calls Tryd.prog 24 #[.pointer (some ⟨r, 0, none⟩), .string item] w fun e w' => e = .returned (.tuple #[.string (Cu.rtS L item), .bool true]) ∧ Below w.heap.size w w' := by
  have HT := Lib.hid (trace_any item his w HC HO HP hl)
  have HE : Hid (Cu.trE L item = 0) := by show _ = _; rw [Cu.trE, if_pos hi.out]
  rw [HE.out] at HT
  have htl := Cu.trc_length L item
  have hy := HO.out.trc_yes hi.out
  obtain ⟨k, hk⟩ : ∃ k, (Cu.trc L item).length = k + 1 := ⟨(Cu.trc L (L[Cu.ix item L]'hi.out).pa).length, by rw [hy]; rfl⟩
  clear hy
  have HR : Hid (∃ h : k < (Cu.trc L item).length, Cu.rtS L item = ((Cu.trc L item)[k]'h).it) := ⟨by omega, Cu.rtS_yes k hk⟩
  have zk : (k : Int) ≤ 2000 := by omega
  have HK := Lib.hid hk
  have HKL : Hid (k < (Cu.trc L item).length) := by show _ < _; omega
  rw [hk] at HT
  clear hk htl
  go_enter Tryd.func24, Tryd.ntmps24
  go_wp2_with fail
  (with_reducible refine HT.out.mono ?_)
  rintro e w1 ⟨v1, rfl, hrow, hB⟩
  obtain ⟨A, c, hv⟩ := row_form hrow
  subst hv
  obtain ⟨bb, off, hA, hbl, p0, -⟩ := (row_slr hrow _ _ rfl).link HKL.out
  subst hA
  rw [← HR.out.2] at p0
  have HB := Lib.hid hB
  clear hrow hB
  go_wp2_with fail
  (try simp only [Exit.inBlock, Exit.then])
  exact bodyPost_ret (results_tmp2 rfl _ _ _) rfl ⟨rfl, HB.out⟩
set_option maxHeartbeats 4000000 in
theorem root_no {B r : Nat} {L : Ls} {v : Value} {b1 b2 : Nat} (item : ByteArray) (his : (item.size : Int) ≤ 1000) (w : World) (HC : Hid (CReg w B r L v b1 b2)) (hi : Hid (¬ Cu.ix item L < L.length)) :
    Calls Tryd.prog 24 #[.pointer (some ⟨r, 0, none⟩), .string item] w fun e w' => e = .returned (.tuple #[.string ByteArray.empty, .bool false]) ∧ w' = w := by
  go_enter Tryd.func24, Tryd.ntmps24
  go_wp2_with fail
  (with_reducible refine (trace_no item his w HC hi).mono ?_)
  rintro e w1 ⟨rfl, h⟩
  subst w1
  go_wp2_with fail
  (try simp only [Exit.inBlock, Exit.then])
  exact bodyPost_ret (results_tmp2 rfl _ _ _) rfl ⟨rfl, rfl⟩
theorem root_any {B r : Nat} {L : Ls} {v : Value} {b1 b2 : Nat} (item : ByteArray) (his : (item.size : Int) ≤ 1000) (w : World) (HC : Hid (CReg w B r L v b1 b2)) (HO : Hid (Cu.Ord L)) (HP : Hid (∀ e ∈ L, (e.pa.size : Int) ≤ 1000)) (hl : (L.length : Int) ≤ 2000) (x : Bool) (hx : Hid (x = decide (Cu.ix item L < L.length))) :
    Calls Tryd.prog 24 #[.pointer (some ⟨r, 0, none⟩), .string item] w fun e w' => e = .returned (.tuple #[.string (Cu.rtS L item), .bool x]) ∧ Below w.heap.size w w' := by
  by_cases h : Cu.ix item L < L.length
  · have e : x = true := by rw [hx.out]; simpa using h
    subst e
    exact root_yes item his w HC HO HP hl (Lib.hid h)
  · have e : x = false := by rw [hx.out]; simpa using h
    subst e
    rw [Cu.rtS_no (Cu.trc_no h)]
    exact (root_no item his w HC (Lib.hid h)).mono fun e w' ⟨h1, h2⟩ => ⟨h1, by rw [h2]; exact Below.refl _ _⟩
end Go.Proofs.YtpimmdmcmccbpaaDoor

namespace Go.Proofs.YtpimmdmcmccbpaaDoor
open Go.RowKit
set_option linter.unusedVariables false
open Cu (Lk Ls)
/-- The children of an item. -/
def Cu.kids (L : Ls) (s : ByteArray) : List ByteArray := (L.filter (fun e => decide (e.pa = s))).map (·.it)
theorem Cu.kids_succ {L : Ls} {s : ByteArray} {k : Nat} (h : k < L.length) : Cu.kids (L.take (k + 1)) s = Cu.kids (L.take k) s ++ if (L[k]).pa = s then [(L[k]).it] else [] := by
  unfold Cu.kids
  rw [List.take_succ_eq_append_getElem h, List.filter_append, List.map_append]
  congr 1
  by_cases g : (L[k]).pa = s <;> simp [g]
theorem Cu.kids_length (L : Ls) (s : ByteArray) : (Cu.kids L s).length ≤ L.length := by
  unfold Cu.kids
  rw [List.length_map]
  exact List.length_filter_le _ _
def srow (l : List ByteArray) : List Value := l.map .string
theorem srow_snoc (l : List ByteArray) (x : ByteArray) : srow (l ++ [x]) = srow l ++ [.string x] := by simp [srow]
theorem infoStr : (Tryd.prog.info? 9).map (fun i => (i.zero, i.size, i.bytes)) = some (some (.string ⟨#[]⟩), 1, 16) := by kernel_rfl
theorem Blk.new2 (w : World) (o : Obj) (t : TypeId) (cs : Array Value) : Blk ((w.alloc o).alloc (.cells cs t)) (w.heap.size + 1) t cs := by
  have := Blk.new (w.alloc o) t cs
  simpa using this
set_option maxRecDepth 100000 in
set_option maxHeartbeats 8000000 in
theorem kids_yes {B r : Nat} {L : Ls} {A : Option Addr} {c : Nat} {b1 b2 : Nat} (item : ByteArray) (w : World) (HC : Hid (CReg w B r L (.slice A L.length c) b1 b2)) (hl : (L.length : Int) ≤ 2000) (q1 : (item.toList == []) = false) :
    Calls Tryd.prog 26 #[.pointer (some ⟨r, 0, none⟩), .string item] w fun e w' => ∃ v, e = .returned v ∧ w'.ownsRow w.heap.size 9 1 v (Cu.kids L item).length (srow (Cu.kids L item)) ∧ Below w.heap.size w w' := by
  have c0 := HC.out.c0
  go_enter Tryd.func26, Tryd.ntmps26
  go_wp2_with fail
  go_loopw [5, 19] (fun v i wr => ∃ k : Nat, i = .int .i64 k ∧ k ≤ L.length ∧ Hid (wr.ownsRow w.heap.size 9 1 v (Cu.kids (L.take k) item).length (srow (Cu.kids (L.take k) item))) ∧ Hid (Below w.heap.size w wr)) (fun _ i _ => L.length - (intOf i).toNat)
  case atStart => exact ⟨0, rfl, by omega, World.ownsRow_nil _ _ _ _, Below.refl _ _⟩
  case round =>
    obtain ⟨k, rfl, hk, HR, HB⟩ := hrel
    clear c0
    by_cases h : k < L.length
    · obtain ⟨e, he⟩ : ∃ e, L[k] = e := ⟨_, rfl⟩
      have HEK := Lib.hid he
      clear he
      have HCr := Lib.hid (HC.out.below HB.out)
      obtain ⟨bb, off, hA, hbl, p0, p1, p2, p3, p4, p5⟩ := (row_slr HCr.out.row _ _ rfl).link h
      subst hA
      rw [HEK.out] at p0 p1 p2 p3 p4 p5
      have zk : (k : Int) < (L.length : Int) := by omega
      have HS := Lib.hid (Cu.kids_succ (s := item) h)
      rw [HEK.out] at HS
      have HLE := Lib.hid (Nat.le_trans (Cu.kids_length (L.take k) item) (List.length_take_le k L))
      have hal : Below w.heap.size w (wr.alloc (.cells #[.string e.it, .string e.pa, .int .i64 e.ti, .int .i64 e.vo, .string e.sp, .int .u64 e.ha] 36)) := HB.out.alloc HB.out.size _
      have HAL := Lib.hid hal
      clear hal
      by_cases g : e.pa = item
      · have q := seq_t g
        have HS2 : Hid (Cu.kids (L.take (k + 1)) item = Cu.kids (L.take k) item ++ [e.it]) := by show _ = _; rw [HS.out, if_pos g]
        clear g HS
        have hm1 : Hid ((Cu.kids (L.take k) item).length + 1 ≤ maxLen) := by show _ ≤ _; have := HLE.out; unfold maxLen; omega
        have hm2 : Hid (((Cu.kids (L.take k) item).length + 1) * 16 ≤ 140737488355328) := by show _ ≤ _; have := HLE.out; omega
        have HBS := Lib.hid HB.out.size
        go_wp2_with (at_builtin; refine wpList_lies_c rfl (.tmp 27) (.tmp 30) 52 rfl w.heap.size 9 _ 1 16 Tryd.underlying52 infoStr rfl (by decide) u5 (Cu.kids (L.take k) item).length (srow (Cu.kids (L.take k) item)) (by rfl) (row_below HR.out (((Below.refl wr.heap.size wr).alloc (Nat.le_refl _) _).alloc (by simp) _)) ⟨wr.heap.size + 1, 0, none⟩ 1 1 [.string e.it] (by rfl) rfl (World.news_of_block (Blk.new2 _ _ _ _)) (by intro u hu; simp at hu; subst hu; rfl) (by decide) hm1.out hm2.out (Nat.le_trans HBS.out (by simp; omega)) ?_)
        intro g5 cap5 w5 hown hgrow hgv
        have HR5 : Hid (w5.ownsRow w.heap.size 9 1 (.slice (some ⟨g5, 0, none⟩) ((Cu.kids (L.take k) item).length + 1) cap5) (Cu.kids (L.take (k + 1)) item).length (srow (Cu.kids (L.take (k + 1)) item))) := by
          show World.ownsRow _ _ _ _ _ _ _
          rw [HS2.out, srow_snoc, List.length_append]
          exact hown
        have HB5 : Hid (Below w.heap.size w w5) := (HAL.out.alloc HAL.out.size _).grown hgrow (HAL.out.alloc HAL.out.size _).size (fun j hj => (HR.out.lt j hj).1)
        clear hown hgrow hgv
        go_wp2_with fail
        go_roundw
        case rel => exact ⟨k + 1, by go_num, by omega, HR5, HB5⟩
        case measure => simp [intOf]; omega
      · have q := seq_f g
        have HS2 : Hid (Cu.kids (L.take (k + 1)) item = Cu.kids (L.take k) item) := by show _ = _; rw [HS.out, if_neg g, List.append_nil]
        clear g HS
        have HR2 : Hid ((wr.alloc (.cells #[.string e.it, .string e.pa, .int .i64 e.ti, .int .i64 e.vo, .string e.sp, .int .u64 e.ha] 36)).ownsRow w.heap.size 9 1 u5 (Cu.kids (L.take (k + 1)) item).length (srow (Cu.kids (L.take (k + 1)) item))) := by
          show World.ownsRow _ _ _ _ _ _ _
          rw [HS2.out]
          exact row_below HR.out ((Below.refl _ _).alloc (Nat.le_refl _) _)
        go_wp2_with fail
        go_roundw
        case rel => exact ⟨k + 1, by go_num, by omega, HR2, HAL⟩
        case measure => simp [intOf]; omega
    · have hE : L.take k = L := List.take_of_length_le (by omega)
      rw [hE] at HR
      have zk : (L.length : Int) ≤ (k : Int) := by omega
      clear hE
      go_wp2_with fail
      go_ret
      exact ⟨u5, rfl, HR.out, HB.out⟩
set_option maxHeartbeats 4000000 in
theorem kids_empty (r : Nat) (w : World) :
    Calls Tryd.prog 26 #[.pointer (some ⟨r, 0, none⟩), .string ByteArray.empty] w fun e w' => e = .returned (.slice none 0 0) ∧ w' = w := by
  go_enter Tryd.func26, Tryd.ntmps26
  go_wp2_with fail
  go_ret
  exact ⟨rfl, rfl⟩
/-- What Children returns. -/
def Cu.chl (L : Ls) (s : ByteArray) : List ByteArray := if s = ByteArray.empty then [] else Cu.kids L s
theorem children_any {B r : Nat} {L : Ls} {v : Value} {b1 b2 : Nat} (item : ByteArray) (w : World) (HC : Hid (CReg w B r L v b1 b2)) (hl : (L.length : Int) ≤ 2000) :
    Calls Tryd.prog 26 #[.pointer (some ⟨r, 0, none⟩), .string item] w fun e w' => ∃ v, e = .returned v ∧ w'.ownsRow w.heap.size 9 1 v (Cu.chl L item).length (srow (Cu.chl L item)) ∧ Below w.heap.size w w' := by
  unfold Cu.chl
  by_cases h : item = ByteArray.empty
  · subst h
    rw [if_pos rfl]
    exact (kids_empty r w).mono fun e w' ⟨h1, h2⟩ => ⟨_, h1, World.ownsRow_nil _ _ _ _, by rw [h2]; exact Below.refl _ _⟩
  · rw [if_neg h]
    obtain ⟨A, c, hv⟩ := row_form HC.out.row
    subst hv
    exact kids_yes item w HC hl (pa_some h).1
end Go.Proofs.YtpimmdmcmccbpaaDoor
