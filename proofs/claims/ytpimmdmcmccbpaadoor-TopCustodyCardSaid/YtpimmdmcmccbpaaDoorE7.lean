/- custody: hash of a link. -/
import Derived.Test.YtpimmdmcmccbpaaDoorE6
namespace Go.Proofs.YtpimmdmcmccbpaaDoor
open Go.RowKit
set_option linter.unusedVariables false
open Cu (Lk Ls)

theorem itoa_i (n : Int) (h0 : -9223372036854775808 ≤ n) (h1 : n ≤ 9223372036854775807) (T : ByteArray) (hT : Hid (itS n = T)) (w : World) (ht : Hid (TabOk w)) :
    Calls Tryd.prog 56 #[.int .i64 n] w fun e w' => e = .returned (.string T) ∧ Below w.heap.size w w' := by
  have := itoa_any n h0 h1 w ht
  rw [hT.out] at this
  exact this
theorem join_5 (bk : Nat) (a b c d e T : ByteArray) (hT : Hid (a ++ ⟨#[32]⟩ ++ b ++ ⟨#[32]⟩ ++ c ++ ⟨#[32]⟩ ++ d ++ ⟨#[32]⟩ ++ e = T)) (hs : Hid ((T.size : Int) ≤ 100000)) (w : World) (hb : Hid (Blk w bk 9 #[.string a, .string b, .string c, .string d, .string e])) :
    Calls Tryd.prog 55 #[.slice (some ⟨bk, 0, none⟩) 5 5, .string ⟨#[32]⟩] w fun r w' => r = .returned (.string T) ∧ Below w.heap.size w w' := by
  have hj := join5 a b c d e
  have h := Tryd.strings_Join bk 0 5 [a, b, c, d, e] ⟨#[32]⟩ w (fun j x hx => by
    have hc := hb.out.cell (0 + j)
    rw [hc, Nat.zero_add]
    match j, hx with
    | 0, hx => cases hx; rfl
    | 1, hx => cases hx; rfl
    | 2, hx => cases hx; rfl
    | 3, hx => cases hx; rfl
    | 4, hx => cases hx; rfl
    | j + 5, hx => simp at hx) hb.out.lt (by simp) (by simp) (by
    have h2 : (⟨(Lib.join ([a, b, c, d, e].map (·.data.toList)) (⟨#[32]⟩ : ByteArray).data.toList).toArray⟩ : ByteArray).size = T.size := by rw [hj, hT.out]
    have h3 : (Lib.join ([a, b, c, d, e].map (·.data.toList)) (⟨#[32]⟩ : ByteArray).data.toList).length = T.size := by rw [← h2]; exact List.size_toArray.symm
    rw [h3]
    have := hs.out
    omega)
  rw [hj, hT.out] at h
  exact h

set_option maxRecDepth 100000 in
set_option maxHeartbeats 16000000 in
theorem chash_any {B r : Nat} {L : Ls} {v : Value} {b1 b2 : Nat} (x : Lk) (hf : Fit_ x) (w : World) (HC : Hid (CReg w B r L v b1 b2)) (HTAB0 : Hid (TabOk w)) (hl : (L.length : Int) ≤ 2000) (HH : Hid (∀ p, Cu.par L x = some p → 0 ≤ p.ha ∧ p.ha ≤ 18446744073709551615)) :
    Calls Tryd.prog 43 #[.pointer (some ⟨r, 0, none⟩), .agg #[.string x.it, .string x.pa, .int .i64 x.ti, .int .i64 x.vo, .string x.sp, .int .u64 x.ha]] w fun e w' => e = .returned (.int .u64 (Cu.hsV L x)) ∧ Below w.heap.size w w' := by
  have hXs0 := hf.tx
  obtain ⟨i1, i2, i3, t0, t1, v0, v1⟩ := hf
  obtain ⟨T, hT⟩ : ∃ T, itS x.ti = T := ⟨_, rfl⟩
  obtain ⟨V, hV⟩ : ∃ T, itS x.vo = T := ⟨_, rfl⟩
  obtain ⟨X, hX⟩ : ∃ X, Cu.txS x = X := ⟨_, rfl⟩
  have HTT := Lib.hid hT
  have HVV := Lib.hid hV
  have HXX : Hid (x.it ++ ⟨#[32]⟩ ++ x.pa ++ ⟨#[32]⟩ ++ x.sp ++ ⟨#[32]⟩ ++ T ++ ⟨#[32]⟩ ++ V = X) := by show _ = _; rw [← hT, ← hV, ← hX]; rfl
  rw [hX] at hXs0
  have hXs : (X.size : Int) ≤ 1000000 := by omega
  have HXS : Hid ((X.size : Int) ≤ 100000) := by show _ ≤ _; omega
  have hpm : x.pa.size ≤ maxLen := by unfold maxLen; omega
  have hbx := (Below.refl w.heap.size w).alloc (Nat.le_refl _) (.cells #[.string x.it, .string x.pa, .int .i64 x.ti, .int .i64 x.vo, .string x.sp, .int .u64 x.ha] 36)
  have HB : Hid (LBox (w.alloc (.cells #[.string x.it, .string x.pa, .int .i64 x.ti, .int .i64 x.vo, .string x.sp, .int .u64 x.ha] 36)) w.heap.size x) := Blk.new _ _ _
  have HC1 := Lib.hid (HC.out.below hbx)
  have HTAB := Lib.hid (TabOk.below HTAB0.out hbx)
  have HX2 := Lib.hid hX
  clear hT hV hX hXs0
  by_cases hp : Cu.ix x.pa L < L.length
  · have hpar := Cu.par_some hp
    have hhr := HH.out _ hpar
    have HE : Hid (Cu.hsV L x = chS (L[Cu.ix x.pa L]).ha X) := by show _ = _; rw [Cu.hsV, Cu.pvV, hpar, HX2.out]
    have hf1 := f1_yes hp
    obtain ⟨k, hk0⟩ : ∃ k, Cu.ix x.pa L = k := ⟨_, rfl⟩
    have hk : k < L.length := by omega
    have HE2 : Hid (Cu.hsV L x = chS (L[k]).ha X) := by subst hk0; exact HE
    have hhr2 : 0 ≤ (L[k]).ha ∧ (L[k]).ha ≤ 18446744073709551615 := by subst hk0; exact hhr
    rw [hk0] at hf1
    clear hhr HE hpar hk0 hp
    go_enter Tryd.func43, Tryd.ntmps43
    go_wp2_with fail
    generalize w.alloc (.cells #[.string x.it, .string x.pa, .int .i64 x.ti, .int .i64 x.vo, .string x.sp, .int .u64 x.ha] 36) = w1 at *
    have hlk : ∀ n, (Instr.lookup 80 (.map (some b1)) (.string x.pa) true).run Tryd.prog (w1.drewN n) = .ok (.tuple #[.int .i64 k, .bool true]) (w1.drewN n) := fun n => by
      have := (HC1.out.m1.below (below_drewN (Below.refl _ _) n)).look x.pa hpm
      rw [hf1] at this
      exact this
    have k1 := HC1.out.c1
    obtain ⟨z0, z1, z2, z3, z4, z5⟩ := HB.out.cells
    go_quiet (fail)
    clear hlk k1 z0 z1 z2 z3 z4 z5
    have HC2 := Lib.hid (HC1.out.below (below_drewN (Below.refl _ _) nq))
    have HB2' := Lib.hid (LBox.below HB.out (below_drewN (Below.refl _ _) nq))
    have hbw := Lib.hid (below_old hbx (below_drewN (Below.refl w1.heap.size w1) nq))
    have HTAB2 := Lib.hid (TabOk.below HTAB.out (below_drewN (Below.refl _ _) nq))
    generalize w1.drewN nq = w2 at *
    obtain ⟨A, c, hv⟩ := row_form HC2.out.row
    subst hv
    obtain ⟨bb, off, hA, hbl, p0, p1, p2, p3, p4, p5⟩ := (row_slr HC2.out.row _ _ rfl).link hk
    subst hA
    have k0 := HC2.out.c0
    have zk : (k : Int) < (L.length : Int) := by omega
    obtain ⟨e, he⟩ : ∃ e, L[k] = e := ⟨_, rfl⟩
    rw [he] at p0 p1 p2 p3 p4 p5 HE2 hhr2
    have HPR := Lib.hid hhr2
    have HE := HE2
    clear he HE2 hhr2 HTAB
    have HTAB := HTAB2
    go_wp2_with fail
    clear p0 p1 p2 p3 p4 p5 k0
    -- the text and the hash (w2: the world ahead of the region; $p$: the hash before)
    have HTB := Lib.hid ((HTAB.out).below (Below.refl w2.heap.size w2))
    have hbd := (Below.refl w2.heap.size w2).drew
    have HT0 := Lib.hid (TabOk.below HTB.out hbd)
    have HL0 := Lib.hid (LBox.below HB2'.out hbd)
    have q0 : w2.drew.cell? ⟨w.heap.size, 0, none⟩ = some (.string x.it) ∧ w2.drew.cell? ⟨w.heap.size, 1, none⟩ = some (.string x.pa) ∧ w2.drew.cell? ⟨w.heap.size, 4, none⟩ = some (.string x.sp) ∧ w2.drew.cell? ⟨w.heap.size, 2, none⟩ = some (.int .i64 x.ti) ∧ w2.drew.cell? ⟨w.heap.size, 3, none⟩ = some (.int .i64 x.vo) := ⟨HL0.out.cells.1, HL0.out.cells.2.1, HL0.out.cells.2.2.2.2.1, HL0.out.cells.2.2.1, HL0.out.cells.2.2.2.1⟩
    go_region_held3 (fun w' => w'.cell? ⟨w.heap.size, 0, none⟩ = some (.string x.it) ∧ w'.cell? ⟨w.heap.size, 1, none⟩ = some (.string x.pa) ∧ w'.cell? ⟨w.heap.size, 4, none⟩ = some (.string x.sp) ∧ w'.cell? ⟨w.heap.size, 2, none⟩ = some (.int .i64 x.ti) ∧ w'.cell? ⟨w.heap.size, 3, none⟩ = some (.int .i64 x.vo))
      (first | exact q0 | exact q1 | exact q2 | exact q3 | exact q4)
      (first | (go_at_call 56; (with_reducible refine (itoa_i x.ti t0 t1 T HTT _ HT0).mono ?_); rintro e wA ⟨rfl, hb⟩; (have HB1 := Lib.hid (below_old hbd hb)); (have HTA := Lib.hid (TabOk.below HTB.out HB1.out)); (have HLA := Lib.hid (LBox.below HB2'.out HB1.out)); (have q1 : wA.cell? ⟨w.heap.size, 0, none⟩ = some (.string x.it) ∧ wA.cell? ⟨w.heap.size, 1, none⟩ = some (.string x.pa) ∧ wA.cell? ⟨w.heap.size, 4, none⟩ = some (.string x.sp) ∧ wA.cell? ⟨w.heap.size, 2, none⟩ = some (.int .i64 x.ti) ∧ wA.cell? ⟨w.heap.size, 3, none⟩ = some (.int .i64 x.vo) := ⟨HLA.out.cells.1, HLA.out.cells.2.1, HLA.out.cells.2.2.2.2.1, HLA.out.cells.2.2.1, HLA.out.cells.2.2.2.1⟩); clear hb) | (go_at_call 56; (with_reducible refine (itoa_i x.vo v0 v1 V HVV _ HTA).mono ?_); rintro e wC ⟨rfl, hb⟩; (have HB2 := Lib.hid (below_old HB1.out hb)); (have HLC := Lib.hid (LBox.below HLA.out hb)); (have q2 : wC.cell? ⟨w.heap.size, 0, none⟩ = some (.string x.it) ∧ wC.cell? ⟨w.heap.size, 1, none⟩ = some (.string x.pa) ∧ wC.cell? ⟨w.heap.size, 4, none⟩ = some (.string x.sp) ∧ wC.cell? ⟨w.heap.size, 2, none⟩ = some (.int .i64 x.ti) ∧ wC.cell? ⟨w.heap.size, 3, none⟩ = some (.int .i64 x.vo) := ⟨HLC.out.cells.1, HLC.out.cells.2.1, HLC.out.cells.2.2.2.2.1, HLC.out.cells.2.2.1, HLC.out.cells.2.2.2.1⟩); (have HLD := Lib.hid (LBox.below HLC.out ((Below.refl wC.heap.size wC).alloc (Nat.le_refl _) (.cells #[.string x.it, .string x.pa, .string x.sp, .string T, .string V] 9)))); (have HB3 := Lib.hid (below_old HB2.out ((Below.refl wC.heap.size wC).alloc (Nat.le_refl _) (.cells #[.string x.it, .string x.pa, .string x.sp, .string T, .string V] 9)))); (have HSL := Lib.hid (Blk.new wC 9 #[.string x.it, .string x.pa, .string x.sp, .string T, .string V])); (have q3 : (wC.alloc (.cells #[.string x.it, .string x.pa, .string x.sp, .string T, .string V] 9)).cell? ⟨w.heap.size, 0, none⟩ = some (.string x.it) ∧ (wC.alloc (.cells #[.string x.it, .string x.pa, .string x.sp, .string T, .string V] 9)).cell? ⟨w.heap.size, 1, none⟩ = some (.string x.pa) ∧ (wC.alloc (.cells #[.string x.it, .string x.pa, .string x.sp, .string T, .string V] 9)).cell? ⟨w.heap.size, 4, none⟩ = some (.string x.sp) ∧ (wC.alloc (.cells #[.string x.it, .string x.pa, .string x.sp, .string T, .string V] 9)).cell? ⟨w.heap.size, 2, none⟩ = some (.int .i64 x.ti) ∧ (wC.alloc (.cells #[.string x.it, .string x.pa, .string x.sp, .string T, .string V] 9)).cell? ⟨w.heap.size, 3, none⟩ = some (.int .i64 x.vo) := ⟨HLD.out.cells.1, HLD.out.cells.2.1, HLD.out.cells.2.2.2.2.1, HLD.out.cells.2.2.1, HLD.out.cells.2.2.2.1⟩); clear hb) | (go_at_call 55; (with_reducible refine (join_5 _ _ _ _ _ _ X HXX HXS _ HSL).mono ?_); rintro e wD ⟨rfl, hb⟩; (have HB4 := Lib.hid (below_old HB3.out hb)); (have HLE := Lib.hid (LBox.below HLD.out hb)); (have q4 : wD.cell? ⟨w.heap.size, 0, none⟩ = some (.string x.it) ∧ wD.cell? ⟨w.heap.size, 1, none⟩ = some (.string x.pa) ∧ wD.cell? ⟨w.heap.size, 4, none⟩ = some (.string x.sp) ∧ wD.cell? ⟨w.heap.size, 2, none⟩ = some (.int .i64 x.ti) ∧ wD.cell? ⟨w.heap.size, 3, none⟩ = some (.int .i64 x.vo) := ⟨HLE.out.cells.1, HLE.out.cells.2.1, HLE.out.cells.2.2.2.2.1, HLE.out.cells.2.2.1, HLE.out.cells.2.2.2.1⟩); clear hb))
    go_wp2_with fail
    (with_reducible refine (chain_any _ HPR.out X hXs _).mono ?_)
    rintro e wE ⟨rfl, hb⟩
    go_wp2_with fail
    go_ret
    exact ⟨ret_int' HE.out.symm, below_old (below_old hbw.out HB4.out) hb⟩
  · have HE : Hid (Cu.hsV L x = chS 0 X) := by show _ = _; rw [Cu.hsV, Cu.pvV, Cu.par_none hp, HX2.out]
    have hf1 := f1_no hp
    have HPR : Hid ((0 : Int) ≤ 0 ∧ (0 : Int) ≤ 18446744073709551615) := ⟨by decide, by decide⟩
    clear hp
    go_enter Tryd.func43, Tryd.ntmps43
    go_wp2_with fail
    generalize w.alloc (.cells #[.string x.it, .string x.pa, .int .i64 x.ti, .int .i64 x.vo, .string x.sp, .int .u64 x.ha] 36) = w1 at *
    have hlk : ∀ n, (Instr.lookup 80 (.map (some b1)) (.string x.pa) true).run Tryd.prog (w1.drewN n) = .ok (.tuple #[.int .i64 0, .bool false]) (w1.drewN n) := fun n => by
      have := (HC1.out.m1.below (below_drewN (Below.refl _ _) n)).look x.pa hpm
      rw [hf1] at this
      exact this
    have k1 := HC1.out.c1
    obtain ⟨z0, z1, z2, z3, z4, z5⟩ := HB.out.cells
    go_quiet (fail)
    clear hlk k1 z0 z1 z2 z3 z4 z5
    have HB2' := Lib.hid (LBox.below HB.out (below_drewN (Below.refl _ _) nq))
    have hbw := Lib.hid (below_old hbx (below_drewN (Below.refl w1.heap.size w1) nq))
    have HTAB2 := Lib.hid (TabOk.below HTAB.out (below_drewN (Below.refl _ _) nq))
    generalize w1.drewN nq = w2 at *
    clear HTAB
    have HTAB := HTAB2
    go_wp2_with fail
    -- the text and the hash (w2: the world ahead of the region; $p$: the hash before)
    have HTB := Lib.hid ((HTAB.out).below (Below.refl w2.heap.size w2))
    have hbd := (Below.refl w2.heap.size w2).drew
    have HT0 := Lib.hid (TabOk.below HTB.out hbd)
    have HL0 := Lib.hid (LBox.below HB2'.out hbd)
    have q0 : w2.drew.cell? ⟨w.heap.size, 0, none⟩ = some (.string x.it) ∧ w2.drew.cell? ⟨w.heap.size, 1, none⟩ = some (.string x.pa) ∧ w2.drew.cell? ⟨w.heap.size, 4, none⟩ = some (.string x.sp) ∧ w2.drew.cell? ⟨w.heap.size, 2, none⟩ = some (.int .i64 x.ti) ∧ w2.drew.cell? ⟨w.heap.size, 3, none⟩ = some (.int .i64 x.vo) := ⟨HL0.out.cells.1, HL0.out.cells.2.1, HL0.out.cells.2.2.2.2.1, HL0.out.cells.2.2.1, HL0.out.cells.2.2.2.1⟩
    go_region_held3 (fun w' => w'.cell? ⟨w.heap.size, 0, none⟩ = some (.string x.it) ∧ w'.cell? ⟨w.heap.size, 1, none⟩ = some (.string x.pa) ∧ w'.cell? ⟨w.heap.size, 4, none⟩ = some (.string x.sp) ∧ w'.cell? ⟨w.heap.size, 2, none⟩ = some (.int .i64 x.ti) ∧ w'.cell? ⟨w.heap.size, 3, none⟩ = some (.int .i64 x.vo))
      (first | exact q0 | exact q1 | exact q2 | exact q3 | exact q4)
      (first | (go_at_call 56; (with_reducible refine (itoa_i x.ti t0 t1 T HTT _ HT0).mono ?_); rintro e wA ⟨rfl, hb⟩; (have HB1 := Lib.hid (below_old hbd hb)); (have HTA := Lib.hid (TabOk.below HTB.out HB1.out)); (have HLA := Lib.hid (LBox.below HB2'.out HB1.out)); (have q1 : wA.cell? ⟨w.heap.size, 0, none⟩ = some (.string x.it) ∧ wA.cell? ⟨w.heap.size, 1, none⟩ = some (.string x.pa) ∧ wA.cell? ⟨w.heap.size, 4, none⟩ = some (.string x.sp) ∧ wA.cell? ⟨w.heap.size, 2, none⟩ = some (.int .i64 x.ti) ∧ wA.cell? ⟨w.heap.size, 3, none⟩ = some (.int .i64 x.vo) := ⟨HLA.out.cells.1, HLA.out.cells.2.1, HLA.out.cells.2.2.2.2.1, HLA.out.cells.2.2.1, HLA.out.cells.2.2.2.1⟩); clear hb) | (go_at_call 56; (with_reducible refine (itoa_i x.vo v0 v1 V HVV _ HTA).mono ?_); rintro e wC ⟨rfl, hb⟩; (have HB2 := Lib.hid (below_old HB1.out hb)); (have HLC := Lib.hid (LBox.below HLA.out hb)); (have q2 : wC.cell? ⟨w.heap.size, 0, none⟩ = some (.string x.it) ∧ wC.cell? ⟨w.heap.size, 1, none⟩ = some (.string x.pa) ∧ wC.cell? ⟨w.heap.size, 4, none⟩ = some (.string x.sp) ∧ wC.cell? ⟨w.heap.size, 2, none⟩ = some (.int .i64 x.ti) ∧ wC.cell? ⟨w.heap.size, 3, none⟩ = some (.int .i64 x.vo) := ⟨HLC.out.cells.1, HLC.out.cells.2.1, HLC.out.cells.2.2.2.2.1, HLC.out.cells.2.2.1, HLC.out.cells.2.2.2.1⟩); (have HLD := Lib.hid (LBox.below HLC.out ((Below.refl wC.heap.size wC).alloc (Nat.le_refl _) (.cells #[.string x.it, .string x.pa, .string x.sp, .string T, .string V] 9)))); (have HB3 := Lib.hid (below_old HB2.out ((Below.refl wC.heap.size wC).alloc (Nat.le_refl _) (.cells #[.string x.it, .string x.pa, .string x.sp, .string T, .string V] 9)))); (have HSL := Lib.hid (Blk.new wC 9 #[.string x.it, .string x.pa, .string x.sp, .string T, .string V])); (have q3 : (wC.alloc (.cells #[.string x.it, .string x.pa, .string x.sp, .string T, .string V] 9)).cell? ⟨w.heap.size, 0, none⟩ = some (.string x.it) ∧ (wC.alloc (.cells #[.string x.it, .string x.pa, .string x.sp, .string T, .string V] 9)).cell? ⟨w.heap.size, 1, none⟩ = some (.string x.pa) ∧ (wC.alloc (.cells #[.string x.it, .string x.pa, .string x.sp, .string T, .string V] 9)).cell? ⟨w.heap.size, 4, none⟩ = some (.string x.sp) ∧ (wC.alloc (.cells #[.string x.it, .string x.pa, .string x.sp, .string T, .string V] 9)).cell? ⟨w.heap.size, 2, none⟩ = some (.int .i64 x.ti) ∧ (wC.alloc (.cells #[.string x.it, .string x.pa, .string x.sp, .string T, .string V] 9)).cell? ⟨w.heap.size, 3, none⟩ = some (.int .i64 x.vo) := ⟨HLD.out.cells.1, HLD.out.cells.2.1, HLD.out.cells.2.2.2.2.1, HLD.out.cells.2.2.1, HLD.out.cells.2.2.2.1⟩); clear hb) | (go_at_call 55; (with_reducible refine (join_5 _ _ _ _ _ _ X HXX HXS _ HSL).mono ?_); rintro e wD ⟨rfl, hb⟩; (have HB4 := Lib.hid (below_old HB3.out hb)); (have HLE := Lib.hid (LBox.below HLD.out hb)); (have q4 : wD.cell? ⟨w.heap.size, 0, none⟩ = some (.string x.it) ∧ wD.cell? ⟨w.heap.size, 1, none⟩ = some (.string x.pa) ∧ wD.cell? ⟨w.heap.size, 4, none⟩ = some (.string x.sp) ∧ wD.cell? ⟨w.heap.size, 2, none⟩ = some (.int .i64 x.ti) ∧ wD.cell? ⟨w.heap.size, 3, none⟩ = some (.int .i64 x.vo) := ⟨HLE.out.cells.1, HLE.out.cells.2.1, HLE.out.cells.2.2.2.2.1, HLE.out.cells.2.2.1, HLE.out.cells.2.2.2.1⟩); clear hb))
    go_wp2_with fail
    (with_reducible refine (chain_any _ HPR.out X hXs _).mono ?_)
    rintro e wE ⟨rfl, hb⟩
    go_wp2_with fail
    go_ret
    exact ⟨ret_int' HE.out.symm, below_old (below_old hbw.out HB4.out) hb⟩

theorem rhashL_any (x : Lk) (hf : Fit_ x) (p : Int) (hp : 0 ≤ p ∧ p ≤ 18446744073709551615) (w : World) :
    Calls Tryd.prog 18 #[.int .u64 p, .agg #[.string x.it, .string x.pa, .int .i64 x.ti, .int .i64 x.vo, .string x.sp, .int .u64 x.ha]] w fun e w' => e = .returned (.int .u64 (chS p (Cu.txS x))) ∧ Below w.heap.size w w' := by
  have hs := hf.tx
  have HT := Lib.hid (fun w => rtext_any x hf w)
  have hbx := (Below.refl w.heap.size w).alloc (Nat.le_refl _) (.cells #[.string x.it, .string x.pa, .int .i64 x.ti, .int .i64 x.vo, .string x.sp, .int .u64 x.ha] 36)
  generalize Cu.txS x = X at *
  go_enter Tryd.func18, Tryd.ntmps18
  go_wp2_with fail
  (with_reducible refine (HT.out _).mono ?_)
  rintro e w1 ⟨rfl, hb⟩
  go_wp2_with fail
  (with_reducible refine (rchain_any p hp X (by omega) _).mono ?_)
  rintro e w2 ⟨rfl, hb2⟩
  go_wp2_with fail
  go_ret
  exact ⟨rfl, below_old (below_old hbx hb) hb2⟩
end Go.Proofs.YtpimmdmcmccbpaaDoor
