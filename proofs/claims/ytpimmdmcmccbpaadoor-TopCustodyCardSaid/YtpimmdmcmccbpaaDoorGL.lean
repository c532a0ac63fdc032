/- TopCustody, plain: links and permits side by side. -/
import Derived.Test.YtpimmdmcmccbpaaDoorGH
import Derived.Test.YtpimmdmcmccbpaaDoorF6
import Derived.Test.YtpimmdmcmccbpaaDoorGI
import Derived.Test.YtpimmdmcmccbpaaDoorAP
namespace Go.Proofs.YtpimmdmcmccbpaaDoor
open Go.RowKit
set_option linter.unusedVariables false
open Cu (Lk Ls)
theorem codeS_p {k : Int} (h : k % 3 = 0) (n : Int) : spE (codeS k n) = 0 ∧ spK (codeS k n) = 80 := by
  unfold codeS
  rw [if_pos h]
  (repeat' split) <;> decide +kernel
theorem codeS_n {k : Int} (h : ¬ k % 3 = 0) (n : Int) : spK (codeS k n) ≠ 80 ∧ codeS k n ≠ ByteArray.empty := by
  unfold codeS
  rw [if_neg h]
  (repeat' split) <;> decide +kernel
theorem code_ne (k n : Int) : codeS k n ≠ ByteArray.empty := fun e => by
  have := codeS_size k n
  rw [e] at this
  revert this
  decide
namespace Cu
/-- The links and the permits agree. -/
structure Both (L : Ls) (R : Pt.Rg) (n : Nat) : Prop where
  good : Good L
  ok : Pt.Ok R
  len : L.length ≤ n
  top : ∀ e ∈ L, e.pa = ByteArray.empty → ∃ i, ∃ h : i < R.length, (R[i]).1.id = e.it ∧ (R[i]).1.qu = e.vo ∧ (R[i]).2 = gv e.it L
theorem Both.nil : Both [] [] 0 := ⟨.nil, .nil, by simp, fun e h => by cases h⟩
theorem Both.mono {L : Ls} {R : Pt.Rg} {n m : Nat} (h : Both L R n) (hm : n ≤ m) : Both L R m := ⟨h.good, h.ok, Nat.le_trans h.len hm, h.top⟩
theorem Both.at_ {L : Ls} {R : Pt.Rg} {n : Nat} (h : Both L R n) {e : Lk} (he : e ∈ L) (hp : e.pa = ByteArray.empty) : ∃ hi : Pt.ix e.it R < R.length, (R[Pt.ix e.it R]).1.qu = e.vo ∧ (R[Pt.ix e.it R]).2 = gv e.it L := by
  obtain ⟨i, hi, h1, h2, h3⟩ := h.top e he hp
  have hx : Pt.ix e.it R = i := Pt.ix_eq hi h1 fun j hj hlt e1 => by
    have := h.ok.uni j i hj hi (e1.trans h1.symm)
    omega
  subst hx
  exact ⟨hi, h2, h3⟩
theorem ix_empty {L : Ls} (h : Good L) : ¬ ix ByteArray.empty L < L.length := fun g => empty_no (h.up _ (List.getElem_mem g)).it (ix_at _ L g)
/-- A permit that was added is added as a link. -/
theorem Both.permit {L : Ls} {R : Pt.Rg} {n : Nat} (h : Both L R n) (hn : n < 1024) {p : Pt.Pm} (ha : Pt.adE R p = 0) :
    chE L ⟨p.id, ByteArray.empty, p.fr, p.qu, p.sp, 0⟩ = 0 ∧ Both (adL L ⟨p.id, ByteArray.empty, p.fr, p.qu, p.sp, 0⟩) (Pt.adR R p) (n + 1) := by
  have hc : (isB p.id 80 && nameB p.sp) = true := by
    by_cases g : (isB p.id 80 && nameB p.sp) = true
    · exact g
    · rw [Pt.adE_name g] at ha; omega
  have h1 : ¬ Pt.ix p.id R < R.length := fun g => by rw [Pt.adE_old hc g] at ha; omega
  have h2 : 0 ≤ p.fr ∧ p.un ≤ 10000000 ∧ p.fr < p.un := by
    by_cases g : 0 ≤ p.fr ∧ p.un ≤ 10000000 ∧ p.fr < p.un
    · exact g
    · rw [Pt.adE_time hc h1 g] at ha; omega
  have h3 : 1 ≤ p.qu ∧ p.qu ≤ 1125899906842624 := by
    by_cases g : 1 ≤ p.qu ∧ p.qu ≤ 1125899906842624
    · exact g
    · rw [Pt.adE_range hc h1 h2 g] at ha; omega
  simp only [isB, Bool.and_eq_true, decide_eq_true_eq] at hc
  obtain ⟨⟨c1, c2⟩, c3⟩ := hc
  have hno : par L ⟨p.id, ByteArray.empty, p.fr, p.qu, p.sp, 0⟩ = none := par_none (ix_empty h.good)
  have hnew : ¬ ix p.id L < L.length := fun g => by
    have hm := List.getElem_mem g
    have hi := ix_at p.id L g
    have hb := (h.good.up _ hm).it.2
    rw [hi] at hb
    obtain ⟨j, hj, q1, _⟩ := h.top _ hm (hb.1 c2)
    rw [hi] at q1
    exact h1 (by rw [Pt.ix_eq hj q1 fun i hi hlt e1 => by have := h.ok.uni i j hi hj (e1.trans q1.symm); omega]; exact hj)
  have hcan : Can L ⟨p.id, ByteArray.empty, p.fr, p.qu, p.sp, 0⟩ := by
    refine ⟨⟨c1, ⟨fun _ => rfl, fun _ => c2⟩⟩, hnew, fun g => g.1 rfl, ⟨h2.1, by show p.fr ≤ 10000000; omega, (fun q hq => by rw [hno] at hq; cases hq)⟩, ⟨c3, (fun q hq => by rw [hno] at hq; cases hq)⟩, ⟨by show 0 ≤ p.qu; omega, h3.2⟩, (fun q hq => by rw [hno] at hq; cases hq), ?_⟩
    have := h.len
    omega
  have hE := chE_can hcan
  refine ⟨hE, ?_⟩
  have hne : p.id ≠ ByteArray.empty := fun e => by rw [e] at c1; revert c1; decide
  rw [Cu.adL_ok hE, Pt.adR_ok ha]
  refine ⟨?_, ?_, ?_, fun e he hp => ?_⟩
  · have := h.good.add ⟨p.id, ByteArray.empty, p.fr, p.qu, p.sp, 0⟩
    rw [Cu.adL_ok hE] at this
    exact this
  · have := h.ok.add p
    rw [Pt.adR_ok ha] at this
    exact this
  · have := h.len
    simp
    omega
  · rw [gv_append]
    rcases List.mem_append.1 he with g | g
    · obtain ⟨i, hi, q1, q2, q3⟩ := h.top e g hp
      have hei : ¬ ByteArray.empty = e.it := fun e1 => empty_no (h.good.up e g).it e1.symm
      refine ⟨i, by simp; omega, ?_⟩
      rw [List.getElem_append_left hi, if_neg hei]
      exact ⟨q1, q2, by omega⟩
    · simp at g
      subst g
      simp only
      rw [if_neg (fun e1 => hne e1.symm), gv_zero]
      · exact ⟨R.length, by simp, by simp, by simp, by simp⟩
      · intro f hf e1
        obtain ⟨q1, _⟩ := (h.good.up f hf).up (by rw [e1]; exact hne)
        rw [e1] at q1
        exact hnew q1
theorem top_adL {L : Ls} {x : Lk} {P : Lk → Prop} (hx : x.pa ≠ ByteArray.empty) (h : ∀ e ∈ L, e.pa = ByteArray.empty → P e) : ∀ e ∈ adL L x, e.pa = ByteArray.empty → P e := fun e he hp => by
  unfold adL at he
  split at he
  · rcases List.mem_append.1 he with g | g
    · exact h e g hp
    · simp at g
      subst g
      exact absurd hp hx
  · exact h e he hp
theorem adL_len (L : Ls) (x : Lk) : (adL L x).length ≤ L.length + 1 := by
  unfold adL
  split
  · simp
  · omega
/-- A link that does not come from a permit. -/
theorem Both.other {L : Ls} {R : Pt.Rg} {n : Nat} (h : Both L R n) (x : Lk) (h1 : x.pa ≠ ByteArray.empty) (h2 : spK x.pa ≠ 80) : Both (adL L x) R (n + 1) := by
  refine ⟨h.good.add x, h.ok, by have := adL_len L x; have := h.len; omega, top_adL h1 fun e he hp => ?_⟩
  obtain ⟨i, hi, q1, q2, q3⟩ := h.top e he hp
  refine ⟨i, hi, q1, q2, ?_⟩
  unfold adL
  split
  · rw [gv_append]
    have hne : ¬ x.pa = e.it := fun e1 => h2 (by rw [e1]; exact (h.good.up e he).it.2.2 hp)
    simp only [if_neg hne]
    omega
  · exact q3
/-- A log that was refused, or that has no volume. -/
theorem Both.none_ {L : Ls} {R : Pt.Rg} {n : Nat} (h : Both L R n) (x : Lk) (h1 : x.pa ≠ ByteArray.empty) (h2 : chE L x = 0 → x.vo = 0) : Both (adL L x) R (n + 1) := by
  refine ⟨h.good.add x, h.ok, by have := adL_len L x; have := h.len; omega, top_adL h1 fun e he hp => ?_⟩
  obtain ⟨i, hi, q1, q2, q3⟩ := h.top e he hp
  refine ⟨i, hi, q1, q2, ?_⟩
  unfold adL
  split
  · rename_i g
    rw [gv_append]
    simp only [h2 g]
    split <;> omega
  · exact q3
/-- A log of a permit: its volume can be used. -/
theorem Both.log {L : Ls} {R : Pt.Rg} {n : Nat} (h : Both L R n) (x : Lk) (h1 : x.pa ≠ ByteArray.empty) (h2 : spK x.pa = 80) (hE : chE L x = 0) (hv : 0 < x.vo) : Pt.usE R x.pa x.vo = 0 ∧ Both (adL L x) (Pt.usR R x.pa x.vo) (n + 1) := by
  have hc := can_of hE
  have hi : ix x.pa L < L.length := Classical.byContradiction fun g => hc.nd ⟨h1, g⟩
  have hpar := hc.qu _ (par_some hi)
  have hm := List.getElem_mem hi
  have hit := ix_at x.pa L hi
  have hp : (L[ix x.pa L]).pa = ByteArray.empty := (h.good.up _ hm).it.2.1 (by rw [hit]; exact h2)
  obtain ⟨q0, q1, q2⟩ := h.at_ hm hp
  simp only [hit] at q0 q1 q2
  have hvo := hc.vo
  have hU : Pt.usE R x.pa x.vo = 0 := Pt.usE_ok q0 ⟨by omega, hvo.2⟩ (by omega)
  refine ⟨hU, h.good.add x, h.ok.use _ _, by have := adL_len L x; have := h.len; omega, top_adL h1 fun e he hp => ?_⟩
  obtain ⟨i, hi', r1, r2, r3⟩ := h.top e he hp
  rw [Pt.usR_ok q0 hU, adL_ok hE, gv_append]
  refine ⟨i, by simpa using hi', ?_⟩
  rw [List.getElem_set]
  by_cases g : Pt.ix x.pa R = i
  · have hid := Pt.ix_at x.pa R q0
    have e1 : (R[Pt.ix x.pa R]).1 = (R[i]).1 := by simp only [g]
    have e2 : (R[Pt.ix x.pa R]).2 = (R[i]).2 := by simp only [g]
    have hxe : x.pa = e.it := by rw [← hid, e1]; exact r1
    rw [if_pos g]
    simp only [if_pos hxe, e1, e2]
    exact ⟨r1, r2, by omega⟩
  · have hne : ¬ x.pa = e.it := fun e1 => g (by
      have hid := Pt.ix_at x.pa R q0
      exact h.ok.uni _ _ q0 hi' (by rw [hid, e1]; exact r1.symm))
    rw [if_neg g]
    simp only [if_neg hne]
    exact ⟨r1, r2, by omega⟩
theorem Both.left {L : Ls} {R : Pt.Rg} {n : Nat} (h : Both L R n) {e : Lk} (he : e ∈ L) (hp : e.pa = ByteArray.empty) : Pt.lfN R e.it = e.vo - gv e.it L ∧ Pt.lfB R e.it = true := by
  obtain ⟨q0, q1, q2⟩ := h.at_ he hp
  rw [Pt.lfN_some q0, q1, q2]
  exact ⟨rfl, decide_eq_true q0⟩
theorem spK_bt {s : ByteArray} (h : spK s = 80) : bt s 0 = 80 := by
  unfold spK at h
  split at h
  · exact h
  · omega
end Cu
end Go.Proofs.YtpimmdmcmccbpaaDoor

namespace Go.Proofs.YtpimmdmcmccbpaaDoor
open Go.RowKit
set_option linter.unusedVariables false
open Cu (Lk Ls)
section
variable {w0 w w' : World} {B r : Nat} {R : Pt.Rg} {vp vu : Value} {B' r' : Nat} {L : Ls} {v : Value} {b1 b2 : Nat}
theorem reg_cs (h : Reg w B r R vp vu) (hc : CReg w B' r' L v b1 b2) : ¬ CS r' v b1 b2 r ∧ (∀ j, vp.ownBlock = some j → ¬ CS r' v b1 b2 j) ∧ (∀ j, vu.ownBlock = some j → ¬ CS r' v b1 b2 j) := by
  refine ⟨?_, fun j hj => ?_, fun j hj => ?_⟩
  · rintro (e | e | e | e)
    · exact blk_ne h.blk hc.blk (by decide) (by rw [e])
    · exact map_blk hc.m1 h.blk (by rw [e])
    · exact map_blk hc.m2 h.blk (by rw [e])
    · exact row_blk hc.row h.blk (by decide) e.symm
  · rintro (e | e | e | e)
    · exact row_blk h.per hc.blk (by decide) (by rw [hj, e])
    · exact map_row hc.m1 h.per (by rw [hj, e])
    · exact map_row hc.m2 h.per (by rw [hj, e])
    · rcases row_apart h.per hc.row (by decide) with q | q
      · rw [hj] at q; cases q
      · exact q (by rw [hj, e])
  · rintro (e | e | e | e)
    · exact row_blk h.use hc.blk (by decide) (by rw [hj, e])
    · exact map_row hc.m1 h.use (by rw [hj, e])
    · exact map_row hc.m2 h.use (by rw [hj, e])
    · rcases row_apart h.use hc.row (by decide) with q | q
      · rw [hj] at q; cases q
      · exact q (by rw [hj, e])
theorem Reg.cng {S : Nat → Prop} (h : Reg w B r R vp vu) (hc : Cng w w' S) (h0 : ¬ S r) (h1 : ∀ j, vp.ownBlock = some j → ¬ S j) (h2 : ∀ j, vu.ownBlock = some j → ¬ S j) : Reg w' B r R vp vu :=
  ⟨h.low, h.blk.cng hc h0, row_cng h.per hc h1, row_cng h.use hc h2, h.pr, h.ur, h.pu⟩
theorem RgW.grown_ {row : Option Nat} (h : RgW w0 w r' L v b1 b2) (hg : w.grownBy w' row) (hr : ∀ k, row = some k → w0.heap.size ≤ k) (hn : ∀ k, row = some k → ¬ CS r' v b1 b2 k) : RgW w0 w' r' L v b1 b2 := by
  have n0 : some r' ≠ row := fun e => hn _ e.symm (.inl rfl)
  have n1 : some b1 ≠ row := fun e => hn _ e.symm (.inr (.inl rfl))
  have n2 : some b2 ≠ row := fun e => hn _ e.symm (.inr (.inr (.inl rfl)))
  have n3 : v.ownBlock = none ∨ v.ownBlock ≠ row := by
    cases hv : v.ownBlock with
    | none => exact .inl rfl
    | some k => exact .inr fun e => hn k e.symm (.inr (.inr (.inr hv)))
  exact ⟨⟨h.c.low, h.c.l1, h.c.l2, h.c.ne, h.c.blk.grown hg n0, h.c.row.kept hg n3, h.c.m1.kept hg n1, h.c.m2.kept hg n2⟩, h.bel.grown hg h.bel.size hr, h.good, h.fit⟩
end
/-- Both registers. -/
structure TwoM (w0 w : World) (r r' : Nat) (L : Ls) (R : Pt.Rg) : Prop where
  c : ∃ v, RgW w0 w r L v w0.heap.size (w0.heap.size + 1)
  p : ∃ vp vu, Reg w w0.heap.size r' R vp vu
section
variable {w0 w w' : World} {r r' : Nat} {L : Ls} {R : Pt.Rg}
theorem TwoM.below (h : TwoM w0 w r r' L R) (hb : Below w.heap.size w w') : TwoM w0 w' r r' L R := by
  obtain ⟨⟨v, h1⟩, vp, vu, h2⟩ := h
  exact ⟨⟨v, h1.below hb⟩, vp, vu, h2.below hb⟩
theorem TwoM.bel (h : TwoM w0 w r r' L R) : Below w0.heap.size w0 w := by
  obtain ⟨⟨v, h1⟩, _⟩ := h
  exact h1.bel
theorem two_cadd {L' : Ls} (it pa sp : ByteArray) (ti vo : Int) (hf : Hid (Fit_ ⟨it, pa, ti, vo, sp, 0⟩)) (HR : Hid (TwoM w0 w r r' L R)) (HT : Hid (TabOk w0)) (H E : Int) (HH : Hid (Cu.adH L ⟨it, pa, ti, vo, sp, 0⟩ = H)) (HE : Hid (Cu.chE L ⟨it, pa, ti, vo, sp, 0⟩ = E)) (HL : Hid (Cu.adL L ⟨it, pa, ti, vo, sp, 0⟩ = L')) :
    Calls Tryd.prog 16 #[.pointer (some ⟨r, 0, none⟩), .string it, .string pa, .string sp, .int .i64 ti, .int .i64 vo] w fun e w' => e = .returned (.tuple #[.int .u64 H, .int .i64 E]) ∧ TwoM w0 w' r r' L' R := by
  obtain ⟨⟨v, h1⟩, vp, vu, h2⟩ := HR.out
  refine (cadd_eq it pa sp ti vo hf (Lib.hid h1) HT H E HH HE HL).mono fun e w' ⟨he, v', g1, g2, _⟩ => ⟨he, ⟨v', g1⟩, vp, vu, ?_⟩
  obtain ⟨q0, q1, q2⟩ := reg_cs h2 h1.c
  exact h2.cng g2 q0 q1 q2
theorem two_padd {R' : Pt.Rg} (p : Pt.Pm) (x : Int) (hx : Hid (Pt.adE R p = x)) (hR : Hid (Pt.adR R p = R')) (s1 : (p.id.size : Int) ≤ 9223372036854775807) (s2 : (p.sp.size : Int) ≤ 9223372036854775807) (HR : Hid (TwoM w0 w r r' L R)) (HO : Hid (Pt.Ok R)) :
    Calls Tryd.prog 21 #[.pointer (some ⟨r', 0, none⟩), .agg #[.string p.id, .string p.sp, .int .i64 p.fr, .int .i64 p.un, .int .i64 p.qu]] w fun e w' => e = .returned (.int .i64 x) ∧ TwoM w0 w' r r' L R' ∧ w.grownBy w' (some r') := by
  obtain ⟨⟨v, h1⟩, vp, vu, h2⟩ := HR.out
  refine (add_eq p x hx hR s1 s2 w (Lib.hid h2) HO).mono fun e w' ⟨he, ⟨vp', vu', g1, _⟩, g2⟩ => ⟨he, ⟨⟨v, ?_⟩, vp', vu', g1⟩, g2⟩
  obtain ⟨q0, q1, q2⟩ := reg_cs h2 h1.c
  exact h1.grown_ g2 (fun k hk => by cases hk; exact h2.low) (fun k hk => by cases hk; exact q0)
theorem two_use {R' : Pt.Rg} (id : ByteArray) (v x : Int) (hx : Hid (Pt.usE R id v = x)) (hR : Hid (Pt.usR R id v = R')) (HR : Hid (TwoM w0 w r r' L R)) (HO : Hid (Pt.Ok R)) :
    Calls Tryd.prog 23 #[.pointer (some ⟨r', 0, none⟩), .string id, .int .i64 v] w fun e w' => e = .returned (.int .i64 x) ∧ TwoM w0 w' r r' L R' := by
  obtain ⟨⟨u, h1⟩, vp, vu, h2⟩ := HR.out
  refine (use_eq id v x hx hR w (Lib.hid h2) HO).mono fun e w' ⟨he, g1, g2⟩ => ⟨he, ⟨u, ?_⟩, vp, vu, g1⟩
  obtain ⟨q0, q1, q2⟩ := reg_cs h2 h1.c
  exact h1.grown_ g2 (fun k hk => by
    rcases h2.use.2 with ⟨e1, _⟩ | ⟨g, cap, cur, e1, hb, _⟩
    · rw [e1] at hk; simp [Value.ownBlock] at hk
    · rw [e1] at hk; simp [Value.ownBlock] at hk; omega) q2
theorem two_fell (id sp : ByteArray) (t x : Int) (hx : Hid (Pt.flE R id sp t = x)) (HR : Hid (TwoM w0 w r r' L R)) (HO : Hid (Pt.Ok R)) :
    Calls Tryd.prog 22 #[.pointer (some ⟨r', 0, none⟩), .string id, .string sp, .int .i64 t] w fun e w' => e = .returned (.int .i64 x) ∧ Below w.heap.size w w' := by
  obtain ⟨_, vp, vu, h2⟩ := HR.out
  exact fell_eq id sp t x hx w (Lib.hid h2) HO
theorem two_left (id : ByteArray) (x : Int) (b : Bool) (hx : Hid (Pt.lfN R id = x)) (hb : Hid (Pt.lfB R id = b)) (HR : Hid (TwoM w0 w r r' L R)) (HO : Hid (Pt.Ok R)) :
    Calls Tryd.prog 27 #[.pointer (some ⟨r', 0, none⟩), .string id] w fun e w' => e = .returned (.tuple #[.int .i64 x, .bool b]) ∧ Below w.heap.size w w' := by
  obtain ⟨_, vp, vu, h2⟩ := HR.out
  exact left_eq id x b hx hb w (Lib.hid h2) HO
theorem two_kept {g : Nat} {t : TypeId} {cs : Array Value} (h : TwoM w0 w r r' L R) (hb : Blk w g t cs) (ht : t ≠ 93) (hg : w.grownBy w' (some r')) : Blk w' g t cs := by
  obtain ⟨_, vp, vu, h2⟩ := h
  exact hb.grown hg (blk_ne hb h2.blk ht)
end
/-- What the walk takes of one link. -/
structure TcI (L : Ls) (e : Lk) (R : Ls) (z : Lk) : Prop where
  fit : Fit_ e
  tr : Cu.trc L e.it = e :: R
  te : Cu.trE L e.it = 0
  rt : Cu.rtS L e.it = z.it
  has : true = decide (Cu.ix e.it L < L.length)
  len : R.length < L.length
  la : ∃ h : R.length < (e :: R).length, (e :: R)[R.length] = z
  z0 : bt z.it 0 = 80
  z8 : z.it.size = 8
  al : ∀ k (h : k < (e :: R).length), ((e :: R)[k]).sp = e.sp ∧ ((e :: R)[k]).ti ≤ e.ti
  st : ∀ k (h : k + 1 < (e :: R).length), ((e :: R)[k]).pa = ((e :: R)[k + 1]).it
  ne : e.it ≠ ByteArray.empty
  vo : 0 ≤ e.vo ∧ e.vo ≤ 1125899906842624
  su : Cu.gv e.it L ≤ e.vo
  kl : (Cu.chl L e.it).length ≤ L.length
theorem chl_kid' {L : Ls} {s : ByteArray} (h : s ≠ ByteArray.empty) : Cu.chl L s = (Cu.kidL L s).map (·.it) := by
  unfold Cu.chl Cu.kids Cu.kidL
  rw [if_neg h]
theorem tcI {L : Ls} (hg : Cu.Good L) (hf : ∀ e ∈ L, Fit_ e) {e : Lk} (he : e ∈ L) : ∃ R z, TcI L e R z := by
  have ho := hg.ord
  have hix := ho.has he
  have htr := hg.top he
  have hch := hg.trc_chn hix
  have hlen := Cu.trc_length L e.it
  rw [htr] at hch hlen
  have hR : (Cu.trc L e.pa).length < (e :: Cu.trc L e.pa).length := by simp
  have hlast := hch.last _ hR (by simp)
  have hit := hch.code _ (List.getElem_mem hR)
  have hne := Cu.empty_no (hg.up e he).it
  have hk := hit.2.2 hlast
  refine ⟨Cu.trc L e.pa, (e :: Cu.trc L e.pa)[(Cu.trc L e.pa).length], hf e he, htr, ?_, ?_, ?_, ?_, ⟨hR, rfl⟩, Cu.spK_bt hk, ?_, hch.all, fun k h => (hch.step k h).1, hne, hg.al.vo e he, hg.sum e he, ?_⟩
  · rw [Cu.trE, if_pos hix]
  · have := Cu.rtS_yes (L := L) (s := e.it) (Cu.trc L e.pa).length (by rw [htr]; simp)
    rw [this]
    simp only [htr]
  · simp [hix]
  · simp at hlen; omega
  · have h1 := hit.1
    unfold spE at h1
    split at h1
    · assumption
    · omega
  · rw [chl_kid' hne, List.length_map]
    exact List.length_filter_le _ _
/-- The sum of the children of an item among the first links. -/
theorem gv_take {L : Ls} {s : ByteArray} {k : Nat} (h : k < L.length) : Cu.gv s (L.take (k + 1)) = Cu.gv s (L.take k) + if (L[k]).pa = s then (L[k]).vo else 0 := by
  rw [List.take_succ_eq_append_getElem h, Cu.gv_append]
theorem gv_nonneg {L : Ls} {s : ByteArray} (h : ∀ e ∈ L, 0 ≤ e.vo) : 0 ≤ Cu.gv s L := by
  induction L with
  | nil => exact Int.le_refl _
  | cons a r ih =>
    have h1 := ih (fun e he => h e (by simp [he]))
    have h0 := h a (by simp)
    rw [Cu.gv]
    split <;> omega
theorem gv_mono {L : Ls} {s : ByteArray} (h : ∀ e ∈ L, 0 ≤ e.vo) : ∀ k, 0 ≤ Cu.gv s (L.take k) ∧ Cu.gv s (L.take k) ≤ Cu.gv s L := by
  induction L with
  | nil => intro k; simp [Cu.gv]
  | cons a r ih =>
    intro k
    have h0 := h a (by simp)
    have hr := fun e he => h e (List.mem_cons_of_mem a he)
    have h1 := ih hr
    have h2 := gv_nonneg (s := s) hr
    cases k with
    | zero => simp only [List.take_zero, Cu.gv]; split <;> omega
    | succ k => have := h1 k; simp only [List.take_succ_cons, Cu.gv]; split <;> omega
theorem neL (X : Lk) (W : World) : (binOp .neq 36 (agL X) (agL X)).run Tryd.prog W = .ok (.bool false) W := by
  simp [go_sem]
end Go.Proofs.YtpimmdmcmccbpaaDoor
