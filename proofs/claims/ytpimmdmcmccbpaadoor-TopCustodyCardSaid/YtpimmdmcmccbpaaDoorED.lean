/- custody: record. -/
import Derived.Test.YtpimmdmcmccbpaaDoorGE
import Derived.Test.YtpimmdmcmccbpaaDoorGA
namespace Go.Proofs.YtpimmdmcmccbpaaDoor
open Go.RowKit
set_option linter.unusedVariables false
open Cu (Lk Ls)
/-- Only the blocks of a set may have changed. -/
structure Cng (w w' : World) (S : Nat → Prop) : Prop where
  os : w'.os = w.os
  tape : w'.tape = w.tape
  output : w'.output = w.output
  size : w.heap.size ≤ w'.heap.size
  block : ∀ k, k < w.heap.size → ¬ S k → w'.heap[k]? = w.heap[k]?
section
variable {w w1 w2 : World} {S S' : Nat → Prop}
theorem Cng.of_grown {row : Option Nat} (h : w.grownBy w1 row) (hs : ∀ k, row = some k → S k) : Cng w w1 S := ⟨h.os, h.tape, h.output, h.size, fun k hk hn => h.block k hk (fun e => hn (hs k e.symm))⟩
theorem Cng.of_below (h : Below w.heap.size w w1) : Cng w w1 S := ⟨h.os, h.tape, h.output, h.size, fun k hk _ => h.block k hk⟩
theorem Cng.trans (h : Cng w w1 S) (h2 : Cng w1 w2 S') (hs : ∀ k, k < w.heap.size → S' k → S k) : Cng w w2 S :=
  ⟨h2.os.trans h.os, h2.tape.trans h.tape, h2.output.trans h.output, Nat.le_trans h.size h2.size, fun k hk hn => (h2.block k (Nat.lt_of_lt_of_le hk h.size) (fun g => hn (hs k hk g))).trans (h.block k hk hn)⟩
theorem Cng.below {B : Nat} (h : Cng w w1 S) (hB : B ≤ w.heap.size) (hs : ∀ k, S k → B ≤ k) : Below B w w1 := ⟨h.os, h.tape, h.output, h.size, fun k hk => h.block k (Nat.lt_of_lt_of_le hk hB) (fun g => by have := hs k g; omega)⟩
theorem Blk.cng {g : Nat} {t : TypeId} {cs : Array Value} (hb : Blk w g t cs) (h : Cng w w1 S) (hn : ¬ S g) : Blk w1 g t cs := (h.block g hb.lt hn).trans hb
theorem row_cng {B : Nat} {t : TypeId} {k n : Nat} {v : Value} {xs : List Value} (hr : w.ownsRow B t k v n xs) (h : Cng w w1 S) (hn : ∀ j, v.ownBlock = some j → ¬ S j) : w1.ownsRow B t k v n xs := by
  refine ⟨hr.1, ?_⟩
  rcases hr.2 with g | ⟨g, cap, cur, e, hb, hg, rest⟩
  · exact .inl g
  · exact .inr ⟨g, cap, cur, e, hb, (h.block g (Array.getElem?_eq_some_iff.1 hg).1 (hn g (by rw [e]; rfl))).trans hg, rest⟩
theorem SlR.cng {A : Option Addr} {xs : List Value} (hs : SlR w A xs) (h : Cng w w1 S) (hn : ∀ a, A = some a → ¬ S a.block) : SlR w1 A xs := fun g => by
  obtain ⟨b, off, e, hlt, hc⟩ := hs g
  exact ⟨b, off, e, Nat.lt_of_lt_of_le hlt h.size, fun j hj => (World.cell?_of_block (a := ⟨b, off + j, none⟩) (h.block b hlt (hn _ e))).trans (hc j hj)⟩
end
theorem row_below {w w' : World} {B : Nat} {t : TypeId} {k n : Nat} {v : Value} {xs : List Value} (hr : w.ownsRow B t k v n xs) (h : Below w.heap.size w w') : w'.ownsRow B t k v n xs := row_cng (S := fun _ => False) hr (Cng.of_below h) (fun _ _ => id)
/-- The blocks of a register. -/
def CS (r : Nat) (v : Value) (b1 b2 : Nat) (k : Nat) : Prop := k = r ∨ k = b1 ∨ k = b2 ∨ v.ownBlock = some k
/-- A register in the midst of a change, and the link's box. -/
structure MReg (w : World) (B r : Nat) (L : Ls) (v : Value) (b1 b2 n1 : Nat) (fa : ByteArray → Option Int) (n2 : Nat) (fb : ByteArray → Option Int) (g : Nat) (x : Lk) : Prop where
  low : B ≤ r
  l1 : B ≤ b1
  l2 : B ≤ b2
  ne : b1 ≠ b2
  blk : Blk w r 82 #[v, .map (some b1), .map (some b2)]
  row : w.ownsRow B 36 6 v L.length (lrowL L)
  m1 : MapIs w b1 n1 fa
  m2 : MapIs w b2 n2 fb
  box : LBox w g x
section
variable {w w1 w2 : World} {B r : Nat} {L : Ls} {v : Value} {b1 b2 n1 n2 : Nat} {fa fb : ByteArray → Option Int} {g : Nat} {x : Lk}
theorem MReg.below (h : MReg w B r L v b1 b2 n1 fa n2 fb g x) (hb : Below w.heap.size w w1) : MReg w1 B r L v b1 b2 n1 fa n2 fb g x :=
  ⟨h.low, h.l1, h.l2, h.ne, h.blk.below hb, row_below h.row hb, h.m1.below hb, h.m2.below hb, h.box.below hb⟩
theorem MReg.put1 {n' : Nat} {f' : ByteArray → Option Int} (h : MReg w B r L v b1 b2 n1 fa n2 fb g x) (hm : MapIs w1 b1 n' f') (hg : w.grownBy w1 (some b1)) : MReg w1 B r L v b1 b2 n' f' n2 fb g x :=
  ⟨h.low, h.l1, h.l2, h.ne, h.blk.grown hg (map_blk h.m1 h.blk).symm, h.row.kept hg (.inr (map_row h.m1 h.row).symm), hm, h.m2.kept hg (by simpa using h.ne.symm), Blk.grown h.box hg (map_blk h.m1 h.box).symm⟩
theorem MReg.put2 {n' : Nat} {f' : ByteArray → Option Int} (h : MReg w B r L v b1 b2 n1 fa n2 fb g x) (hm : MapIs w1 b2 n' f') (hg : w.grownBy w1 (some b2)) : MReg w1 B r L v b1 b2 n1 fa n' f' g x :=
  ⟨h.low, h.l1, h.l2, h.ne, h.blk.grown hg (map_blk h.m2 h.blk).symm, h.row.kept hg (.inr (map_row h.m2 h.row).symm), h.m1.kept hg (by simpa using h.ne), hm, Blk.grown h.box hg (map_blk h.m2 h.box).symm⟩
theorem CReg.mid {g' cap : Nat} (h : CReg w B r L v b1 b2) (hb : Below w.heap.size w w1) (hx : LBox w1 w.heap.size x) (hgr : w1.grownBy w2 v.ownBlock)
    (ho : w2.ownsRow B 36 6 (.slice (some ⟨g', 0, none⟩) (L.length + 1) cap) (L.length + 1) (lrowL L ++ lcells x)) (hv : v.ownBlock = some g' ∨ g' = w1.heap.size) :
    MReg (w2.setCell ⟨r, 0, none⟩ (.slice (some ⟨g', 0, none⟩) (L.length + 1) cap)) B r (L ++ [x]) (.slice (some ⟨g', 0, none⟩) (L.length + 1) cap) b1 b2 L.length (f1 L) L.length (f2 L) w.heap.size x ∧
    Cng w (w2.setCell ⟨r, 0, none⟩ (.slice (some ⟨g', 0, none⟩) (L.length + 1) cap)) (CS r v b1 b2) ∧ ((Value.slice (some ⟨g', 0, none⟩) (L.length + 1) cap).ownBlock = v.ownBlock ∨ w.heap.size ≤ g') := by
  have hs := set_grown w2 r 0 (.slice (some ⟨g', 0, none⟩) (L.length + 1) cap)
  have hrlt := h.blk.lt
  have hrv := row_blk h.row h.blk (by decide)
  have hvlt : ∀ k, v.ownBlock = some k → k < w.heap.size := fun k hk => (h.row.lt k hk).2
  have hg'r : g' ≠ r := fun e => by
    rcases hv with e' | e'
    · rw [e] at e'; exact hrv e'.symm
    · have := hb.size; omega
  have h1 := h.below hb
  have hwr : w.heap.size ≠ r := by omega
  refine ⟨⟨h.low, h.l1, h.l2, h.ne, ?_, ?_, ?_, ?_, ?_⟩, ?_, ?_⟩
  · have := (h1.blk.grown hgr hrv).set_ 0 (.slice (some ⟨g', 0, none⟩) (L.length + 1) cap)
    simpa using this
  · rw [lrowL_snoc, List.length_append]
    exact ho.kept hs (.inr (by simpa [Value.ownBlock] using hg'r))
  · have m := h1.m1.kept hgr (map_row h1.m1 h1.row)
    exact m.kept hs (map_blk m (h1.blk.grown hgr hrv))
  · have m := h1.m2.kept hgr (map_row h1.m2 h1.row)
    exact m.kept hs (map_blk m (h1.blk.grown hgr hrv))
  · refine Blk.grown (Blk.grown hx hgr (fun e => ?_)) hs (by simpa using hwr)
    have := hvlt _ e.symm
    omega
  · refine Cng.trans (Cng.trans (Cng.of_below hb) (Cng.of_grown (S := CS r v b1 b2) hgr fun k hk => .inr (.inr (.inr hk))) (fun k _ g => g)) (Cng.of_grown (S := CS r v b1 b2) hs fun k hk => ?_) (fun k _ g => g)
    cases hk; exact .inl rfl
  · rcases hv with e' | e'
    · exact .inl (by rw [e']; rfl)
    · exact .inr (by have := hb.size; omega)
theorem MReg.done (h : MReg w B r (L ++ [x]) v b1 b2 n1 fa n2 fb g x) (h1 : n1 ≤ L.length + 1) (h2 : n2 ≤ L.length + 1) (e1 : ∀ s, f1 (L ++ [x]) s = fa s) (e2 : ∀ s, f2 (L ++ [x]) s = fb s) : CReg w B r (L ++ [x]) v b1 b2 :=
  ⟨h.low, h.l1, h.l2, h.ne, h.blk, h.row, (h.m1.congr e1).mono (by simpa using h1), (h.m2.congr e2).mono (by simpa using h2)⟩
end
theorem step_lies_c {P : Program} {w : World} {ops : Array Oper} {o : Oper} {a : Act} {K : Act → World → Prop} {Q : Exit → Act → World → Prop} {E : Prop} (hgd : o.guard = none) (s x : Operand) (t : TypeId)
    (ho : o.op = .call { callee := .builtin .append, args := #[s, x], argTypes := #[t, t] })
    (base : Nat) (e : TypeId) (z : Value) (size bytes : Nat) (ht : P.underlying t = some (.slice e)) (hinfo : (P.info? e).map (fun i => (i.zero, i.size, i.bytes)) = some (some z, size, bytes)) (hzs : z.cells.size = size) (hsz : 0 < size)
    (v : Value) (n : Nat) (xs : List Value) (hs : a.eval s = v) (hown : w.ownsRow base e size v n xs)
    (ad : Addr) (m c : Nat) (news : List Value) (hx : a.eval x = .slice (some ad) m c) (hl : news.length = m * size) (hnews : ∀ j u, news[j]? = some u → w.cell? (ad.add j) = some u) (h1 : ∀ u ∈ news, u.oneCell' = true)
    (hm : 0 < m) (h63 : n + m ≤ maxLen) (hbytes : (n + m) * bytes ≤ 140737488355328) (hbase : base ≤ w.heap.size)
    (h : ∀ g cap w', w'.ownsRow base e size (.slice (some ⟨g, 0, none⟩) (n + m) cap) (n + m) (xs ++ news) → w.grownBy w' v.ownBlock → (v.ownBlock = some g ∨ g = w.heap.size) → K (a.put o.dst (.slice (some ⟨g, 0, none⟩) (n + m) cap)) w') :
    if Region.wanted o (yielded ops a.tmps) = true then Oper.wp P o a w K Q else E := by
  obtain ⟨i0, hi, hz0, hz1, hz2⟩ := info_parts hinfo
  exact step_append_lies w hgd s x t ho base e i0 z size bytes ht hi hz0 hz1 hz2 hzs hsz v n xs hs hown ad m c news hx hl hnews h1 hm h63 hbytes hbase _ rfl fun g cap w' h2 h3 h4 _ => h g cap w' h2 h3 h4
/-- After a link is added. -/
def Rec (w w' : World) (B r : Nat) (L : Ls) (v : Value) (b1 b2 : Nat) : Prop := ∃ v', CReg w' B r L v' b1 b2 ∧ Cng w w' (CS r v b1 b2) ∧ (v'.ownBlock = v.ownBlock ∨ ∀ k, v'.ownBlock = some k → w.heap.size ≤ k)
end Go.Proofs.YtpimmdmcmccbpaaDoor
