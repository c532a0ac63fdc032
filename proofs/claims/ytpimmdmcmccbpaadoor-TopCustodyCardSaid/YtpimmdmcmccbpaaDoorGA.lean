/- Small helpers for walks: worlds that only grew; a region that draws its order, reads and calls functions that make memory. -/
import Derived.Test.YtpimmdmcmccbpaaDoorProg
import Derived.WalkKit
import Derived.WalkSpells
import Derived.WalkLawsBesides
import Derived.BigQuiet
import Derived.Lib.Hide
import Derived.Outline
import Derived.Laws.OwnMore
import Derived.Laws.AppendOwnNone
import Derived.Laws.BytesArg
import Derived.Deep.AppendLies
import Derived.Deep.RegionLawGrows
import Derived.StillTail
namespace Go.Proofs.YtpimmdmcmccbpaaDoor
open Go.RowKit
set_option linter.unusedVariables false

/-- u, where it is w with nothing old changed; else w. -/
noncomputable def wx (w u : World) : World := open Classical in if Below w.heap.size w u then u else w
theorem wx_below (w u : World) : Below w.heap.size w (wx w u) := by
  unfold wx
  split
  · assumption
  · exact Below.refl _ _
theorem wx_of {w u : World} (h : Below w.heap.size w u) : u = wx w u := by unfold wx; rw [if_pos h]
theorem wx_cell (w u : World) (b o : Nat) (s : Option _) (hb : b < w.heap.size) : (wx w u).cell? ⟨b, o, s⟩ = w.cell? ⟨b, o, s⟩ := (wx_below w u).cell hb
theorem wx_size (w u : World) : w.heap.size ≤ (wx w u).heap.size := (wx_below w u).size

theorem below_drewN {B : Nat} {a w : World} (h : Below B a w) (n : Nat) : Below B a (w.drewN n) := ⟨h.os, h.tape, h.output, h.size, h.block⟩

/-- Behind a call that changed nothing old: the old cells and marks read as before. -/
theorem bcell {W w1 : World} (hb : Below W.heap.size W w1) : (∀ b o, b < W.heap.size → w1.cell? ⟨b, o, none⟩ = W.cell? ⟨b, o, none⟩) ∧ (∀ b o, b < W.heap.size → w1.frozen? ⟨b, o, none⟩ = W.frozen? ⟨b, o, none⟩) :=
  ⟨fun b o h => hb.cell (p := ⟨b, o, none⟩) h, fun b o h => hb.frozen (p := ⟨b, o, none⟩) h⟩
theorem below_old {w W w1 : World} (h0 : Below w.heap.size w W) (hb : Below W.heap.size W w1) : Below w.heap.size w w1 := h0.trans (hb.mono h0.size)

section
variable {P : Program}
/-- A region that draws its order, whose operations read and whose calls may make memory: one walk in the order of the text. -/
theorem wp_region_grows {id : Nat} {Q : Exit → Act → World → Prop} {a : Act} {w : World} {l : List Oper} (hm : P.follows .mixedOrders = true) (hB : Region.lexB .any l.toArray = true)
    (h : wpQuiet P l.toArray (fun w' => ∃ u, w' = wx w u) (fun a' => ∀ w', (∃ u, w' = wx w u) → Q .normal a' w') l a) : (Code.region id l.toArray true).wp P Q a w :=
  wp_region_quiet (C := fun w' => ∃ u, w' = wx w u) hm hB ⟨w.drew, wx_of ((Below.refl _ _).drew)⟩ (by simpa using h)

theorem calls_grows {f : FuncId} {args : Array Value} {w u : World} {v : Value}
    (h : Calls P f args (wx w u) fun e w' => e = .returned v ∧ Below (wx w u).heap.size (wx w u) w') : Calls P f args (wx w u) fun e w'' => e = .returned v ∧ ∃ u', w'' = wx w u' :=
  h.mono fun _ _ ⟨he, hb⟩ => ⟨he, _, wx_of ((wx_below w u).trans (hb.mono (wx_size w u)))⟩
theorem calls_drew {f : FuncId} {args : Array Value} {w : World} {v : Value}
    (h : Calls P f args w fun e w' => e = .returned v ∧ ∃ n, w' = w.drewN n) : Calls P f args w fun e w' => e = .returned v ∧ Below w.heap.size w w' :=
  h.mono fun _ _ ⟨he, n, hn⟩ => ⟨he, by rw [hn]; exact below_drewN (Below.refl _ _) n⟩
theorem calls_same {f : FuncId} {args : Array Value} {w : World} {v : Value}
    (h : Calls P f args w fun e w' => e = .returned v ∧ w = w') : Calls P f args w fun e w' => e = .returned v ∧ Below w.heap.size w w' :=
  h.mono fun _ _ ⟨he, hn⟩ => ⟨he, by rw [← hn]; exact Below.refl _ _⟩
end

/-- append onto a slice of the call's own; the element type's table entry as one closed fact. -/
theorem wpList_append_c {P : Program} {w : World} {ops : Array Oper} {rest : List Oper} {o : Oper} {a : Act} {Q : Exit → Act → World → Prop} (hgd : o.guard = none) (s x : Operand) (t : TypeId)
    (ho : o.op = .call { callee := .builtin .append, args := #[s, x], argTypes := #[t, t] })
    (base : Nat) (e : TypeId) (z : Value) (size bytes : Nat) (ht : P.underlying t = some (.slice e)) (hinfo : (P.info? e).map (fun i => (i.zero, i.size, i.bytes)) = some (some z, size, bytes))
    (hzs : z.cells.size = size) (hsz : 0 < size)
    (v : Value) (n : Nat) (xs : List Value) (hs : a.eval s = v) (hown : w.ownsRow base e size v n xs)
    (ad : Addr) (m c : Nat) (news : List Value) (hx : a.eval x = .slice (some ad) m c) (hl : news.length = m * size) (hnews : ∀ j u, news[j]? = some u → w.cell? (ad.add j) = some u) (h1 : ∀ u ∈ news, u.oneCell' = true)
    (h63 : n + m ≤ maxLen) (hbytes : (n + m) * bytes ≤ 140737488355328) (hbase : base ≤ w.heap.size)
    (h : ∀ v' w', w'.ownsRow base e size v' (n + m) (xs ++ news) → w.grownBy w' v.ownBlock → wpList P ops Q rest (a.put o.dst v') w') : wpList P ops Q (o :: rest) a w := by
  obtain ⟨i0, hi, hz0, hz1, hz2⟩ := info_parts hinfo
  exact wpList_append_own w hgd s x t ho base e i0 z size bytes ht hi hz0 hz1 hz2 hzs hsz v n xs hs hown ad m c news hx hl hnews h1 h63 hbytes hbase fun v' w' h2 h3 _ => h v' w' h2 h3

theorem ret_bool {a b : Bool} (h : a = b) : Ending.returned (.bool a) = .returned (.bool b) := by rw [h]
theorem ret_three {k l m : IntKind} {a b c d x y : Int} (h : a = b) (h' : c = d) (h2 : x = y) : Ending.returned (.tuple #[.int k a, .int l c, .int m x]) = .returned (.tuple #[.int k b, .int l d, .int m y]) := by rw [h, h', h2]
end Go.Proofs.YtpimmdmcmccbpaaDoor

namespace Go.Proofs.YtpimmdmcmccbpaaDoor
open Go.RowKit
set_option linter.unusedVariables false

/-- A block that is known whole. -/
def Blk (w : World) (g : Nat) (t : TypeId) (cs : Array Value) : Prop := w.heap[g]? = some (.cells cs t (0, 0))
section
variable {w w' : World} {g : Nat} {t : TypeId} {cs : Array Value}
theorem Blk.lt (h : Blk w g t cs) : g < w.heap.size := by
  rcases Nat.lt_or_ge g w.heap.size with hlt | hge
  · exact hlt
  · unfold Blk at h; rw [Array.getElem?_eq_none hge] at h; cases h
theorem Blk.cell (h : Blk w g t cs) (i : Nat) : w.cell? ⟨g, i, none⟩ = cs[i]? := cell_of_row w g i cs t (0, 0) h
theorem Blk.frozen (h : Blk w g t cs) (i : Nat) : w.frozen? ⟨g, i, none⟩ = false := by
  unfold Blk at h
  simp [World.frozen?, h]
theorem Blk.new (w : World) (t : TypeId) (cs : Array Value) : Blk (w.alloc (.cells cs t)) w.heap.size t cs := heap_alloc_new w _
theorem Blk.set_ (h : Blk w g t cs) (i : Nat) (u : Value) : Blk (w.setCell ⟨g, i, none⟩ u) g t (cs.setIfInBounds i u) := by
  unfold Blk at h ⊢
  simp [World.setCell, Array.getElem?_modify, h]
theorem Blk.grown {row : Option Nat} (h : Blk w g t cs) (hg : w.grownBy w' row) (hne : some g ≠ row) : Blk w' g t cs := (hg.block g h.lt hne).trans h
theorem Blk.below (h : Blk w g t cs) (hb : Below w.heap.size w w') : Blk w' g t cs := (hb.block g h.lt).trans h
end
theorem below_grown {w w' : World} (h : Below w.heap.size w w') (row : Option Nat) : w.grownBy w' row := ⟨h.os, h.tape, h.output, h.size, fun k hk _ => h.block k hk⟩
theorem grown_below {w w' : World} (h : w.grownBy w' none) : Below w.heap.size w w' := ⟨h.os, h.tape, h.output, h.size, fun k hk => h.block k hk (by simp)⟩
theorem grown_below_of {B : Nat} {w w' : World} {row : Option Nat} (h : w.grownBy w' row) (hB : B ≤ w.heap.size) (hr : ∀ k, row = some k → B ≤ k) : Below B w w' := (Below.refl B w).grown h hB hr
theorem grown_drewN {w w' : World} {row : Option Nat} (h : w.grownBy w' row) (n : Nat) : w.grownBy (w'.drewN n) row := ⟨h.os, h.tape, h.output, h.size, h.block⟩
/-- A slice's cells: xs from the address on (nothing is said where there are none). -/
def SlR (w : World) (A : Option Addr) (xs : List Value) : Prop :=
  0 < xs.length → ∃ b off, A = some ⟨b, off, none⟩ ∧ b < w.heap.size ∧ ∀ j (hj : j < xs.length), w.cell? ⟨b, off + j, none⟩ = some xs[j]
theorem SlR.below {w w' : World} {A : Option Addr} {xs : List Value} (h : SlR w A xs) (hb : Below w.heap.size w w') : SlR w' A xs := fun g => by
  obtain ⟨b, off, e, hlt, hc⟩ := h g
  exact ⟨b, off, e, Nat.lt_of_lt_of_le hlt hb.size, fun j hj => (hb.cell (p := ⟨b, off + j, none⟩) hlt).trans (hc j hj)⟩
theorem SlR.grown {w w' : World} {A : Option Addr} {xs : List Value} {row : Option Nat} (h : SlR w A xs) (hg : w.grownBy w' row) (hne : ∀ b, row = some b → ∀ a, A = some a → a.block ≠ b) : SlR w' A xs := fun g => by
  obtain ⟨b, off, e, hlt, hc⟩ := h g
  refine ⟨b, off, e, Nat.lt_of_lt_of_le hlt hg.size, fun j hj => ?_⟩
  exact (World.cell?_of_block (a := ⟨b, off + j, none⟩) (hg.block b hlt (fun hr => hne b hr.symm _ e rfl))).trans (hc j hj)
theorem SlR.of_row {w : World} {B : Nat} {t : TypeId} {k n : Nat} {v : Value} {xs : List Value} (h : w.ownsRow B t k v n xs) : ∃ A c, v = .slice A n c ∧ SlR w A xs ∧ (∀ a, A = some a → B ≤ a.block ∧ v.ownBlock = some a.block) ∧ (A = none → v.ownBlock = none) := by
  rcases h.2 with ⟨rfl, rfl⟩ | ⟨g, cap, cur, rfl, hb, hg, h1, h2, h3, h4⟩
  · exact ⟨none, 0, rfl, fun g => by have := h.1; rw [Nat.zero_mul] at this; omega, fun a ha => (by cases ha), fun _ => rfl⟩
  · refine ⟨some ⟨g, 0, none⟩, cap, rfl, fun _ => ⟨g, 0, rfl, (Array.getElem?_eq_some_iff.1 hg).1, fun j hj => ?_⟩, fun a ha => by cases ha; exact ⟨hb, rfl⟩, fun h => (by cases h)⟩
    rw [Nat.zero_add, h.cellAt j (by have := h.1; omega)]
    simp [hj]
theorem seq_t {a b : ByteArray} (h : a = b) : (a.toList == b.toList) = true := by rw [h]; exact beq_self_eq_true _
theorem seq_f {a b : ByteArray} (h : ¬ a = b) : (a.toList == b.toList) = false := by
  rw [beq_eq_false_iff_ne]
  intro e
  rw [ByteArray.toList_eq, ByteArray.toList_eq] at e
  exact h (ByteArray.ext (Array.toList_inj.1 e))
theorem step_grows_c {P : Program} {ops : Array Oper} {o : Oper} {a : Act} {w : World} {K : Act → World → Prop} {Q : Exit → Act → World → Prop} {E : Prop}
    (hg : o.guard = none) (s x : Operand) (t : TypeId) (hop : o.op = Op.call { callee := Callee.builtin Builtin.append, args := #[s, x], argTypes := #[t, t] })
    (e : TypeId) (z : Value) (size bytes : Nat) (h1 : P.underlying t = some (.slice e)) (hinfo : (P.info? e).map (fun i => (i.zero, i.size, i.bytes)) = some (some z, size, bytes)) (h6 : z.cells.size = size) (h7 : 0 < size)
    (ao : Option Addr) (n cap : Nat) (olds : List Value) (hs : a.eval s = .slice ao n cap) (hnone : ao = none → n = 0 ∧ cap = 0) (hlo : olds.length = n * size) (holds : ∀ b, ao = some b → ∀ j u, olds[j]? = some u → w.cell? (b.add j) = some u)
    (ad : Addr) (m c : Nat) (news : List Value) (hx : a.eval x = .slice (some ad) m c) (hn : news.length = m * size) (hc : ∀ j u, news[j]? = some u → w.cell? (ad.add j) = some u) (h1c : ∀ u ∈ news, u.oneCell' = true)
    (hfull : cap < n + m) (b1 : n + m ≤ maxLen) (b2 : (n + m) * bytes ≤ 140737488355328)
    (hK : ∀ v' w', w'.ownsRow w.heap.size e size v' (n + m) (olds ++ news) → w.grownBy w' none → K (a.put o.dst v') w') :
    if Region.wanted o (yielded ops a.tmps) = true then Oper.wp P o a w K Q else E := by
  obtain ⟨i0, hi, hz0, hz1, hz2⟩ := info_parts hinfo
  exact step_append_grows hg s x t hop e i0 z size bytes h1 hi hz0 hz1 hz2 h6 h7 ao n cap olds hs hnone hlo holds ad m c news hx hn hc h1c hfull b1 b2 hK
theorem wpList_grows_c {P : Program} {w : World} {ops : Array Oper} {rest : List Oper} {o : Oper} {a : Act} {Q : Exit → Act → World → Prop}
    (hg : o.guard = none) (s x : Operand) (t : TypeId) (hop : o.op = Op.call { callee := Callee.builtin Builtin.append, args := #[s, x], argTypes := #[t, t] })
    (e : TypeId) (z : Value) (size bytes : Nat) (h1 : P.underlying t = some (.slice e)) (hinfo : (P.info? e).map (fun i => (i.zero, i.size, i.bytes)) = some (some z, size, bytes)) (h6 : z.cells.size = size) (h7 : 0 < size)
    (ao : Option Addr) (n cap : Nat) (olds : List Value) (hs : a.eval s = .slice ao n cap) (hnone : ao = none → n = 0 ∧ cap = 0) (hlo : olds.length = n * size) (holds : ∀ b, ao = some b → ∀ j u, olds[j]? = some u → w.cell? (b.add j) = some u)
    (ad : Addr) (m c : Nat) (news : List Value) (hx : a.eval x = .slice (some ad) m c) (hn : news.length = m * size) (hc : ∀ j u, news[j]? = some u → w.cell? (ad.add j) = some u) (h1c : ∀ u ∈ news, u.oneCell' = true)
    (hfull : cap < n + m) (b1 : n + m ≤ maxLen) (b2 : (n + m) * bytes ≤ 140737488355328)
    (hK : ∀ v' w', w'.ownsRow w.heap.size e size v' (n + m) (olds ++ news) → w.grownBy w' none → wpList P ops Q rest (a.put o.dst v') w') :
    wpList P ops Q (o :: rest) a w := by
  obtain ⟨i0, hi, hz0, hz1, hz2⟩ := info_parts hinfo
  exact wpList_append_grows w hg s x t hop e i0 z size bytes h1 hi hz0 hz1 hz2 h6 h7 ao n cap olds hs hnone hlo holds ad m c news hx hn hc h1c hfull b1 b2 hK
/-- A row's facts for an append that grows. -/
structure RowIs (w : World) (ao : Option Addr) (n k : Nat) (xs : List Value) : Prop where
  none_ : ao = none → n = 0
  len : xs.length = n * k
  cells : ∀ b, ao = some b → ∀ j u, xs[j]? = some u → w.cell? (b.add j) = some u
  lt : ∀ b, ao = some b → b.block < w.heap.size
theorem RowIs.of {w : World} {B : Nat} {t : TypeId} {k n : Nat} {v : Value} {xs : List Value} (h : w.ownsRow B t k v n xs) : ∃ ao c, v = .slice ao n c ∧ n ≤ c ∧ RowIs w ao n k xs := by
  rcases h.2 with ⟨rfl, rfl⟩ | ⟨g, cap, cur, rfl, hb, hg, h1, h2, h3, h4⟩
  · exact ⟨none, 0, rfl, Nat.le_refl _, fun _ => rfl, h.1, fun b hb => (by cases hb), fun b hb => (by cases hb)⟩
  · refine ⟨some ⟨g, 0, none⟩, cap, rfl, h1, fun e => (by cases e), h.1, fun b e => ?_, fun b e => ?_⟩
    · cases e; exact h.cells rfl
    · cases e; exact (Array.getElem?_eq_some_iff.1 hg).1
theorem RowIs.in_ {w w' : World} {ao : Option Addr} {n k : Nat} {xs : List Value} (h : RowIs w ao n k xs) (hb : Below w.heap.size w w') : ∀ b, ao = some b → ∀ j u, xs[j]? = some u → w'.cell? (b.add j) = some u := fun b e j u hu => by
  rw [hb.cell (by have := h.lt b e; unfold Addr.add; split <;> exact this)]
  exact h.cells b e j u hu
theorem RowIs.caps {w : World} {ao : Option Addr} {n k : Nat} {xs : List Value} (h : RowIs w ao n k xs) : ao = none → n = 0 ∧ n = 0 := fun e => ⟨h.none_ e, h.none_ e⟩
theorem ownsRow_base {w : World} {B B' : Nat} {t : TypeId} {k n : Nat} {v : Value} {xs : List Value} (h : w.ownsRow B t k v n xs) (hB : B' ≤ B) : w.ownsRow B' t k v n xs := by
  refine ⟨h.1, ?_⟩
  rcases h.2 with g | ⟨g, cap, cur, e, hb, rest⟩
  · exact .inl g
  · exact .inr ⟨g, cap, cur, e, Nat.le_trans hB hb, rest⟩
theorem conv_one (W : World) (x : Int) : (convert 109 9 (.slice (some ⟨W.heap.size, 0, none⟩) 1 1)).run Tryd.prog (W.alloc (.cells #[.int .u8 x] 5)) = .ok (.string (strOfNums [x])) (W.alloc (.cells #[.int .u8 x] 5)) := by
  refine run_convert_bytes_arg _ 109 5 Tryd.underlying109 Tryd.underlying5 W.heap.size 0 1 1 [x] rfl (fun i hi => ?_) 9 Tryd.underlying9
  have : i = 0 := by omega
  subst this
  simp [go_sem]
theorem wpList_lies_c {P : Program} {w : World} {ops : Array Oper} {rest : List Oper} {o : Oper} {a : Act} {Q : Exit → Act → World → Prop} (hgd : o.guard = none) (s x : Operand) (t : TypeId)
    (ho : o.op = .call { callee := .builtin .append, args := #[s, x], argTypes := #[t, t] })
    (base : Nat) (e : TypeId) (z : Value) (size bytes : Nat) (ht : P.underlying t = some (.slice e)) (hinfo : (P.info? e).map (fun i => (i.zero, i.size, i.bytes)) = some (some z, size, bytes)) (hzs : z.cells.size = size) (hsz : 0 < size)
    (v : Value) (n : Nat) (xs : List Value) (hs : a.eval s = v) (hown : w.ownsRow base e size v n xs)
    (ad : Addr) (m c : Nat) (news : List Value) (hx : a.eval x = .slice (some ad) m c) (hl : news.length = m * size) (hnews : ∀ j u, news[j]? = some u → w.cell? (ad.add j) = some u) (h1 : ∀ u ∈ news, u.oneCell' = true)
    (hm : 0 < m) (h63 : n + m ≤ maxLen) (hbytes : (n + m) * bytes ≤ 140737488355328) (hbase : base ≤ w.heap.size)
    (h : ∀ g cap w', w'.ownsRow base e size (.slice (some ⟨g, 0, none⟩) (n + m) cap) (n + m) (xs ++ news) → w.grownBy w' v.ownBlock → (v.ownBlock = some g ∨ g = w.heap.size) → wpList P ops Q rest (a.put o.dst (.slice (some ⟨g, 0, none⟩) (n + m) cap)) w') : wpList P ops Q (o :: rest) a w := by
  obtain ⟨i0, hi, hz0, hz1, hz2⟩ := info_parts hinfo
  exact wpList_append_lies w hgd s x t ho base e i0 z size bytes ht hi hz0 hz1 hz2 hzs hsz v n xs hs hown ad m c news hx hl hnews h1 hm h63 hbytes hbase _ rfl fun g cap w' h2 h3 h4 _ => h g cap w' h2 h3 h4
/-- Rows of different types lie apart. -/
theorem row_apart {w : World} {B1 B2 : Nat} {t1 t2 : TypeId} {k1 k2 n1 n2 : Nat} {v1 v2 : Value} {xs1 xs2 : List Value} (h1 : w.ownsRow B1 t1 k1 v1 n1 xs1) (h2 : w.ownsRow B2 t2 k2 v2 n2 xs2) (ht : t1 ≠ t2) : v1.ownBlock = none ∨ v1.ownBlock ≠ v2.ownBlock := by
  rcases h1.2 with ⟨rfl, _⟩ | ⟨g1, c1, cur1, rfl, _, hg1, _⟩
  · exact .inl rfl
  · right
    rcases h2.2 with ⟨rfl, _⟩ | ⟨g2, c2, cur2, rfl, _, hg2, _⟩
    · simp [Value.ownBlock]
    · simp only [Value.ownBlock, ne_eq, Option.some.injEq]
      rintro rfl
      rw [hg1] at hg2
      simp only [Option.some.injEq, Obj.cells.injEq] at hg2
      exact ht hg2.2.1
theorem row_blk {w : World} {B1 : Nat} {t1 t : TypeId} {k1 n1 g : Nat} {v1 : Value} {xs1 : List Value} {cs : Array Value} (h1 : w.ownsRow B1 t1 k1 v1 n1 xs1) (hb : Blk w g t cs) (ht : t ≠ t1) : some g ≠ v1.ownBlock := by
  rcases h1.2 with ⟨rfl, _⟩ | ⟨g1, c1, cur1, rfl, _, hg1, _⟩
  · simp [Value.ownBlock]
  · simp only [Value.ownBlock, ne_eq, Option.some.injEq]
    rintro rfl
    unfold Blk at hb
    rw [hg1] at hb
    simp only [Option.some.injEq, Obj.cells.injEq] at hb
    exact ht hb.2.1.symm
/-- Apart, as a relation of two values. -/
def Ap (v1 v2 : Value) : Prop := v1.ownBlock = none ∨ v1.ownBlock ≠ v2.ownBlock
theorem Ap.fresh {w : World} {B : Nat} {t : TypeId} {k n : Nat} {v1 v1' v2 : Value} {xs : List Value} (h : Ap v1 v2) (h2 : w.ownsRow B t k v2 n xs) (hf : v1' = v1 ∨ ∀ j, v1'.ownBlock = some j → w.heap.size ≤ j) : Ap v1' v2 := by
  rcases hf with rfl | hf
  · exact h
  · unfold Ap
    cases hv : v1'.ownBlock with
    | none => exact .inl rfl
    | some j => exact .inr fun e => by have := hf j hv; have := (h2.lt j e.symm).2; omega
theorem Ap.fresh' {w : World} {B : Nat} {t : TypeId} {k n : Nat} {v1 v2 v2' : Value} {xs : List Value} (h : Ap v1 v2) (h2 : w.ownsRow B t k v1 n xs) (hf : v2'.ownBlock = v2.ownBlock ∨ ∀ j, v2'.ownBlock = some j → w.heap.size ≤ j) : Ap v1 v2' := by
  unfold Ap at h ⊢
  rcases hf with hf | hf
  · rw [hf]; exact h
  · cases hv : v1.ownBlock with
    | none => exact .inl rfl
    | some j => exact .inr fun e => by have := hf j e.symm; have := (h2.lt j hv).2; omega
theorem row_form {w : World} {B : Nat} {t : TypeId} {k n : Nat} {v : Value} {xs : List Value} (h : w.ownsRow B t k v n xs) : ∃ A c, v = .slice A n c := by
  obtain ⟨A, c, e, _⟩ := SlR.of_row h
  exact ⟨A, c, e⟩
/-- 'append(nil, xs...)', xs nil or not. -/
theorem wpList_copy_c {P : Program} {w : World} {ops : Array Oper} {rest : List Oper} {o : Oper} {a : Act} {Q : Exit → Act → World → Prop} (hgd : o.guard = none) (s x : Operand) (t : TypeId)
    (ho : o.op = .call { callee := .builtin .append, args := #[s, x], argTypes := #[t, t] })
    (e : TypeId) (z : Value) (size bytes : Nat) (ht : P.underlying t = some (.slice e)) (hinfo : (P.info? e).map (fun i => (i.zero, i.size, i.bytes)) = some (some z, size, bytes)) (hzs : z.cells.size = size) (hsz : 0 < size)
    (hs : a.eval s = .slice none 0 0) (v : Value) (n B : Nat) (xs : List Value) (hx : a.eval x = v) (hrow : w.ownsRow B e size v n xs) (h1 : ∀ u ∈ xs, u.oneCell' = true)
    (h63 : n ≤ maxLen) (hbytes : n * bytes ≤ 140737488355328) (base : Nat) (hbase : base ≤ w.heap.size)
    (h : ∀ v' w', w'.ownsRow base e size v' n xs → w.grownBy w' none → wpList P ops Q rest (a.put o.dst v') w') : wpList P ops Q (o :: rest) a w := by
  obtain ⟨i0, hi, hz0, hz1, hz2⟩ := info_parts hinfo
  rcases hrow.2 with ⟨rfl, rfl⟩ | ⟨g, cap, cur, rfl, _⟩
  · have hnil : xs = [] := List.eq_nil_of_length_eq_zero (by rw [hrow.1, Nat.zero_mul])
    subst hnil
    exact wpList_append_own_none hgd s x t ho base e i0 size ht hi _ 0 [] hs (World.ownsRow_nil _ _ _ _) hx (h _ _ (World.ownsRow_nil _ _ _ _) ⟨rfl, rfl, rfl, Nat.le_refl _, fun _ _ _ => rfl⟩)
  · refine wpList_append_own w hgd s x t ho base e i0 z size bytes ht hi hz0 hz1 hz2 hzs hsz (.slice none 0 0) 0 [] hs (World.ownsRow_nil _ _ _ _) ⟨g, 0, none⟩ n cap xs hx hrow.1 (hrow.cells rfl) h1 (by omega) (by simpa using hbytes) hbase fun v' w' h2 h3 _ => h v' w' ?_ h3
    rw [Nat.zero_add, List.nil_append] at h2
    exact h2
theorem set_grown (w : World) (b o : Nat) (u : Value) : w.grownBy (w.setCell ⟨b, o, none⟩ u) (some b) := ⟨rfl, rfl, rfl, by simp, fun j _ hj => heap_setCell_other w ⟨b, o, none⟩ j _ (fun e => hj (by simp [e]))⟩
theorem blk_ne {w : World} {g g' : Nat} {t t' : TypeId} {cs cs' : Array Value} (h : Blk w g t cs) (h' : Blk w g' t' cs') (ht : t ≠ t') : some g ≠ some g' := fun e => by
  cases e
  unfold Blk at h h'
  rw [h] at h'
  simp only [Option.some.injEq, Obj.cells.injEq] at h'
  exact ht h'.2.1
theorem row_slr {w : World} {B : Nat} {t : TypeId} {k n : Nat} {v : Value} {xs : List Value} (h : w.ownsRow B t k v n xs) (A : Option Addr) (c : Nat) (hv : v = .slice A n c) : SlR w A xs := by
  obtain ⟨A', c', e, hs, _⟩ := SlR.of_row h
  rw [hv] at e
  simp only [Value.slice.injEq, true_and] at e
  rw [e.1]
  exact hs
end Go.Proofs.YtpimmdmcmccbpaaDoor

namespace Go.Proofs.YtpimmdmcmccbpaaDoor
open Go.RowKit
set_option linter.unusedVariables false

section
variable {P : Program} {ops : Array Oper} {md : Region.Mode} {C : World → Prop}

/-- Whatever order the head's operations come up in, each of them quiet in the class; behind the head: L. -/
def headAll (P : Program) (md : Region.Mode) (ops : Array Oper) (C : World → Prop) (n : Nat) (L : Array Bool → Act → Prop) : Nat → Array Bool → Act → Prop
  | 0, listed, a => L listed a
  | f + 1, listed, a =>
    Region.ready md ops listed ≠ [] ∧ ∀ i ∈ Region.ready md ops listed, i < n ∧ qOp P ops C i (headAll P md ops C n L f (listed.setIfInBounds i true)) a

theorem any_of_headAll {n g : Nat} {L : Array Bool → Act → Prop} {Q' : Exit → Act → World → Prop} (hL : ∀ listed a w, C w → L listed a → wpAny P md ops Q' g listed a w) :
    ∀ (f : Nat) (listed : Array Bool) (a : Act) (w : World), C w → headAll P md ops C n L f listed a → wpAny P md ops Q' (f + g) listed a w := by
  intro f
  induction f with
  | zero => intro listed a w hw h; rw [Nat.zero_add]; exact hL _ _ _ hw h
  | succ f ih =>
    intro listed a w hw h
    have e : f + 1 + g = (f + g) + 1 := by omega
    rw [e]
    exact ⟨fun h0 => absurd h0 h.1, fun i hi => wpOp_of_qOp hw (fun a' w' hw' h' => ih _ a' w' hw' h') (h.2 i hi).2⟩

theorem headAll_first {n i : Nat} {oi : Oper} {v : Value} {L : Array Bool → Act → Prop} (hi : ops[i]? = some oi) (hsel : ∀ (j : Nat) (o : Oper) cs b, ops[j]? = some o → o.op ≠ .select cs b)
    (hs : Region.sinkB md ops n = true) (hc : Region.chainB md ops n = true) (hn : n < ops.size) (hin : i < n)
    (hdone : ∀ listed a, L listed a → ∀ j ∈ Region.ready md ops listed, n ≤ j) :
    ∀ (f : Nat) (listed : Array Bool) (a : Act), HeadInv md ops n listed →
      (∀ j oj, ops[j]? = some oj → j ≠ i → listed.getD j true = false → (∀ e ∈ oj.after, Region.binds md e = true → e.on ≠ i) → oi.apart ops oj = true) →
      i ∈ Region.ready md ops listed → YieldsIn P ops C oi v a →
      headAll P md ops C n L f (listed.setIfInBounds i true) (a.put oi.dst v) → headAll P md ops C n L (f + 1) listed a := by
  intro f
  induction f with
  | zero =>
    intro listed a inv _ hr hy H
    have hun := (mem_ready.1 hr).1
    refine ⟨List.ne_nil_of_mem hr, fun j hj => ?_⟩
    have hjn : j < n := Nat.lt_of_not_le fun h => tail_waits hs hc hn inv _ i rfl hin hun j h hj
    refine ⟨hjn, ?_⟩
    by_cases hji : j = i
    · subst hji; exact hy.qOp hi H
    · have := hdone _ _ H j (ready_mono hj hji); omega
  | succ f ih =>
    intro listed a inv hfree hr hy H
    have hun := (mem_ready.1 hr).1
    refine ⟨List.ne_nil_of_mem hr, fun j hj => ?_⟩
    have hjn : j < n := Nat.lt_of_not_le fun h => tail_waits hs hc hn inv _ i rfl hin hun j h hj
    refine ⟨hjn, ?_⟩
    by_cases hji : j = i
    · subst hji; exact hy.qOp hi H
    · have h1 := (H.2 j (ready_mono hj hji)).2
      obtain ⟨hjun, oj, hoj, hall⟩ := mem_ready.1 hj
      have hnot : ∀ e ∈ oj.after, Region.binds md e = true → e.on ≠ i := fun e he hb heq => by
        have h2 := hall e he hb
        rw [heq, getD_both hun] at h2
        cases h2
      have h3 := qOp_put hoj (hfree j oj hoj hji hjun hnot) (fun cs b => hsel i oi cs b hi) (fun cs b => hsel j oj cs b hoj) hy h1
      have hfree' : ∀ k ok, ops[k]? = some ok → k ≠ i → (listed.setIfInBounds j true).getD k true = false →
          (∀ e ∈ ok.after, Region.binds md e = true → e.on ≠ i) → oi.apart ops ok = true := fun k ok hk hki hun' hno => by
        refine hfree k ok hk hki ?_ hno
        by_cases hjk : j = k
        · subst hjk; exact hjun
        · rw [getD_set_ne true hjk] at hun'; exact hun'
      refine qOp_mono (fun a' h4 => ih (listed.setIfInBounds j true) a' (inv.set hj hjn) hfree' (ready_mono hr (Ne.symm hji)) h4.1 ?_) h3
      rw [Array.setIfInBounds_comm _ _ hji]
      exact h4.2

theorem headAll_lex {n g : Nat} {Lq : Act → Prop} (hsel : Region.noSelect ops = true) (hs : Region.sinkB md ops n = true) (hc : Region.chainB md ops n = true) (hn : n < ops.size) :
    ∀ (l : List Oper) (k : Nat) (listed : Array Bool) (a : Act), (∀ j, j < l.length → l[j]? = ops[k + j]?) → k + l.length = n → HeadInv md ops n listed →
    Region.lexHead md ops g l.length k listed = true → wpQuiet P ops C Lq l a →
    headAll P md ops C n (fun listed' a' => Region.seqB md ops g n listed' = true ∧ Lq a') l.length listed a := by
  intro l
  induction l with
  | nil =>
    intro k listed a _ hk _ hB h
    have : k = n := by simpa using hk
    subst this
    exact ⟨by simpa [Region.lexHead] using hB, h⟩
  | cons o l ih =>
    intro k listed a hl hk inv hB h
    have h0 : ops[k]? = some o := by simpa using (hl 0 (by simp)).symm
    simp only [List.length_cons, Region.lexHead, Bool.and_eq_true] at hB
    obtain ⟨⟨hr, hf⟩, hB'⟩ := hB
    simp only [List.length_cons] at hk
    have hr' : k ∈ Region.ready md ops listed := by simpa using hr
    have hq : qOp P ops C k (wpQuiet P ops C Lq l) a := by unfold qOp; simp only [h0]; exact h
    obtain ⟨v, hy, hK⟩ := yieldsIn_of_qOp h0 hq
    refine headAll_first h0 (Region.noSelect_spec hsel) hs hc hn (by omega) (fun listed' a' hL => seqB_ready hL.1) l.length listed a inv (Region.free_spec h0 hf) hr' hy ?_
    refine ih (k + 1) _ _ (fun j hj => ?_) (by omega) (inv.set hr' (by omega)) hB' hK
    have := hl (j + 1) (by simp; omega)
    simpa [Nat.add_assoc, Nat.add_comm 1 j] using this

/-- The head quiet in the class of the worlds that only grew, then the tail, in whatever such world. -/
theorem wp_region_grows_tail {id : Nat} {Q : Exit → Act → World → Prop} {a : Act} {w : World} {l : List Oper} (n : Nat) (hm : P.follows .mixedOrders = true) (hB : Region.lexTailB .any l.toArray n = true)
    (h : wpQuiet P l.toArray (fun w' => ∃ u, w' = wx w u) (fun a' => ∀ w', (∃ u, w' = wx w u) → wpList P l.toArray Q (l.drop n) a' w') (l.take n) a) : (Code.region id l.toArray true).wp P Q a w := by
  simp only [Region.lexTailB, Bool.and_eq_true, decide_eq_true_eq] at hB
  obtain ⟨⟨⟨⟨hsel, hn⟩, hs⟩, hc⟩, hlex⟩ := hB
  have hn' : n < l.length := by simpa using hn
  have htl : (l.take n).length = n := by simp; omega
  have hdl : (l.drop n).length = l.toArray.size - n := by simp
  have inv0 : HeadInv .any l.toArray n (Array.replicate l.toArray.size false) :=
    ⟨by simp, fun j oj _ hl => (by rw [getD_replicate_false] at hl; cases hl), fun t _ ht => getD_in (by simpa using ht) (getD_replicate_false _ _)⟩
  have H := headAll_lex (md := .any) (g := l.toArray.size - n) hsel hs hc hn (l.take n) 0 _ a (fun j hj => by
    have hj' : j < n := by rw [htl] at hj; exact hj
    simp [hj']) (by simpa using htl) inv0 (by rw [htl]; exact hlex) h
  refine wp_region_any hm ?_
  have H2 := any_of_headAll (Q' := Q) (g := l.toArray.size - n) (fun listed a' w' hw' hL => by
    have := wpAny_of_seq (md := .any) (Q' := Q) (l.drop n) n listed a' w' (fun j => by simp [List.getElem?_drop]) (by rw [hdl]; exact hL.1) (hL.2 w' hw')
    rwa [hdl] at this) _ _ _ { w with drawn := w.drawn + 1 } ⟨w.drew, wx_of ((Below.refl _ _).drew)⟩ H
  rw [htl, show n + (l.toArray.size - n) = l.toArray.size by omega] at H2
  exact H2
end
end Go.Proofs.YtpimmdmcmccbpaaDoor

namespace Go.Proofs.YtpimmdmcmccbpaaDoor
open Go.RowKit
set_option linter.unusedVariables false

/-- Every operation waits only for earlier ones. -/
def fwdB (l : List Oper) : Bool := (List.range l.length).all fun i => match l[i]? with
  | some o => o.after.all fun e => !Region.binds .any e || decide (e.on < i)
  | none => true

theorem fwd_spec {l : List Oper} (h : fwdB l = true) {i : Nat} {o : Oper} (ho : l[i]? = some o) : ∀ e ∈ o.after, Region.binds .any e = true → e.on < i := by
  intro e he hb
  have hi : i < l.length := (List.getElem?_eq_some_iff.1 ho).1
  have h1 := List.all_eq_true.1 h i (List.mem_range.2 hi)
  rw [ho] at h1
  have h2 := Array.all_eq_true_iff_forall_mem.1 h1 e he
  simpa [hb] using h2

theorem least_false (f : Nat → Bool) (n : Nat) (h : ∃ i, i < n ∧ f i = false) : ∃ i, i < n ∧ f i = false ∧ ∀ j, j < i → f j = true := by
  induction n with
  | zero => obtain ⟨i, hi, _⟩ := h; omega
  | succ n ih =>
    by_cases h' : ∃ i, i < n ∧ f i = false
    · obtain ⟨i, hi, h1, h2⟩ := ih h'
      exact ⟨i, by omega, h1, h2⟩
    · obtain ⟨i, hi, h1⟩ := h
      have hin : i = n := by
        rcases Nat.lt_or_ge i n with hlt | hge
        · exact absurd ⟨i, hlt, h1⟩ h'
        · omega
      subst hin
      refine ⟨i, hi, h1, fun j hj => ?_⟩
      cases hf : f j with
      | true => rfl
      | false => exact absurd ⟨j, hj, hf⟩ h'

section
variable {P : Program}
theorem any_of_inv {l : List Oper} {Q : Exit → Act → World → Prop} (hF : fwdB l = true) (Inv : (Nat → Bool) → Act → World → Prop)
    (hstep : ∀ (i : Nat) (o : Oper) (L : Nat → Bool) (a : Act) (w : World), l[i]? = some o → L i = false → (∀ e ∈ o.after, Region.binds .any e = true → L e.on = true) → Inv L a w →
      wpOp P l.toArray Q i (fun a' w' => Inv (fun j => j == i || L j) a' w') a w)
    (hend : ∀ L a w, (∀ j, j < l.length → L j = true) → Inv L a w → Q .normal a w) :
    ∀ (fuel : Nat) (listed : Array Bool) (a : Act) (w : World), listed.size = l.length → (listed.toList.filter (! ·)).length = fuel →
      Inv (fun j => listed.getD j false) a w → wpAny P .any l.toArray Q fuel listed a w := by
  intro fuel
  induction fuel with
  | zero =>
    intro listed a w hs hc hI
    have hall : ∀ j, j < l.length → listed.getD j false = true := by
      intro j hj
      have hj' : j < listed.size := by omega
      have h0 : listed.toList.filter (! ·) = [] := List.eq_nil_of_length_eq_zero hc
      have h1 := List.filter_eq_nil_iff.1 h0 listed[j] (by simp)
      simpa [hj'] using h1
    refine ⟨?_, hend _ _ _ hall hI⟩
    apply List.eq_nil_iff_forall_not_mem.2
    intro j hj
    obtain ⟨h1, o, ho, _⟩ := mem_ready.1 hj
    have hlt : j < l.length := by
      have := (Array.getElem?_eq_some_iff.1 ho).1
      simpa using this
    have h2 := hall j hlt
    have hj' : j < listed.size := by omega
    simp [hj'] at h1 h2
    rw [h1] at h2
    cases h2
  | succ fuel ih =>
    intro listed a w hs hc hI
    refine ⟨fun h0 => ?_, fun i hi => ?_⟩
    · exfalso
      have hex : ∃ i, i < l.length ∧ listed.getD i false = false := by
        obtain ⟨b, hb⟩ : ∃ b, b ∈ listed.toList.filter (! ·) := by
          cases hl : listed.toList.filter (! ·) with
          | nil => rw [hl] at hc; simp at hc
          | cons b r => exact ⟨b, by simp⟩
        rw [List.mem_filter] at hb
        obtain ⟨i, hi, hib⟩ := List.getElem_of_mem hb.1
        refine ⟨i, by simpa [hs] using hi, ?_⟩
        have hi' : i < listed.size := by simpa using hi
        have : listed[i] = b := by simpa using hib
        simp [hi', this]
        simpa using hb.2
      obtain ⟨i, hi, h1, h2⟩ := least_false (fun j => listed.getD j false) l.length hex
      have hi' : i < listed.size := by omega
      have hm : i ∈ Region.ready .any l.toArray listed := by
        rw [mem_ready]
        refine ⟨by simp [hi'] at h1 ⊢; exact h1, l[i], by simp [hi], fun e he hb => ?_⟩
        exact h2 _ (fwd_spec hF (by simp [hi]) e he hb)
      rw [h0] at hm
      cases hm
    · obtain ⟨h1, o, ho, hall⟩ := mem_ready.1 hi
      have hlt : i < l.length := by
        have := (Array.getElem?_eq_some_iff.1 ho).1
        simpa using this
      have hi' : i < listed.size := by omega
      refine wpOp_mono (fun a' w' hI' => ih (listed.setIfInBounds i true) a' w' (by simpa using hs) ?_ ?_)
        (hstep i o _ a w (by simpa using ho) (by simp [hi'] at h1 ⊢; exact h1) hall hI)
      · have hb : listed[i] = false := by simpa [hi'] using h1
        have e1 : listed.toList = listed.toList.take i ++ false :: listed.toList.drop (i + 1) := by
          have hil : i < listed.toList.length := by simpa using hi'
          have hbl : listed.toList[i] = false := by simpa using hb
          rw [← hbl, List.getElem_cons_drop, List.take_append_drop]
        have e2 : (listed.setIfInBounds i true).toList = listed.toList.take i ++ true :: listed.toList.drop (i + 1) := by
          rw [Array.toList_setIfInBounds, List.set_eq_take_append_cons_drop, if_pos (by simpa using hi')]
        rw [e2]
        rw [e1] at hc
        simp only [List.filter_append, List.length_append, List.filter_cons] at hc ⊢
        simp at hc ⊢
        omega
      · have : (fun j => (listed.setIfInBounds i true).getD j false) = fun j => j == i || listed.getD j false := by
          funext j
          by_cases hji : j = i
          · subst hji; simp [hi']
          · rw [getD_set_ne false (Ne.symm hji)]; simp [hji]
        rw [this]
        exact hI'

/-- A region that draws its order, by an invariant over the set of the operations that have come up. -/
theorem wp_region_inv {id : Nat} {Q : Exit → Act → World → Prop} {a : Act} {w : World} {l : List Oper} (hm : P.follows .mixedOrders = true) (hF : fwdB l = true) (Inv : (Nat → Bool) → Act → World → Prop)
    (h0 : Inv (fun _ => false) a w.drew)
    (hstep : ∀ (i : Nat) (o : Oper) (L : Nat → Bool) (a : Act) (w : World), l[i]? = some o → L i = false → (∀ e ∈ o.after, Region.binds .any e = true → L e.on = true) → Inv L a w →
      wpOp P l.toArray Q i (fun a' w' => Inv (fun j => j == i || L j) a' w') a w)
    (hend : ∀ L a w, (∀ j, j < l.length → L j = true) → Inv L a w → Q .normal a w) : (Code.region id l.toArray true).wp P Q a w := by
  refine wp_region_any hm (any_of_inv hF Inv hstep hend _ _ _ _ (by simp) (by simp) ?_)
  have : (fun j => (Array.replicate l.toArray.size false).getD j false) = fun _ => false := by
    funext j
    by_cases hj : j < l.length <;> simp [hj]
  rw [this]
  exact h0

theorem wpOp_want {ops : Array Oper} {Q : Exit → Act → World → Prop} {i : Nat} {K : Act → World → Prop} {a : Act} {w : World} {o : Oper} (ho : ops[i]? = some o) (hw : Region.wanted o (yielded ops a.tmps) = true) (h : o.wp P a w K Q) : wpOp P ops Q i K a w := by
  unfold wpOp
  rw [ho]
  simp only [hw, if_true]
  exact .inl h
end
end Go.Proofs.YtpimmdmcmccbpaaDoor

namespace Go.Proofs.YtpimmdmcmccbpaaDoor
open Go.RowKit
set_option linter.unusedVariables false

/-- What slot e holds when the operations of L have come up: D tells which operation fills which slot, V with what. -/
def slotOf (D : List (Nat × Nat)) (a : Act) (L : Nat → Bool) (V : Nat → Value) (e : Nat) : Value :=
  match D.lookup e with
  | some i => if L i then V i else a.tmps.getD e undef
  | none => a.tmps.getD e undef
def FrameIs (D : List (Nat × Nat)) (a : Act) (L : Nat → Bool) (V : Nat → Value) (a' : Act) : Prop :=
  a'.defers = a.defers ∧ a'.tmps.size = a.tmps.size ∧ ∀ e, a'.tmps.getD e undef = slotOf D a L V e

section
variable {D : List (Nat × Nat)} {a a' : Act} {L : Nat → Bool} {V V' : Nat → Value}
theorem FrameIs.start (D : List (Nat × Nat)) (a : Act) (V : Nat → Value) : FrameIs D a (fun _ => false) V a := by
  refine ⟨rfl, rfl, fun e => ?_⟩
  unfold slotOf
  split <;> simp
theorem FrameIs.get (h : FrameIs D a L V a') {e i : Nat} (hl : D.lookup e = some i) (hL : L i = true) : a'.eval (.tmp e) = V i := by
  have := h.2.2 e
  unfold slotOf at this
  rw [hl] at this
  simp only [hL, if_true] at this
  exact this
theorem FrameIs.old (h : FrameIs D a L V a') {e : Nat} (hl : D.lookup e = none) : a'.eval (.tmp e) = a.eval (.tmp e) := by
  have := h.2.2 e
  unfold slotOf at this
  rw [hl] at this
  exact this
theorem getD_put (x : Act) (d : Nat) (v : Value) (hd : d < x.tmps.size) (e : Nat) : (x.put (some d) v).tmps.getD e undef = if e = d then v else x.tmps.getD e undef := by
  simp only [Act.put]
  by_cases h : e = d
  · subst h; simp [hd]
  · rw [if_neg h]
    simp only [Array.getD_eq_getD_getElem?]
    rw [Array.getElem?_setIfInBounds_ne (Ne.symm h)]
theorem FrameIs.put (h : FrameIs D a L V a') {d i : Nat} {v : Value} (hd : D.lookup d = some i) (hinj : ∀ e, D.lookup e = some i → e = d) (hin : d < a.tmps.size) (hV : ∀ j, j ≠ i → L j = true → V' j = V j) (hv : V' i = v) :
    FrameIs D a (fun j => j == i || L j) V' (a'.put (some d) v) := by
  obtain ⟨h1, h2, h3⟩ := h
  refine ⟨h1, by simp [Act.put, h2], fun e => ?_⟩
  rw [getD_put a' d v (by omega) e]
  by_cases he : e = d
  · subst he
    rw [if_pos rfl]
    unfold slotOf
    rw [hd]
    simp [hv]
  · rw [if_neg he, h3 e]
    unfold slotOf
    cases hl : D.lookup e with
    | none => rfl
    | some j =>
      have hj : j ≠ i := fun hj => he (hinj e (by rw [hl, hj]))
      by_cases hLj : L j = true
      · simp [hLj, hV j hj hLj]
      · simp [hj, hLj]
theorem FrameIs.none_ (h : FrameIs D a L V a') {i : Nat} {v : Value} (hD : ∀ e, D.lookup e ≠ some i) (hV : ∀ j, L j = true → V' j = V j) : FrameIs D a (fun j => j == i || L j) V' (a'.put none v) := by
  obtain ⟨h1, h2, h3⟩ := h
  refine ⟨h1, h2, fun e => ?_⟩
  show a'.tmps.getD e undef = _
  rw [h3 e]
  unfold slotOf
  cases hl : D.lookup e with
  | none => rfl
  | some j =>
    have hj : j ≠ i := fun hj => hD e (by rw [hl, hj])
    by_cases hLj : L j = true
    · simp [hLj, hV j hLj]
    · simp [hj, hLj]

theorem getD_foldl (V : Nat → Value) : ∀ (D : List (Nat × Nat)) (x : Act), (D.map (·.1)).Nodup → (∀ p ∈ D, p.1 < x.tmps.size) → ∀ e,
    (D.foldl (fun y p => y.put (some p.1) (V p.2)) x).tmps.getD e undef = match D.lookup e with | some i => V i | none => x.tmps.getD e undef := by
  intro D
  induction D with
  | nil => intro x _ _ e; rfl
  | cons p D ih =>
    intro x hn hb e
    simp only [List.map_cons, List.nodup_cons] at hn
    simp only [List.foldl_cons]
    rw [ih (x.put (some p.1) (V p.2)) hn.2 (fun q hq => by simp [Act.put]; exact hb q (by simp [hq])) e]
    obtain ⟨d, i⟩ := p
    by_cases he : e = d
    · subst he
      have hno : D.lookup e = none := by
        rw [List.lookup_eq_none_iff]
        intro q hq
        simp only [bne_iff_ne, ne_eq]
        intro h
        exact hn.1 (List.mem_map.2 ⟨q, hq, h.symm⟩)
      rw [hno]
      simp only [List.lookup, beq_self_eq_true]
      rw [getD_put x e (V i) (hb (e, i) (by simp)) e, if_pos rfl]
    · have h1 : List.lookup e ((d, i) :: D) = D.lookup e := by
        simp only [List.lookup]
        rw [show (e == d) = false by simpa using he]
      rw [h1]
      cases D.lookup e with
      | some j => rfl
      | none => show (x.put (some d) (V i)).tmps.getD e undef = _; rw [getD_put x d (V i) (hb (d, i) (by simp)) e, if_neg he]
theorem size_foldl (V : Nat → Value) : ∀ (D : List (Nat × Nat)) (x : Act), (D.foldl (fun y p => y.put (some p.1) (V p.2)) x).tmps.size = x.tmps.size ∧ (D.foldl (fun y p => y.put (some p.1) (V p.2)) x).defers = x.defers := by
  intro D
  induction D with
  | nil => intro x; exact ⟨rfl, rfl⟩
  | cons p D ih => intro x; simp only [List.foldl_cons]; have := ih (x.put (some p.1) (V p.2)); simpa [Act.put] using this

theorem lookup_mem {D : List (Nat × Nat)} {e i : Nat} (h : D.lookup e = some i) : (e, i) ∈ D := by
  induction D with
  | nil => simp [List.lookup] at h
  | cons p D ih =>
    obtain ⟨d, j⟩ := p
    simp only [List.lookup] at h
    split at h
    · rename_i hb
      have : e = d := by simpa using hb
      simp only [Option.some.injEq] at h
      simp [this, h]
    · exact List.mem_cons_of_mem _ (ih h)

/-- When all have come up: the frame, written out. -/
theorem FrameIs.done (h : FrameIs D a L V a') (hall : ∀ p ∈ D, L p.2 = true) (hn : (D.map (·.1)).Nodup) (hb : ∀ p ∈ D, p.1 < a.tmps.size) : a' = D.foldl (fun y p => y.put (some p.1) (V p.2)) a := by
  obtain ⟨h1, h2, h3⟩ := h
  obtain ⟨s1, s2⟩ := size_foldl V D a
  have ht : a'.tmps = (D.foldl (fun y p => y.put (some p.1) (V p.2)) a).tmps := by
    apply Array.ext (h2.trans s1.symm)
    intro e he1 he2
    have e1 := h3 e
    have e2 := getD_foldl V D a hn hb e
    have e3 : slotOf D a L V e = match D.lookup e with | some i => V i | none => a.tmps.getD e undef := by
      unfold slotOf
      cases hl : D.lookup e with
      | none => rfl
      | some i => simp [hall (e, i) (lookup_mem hl)]
    rw [e3, ← e2] at e1
    simpa [he1, he2] using e1
  cases a' with
  | mk t d =>
    simp only at ht h1
    rw [ht, h1, ← s2]
end

/-- D's slots are different ones and lie in the frame; its operations lie in the region; no two slots for one operation. -/
def okD (D : List (Nat × Nat)) (size len : Nat) : Bool := decide ((D.map (·.1)).Nodup) && D.all (fun p => decide (p.1 < size) && decide (p.2 < len)) && decide ((D.map (·.2)).Nodup)

theorem lookup_inj {D : List (Nat × Nat)} (h : (D.map (·.2)).Nodup) {d e i : Nat} (h1 : D.lookup d = some i) (h2 : D.lookup e = some i) : e = d := by
  have m1 := lookup_mem h1
  have m2 := lookup_mem h2
  induction D with
  | nil => cases m1
  | cons p D ih =>
    simp only [List.map_cons, List.nodup_cons] at h
    rcases List.mem_cons.1 m1 with e1 | e1 <;> rcases List.mem_cons.1 m2 with e2 | e2
    · rw [← e1] at e2; exact congrArg Prod.fst e2
    · exact absurd (List.mem_map.2 ⟨_, e2, rfl⟩) (by rw [← e1] at h; exact h.1)
    · exact absurd (List.mem_map.2 ⟨_, e1, rfl⟩) (by rw [← e2] at h; exact h.1)
    · have hne : ∀ x, (x, i) ∈ D → x ≠ p.1 ∨ True := fun _ _ => .inr trivial
      by_cases hd : d = p.1
      · have : List.lookup d (p :: D) = some p.2 := by obtain ⟨a, b⟩ := p; simp at hd; subst hd; simp [List.lookup]
        rw [this] at h1
        have hp : p.2 = i := Option.some.inj h1
        exact absurd (List.mem_map.2 ⟨_, e2, hp.symm⟩) h.1
      · by_cases he : e = p.1
        · have : List.lookup e (p :: D) = some p.2 := by obtain ⟨a, b⟩ := p; simp at he; subst he; simp [List.lookup]
          rw [this] at h2
          have hp : p.2 = i := Option.some.inj h2
          exact absurd (List.mem_map.2 ⟨_, e1, hp.symm⟩) h.1
        · have l1 : List.lookup d (p :: D) = D.lookup d := by obtain ⟨a, b⟩ := p; simp only [List.lookup]; rw [show (d == a) = false by simpa using hd]
          have l2 : List.lookup e (p :: D) = D.lookup e := by obtain ⟨a, b⟩ := p; simp only [List.lookup]; rw [show (e == a) = false by simpa using he]
          rw [l1] at h1
          rw [l2] at h2
          exact ih h.2 h1 h2 e1 e2

section
variable {P : Program}
/-- A region that draws its order: the frame by D and V, the world by Wd; g: what was chosen on the way (addresses of new blocks). -/
theorem wp_region_fr {G : Type} {id : Nat} {Q : Exit → Act → World → Prop} {a : Act} {w : World} {l : List Oper} (hm : P.follows .mixedOrders = true) (hF : fwdB l = true)
    (D : List (Nat × Nat)) (hD : okD D a.tmps.size l.length = true) (V : G → Nat → Value) (Wd : (Nat → Bool) → G → World → Prop) (g0 : G) (h0 : Wd (fun _ => false) g0 w.drew)
    (hstep : ∀ (i : Nat) (o : Oper) (L : Nat → Bool) (a' : Act) (w' : World) (g : G), l[i]? = some o → L i = false → (∀ e ∈ o.after, Region.binds .any e = true → L e.on = true) → FrameIs D a L (V g) a' → Wd L g w' →
      wpOp P l.toArray Q i (fun a'' w'' => ∃ g', FrameIs D a (fun j => j == i || L j) (V g') a'' ∧ Wd (fun j => j == i || L j) g' w'') a' w')
    (hend : ∀ L g w', (∀ j, j < l.length → L j = true) → Wd L g w' → Q .normal (D.foldl (fun y p => y.put (some p.1) (V g p.2)) a) w') : (Code.region id l.toArray true).wp P Q a w := by
  refine wp_region_inv hm hF (fun L a' w' => ∃ g, FrameIs D a L (V g) a' ∧ Wd L g w') ⟨g0, FrameIs.start D a _, h0⟩ ?_ ?_
  · rintro i o L a' w' ho hL hpre ⟨g, hf, hw⟩
    exact hstep i o L a' w' g ho hL hpre hf hw
  · rintro L a' w' hall ⟨g, hf, hw⟩
    simp only [okD, Bool.and_eq_true, decide_eq_true_eq, List.all_eq_true] at hD
    have := hf.done (fun p hp => hall _ (hD.1.2 p hp).2) hD.1.1 (fun p hp => (hD.1.2 p hp).1)
    rw [this]
    exact hend L g w' hall hw
end
end Go.Proofs.YtpimmdmcmccbpaaDoor
