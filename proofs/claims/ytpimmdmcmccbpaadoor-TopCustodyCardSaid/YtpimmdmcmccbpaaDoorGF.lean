/- custody: Links. -/
import Derived.Test.YtpimmdmcmccbpaaDoorEG
namespace Go.Proofs.YtpimmdmcmccbpaaDoor
open Go.RowKit
set_option linter.unusedVariables false
open Cu (Lk Ls)
set_option maxHeartbeats 2000000 in
theorem lclone_none (w : World) : Calls Tryd.prog 45 #[.slice none 0 0] w fun e w' => e = .returned (.slice none 0 0) ∧ w' = w := by
  have hnil := fun (w : World) (a : Option Addr) (n c : Nat) => Lib.run_eql_slice_nil (P := Tryd.prog) w 33 36 a n c 0 0 Tryd.underlying33
  go_enter Tryd.func45, Tryd.ntmps45
  go_wp2_with fail
  go_ret
  exact ⟨rfl, rfl⟩
set_option maxHeartbeats 2000000 in
theorem lclone_some (g n c : Nat) (xs : List Value) (hn : n ≤ 2000) (w : World) (hl : Hid (xs.length = n * 6)) (hx : Hid (∀ j u, xs[j]? = some u → w.cell? ((⟨g, 0, none⟩ : Addr).add j) = some u)) (h1 : Hid (∀ u ∈ xs, u.oneCell' = true)) (hg : g < w.heap.size) :
    Calls Tryd.prog 45 #[.slice (some ⟨g, 0, none⟩) n c] w fun e w' => ∃ v, e = .returned v ∧ w'.ownsRow w.heap.size 36 6 v n xs ∧ Below w.heap.size w w' := by
  have hm0 : n ≤ maxLen := by unfold maxLen; omega
  have hb : Hid ((0 + n) * 72 ≤ 140737488355328) := by show _ ≤ _; omega
  have hm : Hid (0 + n ≤ maxLen) := by show _ ≤ _; omega
  clear hm0
  have hnil := fun (w : World) (a : Option Addr) (n c : Nat) => Lib.run_eql_slice_nil (P := Tryd.prog) w 33 36 a n c 0 0 Tryd.underlying33
  go_enter Tryd.func45, Tryd.ntmps45
  go_wp2_with (at_builtin; refine wpList_append_c rfl (.tmp 5) (.tmp 6) 33 rfl w.heap.size 36 _ 6 72 Tryd.underlying33 infoLk rfl (by decide) _ 0 [] rfl (World.ownsRow_lit w #[] 0 (Nat.le_refl _) (Nat.zero_le _) rfl) ⟨g, 0, none⟩ n c xs rfl hl.out ?c1 h1.out hm.out hb.out (by simp) ?_)
  case c1 =>
    intro j u hu
    have := hx.out j u hu
    rw [Below.cell ((Below.refl w.heap.size w).alloc (Nat.le_refl _) _) (by unfold Addr.add; split <;> exact hg)]
    exact this
  intro v' w' hown hgrow
  go_wp2_with fail
  go_ret
  refine ⟨v', rfl, hown, ?_⟩
  exact ((Below.refl w.heap.size w).alloc (Nat.le_refl _) _).grown hgrow (by simp) (fun k hk => by simp [Value.ownBlock] at hk; omega)
set_option maxHeartbeats 2000000 in
theorem links_any {B r : Nat} {L : Ls} {v : Value} {b1 b2 : Nat} (w : World) (HC0 : Hid (CReg w B r L v b1 b2)) (hl : L.length ≤ 2000) :
    Calls Tryd.prog 17 #[.pointer (some ⟨r, 0, none⟩)] w fun e w' => ∃ v, e = .returned v ∧ w'.ownsRow w.heap.size 36 6 v L.length (lrowL L) ∧ Below w.heap.size w w' := by
  have hlt := HC0.out.blk.lt
  have k0 := HC0.out.c0
  rcases HC0.out.row.2 with ⟨rfl, h0⟩ | ⟨g, cap, cur, rfl, hb, hg, h2, h3, _⟩
  · have hnil : lrowL L = [] := List.eq_nil_of_length_eq_zero (by rw [lrowL_length, h0])
    rw [hnil, h0]
    go_enter Tryd.func17, Tryd.ntmps17
    go_wp2_with fail
    (with_reducible refine (lclone_none _).mono ?_)
    rintro e w1 ⟨rfl, rfl⟩
    go_wp2_with fail
    go_ret
    exact ⟨_, rfl, World.ownsRow_nil _ _ _ _, Below.refl _ _⟩
  · have hgl : g < w.heap.size := (Array.getElem?_eq_some_iff.1 hg).1
    have HC := Lib.hid (lclone_some g L.length L.length (lrowL L) (by omega) w (lrowL_length L) (HC0.out.row.cells rfl) (lrowL_one L) hgl)
    have z1 : (L.length : Int) ≤ (cap : Int) := by omega
    clear hg
    go_enter Tryd.func17, Tryd.ntmps17
    go_wp2_with fail
    (with_reducible refine HC.out.mono ?_)
    rintro e w1 ⟨v, rfl, hown, hB⟩
    go_wp2_with fail
    go_ret
    exact ⟨v, rfl, hown, hB⟩
end Go.Proofs.YtpimmdmcmccbpaaDoor

namespace Go.Proofs.YtpimmdmcmccbpaaDoor
open Go.RowKit
set_option linter.unusedVariables false
open Cu (Lk Ls)
namespace Cu
/-- The links from an item toward the root, at most n. -/
def tr (L : Ls) : Nat → ByteArray → Ls
  | 0, _ => []
  | n + 1, s => match L[ix s L]? with
    | none => []
    | some e => e :: tr L n e.pa
def trc (L : Ls) (s : ByteArray) : Ls := tr L L.length s
theorem tr_none {L : Ls} {s : ByteArray} (h : ¬ ix s L < L.length) (n : Nat) : tr L n s = [] := by
  cases n with
  | zero => rfl
  | succ n => simp [tr, h]
theorem tr_some {L : Ls} {s : ByteArray} (h : ix s L < L.length) (n : Nat) : tr L (n + 1) s = L[ix s L] :: tr L n (L[ix s L]).pa := by
  simp [tr, h]
/-- Links are in order: each item once, a parent before its children. -/
structure Ord (L : Ls) : Prop where
  one : ∀ k (hk : k < L.length), ix (L[k]).it L = k
  par : ∀ k (hk : k < L.length), (L[k]).pa ≠ ByteArray.empty → ix (L[k]).pa L < k
  ne : ¬ ix ByteArray.empty L < L.length
theorem Good.ord {L : Ls} (h : Good L) : Ord L := by
  induction h with
  | nil => exact ⟨fun k hk => (by simp at hk), fun k hk => (by simp at hk), by simp [ix]⟩
  | @snoc L x h hc hh ih =>
    have hne := (Good.snoc h hc hh).mild.ne
    refine ⟨fun k hk => ?_, fun k hk => ?_, hne⟩
    · by_cases g : k < L.length
      · rw [List.getElem_append_left g, ix_append, ih.one k g, if_pos g]
      · have e : k = L.length := by simp at hk; omega
        subst e
        simp only [List.getElem_append_right (Nat.le_refl _), Nat.sub_self, List.getElem_cons_zero]
        rw [ix_append, if_neg hc.new, if_pos rfl]
    · by_cases g : k < L.length
      · rw [List.getElem_append_left g, ix_append]
        intro hp
        have := ih.par k g hp
        rw [if_pos (by omega)]
        exact this
      · have e : k = L.length := by simp at hk; omega
        subst e
        simp only [List.getElem_append_right (Nat.le_refl _), Nat.sub_self, List.getElem_cons_zero]
        rw [ix_append]
        intro hp
        have g2 : ix x.pa L < L.length := Classical.byContradiction fun g3 => hc.nd ⟨hp, g3⟩
        rw [if_pos g2]; exact g2
theorem Ord.up {L : Ls} (h : Ord L) {s : ByteArray} (hs : ix s L < L.length) (hp : ix (L[ix s L]).pa L < L.length) : ix (L[ix s L]).pa L < ix s L :=
  h.par _ hs fun e => h.ne (by rw [e] at hp; exact hp)
theorem Ord.tr_eq {L : Ls} (h : Ord L) : ∀ (n m : Nat) (s : ByteArray), (ix s L < L.length → ix s L < n ∧ ix s L < m) → tr L n s = tr L m s
  | 0, m, s, hs => by
    by_cases g : ix s L < L.length
    · have := hs g; omega
    · rw [tr_none g, tr_none g]
  | n + 1, 0, s, hs => by
    by_cases g : ix s L < L.length
    · have := hs g; omega
    · rw [tr_none g, tr_none g]
  | n + 1, m + 1, s, hs => by
    by_cases g : ix s L < L.length
    · rw [tr_some g, tr_some g, Ord.tr_eq h n m]
      intro hp
      have := h.up g hp
      have := hs g
      omega
    · rw [tr_none g, tr_none g]
theorem trc_no {L : Ls} {s : ByteArray} (h : ¬ ix s L < L.length) : trc L s = [] := tr_none h _
theorem Ord.trc_yes {L : Ls} (h : Ord L) {s : ByteArray} (hs : ix s L < L.length) : trc L s = L[ix s L] :: trc L (L[ix s L]).pa := by
  unfold trc
  rw [h.tr_eq L.length (L.length + 1) s (fun g => ⟨g, by omega⟩), tr_some hs]
theorem tr_length (L : Ls) : ∀ n s, (tr L n s).length ≤ n
  | 0, s => Nat.le_refl _
  | n + 1, s => by
    by_cases g : ix s L < L.length
    · rw [tr_some g]; have := tr_length L n (L[ix s L]).pa; simp; omega
    · rw [tr_none g]; simp
theorem trc_length (L : Ls) (s : ByteArray) : (trc L s).length ≤ L.length := tr_length L _ s
theorem tr_mem (L : Ls) : ∀ n s, ∀ e ∈ tr L n s, e ∈ L
  | 0, s, e, he => by cases he
  | n + 1, s, e, he => by
    by_cases g : ix s L < L.length
    · rw [tr_some g] at he
      rcases List.mem_cons.1 he with rfl | he
      · exact List.getElem_mem g
      · exact tr_mem L n _ e he
    · rw [tr_none g] at he; cases he
end Cu
end Go.Proofs.YtpimmdmcmccbpaaDoor
