/- Package clock: shifts in memory; isTime, list, Open, weekly, passed, Work. -/
import Derived.Test.YtieafjbngealoaaDoorK
import Derived.Test.YtieafjbngealoaaDoorY0
import Derived.BigCall
import Derived.BigGuard
namespace Go.Proofs.YtieafjbngealoaaDoor
open Go.RowKit
set_option linter.unusedVariables false

theorem ret_i {k : IntKind} {a b : Int} (h : a = b) : Ending.returned (.int k a) = .returned (.int k b) := by rw [h]
theorem ret_ii {k l : IntKind} {a b c d : Int} (h : a = b) (h' : c = d) : Ending.returned (.tuple #[.int k a, .int l c]) = .returned (.tuple #[.int k b, .int l d]) := by rw [h, h']

def tmB (t : Int) : Bool := decide (0 ≤ t ∧ t ≤ 10000000)
theorem tm_yes (t : Int) (h : 0 ≤ t ∧ t ≤ 10000000) (w : World) : Calls Tryd.prog 31 #[.int .i64 t] w fun e w' => e = .returned (.bool true) ∧ w = w' := by
  go_enter Tryd.func31, Tryd.ntmps31
  go_wp2
  go_ret
  exact ⟨rfl, rfl⟩
theorem tm_no (t : Int) (h : ¬ (0 ≤ t ∧ t ≤ 10000000)) (w : World) : Calls Tryd.prog 31 #[.int .i64 t] w fun e w' => e = .returned (.bool false) ∧ w = w' := by
  by_cases h1 : 0 ≤ t
  · have h2 : ¬ t ≤ 10000000 := by omega
    clear h
    go_enter Tryd.func31, Tryd.ntmps31
    go_wp2
    go_ret
    exact ⟨rfl, rfl⟩
  · clear h
    go_enter Tryd.func31, Tryd.ntmps31
    go_wp2
    go_ret
    exact ⟨rfl, rfl⟩
theorem ltm_yes (t : Int) (h : 0 ≤ t ∧ t ≤ 10000000) (w : World) : Calls Tryd.prog 30 #[.int .i64 t] w fun e w' => e = .returned (.bool true) ∧ w = w' := by
  go_enter Tryd.func30, Tryd.ntmps30
  go_wp2
  go_ret
  exact ⟨rfl, rfl⟩
theorem ltm_no (t : Int) (h : ¬ (0 ≤ t ∧ t ≤ 10000000)) (w : World) : Calls Tryd.prog 30 #[.int .i64 t] w fun e w' => e = .returned (.bool false) ∧ w = w' := by
  by_cases h1 : 0 ≤ t
  · have h2 : ¬ t ≤ 10000000 := by omega
    clear h
    go_enter Tryd.func30, Tryd.ntmps30
    go_wp2
    go_ret
    exact ⟨rfl, rfl⟩
  · clear h
    go_enter Tryd.func30, Tryd.ntmps30
    go_wp2
    go_ret
    exact ⟨rfl, rfl⟩
theorem rtm_yes (t : Int) (h : 0 ≤ t ∧ t ≤ 10000000) (w : World) : Calls Tryd.prog 33 #[.int .i64 t] w fun e w' => e = .returned (.bool true) ∧ w = w' := by
  go_enter Tryd.func33, Tryd.ntmps33
  go_wp2
  go_ret
  exact ⟨rfl, rfl⟩
theorem rtm_no (t : Int) (h : ¬ (0 ≤ t ∧ t ≤ 10000000)) (w : World) : Calls Tryd.prog 33 #[.int .i64 t] w fun e w' => e = .returned (.bool false) ∧ w = w' := by
  by_cases h1 : 0 ≤ t
  · have h2 : ¬ t ≤ 10000000 := by omega
    clear h
    go_enter Tryd.func33, Tryd.ntmps33
    go_wp2
    go_ret
    exact ⟨rfl, rfl⟩
  · clear h
    go_enter Tryd.func33, Tryd.ntmps33
    go_wp2
    go_ret
    exact ⟨rfl, rfl⟩

/-- Shifts that lie in a block from an offset on. -/
def ShAt (w : World) (b off : Nat) (S : Ck.Sh) : Prop := ∀ i (hi : i < S.length), w.cell? ⟨b, off + i * 2, none⟩ = some (.int .i64 S[i].1) ∧ w.cell? ⟨b, off + (i * 2 + 1), none⟩ = some (.int .i64 S[i].2)
theorem ShAt.below {w w' : World} {b off : Nat} {S : Ck.Sh} (h : ShAt w b off S) (hl : b < w.heap.size) (hb : Below w.heap.size w w') : ShAt w' b off S := fun i hi =>
  ⟨(hb.cell (p := ⟨b, off + i * 2, none⟩) hl).trans (h i hi).1, (hb.cell (p := ⟨b, off + (i * 2 + 1), none⟩) hl).trans (h i hi).2⟩
/-- A calendar in memory. -/
structure Cal (w : World) (b : Nat) (S : Ck.Sh) : Prop where
  lt : b < w.heap.size
  len : S.length ≤ 21
  cnt : w.cell? ⟨b, 42, none⟩ = some (.int .i64 (S.length : Int))
  sh : ShAt w b 0 S
theorem Cal.below {w w' : World} {b : Nat} {S : Ck.Sh} (h : Cal w b S) (hb : Below w.heap.size w w') : Cal w' b S :=
  ⟨Nat.lt_of_lt_of_le h.lt hb.size, h.len, (hb.cell (p := ⟨b, 42, none⟩) h.lt).trans h.cnt, h.sh.below h.lt hb⟩

theorem list_any (b : Nat) (S : Ck.Sh) (w : World) (hc : Hid (Cal w b S)) :
    Calls Tryd.prog 32 #[.pointer (some ⟨b, 0, none⟩)] w fun e w' => e = .returned (.slice (some ⟨b, 0, none⟩) S.length 21) ∧ ∃ n, w' = w.drewN n := by
  have h1 := hc.out.cnt
  have h2 := hc.out.len
  have h3 : (S.length : Int) ≤ 21 := by omega
  have h4 : (0 : Int) ≤ (S.length : Int) := by omega
  go_enter Tryd.func32, Tryd.ntmps32
  go_wp2_with fail
  go_quiet (fail)
  go_wp2_with fail
  go_ret
  exact ⟨rfl, _, rfl⟩

theorem wk_snoc : ∀ (S : Ck.Sh) (k : Nat) (hk : k < S.length), Ck.wk (S.take (k + 1)) = Ck.wk (S.take k) + (S[k].2 - S[k].1) := by
  intro S
  induction S with
  | nil => intro k hk; simp at hk
  | cons s r ih =>
    intro k hk
    cases k with
    | zero => simp [Ck.wk]
    | succ k =>
      have := ih k (by simpa using hk)
      simp only [List.take_succ_cons, Ck.wk, List.getElem_cons_succ]
      omega
theorem bf_snoc : ∀ (S : Ck.Sh) (m : Int) (k : Nat) (hk : k < S.length), Ck.bf (S.take (k + 1)) m = Ck.bf (S.take k) m + max 0 (min m S[k].2 - S[k].1) := by
  intro S
  induction S with
  | nil => intro m k hk; simp at hk
  | cons s r ih =>
    intro m k hk
    cases k with
    | zero => simp [Ck.bf]
    | succ k =>
      have := ih m k (by simpa using hk)
      simp only [List.take_succ_cons, Ck.bf, List.getElem_cons_succ]
      omega
/-- Each shift lies in the week. -/
theorem sh_range : ∀ {S : Ck.Sh} {last : Int}, Ck.Ok last S → ∀ k (hk : k < S.length), 0 ≤ S[k].1 ∧ S[k].1 < S[k].2 ∧ S[k].2 ≤ 10080
  | [], _, _, k, hk => by simp at hk
  | s :: r, last, h, k, hk => by
    cases k with
    | zero => exact ⟨h.1, h.2.1, h.2.2.1⟩
    | succ k => exact sh_range h.2.2.2.2 k (by simpa using hk)
theorem ok_take : ∀ {S : Ck.Sh} {last : Int} (k : Nat), Ck.Ok last S → Ck.Ok last (S.take k)
  | [], _, k, _ => by simp [Ck.Ok]
  | s :: r, last, 0, _ => by simp [Ck.Ok]
  | s :: r, last, k + 1, h => by
    rw [List.take_succ_cons]
    exact ⟨h.1, h.2.1, h.2.2.1, h.2.2.2.1, ok_take k h.2.2.2.2⟩
theorem wk_take {S : Ck.Sh} (k : Nat) (h : Ck.Ok 0 S) : 0 ≤ Ck.wk (S.take k) ∧ Ck.wk (S.take k) ≤ 10080 := by
  have h2 := ok_take k h
  have := Ck.wk_hi h2 (by omega)
  have h3 := Ck.bf_hi 0 h2
  have h4 := Ck.bf_nonneg (S.take k) 0
  omega
theorem bf_take {S : Ck.Sh} (k : Nat) (m : Int) (h : Ck.Ok 0 S) : 0 ≤ Ck.bf (S.take k) m ∧ Ck.bf (S.take k) m ≤ 10080 := by
  have := wk_take k h
  have h3 := Ck.bf_hi m (ok_take k h)
  have h4 := Ck.bf_nonneg (S.take k) m
  omega

/-- The cells of shift k in a grown world. -/
theorem Cal.at_ {w wr : World} {b : Nat} {S : Ck.Sh} (h : Cal w b S) (hb : Below w.heap.size w wr) (k : Nat) (hk : k < S.length) :
    wr.cell? ⟨b, k * 2, none⟩ = some (.int .i64 S[k].1) ∧ wr.cell? ⟨b, k * 2 + 1, none⟩ = some (.int .i64 S[k].2) := by
  have := (h.below hb).sh k hk
  rw [Nat.zero_add, Nat.zero_add] at this
  exact this
set_option maxHeartbeats 2000000 in
theorem weekly_any (b : Nat) (S : Ck.Sh) (w : World) (HC : Hid (Cal w b S)) (HOK : Hid (Ck.Ok 0 S)) :
    Calls Tryd.prog 46 #[.pointer (some ⟨b, 0, none⟩)] w fun e w' => e = .returned (.int .i64 (Ck.wk S)) ∧ Below w.heap.size w w' := by
  have hl := HC.out.len
  have hl2 : (S.length : Int) ≤ 21 := by omega
  go_enter Tryd.func46, Tryd.ntmps46
  go_wp2_with fail
  (with_reducible refine (list_any _ _ _ HC).mono ?_)
  rintro e w1 ⟨rfl, n, rfl⟩
  go_wp2_with fail
  go_loopw [3, 9] (fun s i wr => ∃ k : Nat, i = .int .i64 k ∧ k ≤ S.length ∧ s = .int .i64 (Ck.wk (S.take k)) ∧ Below w.heap.size w wr) (fun _ i _ => S.length - (intOf i).toNat)
  case atStart => exact ⟨0, rfl, by omega, by simp [Ck.wk], below_drewN (Below.refl _ _) n⟩
  case round =>
    obtain ⟨k, rfl, hk, rfl, hB⟩ := hrel
    have hw1 := wk_take k HOK.out
    by_cases hlt : k < S.length
    · obtain ⟨c0, c1⟩ := HC.out.at_ hB k hlt
      obtain ⟨r0, r1, r2⟩ := sh_range HOK.out k hlt
      have zk : (k : Int) < (S.length : Int) := by omega
      have hbw : b < wr.heap.size := Nat.lt_of_lt_of_le HC.out.lt hB.size
      have hszw := hB.size
      have hne : b ≠ wr.heap.size := by omega
      have hst := Lib.hid (wk_snoc S k hlt)
      have hw2 := wk_take (k + 1) HOK.out
      rw [hst.out] at hw2
      generalize S[k].1 = x at *
      generalize S[k].2 = y at *
      generalize Ck.wk (S.take k) = v at *
      go_wp2_with fail
      go_roundw
      case rel => exact ⟨k + 1, by go_num, by omega, by rw [hst.out], hB.alloc hszw _⟩
      case measure => simp [intOf]; omega
    · have he : S.take k = S := List.take_of_length_le (by omega)
      rw [he]
      go_wp2_with fail
      go_ret
      exact ⟨rfl, hB⟩
end Go.Proofs.YtieafjbngealoaaDoor
