/- Package stack and its reference: contracts of Split; the law's comparison of two lists. -/
import Derived.Test.YtgkkhbhobbhlpaaS2
namespace Go.Proofs.Ytgkkhbhobbhlpaa
open Go.RowKit
set_option linter.unusedVariables false

/-- How boards are split into packages of p: f bounds the number of packages. -/
def splF (p : Int) : Nat → Int → List Int
  | 0, _ => []
  | f + 1, n => if n ≤ 0 then [] else min n p :: splF p f (n - min n p)
theorem splF_nil (p : Int) (f : Nat) (n : Int) (h : n ≤ 0) : splF p f n = [] := by
  cases f with
  | zero => rfl
  | succ f => simp [splF, h]
theorem splF_cons (p : Int) (f : Nat) (n : Int) (h : 0 < n) : splF p (f + 1) n = min n p :: splF p f (n - min n p) := by
  simp [splF]; omega

def splB (a b c n : Int) : Bool := decide ((1 ≤ a ∧ a ≤ 8 ∧ 1 ≤ b ∧ b ≤ 8 ∧ 0 ≤ c ∧ c ≤ 50) ∧ 0 ≤ n ∧ n ≤ 512)
def splL (a b c n : Int) : List Int := if splB a b c n then splF (a * b) 512 n else []
def splE (a b c n : Int) : Int := if splB a b c n then 0 else 9
theorem spl_ok {a b c n : Int} (h : (1 ≤ a ∧ a ≤ 8 ∧ 1 ≤ b ∧ b ≤ 8 ∧ 0 ≤ c ∧ c ≤ 50) ∧ 0 ≤ n ∧ n ≤ 512) : splL a b c n = splF (a * b) 512 n ∧ splE a b c n = 0 := by
  have : splB a b c n = true := decide_eq_true h
  simp [splL, splE, this]
theorem spl_no {a b c n : Int} (h : ¬ ((1 ≤ a ∧ a ≤ 8 ∧ 1 ≤ b ∧ b ≤ 8 ∧ 0 ≤ c ∧ c ≤ 50) ∧ 0 ≤ n ∧ n ≤ 512)) : splL a b c n = [] ∧ splE a b c n = 9 := by
  have : splB a b c n = false := decide_eq_false h
  simp [splL, splE, this]

/-- A slice of ints of the call's own (from block B on) that holds xs. -/
def OwnI (w : World) (B : Nat) (v : Value) (xs : List Int) : Prop := w.ownsRow B 3 1 v xs.length (xs.map (Value.int .i64))
theorem OwnI.nil (w : World) (B : Nat) : OwnI w B (.slice none 0 0) [] := World.ownsRow_nil _ _ _ _

theorem OwnI.mono {w : World} {B B' : Nat} {v : Value} {xs : List Int} (h : OwnI w B' v xs) (hB : B ≤ B') : OwnI w B v xs := by
  obtain ⟨h1, h2⟩ := h
  refine ⟨h1, ?_⟩
  rcases h2 with h2 | ⟨g, cap, cur, hv, hg, hh, r⟩
  · exact Or.inl h2
  · exact Or.inr ⟨g, cap, cur, hv, by omega, hh, r⟩

/-- What a call that returns a list and an error leaves. -/
def RetList (w : World) (xs : List Int) (er : Int) (e : Ending) (w' : World) : Prop := ∃ v, e = .returned (.tuple #[v, .int .i64 er]) ∧ OwnI w' w.heap.size v xs ∧ Below w.heap.size w w'

theorem Try.infoInt : (Try.prog.info? 3).map (fun i => (i.zero, i.size, i.bytes)) = some (some (.int .i64 0), 1, 8) := by kernel_rfl

theorem own_snoc {w : World} {B : Nat} {v : Value} {xs : List Int} {x : Int} {m : Nat} (hm : m = xs.length + 1) (h : w.ownsRow B 3 1 v m (xs.map (Value.int .i64) ++ [.int .i64 x])) : OwnI w B v (xs ++ [x]) := by
  subst hm
  unfold OwnI
  simpa using h

theorem ret_list {v : Value} {k : IntKind} {a b : Int} (h : a = b) : Ending.returned (.tuple #[v, .int k a]) = .returned (.tuple #[v, .int k b]) := by rw [h]

set_option maxHeartbeats 2000000 in
theorem split_any (a b c n : Int) (w : World) :
    Calls Try.prog 39 #[.agg #[.int .i64 a, .int .i64 b, .int .i64 c], .int .i64 n] w (RetList w (splL a b c n) (splE a b c n)) := by
  by_cases h : 1 ≤ a ∧ a ≤ 8 ∧ 1 ≤ b ∧ b ≤ 8 ∧ 0 ≤ c ∧ c ≤ 50
  · have hk := Lib.hid (chk_ok h)
    have hp := prod8 ⟨h.1, h.2.1, h.2.2.1, h.2.2.2.1⟩
    by_cases hn : 0 ≤ n ∧ n ≤ 512
    · have hv := Lib.hid (spl_ok ⟨h, hn⟩)
      obtain ⟨p, hpe⟩ : ∃ p, a * b = p := ⟨_, rfl⟩
      rw [hpe] at hv hp
      obtain ⟨F, hF⟩ : ∃ F : Nat, 512 = F := ⟨_, rfl⟩
      rw [hF] at hv
      obtain ⟨T, hT⟩ : ∃ T, splF p F n = T := ⟨_, rfl⟩
      have Hst := Lib.hid hT
      rw [hT] at hv
      have hF1 : (F : Int) ≤ 512 := by omega
      have hF2 : 512 ≤ (F : Int) := by omega
      clear hT hF
      have HPE := Lib.hid hpe
      go_enter Try.func39, Try.ntmps39
      go_wp2_with (go_at_call 32; refine (check_eq _ _ _ _ hk _).mono ?_; rintro e w1 ⟨rfl, hb⟩; obtain ⟨hc, hf⟩ := bcell hb; have hbel := below_old ((Below.refl w.heap.size w).alloc (by simp) _) hb)
      go_loopw [7, 1] (fun v s wr => ∃ (L : List Int) (m : Int) (f : Nat), s = .int .i64 m ∧ 0 ≤ m ∧ m ≤ 512 ∧ m ≤ (f : Int) ∧ L.length + f ≤ 512 ∧ Hid (L ++ splF p f m = T) ∧ OwnI wr (w.heap.size + 1) v L ∧ Below (w.heap.size + 1) (w.alloc (.cells #[.int .i64 a, .int .i64 b, .int .i64 c] 57)) wr) (fun _ s _ => (intOf s).toNat)
      case atStart =>
        exact ⟨[], n, F, rfl, hn.1, hn.2, by omega, by simp; omega, Hst, OwnI.nil _ _, hb.mono (by simp)⟩
      case round =>
        obtain ⟨L, m, f, rfl, hm0, hm1, hmf, hLf, hLe, hown, hwr⟩ := hrel
        have g0 : wr.cell? ⟨w.heap.size, 0, none⟩ = some (.int .i64 a) := by rw [hwr.cell (by simp)]; simp
        have g1 : wr.cell? ⟨w.heap.size, 1, none⟩ = some (.int .i64 b) := by rw [hwr.cell (by simp)]; simp
        by_cases hpos : 0 < m
        · obtain ⟨q, hq⟩ : ∃ q, min m p = q := ⟨_, rfl⟩
          have hq1 : 1 ≤ q ∧ q ≤ m := by omega
          have HQ := Lib.hid hq
          obtain ⟨f', hf'⟩ : ∃ f', f = f' + 1 := ⟨f - 1, by omega⟩
          subst hf'
          have hLe' : Hid ((L ++ [q]) ++ splF p f' (m - q) = T) := by
            show _ = _
            have h1 := hLe.out
            rw [splF_cons p f' m hpos, HQ.out] at h1
            rw [← h1, List.append_assoc]
            rfl
          clear hLe
          have hszw : w.heap.size + 1 ≤ wr.heap.size := by have := hwr.size; simpa using this
          go_wp2_with (at_builtin; refine wpList_append_c rfl _ _ 28 rfl (w.heap.size + 1) 3 (.int .i64 0) 1 8 Try.underlying28 Try.infoInt rfl (by decide) _ _ _ rfl (hown.alloc _) ⟨wr.heap.size, 0, none⟩ 1 1 [.int .i64 q] rfl rfl ?c1 ?c2 ?c3 ?c4 ?c5 ?_)
          case c1 => exact cell_one_new _ _ _
          case c2 => intro u hu; simp at hu; subst hu; rfl
          case c3 => unfold maxLen; omega
          case c4 => omega
          case c5 => simp; omega
          intro v' w2 hown' hgrow
          have hown2 := Lib.hid (own_snoc (by simp) hown')
          have hwr2 := (hwr.alloc (by omega) _).grown hgrow (by simp; omega) (fun k hk => (World.ownsRow.lt hown k hk).1)
          clear hown' hgrow hown
          go_wp2
          go_roundw
          case rel => exact ⟨L ++ [q], m - q, f', rfl, by omega, by omega, by omega, by simp; omega, hLe', hown2.out, hwr2⟩
          case measure => simp [intOf]; omega
        · have hLT : Hid (L = T) := by show _ = _; have h1 := hLe.out; rw [splF_nil p f m (by omega), List.append_nil] at h1; exact h1
          clear hLe
          go_wp2
          go_ret2
          refine ⟨_, ret_list hv.out.2.symm, ?_, ((Below.refl w.heap.size w).alloc (by simp) _).trans (hwr.mono (by omega))⟩
          rw [hv.out.1, ← hLT.out]
          exact hown.mono (by omega)
    · have hv := Lib.hid (spl_no (a := a) (b := b) (c := c) (n := n) (by omega))
      clear hp
      by_cases hn2 : n < 0
      all_goals
        go_enter Try.func39, Try.ntmps39
        go_wp2_with (go_at_call 32; refine (check_eq _ _ _ _ hk _).mono ?_; rintro e w1 ⟨rfl, hb⟩; obtain ⟨hc, hf⟩ := bcell hb; have hbel := below_old ((Below.refl w.heap.size w).alloc (by simp) _) hb)
        go_ret2
        exact ⟨_, ret_list hv.out.2.symm, by rw [hv.out.1]; exact OwnI.nil _ _, hbel⟩
  · have hk := Lib.hid (chk_no h)
    have hv := Lib.hid (spl_no (a := a) (b := b) (c := c) (n := n) (fun h' => h h'.1))
    clear h
    go_enter Try.func39, Try.ntmps39
    go_wp2_with (go_at_call 32; refine (check_eq _ _ _ _ hk _).mono ?_; rintro e w1 ⟨rfl, hb⟩; obtain ⟨hc, hf⟩ := bcell hb; have hbel := below_old ((Below.refl w.heap.size w).alloc (by simp) _) hb)
    go_ret2
    exact ⟨_, ret_list hv.out.2.symm, by rw [hv.out.1]; exact OwnI.nil _ _, hbel⟩

set_option maxHeartbeats 2000000 in
theorem rsplit_any (a b c n : Int) (w : World) :
    Calls Try.prog 40 #[.agg #[.int .i64 a, .int .i64 b, .int .i64 c], .int .i64 n] w (RetList w (splL a b c n) (splE a b c n)) := by
  by_cases h : 1 ≤ a ∧ a ≤ 8 ∧ 1 ≤ b ∧ b ≤ 8 ∧ 0 ≤ c ∧ c ≤ 50
  · have hk := Lib.hid (chk_ok h)
    have hp := prod8 ⟨h.1, h.2.1, h.2.2.1, h.2.2.2.1⟩
    by_cases hn : 0 ≤ n ∧ n ≤ 512
    · have hv := Lib.hid (spl_ok ⟨h, hn⟩)
      obtain ⟨p, hpe⟩ : ∃ p, a * b = p := ⟨_, rfl⟩
      rw [hpe] at hv hp
      obtain ⟨F, hF⟩ : ∃ F : Nat, 512 = F := ⟨_, rfl⟩
      rw [hF] at hv
      obtain ⟨T, hT⟩ : ∃ T, splF p F n = T := ⟨_, rfl⟩
      have Hst := Lib.hid hT
      rw [hT] at hv
      have hF1 : (F : Int) ≤ 512 := by omega
      have hF2 : 512 ≤ (F : Int) := by omega
      clear hT hF
      have HPE := Lib.hid hpe
      go_enter Try.func40, Try.ntmps40
      go_wp2_with (go_at_call 33; refine (rcheck_eq _ _ _ _ hk _).mono ?_; rintro e w1 ⟨rfl, hb⟩; obtain ⟨hc, hf⟩ := bcell hb; have hbel := below_old ((Below.refl w.heap.size w).alloc (by simp) _) hb)
      go_loopw [6, 1] (fun v s wr => ∃ (L : List Int) (m : Int) (f : Nat), s = .int .i64 m ∧ 0 ≤ m ∧ m ≤ 512 ∧ m ≤ (f : Int) ∧ L.length + f ≤ 512 ∧ Hid (L ++ splF p f m = T) ∧ OwnI wr (w.heap.size + 1) v L ∧ Below (w.heap.size + 1) (w.alloc (.cells #[.int .i64 a, .int .i64 b, .int .i64 c] 54)) wr) (fun _ s _ => (intOf s).toNat)
      case atStart =>
        exact ⟨[], n, F, rfl, hn.1, hn.2, by omega, by simp; omega, Hst, OwnI.nil _ _, hb.mono (by simp)⟩
      case round =>
        obtain ⟨L, m, f, rfl, hm0, hm1, hmf, hLf, hLe, hown, hwr⟩ := hrel
        have g0 : wr.cell? ⟨w.heap.size, 0, none⟩ = some (.int .i64 a) := by rw [hwr.cell (by simp)]; simp
        have g1 : wr.cell? ⟨w.heap.size, 1, none⟩ = some (.int .i64 b) := by rw [hwr.cell (by simp)]; simp
        by_cases hpos : 0 < m
        · obtain ⟨q, hq⟩ : ∃ q, min m p = q := ⟨_, rfl⟩
          have hq1 : 1 ≤ q ∧ q ≤ m := by omega
          have HQ := Lib.hid hq
          obtain ⟨f', hf'⟩ : ∃ f', f = f' + 1 := ⟨f - 1, by omega⟩
          subst hf'
          have hLe' : Hid ((L ++ [q]) ++ splF p f' (m - q) = T) := by
            show _ = _
            have h1 := hLe.out
            rw [splF_cons p f' m hpos, HQ.out] at h1
            rw [← h1, List.append_assoc]
            rfl
          clear hLe
          have hszw : w.heap.size + 1 ≤ wr.heap.size := by have := hwr.size; simpa using this
          go_wp2_with (at_builtin; refine wpList_append_c rfl _ _ 28 rfl (w.heap.size + 1) 3 (.int .i64 0) 1 8 Try.underlying28 Try.infoInt rfl (by decide) _ _ _ rfl (hown.alloc _) ⟨wr.heap.size, 0, none⟩ 1 1 [.int .i64 q] rfl rfl ?c1 ?c2 ?c3 ?c4 ?c5 ?_)
          case c1 => exact cell_one_new _ _ _
          case c2 => intro u hu; simp at hu; subst hu; rfl
          case c3 => unfold maxLen; omega
          case c4 => omega
          case c5 => simp; omega
          intro v' w2 hown' hgrow
          have hown2 := Lib.hid (own_snoc (by simp) hown')
          have hwr2 := (hwr.alloc (by omega) _).grown hgrow (by simp; omega) (fun k hk => (World.ownsRow.lt hown k hk).1)
          clear hown' hgrow hown
          go_wp2
          go_roundw
          case rel => exact ⟨L ++ [q], m - q, f', rfl, by omega, by omega, by omega, by simp; omega, hLe', hown2.out, hwr2⟩
          case measure => simp [intOf]; omega
        · have hLT : Hid (L = T) := by show _ = _; have h1 := hLe.out; rw [splF_nil p f m (by omega), List.append_nil] at h1; exact h1
          clear hLe
          go_wp2
          go_ret2
          refine ⟨_, ret_list hv.out.2.symm, ?_, ((Below.refl w.heap.size w).alloc (by simp) _).trans (hwr.mono (by omega))⟩
          rw [hv.out.1, ← hLT.out]
          exact hown.mono (by omega)
    · have hv := Lib.hid (spl_no (a := a) (b := b) (c := c) (n := n) (by omega))
      clear hp
      by_cases hn2 : n < 0
      all_goals
        go_enter Try.func40, Try.ntmps40
        go_wp2_with (go_at_call 33; refine (rcheck_eq _ _ _ _ hk _).mono ?_; rintro e w1 ⟨rfl, hb⟩; obtain ⟨hc, hf⟩ := bcell hb; have hbel := below_old ((Below.refl w.heap.size w).alloc (by simp) _) hb)
        go_ret2
        exact ⟨_, ret_list hv.out.2.symm, by rw [hv.out.1]; exact OwnI.nil _ _, hbel⟩
  · have hk := Lib.hid (chk_no h)
    have hv := Lib.hid (spl_no (a := a) (b := b) (c := c) (n := n) (fun h' => h h'.1))
    clear h
    go_enter Try.func40, Try.ntmps40
    go_wp2_with (go_at_call 33; refine (rcheck_eq _ _ _ _ hk _).mono ?_; rintro e w1 ⟨rfl, hb⟩; obtain ⟨hc, hf⟩ := bcell hb; have hbel := below_old ((Below.refl w.heap.size w).alloc (by simp) _) hb)
    go_ret2
    exact ⟨_, ret_list hv.out.2.symm, by rw [hv.out.1]; exact OwnI.nil _ _, hbel⟩
end Go.Proofs.Ytgkkhbhobbhlpaa
