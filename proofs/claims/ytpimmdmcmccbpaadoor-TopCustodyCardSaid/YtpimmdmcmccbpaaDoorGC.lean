/- ident.Split and Is of both. -/
import Derived.Test.YtpimmdmcmccbpaaDoorGB
import Derived.Laws.EntriesVeiled
namespace Go.Proofs.YtpimmdmcmccbpaaDoor
open Go.RowKit
set_option linter.unusedVariables false

/-- The parts of a code lie in the block behind w's, in wr. -/
def PartsIn (w wr : World) : Prop :=
  (wr.cell? ⟨w.heap.size, 0, none⟩ = some (.int .i64 0) ∧ wr.cell? ⟨w.heap.size, 1, none⟩ = some (.int .i64 1) ∧ wr.cell? ⟨w.heap.size, 2, none⟩ = some (.func (.func 78) #[] #[]) ∧ wr.cell? ⟨w.heap.size, 3, none⟩ = some (.int .i64 10) ∧
    wr.cell? ⟨w.heap.size, 4, none⟩ = some (.int .i64 1) ∧ wr.cell? ⟨w.heap.size, 5, none⟩ = some (.int .i64 7) ∧ wr.cell? ⟨w.heap.size, 6, none⟩ = some (.func (.func 61) #[] #[]) ∧ wr.cell? ⟨w.heap.size, 7, none⟩ = some (.int .i64 5)) ∧
  w.heap.size < wr.heap.size ∧ Below w.heap.size w wr
theorem PartsIn.next {w wr w2 : World} (h : PartsIn w wr) (hb : Below wr.heap.size wr w2) : PartsIn w w2 := by
  obtain ⟨⟨a0, a1, a2, a3, a4, a5, a6, a7⟩, hs, hB⟩ := h
  have e : ∀ o, w2.cell? ⟨w.heap.size, o, none⟩ = wr.cell? ⟨w.heap.size, o, none⟩ := fun o => hb.cell (by show w.heap.size < _; omega)
  exact ⟨⟨by rw [e]; exact a0, by rw [e]; exact a1, by rw [e]; exact a2, by rw [e]; exact a3, by rw [e]; exact a4, by rw [e]; exact a5, by rw [e]; exact a6, by rw [e]; exact a7⟩, Nat.lt_of_lt_of_le hs hb.size, below_old hB hb⟩
/-- .. and one part lies in a box. -/
def PartBox (w wr : World) (b : Nat) (x0 x1 x2 x3 : Value) : Prop :=
  PartsIn w wr ∧ (wr.cell? ⟨b, 0, none⟩ = some x0 ∧ wr.cell? ⟨b, 1, none⟩ = some x1 ∧ wr.cell? ⟨b, 2, none⟩ = some x2 ∧ wr.cell? ⟨b, 3, none⟩ = some x3) ∧ b < wr.heap.size
theorem PartBox.next {w wr w2 : World} {b : Nat} {x0 x1 x2 x3 : Value} (h : PartBox w wr b x0 x1 x2 x3) (hb : Below wr.heap.size wr w2) : PartBox w w2 b x0 x1 x2 x3 := by
  obtain ⟨hp, ⟨a0, a1, a2, a3⟩, hs⟩ := h
  have e : ∀ o, w2.cell? ⟨b, o, none⟩ = wr.cell? ⟨b, o, none⟩ := fun o => hb.cell (by show b < _; omega)
  exact ⟨hp.next hb, ⟨by rw [e]; exact a0, by rw [e]; exact a1, by rw [e]; exact a2, by rw [e]; exact a3⟩, Nat.lt_of_lt_of_le hs hb.size⟩
theorem PartBox.made {w wr : World} (h : PartsIn w wr) (x0 x1 x2 x3 : Value) (t : TypeId) : PartBox w (wr.alloc (.cells #[x0, x1, x2, x3] t)) wr.heap.size x0 x1 x2 x3 := by
  refine ⟨h.next ((Below.refl _ _).alloc (Nat.le_refl _) _), ⟨?_, ?_, ?_, ?_⟩, by simp⟩ <;> simp [go_sem]

set_option maxHeartbeats 2000000 in
theorem parts_any (w : World) : Calls Tryd.prog 68 #[] w fun e w' => e = .returned (.slice (some ⟨w.heap.size, 0, none⟩) 2 2) ∧ PartsIn w w' := by
  have hp : PartsIn w (w.alloc (.cells #[.int .i64 0, .int .i64 1, .func (.func 78) #[] #[], .int .i64 10, .int .i64 1, .int .i64 7, .func (.func 61) #[] #[], .int .i64 5] 113)) := by
    refine ⟨⟨?_, ?_, ?_, ?_, ?_, ?_, ?_, ?_⟩, by simp, (Below.refl _ _).alloc (Nat.le_refl _) _⟩ <;> simp [go_sem]
  have HP := Lib.hid hp
  clear hp
  go_enter Tryd.func68, Tryd.ntmps68
  go_wp2_with fail
  go_ret
  exact ⟨rfl, HP.out⟩

theorem digs_at {s : ByteArray} (h : digsB s = true) {j : Nat} (h1 : 1 ≤ j) (h2 : j ≤ 6) : digAt s j := by
  simp only [digsB, List.all_eq_true, List.mem_range, decide_eq_true_eq] at h
  have := h (j - 1) (by omega)
  rwa [show j - 1 + 1 = j by omega] at this

theorem quiet_left {P : Program} {f : FuncId} {args : Array Value} {w : World} {n : Nat} {v : Value}
    (h : Calls P f args (w.drewN n) fun e w' => e = .returned v ∧ w.drewN n = w') : Calls P f args (w.drewN n) fun e w'' => e = .returned v ∧ ∃ m, w'' = w.drewN m :=
  h.mono fun _ _ ⟨he, hm⟩ => ⟨he, n, hm.symm⟩

set_option maxRecDepth 100000 in
set_option maxHeartbeats 4000000 in
theorem split02 (s : ByteArray) (hsz : (s.size : Int) ≤ 9223372036854775807) (w : World) :
    Calls Tryd.prog 54 #[.string s] w fun e w' => e = .returned (.tuple #[.int .u8 (spK s), .int .i64 (spN s), .int .i64 (spE s)]) ∧ Below w.heap.size w w' := by
  by_cases h8 : (s.size : Int) = 8
  · have h8n : s.size = 8 := by omega
    have b8 : ((s.size : Int) != 8) = false := by simp [h8]
    have H8 := Lib.hid h8n
    have z0 : (0 : Int) < (s.size : Int) := by omega
    have z7 : (7 : Int) < (s.size : Int) := by omega
    have z7' : (7 : Int) ≤ (s.size : Int) := by omega
    have n0 : 0 < s.size := by omega
    have n7 : 7 < s.size := by omega
    have hg0 := bt_get s 0 n0
    have hg7 := bt_get s 7 n7
    have hr0 := bt_range s 0
    have hr7 := bt_range s 7
    clear h8 h8n
    obtain ⟨c, hc⟩ : ∃ c, bt s 0 = c := ⟨_, rfl⟩
    obtain ⟨d, hd⟩ : ∃ d, bt s 7 = d := ⟨_, rfl⟩
    have HC := Lib.hid hc; have HD := Lib.hid hd
    rw [hc] at hg0 hr0
    rw [hd] at hg7 hr7
    clear hc hd
    go_enter Tryd.func54, Tryd.ntmps54
    go_wp2_with fail
    (with_reducible refine (parts_any _).mono ?_)
    rintro e w1 ⟨rfl, hp⟩
    have HP := Lib.hid hp
    clear hp
    go_wp2_with fail
    go_loopw [15] (fun i wr => ∃ k : Nat, i = .int .i64 k ∧ k ≤ 2 ∧ Hid (PartsIn w wr) ∧ Hid (1 ≤ k → 65 ≤ c ∧ c ≤ 90) ∧ Hid (2 ≤ k → digsB s = true)) (fun i _ => 2 - (intOf i).toNat)
    case atStart => exact ⟨0, rfl, by omega, HP, fun h => by omega, fun h => by omega⟩
    case round =>
      obtain ⟨k, rfl, hk, hpi, hp1, hp2⟩ := hrel
      obtain ⟨⟨a0, a1, a2, a3, a4, a5, a6, a7⟩, hs, hB⟩ := hpi.out
      have hk3 : k = 0 ∨ k = 1 ∨ k = 2 := by omega
      rcases hk3 with rfl | rfl | rfl
      · rw [show ((0 : Nat) : Int) = 0 from rfl]
        clear hp1 hp2 hk
        have HBX := Lib.hid (PartBox.made hpi.out (.int .i64 0) (.int .i64 1) (.func (.func 78) #[] #[]) (.int .i64 10) 113)
        go_wp2_with fail
        generalize wr.alloc (.cells #[.int .i64 0, .int .i64 1, .func (.func 78) #[] #[], .int .i64 10] 113) = w2 at *
        generalize wr.heap.size = b6 at *
        clear a0 a1 a2 a3 a4 a5 a6 a7 hs hB hpi
        go_loopw [7] (fun i wr => ∃ j : Nat, i = .int .i64 j ∧ j ≤ 1 ∧ Hid (PartBox w wr b6 (.int .i64 0) (.int .i64 1) (.func (.func 78) #[] #[]) (.int .i64 10)) ∧ Hid (1 ≤ j → 65 ≤ c ∧ c ≤ 90)) (fun i _ => 1 - (intOf i).toNat)
        case atStart => exact ⟨0, rfl, by omega, HBX, fun h => by omega⟩
        case round =>
          obtain ⟨j, rfl, hj, hBox, hp1⟩ := hrel
          obtain ⟨⟨⟨a0, a1, a2, a3, a4, a5, a6, a7⟩, hs, hB⟩, ⟨d0, d1, d2, d3⟩, hs2⟩ := hBox.out
          have HBox := hBox
          clear hBox
          have hj2 : j = 0 ∨ j = 1 := by omega
          rcases hj2 with rfl | rfl
          · rw [show ((0 : Nat) : Int) = 0 from rfl]
            clear hp1 hj
            by_cases hcap : 65 ≤ c ∧ c ≤ 90
            · go_wp2_with fail
              go_quiet ((go_at_call 78; (with_reducible exact quiet_left (cap_yes _ hcap _))))
              go_wp2_with fail
              go_roundw
              case rel => exact ⟨1, rfl, by omega, Lib.hid (HBox.out.next (below_drewN (Below.refl _ _) _)), fun _ => hcap⟩
              case measure => simp [intOf]
            · have hv := Lib.hid (sp_kind H8.out (by rw [HC.out]; exact hcap))
              go_wp2_with fail
              go_quiet ((go_at_call 78; (with_reducible exact quiet_left (cap_no _ hcap _))))
              go_wp2_with fail
              go_quiet (fail)
              go_wp2_with fail
              go_ret3
              exact ⟨ret_knE hv.out.1.symm hv.out.2.1.symm hv.out.2.2.symm, below_drewN (below_drewN hB _) _⟩
          · rw [show ((1 : Nat) : Int) = 1 from rfl]
            go_wp2_with fail
            go_roundw
            case rel => exact ⟨1, rfl, by omega, Lib.hid HBox.out.1, fun _ => hp1.out (by omega), fun h => by omega⟩
            case measure => simp [intOf]
      · rw [show ((1 : Nat) : Int) = 1 from rfl]
        have hcap : 65 ≤ c ∧ c ≤ 90 := hp1.out (by omega)
        clear hp1 hp2 hk
        have HBX := Lib.hid (PartBox.made hpi.out (.int .i64 1) (.int .i64 7) (.func (.func 61) #[] #[]) (.int .i64 5) 113)
        go_wp2_with fail
        generalize wr.alloc (.cells #[.int .i64 1, .int .i64 7, .func (.func 61) #[] #[], .int .i64 5] 113) = w2 at *
        generalize wr.heap.size = b6 at *
        clear a0 a1 a2 a3 a4 a5 a6 a7 hs hB hpi
        go_loopw [7] (fun i wr => ∃ j : Nat, i = .int .i64 ((j : Int) + 1) ∧ j ≤ 6 ∧ Hid (PartBox w wr b6 (.int .i64 1) (.int .i64 7) (.func (.func 61) #[] #[]) (.int .i64 5)) ∧ Hid (∀ x, 1 ≤ x → x ≤ j → digAt s x)) (fun i _ => 7 - (intOf i).toNat)
        case atStart => exact ⟨0, rfl, by omega, HBX, fun x a b => by omega⟩
        case round =>
          obtain ⟨j, rfl, hj, hBox, hall⟩ := hrel
          obtain ⟨⟨⟨a0, a1, a2, a3, a4, a5, a6, a7⟩, hs, hB⟩, ⟨d0, d1, d2, d3⟩, hs2⟩ := hBox.out
          have HBox := hBox
          clear hBox
          by_cases hlt : j < 6
          · have nk : j + 1 < s.size := by have := H8.out; omega
            have hg := bt_get s (j + 1) nk
            have hr := bt_range s (j + 1)
            obtain ⟨b, hb⟩ : ∃ b, bt s (j + 1) = b := ⟨_, rfl⟩
            rw [hb] at hg hr
            have HB := Lib.hid hb
            clear hb
            have zk : (j : Int) + 1 < (s.size : Int) := by omega
            have zk0 : 0 ≤ (j : Int) + 1 := by omega
            have zkn : ((j : Int) + 1).toNat = j + 1 := by omega
            by_cases hdg : 48 ≤ b ∧ b ≤ 57
            · have hn : Hid (∀ x, 1 ≤ x → x ≤ j + 1 → digAt s x) := fun x a c => by
                rcases Nat.lt_or_ge x (j + 1) with h | h
                · exact hall.out x a (by omega)
                · obtain rfl : x = j + 1 := by omega
                  unfold digAt; rw [HB.out]; exact hdg
              go_wp2_with fail
              go_quiet ((go_at_call 61; (with_reducible exact quiet_left (digit_yes _ hdg _))))
              clear zkn
              go_wp2_with fail
              go_roundw
              case rel => exact ⟨j + 1, by go_num, by omega, Lib.hid (HBox.out.next (below_drewN (Below.refl _ _) _)), hn⟩
              case measure => simp [intOf]; omega
            · have hv := Lib.hid (sp_syntax H8.out (by rw [HC.out]; exact hcap) (digs_no (j := j + 1) (by omega) (by omega) (by unfold digAt; rw [HB.out]; exact hdg)))
              go_wp2_with fail
              go_quiet ((go_at_call 61; (with_reducible exact quiet_left (digit_no _ hdg _))))
              clear zkn
              go_wp2_with fail
              go_quiet (fail)
              go_wp2_with fail
              go_ret3
              exact ⟨ret_knE hv.out.1.symm hv.out.2.1.symm hv.out.2.2.symm, below_drewN (below_drewN hB _) _⟩
          · have hds := Lib.hid (digs_yes (s := s) (fun x a b => hall.out x a (by omega)))
            go_wp2_with fail
            go_roundw
            case rel => exact ⟨2, rfl, by omega, Lib.hid HBox.out.1, fun _ => hcap, fun _ => hds.out⟩
            case measure => simp [intOf]
      · rw [show ((2 : Nat) : Int) = 2 from rfl]
        have hcap : 65 ≤ c ∧ c ≤ 90 := hp1.out (by omega)
        have hds := Lib.hid (hp2.out (by omega))
        clear hp1 hp2 hk a0 a1 a2 a3 a4 a5 a6 a7
        have hlr := letN_range s 7
        obtain ⟨l, hl⟩ : ∃ l, letN s 7 = l := ⟨_, rfl⟩
        have HL := Lib.hid hl
        rw [hl] at hlr
        clear hl
        by_cases hsu : 65 + l = d
        · have hv := Lib.hid (sp_ok H8.out (by rw [HC.out]; exact hcap) hds.out (by rw [HL.out, HD.out]; exact hsu))
          rw [HC.out] at hv
          have hs2 : (65 + l != d) = false := by simp [hsu]
          have HSU := Lib.hid hsu
          clear hsu
          go_wp2_with fail
          go_quiet ((go_at_call 69; (with_reducible exact Calls.quiet_of_same (letter_7 s l H8 HL _))))
          go_wp2_with fail
          go_loop [8, 9] (fun m i => ∃ k : Nat, i = .int .i64 ((k : Int) + 1) ∧ k ≤ 6 ∧ m = .int .i64 (numN s k)) (fun _ i => 7 - (intOf i).toNat)
          case atStart => exact ⟨0, rfl, by omega, rfl⟩
          case round =>
            obtain ⟨k, rfl, hk, rfl⟩ := hrel
            have hdall : ∀ j, 1 ≤ j → j ≤ k → digAt s j := fun j a b => digs_at hds.out a (by omega)
            have hnr := numN_range s k hdall
            have hpw : (numN s k) ≤ 1000000 := by
              have h1 : 10 ^ k ≤ 10 ^ 6 := Nat.pow_le_pow_right (by omega) hk
              have h2 : (10 : Int) ^ k = ((10 ^ k : Nat) : Int) := by simp
              omega
            have hn0 := hnr.1
            clear hnr hdall
            by_cases hlt : k < 6
            · have nk : k + 1 < s.size := by have := H8.out; omega
              have hg := bt_get s (k + 1) nk
              have hr : 48 ≤ bt s (k + 1) ∧ bt s (k + 1) ≤ 57 := digs_at hds.out (by omega) (by omega)
              have hnx : numN s (k + 1) = numN s k * 10 + (bt s (k + 1) - 48) := rfl
              obtain ⟨b, hb⟩ : ∃ b, bt s (k + 1) = b := ⟨_, rfl⟩
              obtain ⟨m, hm⟩ : ∃ m, numN s k = m := ⟨_, rfl⟩
              rw [hb] at hg hr hnx
              rw [hm] at hnx hpw hn0 ⊢
              have HX := Lib.hid hnx
              clear hb hm hnx
              have zk : (k : Int) + 1 < (s.size : Int) := by omega
              go_wp2_with fail
              go_round
              case rel => exact ⟨k + 1, by go_num, by omega, by rw [HX.out]⟩
              case measure => simp [intOf]; omega
            · obtain rfl : k = 6 := by omega
              obtain ⟨m, hm⟩ : ∃ m, numN s 6 = m := ⟨_, rfl⟩
              rw [hm] at hv hpw hn0 ⊢
              clear hm
              go_wp2_with fail
              go_ret3
              exact ⟨ret_knE hv.out.1.symm hv.out.2.1.symm hv.out.2.2.symm, below_drewN hB _⟩
        · have hv := Lib.hid (sp_sum H8.out (by rw [HC.out]; exact hcap) hds.out (by rw [HL.out, HD.out]; exact hsu))
          have hs2 : (65 + l != d) = true := by simpa using hsu
          clear hsu
          go_wp2_with fail
          go_quiet ((go_at_call 69; (with_reducible exact Calls.quiet_of_same (letter_7 s l H8 HL _))))
          go_wp2_with fail
          go_ret3
          exact ⟨ret_knE hv.out.1.symm hv.out.2.1.symm hv.out.2.2.symm, below_drewN hB _⟩
  · have hv := Lib.hid (sp_short (s := s) (by omega))
    have b8 : ((s.size : Int) != 8) = true := by simpa using h8
    clear h8
    go_enter Tryd.func54, Tryd.ntmps54
    go_wp2_with fail
    go_ret3
    exact ⟨ret_knE hv.out.1.symm hv.out.2.1.symm hv.out.2.2.symm, Below.refl _ _⟩
end Go.Proofs.YtpimmdmcmccbpaaDoor

namespace Go.Proofs.YtpimmdmcmccbpaaDoor
open Go.RowKit
set_option linter.unusedVariables false

def isB (s : ByteArray) (c : Int) : Bool := decide (spE s = 0) && decide (spK s = c)

theorem rsplit02B (s : ByteArray) (hsz : (s.size : Int) ≤ 9223372036854775807) (w : World) :
    Calls Tryd.prog 65 #[.string s] w fun e w' => e = .returned (.tuple #[.int .u8 (spK s), .int .i64 (spN s), .int .i64 (spE s)]) ∧ Below w.heap.size w w' := calls_drew (rsplit02 s hsz w)
set_option maxHeartbeats 2000000 in
theorem is_any (s : ByteArray) (hsz : (s.size : Int) ≤ 9223372036854775807) (c : Int) (w : World) :
    Calls Tryd.prog 41 #[.string s, .int .u8 c] w fun e w' => e = .returned (.bool (isB s c)) ∧ Below w.heap.size w w' := by
  have hsp := split02 s hsz
  have hB : Hid (isB s c = (decide (spE s = 0) && decide (spK s = c))) := rfl
  obtain ⟨k, hk⟩ : ∃ k, spK s = k := ⟨_, rfl⟩
  obtain ⟨x, hx⟩ : ∃ x, spE s = x := ⟨_, rfl⟩
  obtain ⟨n, hn⟩ : ∃ n, spN s = n := ⟨_, rfl⟩
  rw [hk, hx] at hB
  rw [hk, hx, hn] at hsp
  have HS := Lib.hid hsp
  clear hk hx hn hsp
  by_cases h0 : x = 0
  · subst h0
    by_cases h1 : k = c
    · subst h1
      go_enter Tryd.func41, Tryd.ntmps41
      go_wp2_with fail
      (with_reducible refine (HS.out _).mono ?_)
      rintro e w1 ⟨rfl, hb⟩
      skip
      go_wp2_with fail
      go_ret
      exact ⟨ret_bool (by rw [hB.out]; simp), hb⟩
    · have h2 : (k == c) = false := by simpa using h1
      go_enter Tryd.func41, Tryd.ntmps41
      go_wp2_with fail
      (with_reducible refine (HS.out _).mono ?_)
      rintro e w1 ⟨rfl, hb⟩
      skip
      go_wp2_with fail
      go_ret
      exact ⟨ret_bool (by rw [hB.out]; simp [h1]), hb⟩
  · have h2 : (x == 0) = false := by simpa using h0
    go_enter Tryd.func41, Tryd.ntmps41
    go_wp2_with fail
    (with_reducible refine (HS.out _).mono ?_)
    rintro e w1 ⟨rfl, hb⟩
    skip
    go_wp2_with fail
    go_ret
    exact ⟨ret_bool (by rw [hB.out]; simp [h0]), hb⟩

end Go.Proofs.YtpimmdmcmccbpaaDoor
