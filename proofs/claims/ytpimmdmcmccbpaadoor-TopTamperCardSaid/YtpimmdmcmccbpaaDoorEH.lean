/- custody: Links. -/
import Derived.Test.YtpimmdmcmccbpaaDoorEG
namespace Go.Proofs.YtpimmdmcmccbpaaDoor
open Go.RowKit
set_option linter.unusedVariables false
open Cu (Lk Ls)
set_option maxHeartbeats 2000000 in
theorem lclone_none (w : World) : Calls Tryd.prog 45 #[.slice none 0 0] w fun e w' => e = .returned (.slice none 0 0) ∧ w' = w := by
  have hnil := fun (w : World) (a : Option Addr) (n c : Nat) => Lib.run_eql_slice_nil (P := Tryd.prog) w 33 36 a n c 0 0 Tryd.underlying33
  go_enter Tryd.func45, Tryd.ntmps45
  go_wp2_with fail
  go_ret
  exact ⟨rfl, rfl⟩
set_option maxHeartbeats 2000000 in
theorem lclone_some (g n c : Nat) (xs : List Value) (hn : n ≤ 2000) (w : World) (hl : Hid (xs.length = n * 6)) (hx : Hid (∀ j u, xs[j]? = some u → w.cell? ((⟨g, 0, none⟩ : Addr).add j) = some u)) (h1 : Hid (∀ u ∈ xs, u.oneCell' = true)) (hg : g < w.heap.size) :
    Calls Tryd.prog 45 #[.slice (some ⟨g, 0, none⟩) n c] w fun e w' => ∃ v, e = .returned v ∧ w'.ownsRow w.heap.size 36 6 v n xs ∧ Below w.heap.size w w' := by
  have hm0 : n ≤ maxLen := by unfold maxLen; omega
  have hb : Hid ((0 + n) * 72 ≤ 140737488355328) := by show _ ≤ _; omega
  have hm : Hid (0 + n ≤ maxLen) := by show _ ≤ _; omega
  clear hm0
  have hnil := fun (w : World) (a : Option Addr) (n c : Nat) => Lib.run_eql_slice_nil (P := Tryd.prog) w 33 36 a n c 0 0 Tryd.underlying33
  go_enter Tryd.func45, Tryd.ntmps45
  go_wp2_with (at_builtin; refine wpList_append_c rfl (.tmp 5) (.tmp 6) 33 rfl w.heap.size 36 _ 6 72 Tryd.underlying33 infoLk rfl (by decide) _ 0 [] rfl (World.ownsRow_lit w #[] 0 (Nat.le_refl _) (Nat.zero_le _) rfl) ⟨g, 0, none⟩ n c xs rfl hl.out ?c1 h1.out hm.out hb.out (by simp) ?_)
  case c1 =>
    intro j u hu
    have := hx.out j u hu
    rw [Below.cell ((Below.refl w.heap.size w).alloc (Nat.le_refl _) _) (by unfold Addr.add; split <;> exact hg)]
    exact this
  intro v' w' hown hgrow
  go_wp2_with fail
  go_ret
  refine ⟨v', rfl, hown, ?_⟩
  exact ((Below.refl w.heap.size w).alloc (Nat.le_refl _) _).grown hgrow (by simp) (fun k hk => by simp [Value.ownBlock] at hk; omega)
set_option maxHeartbeats 2000000 in
theorem links_any {B r : Nat} {L : Ls} {v : Value} {b1 b2 : Nat} (w : World) (HC0 : Hid (CReg w B r L v b1 b2)) (hl : L.length ≤ 2000) :
    Calls Tryd.prog 17 #[.pointer (some ⟨r, 0, none⟩)] w fun e w' => ∃ v, e = .returned v ∧ w'.ownsRow w.heap.size 36 6 v L.length (lrowL L) ∧ Below w.heap.size w w' := by
  have hlt := HC0.out.blk.lt
  have k0 := HC0.out.c0
  rcases HC0.out.row.2 with ⟨rfl, h0⟩ | ⟨g, cap, cur, rfl, hb, hg, h2, h3, _⟩
  · have hnil : lrowL L = [] := List.eq_nil_of_length_eq_zero (by rw [lrowL_length, h0])
    rw [hnil, h0]
    go_enter Tryd.func17, Tryd.ntmps17
    go_wp2_with fail
    (with_reducible refine (lclone_none _).mono ?_)
    rintro e w1 ⟨rfl, rfl⟩
    go_wp2_with fail
    go_ret
    exact ⟨_, rfl, World.ownsRow_nil _ _ _ _, Below.refl _ _⟩
  · have hgl : g < w.heap.size := (Array.getElem?_eq_some_iff.1 hg).1
    have HC := Lib.hid (lclone_some g L.length L.length (lrowL L) (by omega) w (lrowL_length L) (HC0.out.row.cells rfl) (lrowL_one L) hgl)
    have z1 : (L.length : Int) ≤ (cap : Int) := by omega
    clear hg
    go_enter Tryd.func17, Tryd.ntmps17
    go_wp2_with fail
    (with_reducible refine HC.out.mono ?_)
    rintro e w1 ⟨v, rfl, hown, hB⟩
    go_wp2_with fail
    go_ret
    exact ⟨v, rfl, hown, hB⟩
end Go.Proofs.YtpimmdmcmccbpaaDoor
