/- law58: few. -/
import Derived.Test.YtcefmnkfkpoccaaDoorGT
import Derived.Test.YtcefmnkfkpoccaaDoorC1
namespace Go.Proofs.YtcefmnkfkpoccaaDoor
open Go.RowKit
set_option linter.unusedVariables false
open Wi Evn
/-- Few numbers, short texts. -/
def fewB (e : Ev) : Bool := decide (e.nn.length ≤ 700) && (decide (e.it.size ≤ 100) && (decide (e.of_.size ≤ 100) && decide (e.tx.size ≤ 16484)))
theorem fewB_iff {e : Ev} : fewB e = true ↔ e.nn.length ≤ 700 ∧ e.it.size ≤ 100 ∧ e.of_.size ≤ 100 ∧ e.tx.size ≤ 16484 := by simp [fewB]
set_option maxHeartbeats 8000000 in
theorem few_any (e : Ev) (A : Option Addr) (c : Nat) (l1 : (e.nn.length : Int) ≤ 9223372036854775807) (l2 : (e.it.size : Int) ≤ 9223372036854775807) (l3 : (e.of_.size : Int) ≤ 9223372036854775807) (l4 : (e.tx.size : Int) ≤ 9223372036854775807) (x : Bool) (hx : Hid (fewB e = x)) (w : World) :
    Calls Tryd.prog 9 #[agE e A c] w fun r w' => r = .returned (.bool x) ∧ Below w.heap.size w w' := by
  by_cases g1 : (700 : Int) < (e.nn.length : Int)
  · have ex : x = false := by
      rw [← hx.out]
      cases h : fewB e with
      | false => rfl
      | true => have := fewB_iff.1 h; omega
    subst ex
    clear hx
    go_enter Tryd.func9, Tryd.ntmps9
    go_wp2_with fail
    go_ret
    exact ⟨rfl, (Below.refl _ _).alloc (Nat.le_refl _) _⟩
  have z1 : (e.nn.length : Int) ≤ 700 := by omega
  have G1 := Lib.hid g1
  clear g1 l1
  by_cases g2 : (100 : Int) < (e.it.size : Int)
  · have ex : x = false := by
      rw [← hx.out]
      cases h : fewB e with
      | false => rfl
      | true => have := fewB_iff.1 h; omega
    subst ex
    clear hx
    go_enter Tryd.func9, Tryd.ntmps9
    go_wp2_with fail
    go_ret
    exact ⟨rfl, (Below.refl _ _).alloc (Nat.le_refl _) _⟩
  have z2 : (e.it.size : Int) ≤ 100 := by omega
  have G2 := Lib.hid g2
  clear g2 l2
  by_cases g3 : (100 : Int) < (e.of_.size : Int)
  · have ex : x = false := by
      rw [← hx.out]
      cases h : fewB e with
      | false => rfl
      | true => have := fewB_iff.1 h; omega
    subst ex
    clear hx
    go_enter Tryd.func9, Tryd.ntmps9
    go_wp2_with fail
    go_ret
    exact ⟨rfl, (Below.refl _ _).alloc (Nat.le_refl _) _⟩
  have z3 : (e.of_.size : Int) ≤ 100 := by omega
  have G3 := Lib.hid g3
  clear g3 l3
  by_cases g4 : (16484 : Int) < (e.tx.size : Int)
  · have ex : x = false := by
      rw [← hx.out]
      cases h : fewB e with
      | false => rfl
      | true => have := fewB_iff.1 h; omega
    subst ex
    clear hx
    go_enter Tryd.func9, Tryd.ntmps9
    go_wp2_with fail
    go_ret
    have q : decide ((e.tx.size : Int) ≤ 16484) = false := decide_eq_false (by omega)
    exact ⟨by show Ending.returned (.bool (decide ((e.tx.size : Int) ≤ 16484))) = _; rw [q], (Below.refl _ _).alloc (Nat.le_refl _) _⟩
  have z4 : (e.tx.size : Int) ≤ 16484 := by omega
  have G4 := Lib.hid g4
  clear g4 l4
  have ex : x = true := by
    rw [← hx.out]
    exact fewB_iff.2 (by omega)
  subst ex
  clear hx
  go_enter Tryd.func9, Tryd.ntmps9
  go_wp2_with fail
  go_ret
  exact ⟨rfl, (Below.refl _ _).alloc (Nat.le_refl _) _⟩
end Go.Proofs.YtcefmnkfkpoccaaDoor

namespace Go.Proofs.YtcefmnkfkpoccaaDoor
open Go.RowKit
set_option linter.unusedVariables false
open Wi Evn
abbrev aL7 : ByteArray := ⟨#[76, 48, 48, 48, 48, 48, 55, 83]⟩
abbrev aC1 : ByteArray := ⟨#[67, 48, 48, 48, 48, 48, 49, 78]⟩
abbrev aSaw : ByteArray := ⟨#[115, 97, 119]⟩
abbrev aRec : ByteArray := ⟨#[24, 0, 0, 0, 0, 3, 115, 97, 119]⟩
abbrev aLin : ByteArray := ⟨#[100, 48, 32, 48, 55, 58, 48, 53, 32, 115, 97, 119, 32, 76, 48, 48, 48, 48, 48, 55, 83, 32, 49, 32, 49, 50, 32, 48, 10]⟩
abbrev aE0 : Ev := ⟨12, 0, ⟨#[]⟩, ⟨#[]⟩, [], aSaw⟩
abbrev aE1 : Ev := ⟨4, 425, aL7, ⟨#[]⟩, [1, 12, 0], ⟨#[]⟩⟩
abbrev aE2 : Ev := ⟨6, 0, aC1, ⟨#[]⟩, [100, 2, 1, 2, 2, 5, 9], ⟨#[]⟩⟩
abbrev aE3 : Ev := ⟨6, 0, aC1, ⟨#[]⟩, [100, 2, 1], ⟨#[]⟩⟩
set_option maxRecDepth 100000
theorem aw_c1 : codT 76 7 = aL7 := by decide +kernel
theorem aw_c2 : codT 67 1 = aC1 := by decide +kernel
theorem aw_k0 : chk aE0 = 0 := by decide +kernel
theorem aw_k1 : chk aE1 = 0 := by decide +kernel
theorem aw_k2 : chk aE2 = 0 := by decide +kernel
theorem aw_k3 : chk aE3 = 19 := by decide +kernel
theorem aw_en : encS aE0 = aRec := by decide +kernel
theorem aw_li : linS aE1 = aLin := by decide +kernel
theorem aw_n14 : nmS 14 = ⟨#[114, 101, 115, 97, 119]⟩ := by decide +kernel
theorem aw_n15 : nmS 15 = ⟨#[]⟩ := by decide +kernel
theorem aw_s1 : samB aE1 aE1 = true := by decide +kernel
theorem aw_s2 : samB aE1 aE2 = false := by decide +kernel
theorem aw_six : Six aRec (-9223372036854775808) 9223372036854775807 (-9223372036854775808) 9223372036854775807 16 (1, 0) (2, 0) (3, 0) (4, 0) (5, 0) (9, 0) 12 0 [] [] [] [115, 97, 119] :=
  ⟨by decide +kernel, by decide +kernel, by decide +kernel, by decide +kernel, by decide +kernel, by decide +kernel⟩
theorem aw_end : enE aRec.size (9, 0) = 0 := by decide +kernel
theorem ok_small {e : Ev} (h : (-9223372036854775808 ≤ e.ki ∧ e.ki ≤ 9223372036854775807) ∧ (-9223372036854775808 ≤ e.ti ∧ e.ti ≤ 9223372036854775807) ∧ e.it.size ≤ 100 ∧ e.of_.size ≤ 100 ∧ e.tx.size ≤ 100 ∧ e.nn.length ≤ 100) (hn : ∀ x ∈ e.nn, -9223372036854775808 ≤ x ∧ x ≤ 9223372036854775807) : EvOk e := by
  obtain ⟨a, b, c, d, f, g⟩ := h
  exact ⟨a, b, by omega, by omega, by omega, by omega, hn⟩
theorem aw_o0 : EvOk aE0 := ok_small (by decide +kernel) (by decide +kernel)
theorem aw_o1 : EvOk aE1 := ok_small (by decide +kernel) (by decide +kernel)
theorem aw_o2 : EvOk aE2 := ok_small (by decide +kernel) (by decide +kernel)
theorem aw_o3 : EvOk aE3 := ok_small (by decide +kernel) (by decide +kernel)
end Go.Proofs.YtcefmnkfkpoccaaDoor

namespace Go.Proofs.YtcefmnkfkpoccaaDoor
open Go.RowKit
set_option linter.unusedVariables false
open Wi Evn
set_option maxRecDepth 100000
theorem aw_b1 : codB 76 7 = 0 := by decide +kernel
theorem aw_b2 : codB 67 1 = 0 := by decide +kernel
theorem slr_nil (w : World) (A : Option Addr) : SlR w A (i64c []) := fun h => absurd h (by simp [i64c])
theorem slr_blk {w : World} {b : Nat} {t : TypeId} {cs : Array Value} (h : Blk w b t cs) (l : List Value) (hl : cs.toList = l) : SlR w (some ⟨b, 0, none⟩) l := fun _ => by
  subst hl
  exact ⟨b, 0, rfl, h.lt, fun j hj => by rw [Nat.zero_add, h.cell j, ← Array.getElem?_toList]; exact List.getElem?_eq_getElem hj⟩
abbrev v0 : Value := .agg #[.int .i64 12, .int .i64 0, .string ⟨#[]⟩, .string ⟨#[]⟩, .slice none 0 0, .string ⟨#[115, 97, 119]⟩]
abbrev v1 (b : Nat) : Value := .agg #[.int .i64 4, .int .i64 425, .string aL7, .string ⟨#[]⟩, .slice (some ⟨b, 0, none⟩) 3 3, .string ⟨#[]⟩]
abbrev v2 (b : Nat) : Value := .agg #[.int .i64 6, .int .i64 0, .string aC1, .string ⟨#[]⟩, .slice (some ⟨b, 0, none⟩) 7 7, .string ⟨#[]⟩]
abbrev v3 (b : Nat) : Value := .agg #[.int .i64 6, .int .i64 0, .string aC1, .string ⟨#[]⟩, .slice (some ⟨b, 0, none⟩) 3 3, .string ⟨#[]⟩]
theorem aw_enc (w : World) : Calls Tryd.prog 15 #[v0] w fun r w' => r = .returned (.tuple #[.string aRec, .int .i64 0]) ∧ Below w.heap.size w w' := by
  have := encode_any aE0 none 0 (Lib.hid aw_o0) 0 (Lib.hid aw_k0) w (Lib.hid (slr_nil _ _))
  rw [aw_en] at this
  exact this
theorem aw_dec (w : World) : Calls Tryd.prog 17 #[.string aRec] w fun r w' => ∃ A c, r = .returned (.tuple #[.agg #[.int .i64 12, .int .i64 0, .string ⟨#[]⟩, .string ⟨#[]⟩, .slice A 0 c, .string aSaw], .int .i64 0]) ∧ Below w.heap.size w w' := by
  refine (decode_w aRec (by decide) _ _ _ _ _ _ _ _ _ _ _ _ (Lib.hid aw_six) 0 0 (Lib.hid aw_end) (Lib.hid aw_k0) w).mono ?_
  intro r w' hd
  obtain ⟨⟨A2, c2, h, -⟩, hb2⟩ := hd.1 ⟨rfl, rfl⟩
  exact ⟨A2, c2, h, hb2⟩
theorem aw_cod1 (w : World) : Calls Tryd.prog 23 #[.int .u8 76, .int .i64 7] w fun r w' => r = .returned (.tuple #[.string aL7, .int .i64 0]) ∧ Below w.heap.size w w' := by
  have := rcode_any 76 7 w
  rw [aw_c1, aw_b1] at this
  exact this
theorem aw_cod2 (w : World) : Calls Tryd.prog 23 #[.int .u8 67, .int .i64 1] w fun r w' => r = .returned (.tuple #[.string aC1, .int .i64 0]) ∧ Below w.heap.size w w' := by
  have := rcode_any 67 1 w
  rw [aw_c2, aw_b2] at this
  exact this
abbrev r1 : Array Value := #[.int .i64 1, .int .i64 12, .int .i64 0]
abbrev r2 : Array Value := #[.int .i64 100, .int .i64 2, .int .i64 1, .int .i64 2, .int .i64 2, .int .i64 5, .int .i64 9]
abbrev r3 : Array Value := #[.int .i64 100, .int .i64 2, .int .i64 1]
theorem aw_lin (w : World) (b : Nat) {t : TypeId} (h : Hid (Blk w b t r1)) (HT : Hid (TabOk w)) : Calls Tryd.prog 20 #[v1 b] w fun r w' => r = .returned (.string aLin) ∧ Below w.heap.size w w' := by
  have := line_any aE1 (some ⟨b, 0, none⟩) 3 (Lib.hid aw_o1) w (Lib.hid (slr_blk h.out _ rfl)) HT
  rw [aw_li] at this
  exact this
theorem aw_ch2 (w : World) (b : Nat) {t : TypeId} (h : Hid (Blk w b t r2)) : Calls Tryd.prog 11 #[v2 b] w fun r w' => r = .returned (.int .i64 0) ∧ Below w.heap.size w w' :=
  check_any aE2 (some ⟨b, 0, none⟩) 7 (Lib.hid aw_o2) 0 (Lib.hid aw_k2) w (Lib.hid (slr_blk h.out _ rfl))
theorem aw_ch3 (w : World) (b : Nat) {t : TypeId} (h : Hid (Blk w b t r3)) : Calls Tryd.prog 11 #[v3 b] w fun r w' => r = .returned (.int .i64 19) ∧ Below w.heap.size w w' :=
  check_any aE3 (some ⟨b, 0, none⟩) 3 (Lib.hid aw_o3) 19 (Lib.hid aw_k3) w (Lib.hid (slr_blk h.out _ rfl))
theorem aw_nm14 (w : World) : Calls Tryd.prog 13 #[.int .i64 14] w fun r w' => r = .returned (.string ⟨#[114, 101, 115, 97, 119]⟩) ∧ Below w.heap.size w w' := by
  have := name_any 14 w
  rw [aw_n14] at this
  exact this
theorem aw_nm15 (w : World) : Calls Tryd.prog 13 #[.int .i64 15] w fun r w' => r = .returned (.string ⟨#[]⟩) ∧ Below w.heap.size w w' := by
  have := name_any 15 w
  rw [aw_n15] at this
  exact this
theorem aw_sm1 (w : World) (b : Nat) {t : TypeId} (h : Hid (Blk w b t r1)) : Calls Tryd.prog 22 #[v1 b, v1 b] w fun r w' => r = .returned (.bool true) ∧ Below w.heap.size w w' :=
  same_any aE1 aE1 (some ⟨b, 0, none⟩) (some ⟨b, 0, none⟩) 3 3 true (Lib.hid aw_s1) (Lib.hid aw_o1) (Lib.hid aw_o1) w (Lib.hid (slr_blk h.out _ rfl)) (Lib.hid (slr_blk h.out _ rfl))
theorem aw_sm2 (w : World) (b d : Nat) {t u : TypeId} (h : Hid (Blk w b t r1)) (g : Hid (Blk w d u r2)) : Calls Tryd.prog 22 #[v1 b, v2 d] w fun r w' => r = .returned (.bool false) ∧ Below w.heap.size w w' :=
  same_any aE1 aE2 (some ⟨b, 0, none⟩) (some ⟨d, 0, none⟩) 3 7 false (Lib.hid aw_s2) (Lib.hid aw_o1) (Lib.hid aw_o2) w (Lib.hid (slr_blk h.out _ rfl)) (Lib.hid (slr_blk g.out _ rfl))
end Go.Proofs.YtcefmnkfkpoccaaDoor

namespace Go.Proofs.YtcefmnkfkpoccaaDoor
open Go.RowKit
set_option linter.unusedVariables false
open Wi Evn
set_option maxRecDepth 100000
theorem blk_at {w : World} {n : Nat} (h : w.heap.size = n) (t : TypeId) (cs : Array Value) : Blk (w.alloc (.cells cs t)) n t cs := h ▸ Blk.new w t cs
theorem bel_al (w : World) (o : Obj) : Below w.heap.size w (w.alloc o) := (Below.refl _ _).alloc (Nat.le_refl _) _
/-- The events of the examples in memory. -/
structure AwB (w : World) (g n : Nat) (A : Option Addr) (c : Nat) : Prop where
  x : Blk w g 24 #[.int .i64 12, .int .i64 0, .string ⟨#[]⟩, .string ⟨#[]⟩, .slice A 0 c, .string aSaw]
  b0 : Blk w (n) 3 #[.int .i64 1, .int .i64 12, .int .i64 0]
  b1 : Blk w (n + 1) 24 #[.int .i64 4, .int .i64 425, .string aL7, .string ⟨#[]⟩, .slice (some ⟨n, 0, none⟩) 3 3, .string ⟨#[]⟩]
  b2 : Blk w (n + 1 + 1) 3 #[.int .i64 100, .int .i64 2, .int .i64 1, .int .i64 2, .int .i64 2, .int .i64 5, .int .i64 9]
  b3 : Blk w (n + 1 + 1 + 1) 24 #[.int .i64 6, .int .i64 0, .string aC1, .string ⟨#[]⟩, .slice (some ⟨n + 1 + 1, 0, none⟩) 7 7, .string ⟨#[]⟩]
  b4 : Blk w (n + 1 + 1 + 1 + 1) 3 #[.int .i64 100, .int .i64 2, .int .i64 1]
  b5 : Blk w (n + 1 + 1 + 1 + 1 + 1) 24 #[.int .i64 6, .int .i64 0, .string aC1, .string ⟨#[]⟩, .slice (some ⟨n + 1 + 1 + 1 + 1, 0, none⟩) 3 3, .string ⟨#[]⟩]
theorem AwB.below {w w' : World} {g n : Nat} {A : Option Addr} {c : Nat} (h : AwB w g n A c) (hb : Below w.heap.size w w') : AwB w' g n A c :=
  ⟨h.x.below hb, h.b0.below hb, h.b1.below hb, h.b2.below hb, h.b3.below hb, h.b4.below hb, h.b5.below hb⟩
theorem AwB.cells {w : World} {g n : Nat} {A : Option Addr} {c : Nat} (h : AwB w g n A c) :
    w.cell? ⟨g, 0, none⟩ = some (.int .i64 12) ∧
    w.cell? ⟨g, 5, none⟩ = some (.string aSaw) ∧
    w.cell? ⟨n + 1, 0, none⟩ = some (.int .i64 4) ∧
    w.cell? ⟨n + 1, 1, none⟩ = some (.int .i64 425) ∧
    w.cell? ⟨n + 1, 2, none⟩ = some (.string aL7) ∧
    w.cell? ⟨n + 1, 3, none⟩ = some (.string ⟨#[]⟩) ∧
    w.cell? ⟨n + 1, 4, none⟩ = some (.slice (some ⟨n, 0, none⟩) 3 3) ∧
    w.cell? ⟨n + 1, 5, none⟩ = some (.string ⟨#[]⟩) ∧
    w.cell? ⟨n + 1 + 1 + 1, 0, none⟩ = some (.int .i64 6) ∧
    w.cell? ⟨n + 1 + 1 + 1, 1, none⟩ = some (.int .i64 0) ∧
    w.cell? ⟨n + 1 + 1 + 1, 2, none⟩ = some (.string aC1) ∧
    w.cell? ⟨n + 1 + 1 + 1, 3, none⟩ = some (.string ⟨#[]⟩) ∧
    w.cell? ⟨n + 1 + 1 + 1, 4, none⟩ = some (.slice (some ⟨n + 1 + 1, 0, none⟩) 7 7) ∧
    w.cell? ⟨n + 1 + 1 + 1, 5, none⟩ = some (.string ⟨#[]⟩) ∧
    w.cell? ⟨n + 1 + 1 + 1 + 1 + 1, 0, none⟩ = some (.int .i64 6) ∧
    w.cell? ⟨n + 1 + 1 + 1 + 1 + 1, 1, none⟩ = some (.int .i64 0) ∧
    w.cell? ⟨n + 1 + 1 + 1 + 1 + 1, 2, none⟩ = some (.string aC1) ∧
    w.cell? ⟨n + 1 + 1 + 1 + 1 + 1, 3, none⟩ = some (.string ⟨#[]⟩) ∧
    w.cell? ⟨n + 1 + 1 + 1 + 1 + 1, 4, none⟩ = some (.slice (some ⟨n + 1 + 1 + 1 + 1, 0, none⟩) 3 3) ∧
    w.cell? ⟨n + 1 + 1 + 1 + 1 + 1, 5, none⟩ = some (.string ⟨#[]⟩) :=
  ⟨h.x.cell 0, h.x.cell 5, h.b1.cell 0, h.b1.cell 1, h.b1.cell 2, h.b1.cell 3, h.b1.cell 4, h.b1.cell 5, h.b3.cell 0, h.b3.cell 1, h.b3.cell 2, h.b3.cell 3, h.b3.cell 4, h.b3.cell 5, h.b5.cell 0, h.b5.cell 1, h.b5.cell 2, h.b5.cell 3, h.b5.cell 4, h.b5.cell 5⟩
theorem aw6_bel (w : World) (n : Nat) : Below w.heap.size w ((((((w.alloc (.cells #[.int .i64 1, .int .i64 12, .int .i64 0] 3)).alloc (.cells #[.int .i64 4, .int .i64 425, .string aL7, .string ⟨#[]⟩, .slice (some ⟨n, 0, none⟩) 3 3, .string ⟨#[]⟩] 24)).alloc (.cells #[.int .i64 100, .int .i64 2, .int .i64 1, .int .i64 2, .int .i64 2, .int .i64 5, .int .i64 9] 3)).alloc (.cells #[.int .i64 6, .int .i64 0, .string aC1, .string ⟨#[]⟩, .slice (some ⟨n + 1 + 1, 0, none⟩) 7 7, .string ⟨#[]⟩] 24)).alloc (.cells #[.int .i64 100, .int .i64 2, .int .i64 1] 3)).alloc (.cells #[.int .i64 6, .int .i64 0, .string aC1, .string ⟨#[]⟩, .slice (some ⟨n + 1 + 1 + 1 + 1, 0, none⟩) 3 3, .string ⟨#[]⟩] 24)) := by
  exact below_old (below_old (below_old (below_old (below_old (bel_al _ _) (bel_al _ _)) (bel_al _ _)) (bel_al _ _)) (bel_al _ _)) (bel_al _ _)
theorem AwB.new {w : World} {g n : Nat} {A : Option Addr} {c : Nat} (hn : w.heap.size = n) (hx : Blk w g 24 #[.int .i64 12, .int .i64 0, .string ⟨#[]⟩, .string ⟨#[]⟩, .slice A 0 c, .string aSaw]) : AwB ((((((w.alloc (.cells #[.int .i64 1, .int .i64 12, .int .i64 0] 3)).alloc (.cells #[.int .i64 4, .int .i64 425, .string aL7, .string ⟨#[]⟩, .slice (some ⟨n, 0, none⟩) 3 3, .string ⟨#[]⟩] 24)).alloc (.cells #[.int .i64 100, .int .i64 2, .int .i64 1, .int .i64 2, .int .i64 2, .int .i64 5, .int .i64 9] 3)).alloc (.cells #[.int .i64 6, .int .i64 0, .string aC1, .string ⟨#[]⟩, .slice (some ⟨n + 1 + 1, 0, none⟩) 7 7, .string ⟨#[]⟩] 24)).alloc (.cells #[.int .i64 100, .int .i64 2, .int .i64 1] 3)).alloc (.cells #[.int .i64 6, .int .i64 0, .string aC1, .string ⟨#[]⟩, .slice (some ⟨n + 1 + 1 + 1 + 1, 0, none⟩) 3 3, .string ⟨#[]⟩] 24)) g n A c := by
  have s1 : (w.alloc (.cells #[.int .i64 1, .int .i64 12, .int .i64 0] 3)).heap.size = n + 1 := by simp [hn]
  have s2 : ((w.alloc (.cells #[.int .i64 1, .int .i64 12, .int .i64 0] 3)).alloc (.cells #[.int .i64 4, .int .i64 425, .string aL7, .string ⟨#[]⟩, .slice (some ⟨n, 0, none⟩) 3 3, .string ⟨#[]⟩] 24)).heap.size = n + 1 + 1 := by simp [hn]
  have s3 : (((w.alloc (.cells #[.int .i64 1, .int .i64 12, .int .i64 0] 3)).alloc (.cells #[.int .i64 4, .int .i64 425, .string aL7, .string ⟨#[]⟩, .slice (some ⟨n, 0, none⟩) 3 3, .string ⟨#[]⟩] 24)).alloc (.cells #[.int .i64 100, .int .i64 2, .int .i64 1, .int .i64 2, .int .i64 2, .int .i64 5, .int .i64 9] 3)).heap.size = n + 1 + 1 + 1 := by simp [hn]
  have s4 : ((((w.alloc (.cells #[.int .i64 1, .int .i64 12, .int .i64 0] 3)).alloc (.cells #[.int .i64 4, .int .i64 425, .string aL7, .string ⟨#[]⟩, .slice (some ⟨n, 0, none⟩) 3 3, .string ⟨#[]⟩] 24)).alloc (.cells #[.int .i64 100, .int .i64 2, .int .i64 1, .int .i64 2, .int .i64 2, .int .i64 5, .int .i64 9] 3)).alloc (.cells #[.int .i64 6, .int .i64 0, .string aC1, .string ⟨#[]⟩, .slice (some ⟨n + 1 + 1, 0, none⟩) 7 7, .string ⟨#[]⟩] 24)).heap.size = n + 1 + 1 + 1 + 1 := by simp [hn]
  have s5 : (((((w.alloc (.cells #[.int .i64 1, .int .i64 12, .int .i64 0] 3)).alloc (.cells #[.int .i64 4, .int .i64 425, .string aL7, .string ⟨#[]⟩, .slice (some ⟨n, 0, none⟩) 3 3, .string ⟨#[]⟩] 24)).alloc (.cells #[.int .i64 100, .int .i64 2, .int .i64 1, .int .i64 2, .int .i64 2, .int .i64 5, .int .i64 9] 3)).alloc (.cells #[.int .i64 6, .int .i64 0, .string aC1, .string ⟨#[]⟩, .slice (some ⟨n + 1 + 1, 0, none⟩) 7 7, .string ⟨#[]⟩] 24)).alloc (.cells #[.int .i64 100, .int .i64 2, .int .i64 1] 3)).heap.size = n + 1 + 1 + 1 + 1 + 1 := by simp [hn]
  refine ⟨hx.below (aw6_bel w n), ?_, ?_, ?_, ?_, ?_, ?_⟩
  · exact (blk_at hn _ _).below (below_old (below_old (below_old (below_old (bel_al _ _) (bel_al _ _)) (bel_al _ _)) (bel_al _ _)) (bel_al _ _))
  · exact (blk_at s1 _ _).below (below_old (below_old (below_old (bel_al _ _) (bel_al _ _)) (bel_al _ _)) (bel_al _ _))
  · exact (blk_at s2 _ _).below (below_old (below_old (bel_al _ _) (bel_al _ _)) (bel_al _ _))
  · exact (blk_at s3 _ _).below (below_old (bel_al _ _) (bel_al _ _))
  · exact (blk_at s4 _ _).below (bel_al _ _)
  · exact blk_at s5 _ _
abbrev aLi2 : ByteArray := ⟨#[100, 48, 32, 48, 55, 58, 48, 53, 32, 115, 97, 119, 32]⟩ ++ aL7 ++ ⟨#[32, 49, 32, 49, 50, 32, 48, 10]⟩
theorem aw_lin2 (w : World) (b : Nat) {t : TypeId} (h : Hid (Blk w b t r1)) (HT : Hid (TabOk w)) : Calls Tryd.prog 20 #[v1 b] w fun r w' => ∃ T, r = .returned (.string T) ∧ decide (T.toList = aLi2.toList) = true ∧ T = aLi2 ∧ Below w.heap.size w w' := by
  refine (aw_lin w b h HT).mono ?_
  rintro r w' ⟨h, hb⟩
  exact ⟨aLin, h, by decide +kernel, by decide +kernel, hb⟩
set_option maxHeartbeats 16000000 in
theorem awake58 (w : World) (HT : Hid (TabOk w)) : Calls Tryd.prog 10 #[] w fun e w' => e = .returned (.bool true) ∧ Below w.heap.size w w' := by
  go_enter Tryd.func10, Tryd.ntmps10
  go_wp2_with fail
  (with_reducible refine (aw_enc _).mono ?_)
  rintro e w1 ⟨rfl, hb1⟩
  have HB1 := Lib.hid hb1
  clear hb1
  go_wp2_with fail
  (with_reducible refine (aw_dec _).mono ?_)
  rintro e w2 ⟨A2, c2, rfl, hb2⟩
  have HB2 := Lib.hid (below_old HB1.out hb2)
  clear hb2 HB1
  go_wp2_with fail
  (with_reducible refine (aw_cod1 _).mono ?_)
  rintro e w3 ⟨rfl, hb3⟩
  have X3 := (Blk.new w2 _ _).below hb3
  have HB3 := Lib.hid (below_old HB2.out (below_old ((Below.refl _ _).alloc (Nat.le_refl _) _) hb3))
  clear hb3 HB2
  go_wp2_with fail
  (with_reducible refine (aw_cod2 _).mono ?_)
  rintro e w4 ⟨rfl, hb4⟩
  have HA := Lib.hid (AwB.new (w := w4) rfl (X3.below hb4))
  have HB4 := Lib.hid (below_old (below_old HB3.out hb4) (aw6_bel w4 w4.heap.size))
  clear hb4 HB3 X3
  obtain ⟨q0, q1, q2, q3, q4, q5, q6, q7, q8, q9, q10, q11, q12, q13, q14, q15, q16, q17, q18, q19⟩ := HA.out.cells
  go_wp2_with fail
  (with_reducible refine (aw_lin2 _ _ (Lib.hid HA.out.b0) (Lib.hid (TabOk.below HT.out HB4.out))).mono ?_)
  rintro e w5 ⟨T, rfl, -, hT, hb⟩
  have qT := seq_t hT
  clear hT
  have HA' := Lib.hid (HA.out.below hb)
  have HB5 := Lib.hid (below_old HB4.out hb)
  clear hb HB4 HA q0 q1 q2 q3 q4 q5 q6 q7 q8 q9 q10 q11 q12 q13 q14 q15 q16 q17 q18 q19
  have HA := HA'
  clear HA'
  obtain ⟨q0, q1, q2, q3, q4, q5, q6, q7, q8, q9, q10, q11, q12, q13, q14, q15, q16, q17, q18, q19⟩ := HA.out.cells
  go_wp2_with fail
  (with_reducible refine (aw_ch2 _ _ (Lib.hid HA.out.b2)).mono ?_)
  rintro e w6 ⟨rfl, hb⟩
  have HA' := Lib.hid (HA.out.below hb)
  have HB6 := Lib.hid (below_old HB5.out hb)
  clear hb HB5 HA q0 q1 q2 q3 q4 q5 q6 q7 q8 q9 q10 q11 q12 q13 q14 q15 q16 q17 q18 q19
  have HA := HA'
  clear HA'
  obtain ⟨q0, q1, q2, q3, q4, q5, q6, q7, q8, q9, q10, q11, q12, q13, q14, q15, q16, q17, q18, q19⟩ := HA.out.cells
  go_wp2_with fail
  (with_reducible refine (aw_ch3 _ _ (Lib.hid HA.out.b4)).mono ?_)
  rintro e w7 ⟨rfl, hb⟩
  have HA' := Lib.hid (HA.out.below hb)
  have HB7 := Lib.hid (below_old HB6.out hb)
  clear hb HB6 HA q0 q1 q2 q3 q4 q5 q6 q7 q8 q9 q10 q11 q12 q13 q14 q15 q16 q17 q18 q19
  have HA := HA'
  clear HA'
  obtain ⟨q0, q1, q2, q3, q4, q5, q6, q7, q8, q9, q10, q11, q12, q13, q14, q15, q16, q17, q18, q19⟩ := HA.out.cells
  go_wp2_with fail
  (with_reducible refine (aw_nm14 _).mono ?_)
  rintro e w8 ⟨rfl, hb⟩
  have HA' := Lib.hid (HA.out.below hb)
  have HB8 := Lib.hid (below_old HB7.out hb)
  clear hb HB7 HA q0 q1 q2 q3 q4 q5 q6 q7 q8 q9 q10 q11 q12 q13 q14 q15 q16 q17 q18 q19
  have HA := HA'
  clear HA'
  obtain ⟨q0, q1, q2, q3, q4, q5, q6, q7, q8, q9, q10, q11, q12, q13, q14, q15, q16, q17, q18, q19⟩ := HA.out.cells
  go_wp2_with fail
  (with_reducible refine (aw_nm15 _).mono ?_)
  rintro e w9 ⟨rfl, hb⟩
  have HA' := Lib.hid (HA.out.below hb)
  have HB9 := Lib.hid (below_old HB8.out hb)
  clear hb HB8 HA q0 q1 q2 q3 q4 q5 q6 q7 q8 q9 q10 q11 q12 q13 q14 q15 q16 q17 q18 q19
  have HA := HA'
  clear HA'
  obtain ⟨q0, q1, q2, q3, q4, q5, q6, q7, q8, q9, q10, q11, q12, q13, q14, q15, q16, q17, q18, q19⟩ := HA.out.cells
  go_wp2_with fail
  (with_reducible refine (aw_sm1 _ _ (Lib.hid HA.out.b0)).mono ?_)
  rintro e w10 ⟨rfl, hb⟩
  have HA' := Lib.hid (HA.out.below hb)
  have HB10 := Lib.hid (below_old HB9.out hb)
  clear hb HB9 HA q0 q1 q2 q3 q4 q5 q6 q7 q8 q9 q10 q11 q12 q13 q14 q15 q16 q17 q18 q19
  have HA := HA'
  clear HA'
  obtain ⟨q0, q1, q2, q3, q4, q5, q6, q7, q8, q9, q10, q11, q12, q13, q14, q15, q16, q17, q18, q19⟩ := HA.out.cells
  go_wp2_with fail
  (with_reducible refine (aw_sm2 _ _ _ (Lib.hid HA.out.b0) (Lib.hid HA.out.b2)).mono ?_)
  rintro e w11 ⟨rfl, hb⟩
  have HA' := Lib.hid (HA.out.below hb)
  have HB11 := Lib.hid (below_old HB10.out hb)
  clear hb HB10 HA q0 q1 q2 q3 q4 q5 q6 q7 q8 q9 q10 q11 q12 q13 q14 q15 q16 q17 q18 q19
  have HA := HA'
  clear HA'
  obtain ⟨q0, q1, q2, q3, q4, q5, q6, q7, q8, q9, q10, q11, q12, q13, q14, q15, q16, q17, q18, q19⟩ := HA.out.cells
  go_wp2_with fail
  go_ret
  exact ⟨rfl, HB11.out⟩
end Go.Proofs.YtcefmnkfkpoccaaDoor
