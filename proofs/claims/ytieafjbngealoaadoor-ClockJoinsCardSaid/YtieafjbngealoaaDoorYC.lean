/- law07: few, made, awake. -/
import Derived.Test.YtieafjbngealoaaDoorYB
namespace Go.Proofs.YtieafjbngealoaaDoor
open Go.RowKit
set_option linter.unusedVariables false

theorem open_eq (b : Nat) (S : Ck.Sh) (t : Int) (v : Bool) (hv : Hid (opB S t = v)) (w : World) (HC : Hid (Cal w b S)) (HOK : Hid (Ck.Ok 0 S)) :
    Calls Tryd.prog 20 #[.pointer (some ⟨b, 0, none⟩), .int .i64 t] w fun e w' => e = .returned (.bool v) ∧ Below w.heap.size w w' :=
  (open_any b S t w HC HOK).mono fun e w' h => ⟨by rw [h.1, hv.out], h.2⟩
theorem work_eq (b : Nat) (S : Ck.Sh) (x y v : Int) (hv : Hid (wrV S x y = v)) (w : World) (HC : Hid (Cal w b S)) (HOK : Hid (Ck.Ok 0 S)) :
    Calls Tryd.prog 22 #[.pointer (some ⟨b, 0, none⟩), .int .i64 x, .int .i64 y] w fun e w' => e = .returned (.int .i64 v) ∧ Below w.heap.size w w' :=
  (work_any b S x y w HC HOK).mono fun e w' h => ⟨by rw [h.1, hv.out], h.2⟩
theorem add_eq (b : Nat) (S : Ck.Sh) (t m v x : Int) (hv : Hid (adV S t m = v)) (hx : Hid (adE S t m = x)) (w : World) (HC : Hid (Cal w b S)) (HOK : Hid (Ck.Ok 0 S)) (hne : S ≠ []) :
    Calls Tryd.prog 24 #[.pointer (some ⟨b, 0, none⟩), .int .i64 t, .int .i64 m] w fun e w' => e = .returned (.tuple #[.int .i64 v, .int .i64 x]) ∧ Below w.heap.size w w' :=
  (add_any b S t m w HC HOK hne).mono fun e w' h => ⟨by rw [h.1, hv.out, hx.out], h.2⟩
theorem next_eq (b : Nat) (S : Ck.Sh) (t v x : Int) (hv : Hid (nxV S t = v)) (hx : Hid (nxE S t = x)) (w : World) (HC : Hid (Cal w b S)) (HOK : Hid (Ck.Ok 0 S)) (hne : S ≠ []) :
    Calls Tryd.prog 18 #[.pointer (some ⟨b, 0, none⟩), .int .i64 t] w fun e w' => e = .returned (.tuple #[.int .i64 v, .int .i64 x]) ∧ Below w.heap.size w w' :=
  (next_any b S t w HC HOK hne).mono fun e w' h => ⟨by rw [h.1, hv.out, hx.out], h.2⟩
theorem parse_eq (s : ByteArray) (v x : Int) (hv : Hid (Ck.pcV s.data.toList = v)) (hx : Hid (Ck.pcE s.data.toList = x)) (w : World) (hs : (s.size : Int) ≤ 9223372036854775807) : Calls Tryd.prog 26 #[.string s] w fun e w' => e = .returned (.tuple #[.int .i64 v, .int .i64 x]) ∧ Below w.heap.size w w' :=
  (parse_any s w hs).mono fun e w' h => ⟨by rw [h.1, hv.out, hx.out], h.2⟩
theorem format_eq (t : Int) (T : ByteArray) (hT : Hid (Ck.fmT t = T.data.toList)) (w : World) (htab : Hid (TabOk w)) : Calls Tryd.prog 28 #[.int .i64 t] w fun e w' => e = .returned (.string T) ∧ Below w.heap.size w w' :=
  (format_any t w htab.out).mono fun e w' h => ⟨by rw [h.1, hT.out, ← ba_eta], h.2⟩

theorem few_any (A : Option Addr) (c : Nat) (l : Nat) (b : Bool) (hb : Hid (decide (l ≤ 40) = b)) (w : World) : Calls Tryd.prog 13 #[.slice A l c] w fun e w' => e = .returned (.bool b) ∧ w = w' := by
  have HE : Hid (decide ((l : Int) ≤ 40) = b) := by show _ = _; rw [← hb.out]; by_cases h : l ≤ 40 <;> simp [h] <;> omega
  go_enter Tryd.func13, Tryd.ntmps13
  go_wp2_with fail
  go_ret
  exact ⟨by rw [HE.out]; rfl, rfl⟩

/-- made's result. -/
def MdY (S : Ck.Sh) (w : World) (e : Ending) (w' : World) : Prop := (∃ b, e = .returned (.tuple #[.pointer (some ⟨b, 0, none⟩), .bool true]) ∧ Hid (Cal w' b S)) ∧ Below w.heap.size w w'
theorem new_yes (A : Option Addr) (c : Nat) (S : Ck.Sh) (w : World) (HA : Hid (SlA w A S)) (hl : (S.length : Int) ≤ 1000) (h : Hid (Ck.chk S = 0)) :
    Calls Tryd.prog 15 #[.slice A S.length c] w fun e w' => (∃ b, e = .returned (.tuple #[.pointer (some ⟨b, 0, none⟩), .int .i64 0]) ∧ Hid (Cal w' b S)) ∧ Below w.heap.size w w' :=
  (new_any A c S w HA hl).mono fun e w' ⟨h1, h2⟩ => by
    rcases h1 with ⟨_, b, h1, h3⟩ | ⟨h1, _⟩
    · exact ⟨⟨b, h1, h3⟩, h2⟩
    · exact absurd h.out h1
theorem new_no (A : Option Addr) (c : Nat) (S : Ck.Sh) (x : Int) (w : World) (HA : Hid (SlA w A S)) (hl : (S.length : Int) ≤ 1000) (h : Hid (Ck.chk S = x)) (hx : x ≠ 0) :
    Calls Tryd.prog 15 #[.slice A S.length c] w fun e w' => e = .returned (.tuple #[.pointer none, .int .i64 x]) ∧ Below w.heap.size w w' :=
  (new_any A c S w HA hl).mono fun e w' ⟨h1, h2⟩ => by
    rcases h1 with ⟨h1, _⟩ | ⟨_, h1⟩
    · exact absurd (h.out ▸ h1) hx
    · exact ⟨by rw [h1, h.out], h2⟩
theorem made_yes (A : Option Addr) (c : Nat) (S : Ck.Sh) (w : World) (HA : Hid (SlA w A S)) (h : Hid (Ck.chk S = 0)) :
    Calls Tryd.prog 17 #[.slice A S.length c] w (MdY S w) := by
  have hl := (Ck.chk_ok h.out).2.1
  have HF : Hid (decide (S.length ≤ 40) = true) := decide_eq_true (by omega)
  have hl2 : (S.length : Int) ≤ 1000 := by omega
  go_enter Tryd.func17, Tryd.ntmps17
  go_wp2_with fail
  (with_reducible refine (few_any _ _ _ _ HF _).mono ?_)
  rintro e w1 ⟨rfl, rfl⟩
  go_wp2_with fail
  (with_reducible refine (new_yes _ _ _ _ HA hl2 h).mono ?_)
  rintro e w1 ⟨⟨b, rfl, HC⟩, hb⟩
  have HB1 := Lib.hid hb
  clear hb
  go_wp2_with fail
  go_ret2
  exact ⟨⟨b, rfl, HC⟩, HB1.out⟩
theorem made_no (A : Option Addr) (c : Nat) (S : Ck.Sh) (w : World) (HA : Hid (SlA w A S)) (h : Hid (Ck.chk S ≠ 0)) :
    Calls Tryd.prog 17 #[.slice A S.length c] w fun e w' => e = .returned (.tuple #[.pointer none, .bool false]) ∧ Below w.heap.size w w' := by
  by_cases g : S.length ≤ 40
  · have HF : Hid (decide (S.length ≤ 40) = true) := decide_eq_true (by omega)
    have hl2 : (S.length : Int) ≤ 1000 := by omega
    obtain ⟨x, hx⟩ : ∃ x, Ck.chk S = x := ⟨_, rfl⟩
    have hx0 : x ≠ 0 := by rw [← hx]; exact h.out
    have hx1 : (x == 0) = false := by simpa using hx0
    have HX := Lib.hid hx
    clear hx
    go_enter Tryd.func17, Tryd.ntmps17
    go_wp2_with fail
    (with_reducible refine (few_any _ _ _ _ HF _).mono ?_)
    rintro e w1 ⟨rfl, rfl⟩
    go_wp2_with fail
    (with_reducible refine (new_no _ _ _ _ _ HA hl2 HX hx0).mono ?_)
    rintro e w1 ⟨rfl, hb⟩
    have HB1 := Lib.hid hb
    clear hb
    go_wp2_with fail
    go_ret2
    exact ⟨rfl, HB1.out⟩
  · have HF : Hid (decide (S.length ≤ 40) = false) := decide_eq_false (by omega)
    go_enter Tryd.func17, Tryd.ntmps17
    go_wp2_with fail
    (with_reducible refine (few_any _ _ _ _ HF _).mono ?_)
    rintro e w1 ⟨rfl, rfl⟩
    go_wp2_with fail
    go_ret2
    exact ⟨rfl, Below.refl _ _⟩

/-! ### awake -/
def aw1 : Ck.Sh := [(360, 840)]
abbrev awP : ByteArray := ⟨#[100, 54, 57, 52, 52, 32, 49, 48, 58, 52, 48]⟩
abbrev awF : ByteArray := ⟨#[100, 48, 32, 49, 52, 58, 48, 48]⟩
theorem aw_chk : Ck.chk aw1 = 0 := by decide +kernel
theorem aw_a : adV aw1 0 480 = 840 ∧ adE aw1 0 480 = 0 := by decide +kernel
theorem aw_b : adV aw1 0 481 = 10441 ∧ adE aw1 0 481 = 0 := by decide +kernel
theorem aw_n : nxV aw1 840 = 10440 ∧ nxE aw1 840 = 0 := by decide +kernel
theorem aw_p : Ck.pcV awP.data.toList = 10000000 ∧ Ck.pcE awP.data.toList = 0 := by decide +kernel
theorem aw_o : opB aw1 360 = true ∧ opB aw1 840 = false := by decide +kernel
theorem aw_w : wrV aw1 0 10080 = 480 := by decide +kernel
theorem aw_f : Ck.fmT 840 = awF.data.toList := by
  have := Lib.decDigits_one (i := 0) (by omega)
  show Ck.fmN 840 = _
  unfold Ck.fmN
  rw [show 840 / 1440 = 0 from rfl, this]
  rfl
theorem aw_ok : Ck.Ok 0 aw1 := (Ck.chk_ok aw_chk).2.2
theorem aw_ne : aw1 ≠ [] := (Ck.chk_ok aw_chk).1
theorem new_one (w : World) (o : Obj) (ho : Hid (o = .cells #[.int .i64 360, .int .i64 840] 47)) : Calls Tryd.prog 15 #[.slice (some ⟨w.heap.size, 0, none⟩) 1 1] (w.alloc o) fun e w' =>
    (∃ b, e = .returned (.tuple #[.pointer (some ⟨b, 0, none⟩), .int .i64 0]) ∧ Hid (Cal w' b aw1)) ∧ Below w.heap.size w w' := by
  have h1 : SlA (w.alloc o) (some ⟨w.heap.size, 0, none⟩) aw1 := fun _ => ⟨w.heap.size, 0, rfl, by rw [ho.out]; exact (Blk.new w _ _).lt, fun i hi => by
    have hi0 : i = 0 := by have : aw1.length = 1 := rfl; omega
    subst hi0
    have hB := Blk.new w 47 #[.int .i64 360, .int .i64 840]
    rw [ho.out]
    exact ⟨hB.cell 0, hB.cell 1⟩⟩
  refine (new_yes (some ⟨w.heap.size, 0, none⟩) 1 aw1 _ (Lib.hid h1) (by decide) (Lib.hid aw_chk)).mono fun e w' ⟨h2, h3⟩ => ⟨h2, below_old ((Below.refl _ _).alloc (Nat.le_refl _) _) h3⟩
set_option maxHeartbeats 2000000 in
theorem awake_any (w : World) (htab : Hid (TabOk w)) : Calls Tryd.prog 14 #[] w fun e w' => e = .returned (.bool true) ∧ Below w.heap.size w w' := by
  have HOK := Lib.hid aw_ok
  have hne := Lib.hid aw_ne
  have a1 := Lib.hid aw_a.1; have a2 := Lib.hid aw_a.2
  have b1 := Lib.hid aw_b.1; have b2 := Lib.hid aw_b.2
  have n1 := Lib.hid aw_n.1; have n2 := Lib.hid aw_n.2
  have p1 := Lib.hid aw_p.1; have p2 := Lib.hid aw_p.2
  have o1 := Lib.hid aw_o.1; have o2 := Lib.hid aw_o.2
  have w1 := Lib.hid aw_w; have f1 := Lib.hid aw_f
  go_enter Tryd.func14, Tryd.ntmps14
  go_wp2_with fail
  (with_reducible refine (new_one _ _ (Lib.hid rfl)).mono ?_)
  rintro e u1 ⟨⟨b, rfl, HC⟩, hb⟩
  have HB := Lib.hid hb
  clear hb
  go_wp2_with fail
  (with_reducible refine (add_eq _ _ _ _ _ _ a1 a2 _ HC HOK hne.out).mono ?_)
  rintro e u2 ⟨rfl, hb⟩
  have HB := Lib.hid (below_old HB.out hb)
  have HC := Lib.hid (HC.out.below hb)
  clear hb
  go_wp2_with fail
  (with_reducible refine (add_eq _ _ _ _ _ _ b1 b2 _ HC HOK hne.out).mono ?_)
  rintro e u3 ⟨rfl, hb⟩
  have HB := Lib.hid (below_old HB.out hb)
  have HC := Lib.hid (HC.out.below hb)
  clear hb
  go_wp2_with fail
  (with_reducible refine (next_eq _ _ _ _ _ n1 n2 _ HC HOK hne.out).mono ?_)
  rintro e u4 ⟨rfl, hb⟩
  have HB := Lib.hid (below_old HB.out hb)
  have HC := Lib.hid (HC.out.below hb)
  clear hb
  go_wp2_with fail
  (with_reducible refine (parse_eq awP _ _ p1 p2 _ (by decide)).mono ?_)
  rintro e u5 ⟨rfl, hb⟩
  have HB := Lib.hid (below_old HB.out hb)
  have HC := Lib.hid (HC.out.below hb)
  clear hb
  go_wp2_with fail
  (with_reducible refine (open_eq _ _ _ _ o1 _ HC HOK).mono ?_)
  rintro e u6 ⟨rfl, hb⟩
  have HB := Lib.hid (below_old HB.out hb)
  have HC := Lib.hid (HC.out.below hb)
  clear hb
  go_wp2_with fail
  (with_reducible refine (open_eq _ _ _ _ o2 _ HC HOK).mono ?_)
  rintro e u7 ⟨rfl, hb⟩
  have HB := Lib.hid (below_old HB.out hb)
  have HC := Lib.hid (HC.out.below hb)
  clear hb
  go_wp2_with fail
  (with_reducible refine (work_eq _ _ _ _ _ w1 _ HC HOK).mono ?_)
  rintro e u8 ⟨rfl, hb⟩
  have HB := Lib.hid (below_old HB.out hb)
  have HC := Lib.hid (HC.out.below hb)
  clear hb
  go_wp2_with fail
  (with_reducible refine (format_eq _ awF f1 _ (Lib.hid (htab.out.below HB.out))).mono ?_)
  rintro e u9 ⟨rfl, hb⟩
  have HB := Lib.hid (below_old HB.out hb)
  have HC := Lib.hid (HC.out.below hb)
  clear hb
  go_wp2_with fail
  go_ret
  exact ⟨rfl, HB.out⟩
end Go.Proofs.YtieafjbngealoaaDoor
