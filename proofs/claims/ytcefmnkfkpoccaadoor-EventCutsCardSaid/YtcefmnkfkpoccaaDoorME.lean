/- event: the shapes; Check. -/
import Derived.Test.YtcefmnkfkpoccaaDoorGF
namespace Go.Proofs.YtcefmnkfkpoccaaDoor
open Go.RowKit
set_option linter.unusedVariables false
open Wi Evn
theorem ex_any (n : Int) (l : List Int) (A : Option Addr) (c : Nat) (x : Bool) (hx : Hid (decide ((l.length : Int) = n) = x)) (w : World) : Calls Tryd.prog 122 #[.int .i64 n, .slice A l.length c] w fun e w' => e = .returned (.bool x) ∧ w' = w := by
  have q : ((l.length : Int) == n) = x := by rw [← hx.out]; rfl
  go_enter Tryd.func122, Tryd.ntmps122
  go_wp2_with fail
  go_ret
  exact ⟨ret_bool (by first | rfl | exact q), rfl⟩
theorem al_any (n : Int) (l : List Int) (A : Option Addr) (c : Nat) (x : Bool) (hx : Hid (decide (n ≤ (l.length : Int)) = x)) (w : World) : Calls Tryd.prog 123 #[.int .i64 n, .slice A l.length c] w fun e w' => e = .returned (.bool x) ∧ w' = w := by
  have q : decide (n ≤ (l.length : Int)) = x := hx.out
  go_enter Tryd.func123, Tryd.ntmps123
  go_wp2_with fail
  go_ret
  exact ⟨ret_bool (by first | rfl | exact q), rfl⟩
theorem od_any (b : Bool) (l : List Int) (A : Option Addr) (c : Nat) (x : Bool) (hx : Hid ((decide (l.length % 2 = 1) == b) = x)) (w : World) : Calls Tryd.prog 125 #[.bool b, .slice A l.length c] w fun e w' => e = .returned (.bool x) ∧ w' = w := by
  have t2 : (l.length : Int).tmod 2 = (l.length : Int) % 2 := Int.tmod_eq_emod_of_nonneg (by omega)
  obtain ⟨y, hy⟩ : ∃ y : Bool, decide (l.length % 2 = 1) = y := ⟨_, rfl⟩
  have q : ((l.length : Int) % 2 == 1) = y := by
    rw [← hy]
    by_cases h : l.length % 2 = 1
    · rw [decide_eq_true h]; exact beq_iff_eq.2 (by omega)
    · rw [decide_eq_false h]; exact beq_eq_false_iff_ne.2 (by omega)
  have HX : Hid ((y == b) = x) := by rw [hy] at hx; exact hx
  clear hy hx
  go_enter Tryd.func125, Tryd.ntmps125
  go_wp2_with fail
  go_ret
  exact ⟨ret_bool HX.out, rfl⟩
theorem dry_cons (a x : Int) (r : List Int) : dryB (a :: x :: r) = decide (0 ≤ x ∧ x ≤ (r.length : Int) ∧ ((r.length : Int) - x) % 3 = 0) := rfl
set_option maxHeartbeats 4000000 in
theorem dr_any (l : List Int) (A : Option Addr) (c : Nat) (hl : (l.length : Int) ≤ 100000) (x : Bool) (hx : Hid (dryB l = x)) (w : World) (HS : Hid (SlR w A (i64c l))) : Calls Tryd.prog 124 #[.agg #[], .slice A l.length c] w fun e w' => e = .returned (.bool x) ∧ Below w.heap.size w w' := by
  have hal := (Below.refl w.heap.size w).alloc (Nat.le_refl _) (.cells #[] 78)
  have HAL := Lib.hid hal
  clear hal
  have h' := hx.out
  rcases l with _ | ⟨a, l⟩
  · have e : x = false := h'.symm
    subst e
    go_enter Tryd.func124, Tryd.ntmps124
    go_wp2_with fail
    go_ret
    exact ⟨rfl, HAL.out⟩
  rcases l with _ | ⟨y, r⟩
  · have e : x = false := h'.symm
    subst e
    go_enter Tryd.func124, Tryd.ntmps124
    go_wp2_with fail
    go_ret
    exact ⟨rfl, HAL.out⟩
  · rw [dry_cons] at h'
    obtain ⟨bb, off, hA, hbl, -⟩ := int_cells HS.out (i := 1) (x := y) (by simp) rfl
    subst hA
    have c1 := int_cell (HS.out.below HAL.out) (i := 1) (x := y) (by simp) rfl
    obtain ⟨n, hn⟩ : ∃ n, r.length = n := ⟨_, rfl⟩
    simp only [List.length_cons] at hl ⊢
    rw [hn] at h' hl ⊢
    have z1 : ¬ ((n + 1 + 1 : Nat) : Int) < 2 := by omega
    have z2 : (1 : Int) < ((n + 1 + 1 : Nat) : Int) := by omega
    have z3 : IntKind.i64.wrap (((n + 1 + 1 : Nat) : Int) - 2) = (n : Int) := by simp only [IntKind.wrap_i64]; omega
    obtain ⟨m, hm⟩ : ∃ m, n + 1 + 1 = m := ⟨_, rfl⟩
    rw [hm] at z1 z2 z3 ⊢
    have hmn : (m : Int) - 2 = (n : Int) := by omega
    clear hn HS
    by_cases h1 : 0 ≤ y
    · by_cases h2 : y ≤ (n : Int)
      · have t3 : ((n : Int) - y).tmod 3 = ((n : Int) - y) % 3 := Int.tmod_eq_emod_of_nonneg (by omega)
        obtain ⟨d, hd⟩ : ∃ d, ((n : Int) - y) % 3 = d := ⟨_, rfl⟩
        have hE : (d == 0) = x := by
          rw [← h', hd]
          by_cases g : d = 0
          · rw [decide_eq_true ⟨h1, h2, g⟩]; exact beq_iff_eq.2 g
          · rw [decide_eq_false (fun q => g q.2.2)]; exact beq_eq_false_iff_ne.2 g
        have hmi : (m : Int) ≤ 100000 := by omega
        clear h' hm
        go_enter Tryd.func124, Tryd.ntmps124
        go_wp2_with fail
        go_ret
        exact ⟨ret_bool (by first | rfl | exact hE), HAL.out⟩
      · have e : x = false := by rw [← h', decide_eq_false (fun q => h2 q.2.1)]
        subst e
        clear h' hm
        go_enter Tryd.func124, Tryd.ntmps124
        go_wp2_with fail
        go_ret
        exact ⟨rfl, HAL.out⟩
    · have e : x = false := by rw [← h', decide_eq_false (fun q => h1 q.1)]
      subst e
      clear h' hm
      go_enter Tryd.func124, Tryd.ntmps124
      go_wp2_with fail
      go_ret
      exact ⟨rfl, HAL.out⟩
end Go.Proofs.YtcefmnkfkpoccaaDoor

namespace Go.Proofs.YtcefmnkfkpoccaaDoor
open Go.RowKit
set_option linter.unusedVariables false
open Wi Evn
/-- An event of moderate size. -/
structure EvOk (e : Ev) : Prop where
  ki : I64 e.ki
  ti : I64 e.ti
  it : (e.it.size : Int) ≤ 100000
  of_ : (e.of_.size : Int) ≤ 100000
  tx : (e.tx.size : Int) ≤ 100000
  nl : (e.nn.length : Int) ≤ 100000
  nn : ∀ x ∈ e.nn, I64 x
abbrev agE (e : Ev) (A : Option Addr) (c : Nat) : Value := .agg #[.int .i64 e.ki, .int .i64 e.ti, .string e.it, .string e.of_, .slice A e.nn.length c, .string e.tx]
def EBox (w : World) (g : Nat) (e : Ev) (A : Option Addr) (c : Nat) : Prop := Blk w g 24 #[.int .i64 e.ki, .int .i64 e.ti, .string e.it, .string e.of_, .slice A e.nn.length c, .string e.tx]
theorem EBox.cells {w : World} {g : Nat} {e : Ev} {A : Option Addr} {c : Nat} (h : EBox w g e A c) : w.cell? ⟨g, 0, none⟩ = some (.int .i64 e.ki) ∧ w.cell? ⟨g, 1, none⟩ = some (.int .i64 e.ti) ∧ w.cell? ⟨g, 2, none⟩ = some (.string e.it) ∧ w.cell? ⟨g, 3, none⟩ = some (.string e.of_) ∧ w.cell? ⟨g, 4, none⟩ = some (.slice A e.nn.length c) ∧ w.cell? ⟨g, 5, none⟩ = some (.string e.tx) :=
  ⟨Blk.cell h 0, Blk.cell h 1, Blk.cell h 2, Blk.cell h 3, Blk.cell h 4, Blk.cell h 5⟩
def FBox (w : World) (g : Nat) (n : ByteArray) (a b : Int) (T : TypeId) (V : Value) : Prop := Blk w g 45 #[.string n, .int .u8 a, .int .u8 b, .iface T V]
theorem FBox.cells {w : World} {g : Nat} {n : ByteArray} {a b : Int} {T : TypeId} {V : Value} (h : FBox w g n a b T V) : w.cell? ⟨g, 0, none⟩ = some (.string n) ∧ w.cell? ⟨g, 1, none⟩ = some (.int .u8 a) ∧ w.cell? ⟨g, 2, none⟩ = some (.int .u8 b) ∧ w.cell? ⟨g, 3, none⟩ = some (.iface T V) :=
  ⟨Blk.cell h 0, Blk.cell h 1, Blk.cell h 2, Blk.cell h 3⟩
/-- What Check answers for a kind that there is. -/
def chF (e : Ev) (a b : Int) (sh : Bool) : Int :=
  if 0 ≤ e.ti ∧ e.ti ≤ 10000000 then
    if (namB e.it a && namB e.of_ b) = true then
      if e.nn.length ≤ 600 ∧ e.tx.size ≤ 16384 then
        if numB e.nn = true then (if sh = true then 0 else 19) else 9
      else 4
    else 6
  else 15
theorem chk_F {e : Ev} (h : 1 ≤ e.ki ∧ e.ki ≤ 14) : chk e = chF e (kIt e.ki) (kOf e.ki) (shpB e.ki e.nn) := by rw [chk, if_pos h]; rfl
theorem numB_no {l : List Int} {j : Nat} (hj : j < l.length) (h : ¬ okN l[j]) : numB l = false := by
  rw [← Bool.not_eq_true]
  intro g
  simp only [numB, List.all_eq_true, decide_eq_true_eq] at g
  exact h (g _ (List.getElem_mem hj))
theorem numB_yes {l : List Int} (h : ∀ j (hj : j < l.length), okN l[j]) : numB l = true := by
  simp only [numB, List.all_eq_true, decide_eq_true_eq]
  intro x hx
  obtain ⟨j, hj, rfl⟩ := List.getElem_of_mem hx
  exact h j hj
theorem meth_ex (m : Int) (w : World) : (method 245 75 (.int .i64 m) "sawmill/event.fits").run Tryd.prog w = .ok (122, .int .i64 m) w := by kernel_rfl
theorem meth_al (m : Int) (w : World) : (method 245 76 (.int .i64 m) "sawmill/event.fits").run Tryd.prog w = .ok (123, .int .i64 m) w := by kernel_rfl
theorem meth_od (m : Bool) (w : World) : (method 245 79 (.bool m) "sawmill/event.fits").run Tryd.prog w = .ok (125, .bool m) w := by kernel_rfl
theorem meth_dr (w : World) : (method 245 78 (.agg #[]) "sawmill/event.fits").run Tryd.prog w = .ok (124, .agg #[]) w := by kernel_rfl
set_option maxRecDepth 100000 in
set_option maxHeartbeats 8000000 in
theorem check_ex (e : Ev) (A : Option Addr) (c : Nat) (HO : Hid (EvOk e)) (n : ByteArray) (a b : Int) (m : Int) (sh : Bool) (HSH : Hid (decide ((e.nn.length : Int) = m) = sh)) (HF : Hid (∀ w, Calls Tryd.prog 24 #[.int .i64 e.ki] w fun r w' => r = .returned (.tuple #[.agg #[.string n, .int .u8 a, .int .u8 b, .iface 75 (.int .i64 m)], .bool true]) ∧ Below w.heap.size w w')) (x : Int) (hx : Hid (chF e a b sh = x)) (w : World) (HS : Hid (SlR w A (i64c e.nn))) :
    Calls Tryd.prog 11 #[agE e A c] w fun r w' => r = .returned (.int .i64 x) ∧ Below w.heap.size w w' := by
  obtain ⟨i1, i2, i3, i4, i5, i6, i7⟩ := HO.out
  have HI7 := Lib.hid i7
  have h' := hx.out
  unfold chF at h'
  have HBX0 : Hid (EBox (w.alloc (.cells #[.int .i64 e.ki, .int .i64 e.ti, .string e.it, .string e.of_, .slice A e.nn.length c, .string e.tx] 24)) w.heap.size e A c) := Blk.new _ _ _
  have HAL := Lib.hid ((Below.refl w.heap.size w).alloc (Nat.le_refl _) (.cells #[.int .i64 e.ki, .int .i64 e.ti, .string e.it, .string e.of_, .slice A e.nn.length c, .string e.tx] 24))
  have HX := Lib.hid h'
  clear h' hx i7
  go_enter Tryd.func11, Tryd.ntmps11
  go_wp2_with fail
  generalize w.alloc (.cells #[.int .i64 e.ki, .int .i64 e.ti, .string e.it, .string e.of_, .slice A e.nn.length c, .string e.tx] 24) = w0 at *
  (with_reducible refine (HF.out _).mono ?_)
  rintro r w1 ⟨rfl, hb⟩
  have HB1 := Lib.hid (below_old HAL.out hb)
  have HBX1 : Hid (EBox w1 w.heap.size e A c) := Blk.below HBX0.out hb
  have hal := (Below.refl w1.heap.size w1).alloc (Nat.le_refl _) (.cells #[.string n, .int .u8 a, .int .u8 b, .iface 75 (.int .i64 m)] 45)
  have HB2 := Lib.hid (below_old HB1.out hal)
  have HBX2 : Hid (EBox (w1.alloc (.cells #[.string n, .int .u8 a, .int .u8 b, .iface 75 (.int .i64 m)] 45)) w.heap.size e A c) := Blk.below HBX1.out hal
  have HFB2 : Hid (FBox (w1.alloc (.cells #[.string n, .int .u8 a, .int .u8 b, .iface 75 (.int .i64 m)] 45)) w1.heap.size n a b 75 (.int .i64 m)) := Blk.new _ _ _
  clear hb hal HB1 HBX1 HBX0 HAL
  obtain ⟨x0, x1, x2, x3, x4, x5⟩ := HBX2.out.cells
  obtain ⟨f0, f1, f2, f3⟩ := HFB2.out.cells
  by_cases ht : 0 ≤ e.ti ∧ e.ti ≤ 10000000
  · obtain ⟨t1, t2⟩ := ht
    rw [if_pos ⟨t1, t2⟩] at HX
    obtain ⟨y1, hy1⟩ : ∃ y, namB e.it a = y := ⟨_, rfl⟩
    obtain ⟨y2, hy2⟩ : ∃ y, namB e.of_ b = y := ⟨_, rfl⟩
    rw [hy1, hy2] at HX
    have HY1 := Lib.hid hy1; have HY2 := Lib.hid hy2
    clear hy1 hy2
    go_wp2_with fail
    generalize w1.alloc (.cells #[.string n, .int .u8 a, .int .u8 b, .iface 75 (.int .i64 m)] 45) = w2 at *
    generalize w1.heap.size = gf at *
    clear x0 x1 x2 x3 x4 x5 f0 f1 f2 f3
    (with_reducible refine (isCode_any e.it (by omega) a y1 HY1 _).mono ?_)
    rintro r w3 ⟨rfl, hb⟩
    have HB3 := Lib.hid (below_old HB2.out hb)
    have HBX3 : Hid (EBox w3 w.heap.size e A c) := Blk.below HBX2.out hb
    have HFB3 : Hid (FBox w3 gf n a b 75 (.int .i64 m)) := Blk.below HFB2.out hb
    clear hb HB2 HBX2 HFB2
    obtain ⟨x0, x1, x2, x3, x4, x5⟩ := HBX3.out.cells
    obtain ⟨f0, f1, f2, f3⟩ := HFB3.out.cells
    cases y1 with
    | false =>
      have e6 : 6 = x := by have := HX.out; simpa using this
      subst e6
      go_wp2_with fail
      go_ret
      exact ⟨rfl, HB3.out⟩
    | true =>
      go_wp2_with fail
      (with_reducible refine (isCode_any e.of_ (by omega) b y2 HY2 _).mono ?_)
      rintro r w4 ⟨rfl, hb⟩
      have HB4 := Lib.hid (below_old HB3.out hb)
      have HBX4 : Hid (EBox w4 w.heap.size e A c) := Blk.below HBX3.out hb
      have HFB4 : Hid (FBox w4 gf n a b 75 (.int .i64 m)) := Blk.below HFB3.out hb
      clear hb HB3 HBX3 HFB3 x0 x1 x2 x3 x4 x5 f0 f1 f2 f3
      obtain ⟨x0, x1, x2, x3, x4, x5⟩ := HBX4.out.cells
      obtain ⟨f0, f1, f2, f3⟩ := HFB4.out.cells
      cases y2 with
      | false =>
        have e6 : 6 = x := by have := HX.out; simpa using this
        subst e6
        go_wp2_with fail
        go_ret
        exact ⟨rfl, HB4.out⟩
      | true =>
        rw [if_pos (show (true && true) = true from rfl)] at HX
        by_cases hl : e.nn.length ≤ 600
        · have z1 : ¬ (600 : Int) < (e.nn.length : Int) := by omega
          by_cases hl2 : e.tx.size ≤ 16384
          · have z2 : ¬ (16384 : Int) < (e.tx.size : Int) := by omega
            rw [if_pos ⟨hl, hl2⟩] at HX
            have HLL := Lib.hid hl
            clear hl hl2
            go_wp2_with fail
            go_loopw [50] (fun i wr => ∃ (k : Nat), i = .int .i64 k ∧ k ≤ e.nn.length ∧ Hid (∀ j (hj : j < e.nn.length), j < k → okN e.nn[j]) ∧ wr = w4) (fun i _ => e.nn.length - (intOf i).toNat)
            case atStart => exact ⟨0, rfl, by omega, fun j _ h => by omega, rfl⟩
            case round =>
              obtain ⟨k, rfl, hk, HK, hw⟩ := hrel
              subst wr
              by_cases hkl : k < e.nn.length
              · obtain ⟨m, hm⟩ : ∃ m, e.nn[k] = m := ⟨_, rfl⟩
                obtain ⟨bb, off, hA, hbl, c0⟩ := int_cells (HS.out.below HB4.out) hkl hm
                subst hA
                have zk : (k : Int) < (e.nn.length : Int) := by omega
                by_cases hok : okN m
                · have HK2 : Hid (∀ j (hj : j < e.nn.length), j < k + 1 → okN e.nn[j]) := fun j hj hlt => by
                    rcases Nat.lt_or_ge j k with q | q
                    · exact HK.out j hj q
                    · have : j = k := by omega
                      subst this
                      rw [hm]
                      exact hok
                  obtain ⟨o1, o2⟩ := hok
                  clear hm
                  go_wp2_with fail
                  go_roundw
                  case rel => exact ⟨k + 1, by go_num, by omega, HK2, trivial⟩
                  case measure => simp [intOf]; omega
                · have hn := numB_no hkl (by rw [hm]; exact hok)
                  have e9 : 9 = x := by have := HX.out; rw [hn] at this; simpa using this
                  subst e9
                  clear hm hn
                  by_cases o1 : -1099511627776 ≤ m
                  · have o2 : ¬ m ≤ 1099511627776 := fun g => hok ⟨o1, g⟩
                    clear hok
                    go_wp2_with fail
                    go_ret
                    exact ⟨rfl, HB4.out⟩
                  · clear hok
                    go_wp2_with fail
                    go_ret
                    exact ⟨rfl, HB4.out⟩
              · have hn := numB_yes (l := e.nn) (fun j hj => HK.out j hj (by omega))
                rw [hn, if_pos rfl] at HX
                have zk : (e.nn.length : Int) ≤ (k : Int) := by omega
                clear hn HK
                have hmt := meth_ex m
                go_wp2_with fail
                clear hmt
                (with_reducible refine (ex_any m e.nn _ c sh HSH _).mono ?_)
                rintro r w5 ⟨rfl, hw5⟩
                subst hw5
                have HB5 := Lib.hid HB4.out
                cases sh with
                | true =>
                  have e0 : 0 = x := by have := HX.out; simpa using this
                  subst e0
                  go_wp2_with fail
                  go_ret
                  exact ⟨rfl, HB5.out⟩
                | false =>
                  have e0 : 19 = x := by have := HX.out; simpa using this
                  subst e0
                  go_wp2_with fail
                  go_ret
                  exact ⟨rfl, HB5.out⟩
          · rw [if_neg (fun g => hl2 g.2)] at HX
            have e4 := HX.out
            subst e4
            have z2 : (16384 : Int) < (e.tx.size : Int) := by omega
            clear hl hl2
            go_wp2_with fail
            go_ret
            exact ⟨rfl, HB4.out⟩
        · rw [if_neg (fun g => hl g.1)] at HX
          have e4 := HX.out
          subst e4
          have z1 : (600 : Int) < (e.nn.length : Int) := by omega
          clear hl
          go_wp2_with fail
          go_ret
          exact ⟨rfl, HB4.out⟩
  · rw [if_neg ht] at HX
    have e15 := HX.out
    subst e15
    by_cases t1 : 0 ≤ e.ti
    · have t2 : ¬ e.ti ≤ 10000000 := fun g => ht ⟨t1, g⟩
      clear ht
      go_wp2_with fail
      go_ret
      exact ⟨rfl, HB2.out⟩
    · clear ht
      go_wp2_with fail
      go_ret
      exact ⟨rfl, HB2.out⟩
set_option maxRecDepth 100000 in
set_option maxHeartbeats 8000000 in
theorem check_al (e : Ev) (A : Option Addr) (c : Nat) (HO : Hid (EvOk e)) (n : ByteArray) (a b : Int) (m : Int) (sh : Bool) (HSH : Hid (decide (m ≤ (e.nn.length : Int)) = sh)) (HF : Hid (∀ w, Calls Tryd.prog 24 #[.int .i64 e.ki] w fun r w' => r = .returned (.tuple #[.agg #[.string n, .int .u8 a, .int .u8 b, .iface 76 (.int .i64 m)], .bool true]) ∧ Below w.heap.size w w')) (x : Int) (hx : Hid (chF e a b sh = x)) (w : World) (HS : Hid (SlR w A (i64c e.nn))) :
    Calls Tryd.prog 11 #[agE e A c] w fun r w' => r = .returned (.int .i64 x) ∧ Below w.heap.size w w' := by
  obtain ⟨i1, i2, i3, i4, i5, i6, i7⟩ := HO.out
  have HI7 := Lib.hid i7
  have h' := hx.out
  unfold chF at h'
  have HBX0 : Hid (EBox (w.alloc (.cells #[.int .i64 e.ki, .int .i64 e.ti, .string e.it, .string e.of_, .slice A e.nn.length c, .string e.tx] 24)) w.heap.size e A c) := Blk.new _ _ _
  have HAL := Lib.hid ((Below.refl w.heap.size w).alloc (Nat.le_refl _) (.cells #[.int .i64 e.ki, .int .i64 e.ti, .string e.it, .string e.of_, .slice A e.nn.length c, .string e.tx] 24))
  have HX := Lib.hid h'
  clear h' hx i7
  go_enter Tryd.func11, Tryd.ntmps11
  go_wp2_with fail
  generalize w.alloc (.cells #[.int .i64 e.ki, .int .i64 e.ti, .string e.it, .string e.of_, .slice A e.nn.length c, .string e.tx] 24) = w0 at *
  (with_reducible refine (HF.out _).mono ?_)
  rintro r w1 ⟨rfl, hb⟩
  have HB1 := Lib.hid (below_old HAL.out hb)
  have HBX1 : Hid (EBox w1 w.heap.size e A c) := Blk.below HBX0.out hb
  have hal := (Below.refl w1.heap.size w1).alloc (Nat.le_refl _) (.cells #[.string n, .int .u8 a, .int .u8 b, .iface 76 (.int .i64 m)] 45)
  have HB2 := Lib.hid (below_old HB1.out hal)
  have HBX2 : Hid (EBox (w1.alloc (.cells #[.string n, .int .u8 a, .int .u8 b, .iface 76 (.int .i64 m)] 45)) w.heap.size e A c) := Blk.below HBX1.out hal
  have HFB2 : Hid (FBox (w1.alloc (.cells #[.string n, .int .u8 a, .int .u8 b, .iface 76 (.int .i64 m)] 45)) w1.heap.size n a b 76 (.int .i64 m)) := Blk.new _ _ _
  clear hb hal HB1 HBX1 HBX0 HAL
  obtain ⟨x0, x1, x2, x3, x4, x5⟩ := HBX2.out.cells
  obtain ⟨f0, f1, f2, f3⟩ := HFB2.out.cells
  by_cases ht : 0 ≤ e.ti ∧ e.ti ≤ 10000000
  · obtain ⟨t1, t2⟩ := ht
    rw [if_pos ⟨t1, t2⟩] at HX
    obtain ⟨y1, hy1⟩ : ∃ y, namB e.it a = y := ⟨_, rfl⟩
    obtain ⟨y2, hy2⟩ : ∃ y, namB e.of_ b = y := ⟨_, rfl⟩
    rw [hy1, hy2] at HX
    have HY1 := Lib.hid hy1; have HY2 := Lib.hid hy2
    clear hy1 hy2
    go_wp2_with fail
    generalize w1.alloc (.cells #[.string n, .int .u8 a, .int .u8 b, .iface 76 (.int .i64 m)] 45) = w2 at *
    generalize w1.heap.size = gf at *
    clear x0 x1 x2 x3 x4 x5 f0 f1 f2 f3
    (with_reducible refine (isCode_any e.it (by omega) a y1 HY1 _).mono ?_)
    rintro r w3 ⟨rfl, hb⟩
    have HB3 := Lib.hid (below_old HB2.out hb)
    have HBX3 : Hid (EBox w3 w.heap.size e A c) := Blk.below HBX2.out hb
    have HFB3 : Hid (FBox w3 gf n a b 76 (.int .i64 m)) := Blk.below HFB2.out hb
    clear hb HB2 HBX2 HFB2
    obtain ⟨x0, x1, x2, x3, x4, x5⟩ := HBX3.out.cells
    obtain ⟨f0, f1, f2, f3⟩ := HFB3.out.cells
    cases y1 with
    | false =>
      have e6 : 6 = x := by have := HX.out; simpa using this
      subst e6
      go_wp2_with fail
      go_ret
      exact ⟨rfl, HB3.out⟩
    | true =>
      go_wp2_with fail
      (with_reducible refine (isCode_any e.of_ (by omega) b y2 HY2 _).mono ?_)
      rintro r w4 ⟨rfl, hb⟩
      have HB4 := Lib.hid (below_old HB3.out hb)
      have HBX4 : Hid (EBox w4 w.heap.size e A c) := Blk.below HBX3.out hb
      have HFB4 : Hid (FBox w4 gf n a b 76 (.int .i64 m)) := Blk.below HFB3.out hb
      clear hb HB3 HBX3 HFB3 x0 x1 x2 x3 x4 x5 f0 f1 f2 f3
      obtain ⟨x0, x1, x2, x3, x4, x5⟩ := HBX4.out.cells
      obtain ⟨f0, f1, f2, f3⟩ := HFB4.out.cells
      cases y2 with
      | false =>
        have e6 : 6 = x := by have := HX.out; simpa using this
        subst e6
        go_wp2_with fail
        go_ret
        exact ⟨rfl, HB4.out⟩
      | true =>
        rw [if_pos (show (true && true) = true from rfl)] at HX
        by_cases hl : e.nn.length ≤ 600
        · have z1 : ¬ (600 : Int) < (e.nn.length : Int) := by omega
          by_cases hl2 : e.tx.size ≤ 16384
          · have z2 : ¬ (16384 : Int) < (e.tx.size : Int) := by omega
            rw [if_pos ⟨hl, hl2⟩] at HX
            have HLL := Lib.hid hl
            clear hl hl2
            go_wp2_with fail
            go_loopw [50] (fun i wr => ∃ (k : Nat), i = .int .i64 k ∧ k ≤ e.nn.length ∧ Hid (∀ j (hj : j < e.nn.length), j < k → okN e.nn[j]) ∧ wr = w4) (fun i _ => e.nn.length - (intOf i).toNat)
            case atStart => exact ⟨0, rfl, by omega, fun j _ h => by omega, rfl⟩
            case round =>
              obtain ⟨k, rfl, hk, HK, hw⟩ := hrel
              subst wr
              by_cases hkl : k < e.nn.length
              · obtain ⟨m, hm⟩ : ∃ m, e.nn[k] = m := ⟨_, rfl⟩
                obtain ⟨bb, off, hA, hbl, c0⟩ := int_cells (HS.out.below HB4.out) hkl hm
                subst hA
                have zk : (k : Int) < (e.nn.length : Int) := by omega
                by_cases hok : okN m
                · have HK2 : Hid (∀ j (hj : j < e.nn.length), j < k + 1 → okN e.nn[j]) := fun j hj hlt => by
                    rcases Nat.lt_or_ge j k with q | q
                    · exact HK.out j hj q
                    · have : j = k := by omega
                      subst this
                      rw [hm]
                      exact hok
                  obtain ⟨o1, o2⟩ := hok
                  clear hm
                  go_wp2_with fail
                  go_roundw
                  case rel => exact ⟨k + 1, by go_num, by omega, HK2, trivial⟩
                  case measure => simp [intOf]; omega
                · have hn := numB_no hkl (by rw [hm]; exact hok)
                  have e9 : 9 = x := by have := HX.out; rw [hn] at this; simpa using this
                  subst e9
                  clear hm hn
                  by_cases o1 : -1099511627776 ≤ m
                  · have o2 : ¬ m ≤ 1099511627776 := fun g => hok ⟨o1, g⟩
                    clear hok
                    go_wp2_with fail
                    go_ret
                    exact ⟨rfl, HB4.out⟩
                  · clear hok
                    go_wp2_with fail
                    go_ret
                    exact ⟨rfl, HB4.out⟩
              · have hn := numB_yes (l := e.nn) (fun j hj => HK.out j hj (by omega))
                rw [hn, if_pos rfl] at HX
                have zk : (e.nn.length : Int) ≤ (k : Int) := by omega
                clear hn HK
                have hmt := meth_al m
                go_wp2_with fail
                clear hmt
                (with_reducible refine (al_any m e.nn _ c sh HSH _).mono ?_)
                rintro r w5 ⟨rfl, hw5⟩
                subst hw5
                have HB5 := Lib.hid HB4.out
                cases sh with
                | true =>
                  have e0 : 0 = x := by have := HX.out; simpa using this
                  subst e0
                  go_wp2_with fail
                  go_ret
                  exact ⟨rfl, HB5.out⟩
                | false =>
                  have e0 : 19 = x := by have := HX.out; simpa using this
                  subst e0
                  go_wp2_with fail
                  go_ret
                  exact ⟨rfl, HB5.out⟩
          · rw [if_neg (fun g => hl2 g.2)] at HX
            have e4 := HX.out
            subst e4
            have z2 : (16384 : Int) < (e.tx.size : Int) := by omega
            clear hl hl2
            go_wp2_with fail
            go_ret
            exact ⟨rfl, HB4.out⟩
        · rw [if_neg (fun g => hl g.1)] at HX
          have e4 := HX.out
          subst e4
          have z1 : (600 : Int) < (e.nn.length : Int) := by omega
          clear hl
          go_wp2_with fail
          go_ret
          exact ⟨rfl, HB4.out⟩
  · rw [if_neg ht] at HX
    have e15 := HX.out
    subst e15
    by_cases t1 : 0 ≤ e.ti
    · have t2 : ¬ e.ti ≤ 10000000 := fun g => ht ⟨t1, g⟩
      clear ht
      go_wp2_with fail
      go_ret
      exact ⟨rfl, HB2.out⟩
    · clear ht
      go_wp2_with fail
      go_ret
      exact ⟨rfl, HB2.out⟩
set_option maxRecDepth 100000 in
set_option maxHeartbeats 8000000 in
theorem check_od (e : Ev) (A : Option Addr) (c : Nat) (HO : Hid (EvOk e)) (n : ByteArray) (a b : Int) (m : Bool) (sh : Bool) (HSH : Hid ((decide (e.nn.length % 2 = 1) == m) = sh)) (HF : Hid (∀ w, Calls Tryd.prog 24 #[.int .i64 e.ki] w fun r w' => r = .returned (.tuple #[.agg #[.string n, .int .u8 a, .int .u8 b, .iface 79 (.bool m)], .bool true]) ∧ Below w.heap.size w w')) (x : Int) (hx : Hid (chF e a b sh = x)) (w : World) (HS : Hid (SlR w A (i64c e.nn))) :
    Calls Tryd.prog 11 #[agE e A c] w fun r w' => r = .returned (.int .i64 x) ∧ Below w.heap.size w w' := by
  obtain ⟨i1, i2, i3, i4, i5, i6, i7⟩ := HO.out
  have HI7 := Lib.hid i7
  have h' := hx.out
  unfold chF at h'
  have HBX0 : Hid (EBox (w.alloc (.cells #[.int .i64 e.ki, .int .i64 e.ti, .string e.it, .string e.of_, .slice A e.nn.length c, .string e.tx] 24)) w.heap.size e A c) := Blk.new _ _ _
  have HAL := Lib.hid ((Below.refl w.heap.size w).alloc (Nat.le_refl _) (.cells #[.int .i64 e.ki, .int .i64 e.ti, .string e.it, .string e.of_, .slice A e.nn.length c, .string e.tx] 24))
  have HX := Lib.hid h'
  clear h' hx i7
  go_enter Tryd.func11, Tryd.ntmps11
  go_wp2_with fail
  generalize w.alloc (.cells #[.int .i64 e.ki, .int .i64 e.ti, .string e.it, .string e.of_, .slice A e.nn.length c, .string e.tx] 24) = w0 at *
  (with_reducible refine (HF.out _).mono ?_)
  rintro r w1 ⟨rfl, hb⟩
  have HB1 := Lib.hid (below_old HAL.out hb)
  have HBX1 : Hid (EBox w1 w.heap.size e A c) := Blk.below HBX0.out hb
  have hal := (Below.refl w1.heap.size w1).alloc (Nat.le_refl _) (.cells #[.string n, .int .u8 a, .int .u8 b, .iface 79 (.bool m)] 45)
  have HB2 := Lib.hid (below_old HB1.out hal)
  have HBX2 : Hid (EBox (w1.alloc (.cells #[.string n, .int .u8 a, .int .u8 b, .iface 79 (.bool m)] 45)) w.heap.size e A c) := Blk.below HBX1.out hal
  have HFB2 : Hid (FBox (w1.alloc (.cells #[.string n, .int .u8 a, .int .u8 b, .iface 79 (.bool m)] 45)) w1.heap.size n a b 79 (.bool m)) := Blk.new _ _ _
  clear hb hal HB1 HBX1 HBX0 HAL
  obtain ⟨x0, x1, x2, x3, x4, x5⟩ := HBX2.out.cells
  obtain ⟨f0, f1, f2, f3⟩ := HFB2.out.cells
  by_cases ht : 0 ≤ e.ti ∧ e.ti ≤ 10000000
  · obtain ⟨t1, t2⟩ := ht
    rw [if_pos ⟨t1, t2⟩] at HX
    obtain ⟨y1, hy1⟩ : ∃ y, namB e.it a = y := ⟨_, rfl⟩
    obtain ⟨y2, hy2⟩ : ∃ y, namB e.of_ b = y := ⟨_, rfl⟩
    rw [hy1, hy2] at HX
    have HY1 := Lib.hid hy1; have HY2 := Lib.hid hy2
    clear hy1 hy2
    go_wp2_with fail
    generalize w1.alloc (.cells #[.string n, .int .u8 a, .int .u8 b, .iface 79 (.bool m)] 45) = w2 at *
    generalize w1.heap.size = gf at *
    clear x0 x1 x2 x3 x4 x5 f0 f1 f2 f3
    (with_reducible refine (isCode_any e.it (by omega) a y1 HY1 _).mono ?_)
    rintro r w3 ⟨rfl, hb⟩
    have HB3 := Lib.hid (below_old HB2.out hb)
    have HBX3 : Hid (EBox w3 w.heap.size e A c) := Blk.below HBX2.out hb
    have HFB3 : Hid (FBox w3 gf n a b 79 (.bool m)) := Blk.below HFB2.out hb
    clear hb HB2 HBX2 HFB2
    obtain ⟨x0, x1, x2, x3, x4, x5⟩ := HBX3.out.cells
    obtain ⟨f0, f1, f2, f3⟩ := HFB3.out.cells
    cases y1 with
    | false =>
      have e6 : 6 = x := by have := HX.out; simpa using this
      subst e6
      go_wp2_with fail
      go_ret
      exact ⟨rfl, HB3.out⟩
    | true =>
      go_wp2_with fail
      (with_reducible refine (isCode_any e.of_ (by omega) b y2 HY2 _).mono ?_)
      rintro r w4 ⟨rfl, hb⟩
      have HB4 := Lib.hid (below_old HB3.out hb)
      have HBX4 : Hid (EBox w4 w.heap.size e A c) := Blk.below HBX3.out hb
      have HFB4 : Hid (FBox w4 gf n a b 79 (.bool m)) := Blk.below HFB3.out hb
      clear hb HB3 HBX3 HFB3 x0 x1 x2 x3 x4 x5 f0 f1 f2 f3
      obtain ⟨x0, x1, x2, x3, x4, x5⟩ := HBX4.out.cells
      obtain ⟨f0, f1, f2, f3⟩ := HFB4.out.cells
      cases y2 with
      | false =>
        have e6 : 6 = x := by have := HX.out; simpa using this
        subst e6
        go_wp2_with fail
        go_ret
        exact ⟨rfl, HB4.out⟩
      | true =>
        rw [if_pos (show (true && true) = true from rfl)] at HX
        by_cases hl : e.nn.length ≤ 600
        · have z1 : ¬ (600 : Int) < (e.nn.length : Int) := by omega
          by_cases hl2 : e.tx.size ≤ 16384
          · have z2 : ¬ (16384 : Int) < (e.tx.size : Int) := by omega
            rw [if_pos ⟨hl, hl2⟩] at HX
            have HLL := Lib.hid hl
            clear hl hl2
            go_wp2_with fail
            go_loopw [50] (fun i wr => ∃ (k : Nat), i = .int .i64 k ∧ k ≤ e.nn.length ∧ Hid (∀ j (hj : j < e.nn.length), j < k → okN e.nn[j]) ∧ wr = w4) (fun i _ => e.nn.length - (intOf i).toNat)
            case atStart => exact ⟨0, rfl, by omega, fun j _ h => by omega, rfl⟩
            case round =>
              obtain ⟨k, rfl, hk, HK, hw⟩ := hrel
              subst wr
              by_cases hkl : k < e.nn.length
              · obtain ⟨m, hm⟩ : ∃ m, e.nn[k] = m := ⟨_, rfl⟩
                obtain ⟨bb, off, hA, hbl, c0⟩ := int_cells (HS.out.below HB4.out) hkl hm
                subst hA
                have zk : (k : Int) < (e.nn.length : Int) := by omega
                by_cases hok : okN m
                · have HK2 : Hid (∀ j (hj : j < e.nn.length), j < k + 1 → okN e.nn[j]) := fun j hj hlt => by
                    rcases Nat.lt_or_ge j k with q | q
                    · exact HK.out j hj q
                    · have : j = k := by omega
                      subst this
                      rw [hm]
                      exact hok
                  obtain ⟨o1, o2⟩ := hok
                  clear hm
                  go_wp2_with fail
                  go_roundw
                  case rel => exact ⟨k + 1, by go_num, by omega, HK2, trivial⟩
                  case measure => simp [intOf]; omega
                · have hn := numB_no hkl (by rw [hm]; exact hok)
                  have e9 : 9 = x := by have := HX.out; rw [hn] at this; simpa using this
                  subst e9
                  clear hm hn
                  by_cases o1 : -1099511627776 ≤ m
                  · have o2 : ¬ m ≤ 1099511627776 := fun g => hok ⟨o1, g⟩
                    clear hok
                    go_wp2_with fail
                    go_ret
                    exact ⟨rfl, HB4.out⟩
                  · clear hok
                    go_wp2_with fail
                    go_ret
                    exact ⟨rfl, HB4.out⟩
              · have hn := numB_yes (l := e.nn) (fun j hj => HK.out j hj (by omega))
                rw [hn, if_pos rfl] at HX
                have zk : (e.nn.length : Int) ≤ (k : Int) := by omega
                clear hn HK
                have hmt := meth_od m
                go_wp2_with fail
                clear hmt
                (with_reducible refine (od_any m e.nn _ c sh HSH _).mono ?_)
                rintro r w5 ⟨rfl, hw5⟩
                subst hw5
                have HB5 := Lib.hid HB4.out
                cases sh with
                | true =>
                  have e0 : 0 = x := by have := HX.out; simpa using this
                  subst e0
                  go_wp2_with fail
                  go_ret
                  exact ⟨rfl, HB5.out⟩
                | false =>
                  have e0 : 19 = x := by have := HX.out; simpa using this
                  subst e0
                  go_wp2_with fail
                  go_ret
                  exact ⟨rfl, HB5.out⟩
          · rw [if_neg (fun g => hl2 g.2)] at HX
            have e4 := HX.out
            subst e4
            have z2 : (16384 : Int) < (e.tx.size : Int) := by omega
            clear hl hl2
            go_wp2_with fail
            go_ret
            exact ⟨rfl, HB4.out⟩
        · rw [if_neg (fun g => hl g.1)] at HX
          have e4 := HX.out
          subst e4
          have z1 : (600 : Int) < (e.nn.length : Int) := by omega
          clear hl
          go_wp2_with fail
          go_ret
          exact ⟨rfl, HB4.out⟩
  · rw [if_neg ht] at HX
    have e15 := HX.out
    subst e15
    by_cases t1 : 0 ≤ e.ti
    · have t2 : ¬ e.ti ≤ 10000000 := fun g => ht ⟨t1, g⟩
      clear ht
      go_wp2_with fail
      go_ret
      exact ⟨rfl, HB2.out⟩
    · clear ht
      go_wp2_with fail
      go_ret
      exact ⟨rfl, HB2.out⟩
set_option maxRecDepth 100000 in
set_option maxHeartbeats 8000000 in
theorem check_dr (e : Ev) (A : Option Addr) (c : Nat) (HO : Hid (EvOk e)) (n : ByteArray) (a b : Int)  (sh : Bool) (HSH : Hid (dryB e.nn = sh)) (HF : Hid (∀ w, Calls Tryd.prog 24 #[.int .i64 e.ki] w fun r w' => r = .returned (.tuple #[.agg #[.string n, .int .u8 a, .int .u8 b, .iface 78 (.agg #[])], .bool true]) ∧ Below w.heap.size w w')) (x : Int) (hx : Hid (chF e a b sh = x)) (w : World) (HS : Hid (SlR w A (i64c e.nn))) :
    Calls Tryd.prog 11 #[agE e A c] w fun r w' => r = .returned (.int .i64 x) ∧ Below w.heap.size w w' := by
  obtain ⟨i1, i2, i3, i4, i5, i6, i7⟩ := HO.out
  have HI7 := Lib.hid i7
  have h' := hx.out
  unfold chF at h'
  have HBX0 : Hid (EBox (w.alloc (.cells #[.int .i64 e.ki, .int .i64 e.ti, .string e.it, .string e.of_, .slice A e.nn.length c, .string e.tx] 24)) w.heap.size e A c) := Blk.new _ _ _
  have HAL := Lib.hid ((Below.refl w.heap.size w).alloc (Nat.le_refl _) (.cells #[.int .i64 e.ki, .int .i64 e.ti, .string e.it, .string e.of_, .slice A e.nn.length c, .string e.tx] 24))
  have HX := Lib.hid h'
  clear h' hx i7
  go_enter Tryd.func11, Tryd.ntmps11
  go_wp2_with fail
  generalize w.alloc (.cells #[.int .i64 e.ki, .int .i64 e.ti, .string e.it, .string e.of_, .slice A e.nn.length c, .string e.tx] 24) = w0 at *
  (with_reducible refine (HF.out _).mono ?_)
  rintro r w1 ⟨rfl, hb⟩
  have HB1 := Lib.hid (below_old HAL.out hb)
  have HBX1 : Hid (EBox w1 w.heap.size e A c) := Blk.below HBX0.out hb
  have hal := (Below.refl w1.heap.size w1).alloc (Nat.le_refl _) (.cells #[.string n, .int .u8 a, .int .u8 b, .iface 78 (.agg #[])] 45)
  have HB2 := Lib.hid (below_old HB1.out hal)
  have HBX2 : Hid (EBox (w1.alloc (.cells #[.string n, .int .u8 a, .int .u8 b, .iface 78 (.agg #[])] 45)) w.heap.size e A c) := Blk.below HBX1.out hal
  have HFB2 : Hid (FBox (w1.alloc (.cells #[.string n, .int .u8 a, .int .u8 b, .iface 78 (.agg #[])] 45)) w1.heap.size n a b 78 (.agg #[])) := Blk.new _ _ _
  clear hb hal HB1 HBX1 HBX0 HAL
  obtain ⟨x0, x1, x2, x3, x4, x5⟩ := HBX2.out.cells
  obtain ⟨f0, f1, f2, f3⟩ := HFB2.out.cells
  by_cases ht : 0 ≤ e.ti ∧ e.ti ≤ 10000000
  · obtain ⟨t1, t2⟩ := ht
    rw [if_pos ⟨t1, t2⟩] at HX
    obtain ⟨y1, hy1⟩ : ∃ y, namB e.it a = y := ⟨_, rfl⟩
    obtain ⟨y2, hy2⟩ : ∃ y, namB e.of_ b = y := ⟨_, rfl⟩
    rw [hy1, hy2] at HX
    have HY1 := Lib.hid hy1; have HY2 := Lib.hid hy2
    clear hy1 hy2
    go_wp2_with fail
    generalize w1.alloc (.cells #[.string n, .int .u8 a, .int .u8 b, .iface 78 (.agg #[])] 45) = w2 at *
    generalize w1.heap.size = gf at *
    clear x0 x1 x2 x3 x4 x5 f0 f1 f2 f3
    (with_reducible refine (isCode_any e.it (by omega) a y1 HY1 _).mono ?_)
    rintro r w3 ⟨rfl, hb⟩
    have HB3 := Lib.hid (below_old HB2.out hb)
    have HBX3 : Hid (EBox w3 w.heap.size e A c) := Blk.below HBX2.out hb
    have HFB3 : Hid (FBox w3 gf n a b 78 (.agg #[])) := Blk.below HFB2.out hb
    clear hb HB2 HBX2 HFB2
    obtain ⟨x0, x1, x2, x3, x4, x5⟩ := HBX3.out.cells
    obtain ⟨f0, f1, f2, f3⟩ := HFB3.out.cells
    cases y1 with
    | false =>
      have e6 : 6 = x := by have := HX.out; simpa using this
      subst e6
      go_wp2_with fail
      go_ret
      exact ⟨rfl, HB3.out⟩
    | true =>
      go_wp2_with fail
      (with_reducible refine (isCode_any e.of_ (by omega) b y2 HY2 _).mono ?_)
      rintro r w4 ⟨rfl, hb⟩
      have HB4 := Lib.hid (below_old HB3.out hb)
      have HBX4 : Hid (EBox w4 w.heap.size e A c) := Blk.below HBX3.out hb
      have HFB4 : Hid (FBox w4 gf n a b 78 (.agg #[])) := Blk.below HFB3.out hb
      clear hb HB3 HBX3 HFB3 x0 x1 x2 x3 x4 x5 f0 f1 f2 f3
      obtain ⟨x0, x1, x2, x3, x4, x5⟩ := HBX4.out.cells
      obtain ⟨f0, f1, f2, f3⟩ := HFB4.out.cells
      cases y2 with
      | false =>
        have e6 : 6 = x := by have := HX.out; simpa using this
        subst e6
        go_wp2_with fail
        go_ret
        exact ⟨rfl, HB4.out⟩
      | true =>
        rw [if_pos (show (true && true) = true from rfl)] at HX
        by_cases hl : e.nn.length ≤ 600
        · have z1 : ¬ (600 : Int) < (e.nn.length : Int) := by omega
          by_cases hl2 : e.tx.size ≤ 16384
          · have z2 : ¬ (16384 : Int) < (e.tx.size : Int) := by omega
            rw [if_pos ⟨hl, hl2⟩] at HX
            have HLL := Lib.hid hl
            clear hl hl2
            go_wp2_with fail
            go_loopw [50] (fun i wr => ∃ (k : Nat), i = .int .i64 k ∧ k ≤ e.nn.length ∧ Hid (∀ j (hj : j < e.nn.length), j < k → okN e.nn[j]) ∧ wr = w4) (fun i _ => e.nn.length - (intOf i).toNat)
            case atStart => exact ⟨0, rfl, by omega, fun j _ h => by omega, rfl⟩
            case round =>
              obtain ⟨k, rfl, hk, HK, hw⟩ := hrel
              subst wr
              by_cases hkl : k < e.nn.length
              · obtain ⟨m, hm⟩ : ∃ m, e.nn[k] = m := ⟨_, rfl⟩
                obtain ⟨bb, off, hA, hbl, c0⟩ := int_cells (HS.out.below HB4.out) hkl hm
                subst hA
                have zk : (k : Int) < (e.nn.length : Int) := by omega
                by_cases hok : okN m
                · have HK2 : Hid (∀ j (hj : j < e.nn.length), j < k + 1 → okN e.nn[j]) := fun j hj hlt => by
                    rcases Nat.lt_or_ge j k with q | q
                    · exact HK.out j hj q
                    · have : j = k := by omega
                      subst this
                      rw [hm]
                      exact hok
                  obtain ⟨o1, o2⟩ := hok
                  clear hm
                  go_wp2_with fail
                  go_roundw
                  case rel => exact ⟨k + 1, by go_num, by omega, HK2, trivial⟩
                  case measure => simp [intOf]; omega
                · have hn := numB_no hkl (by rw [hm]; exact hok)
                  have e9 : 9 = x := by have := HX.out; rw [hn] at this; simpa using this
                  subst e9
                  clear hm hn
                  by_cases o1 : -1099511627776 ≤ m
                  · have o2 : ¬ m ≤ 1099511627776 := fun g => hok ⟨o1, g⟩
                    clear hok
                    go_wp2_with fail
                    go_ret
                    exact ⟨rfl, HB4.out⟩
                  · clear hok
                    go_wp2_with fail
                    go_ret
                    exact ⟨rfl, HB4.out⟩
              · have hn := numB_yes (l := e.nn) (fun j hj => HK.out j hj (by omega))
                rw [hn, if_pos rfl] at HX
                have zk : (e.nn.length : Int) ≤ (k : Int) := by omega
                clear hn HK
                have hmt := meth_dr
                go_wp2_with fail
                clear hmt
                (with_reducible refine (dr_any e.nn _ c (by omega) sh HSH _ (Lib.hid (HS.out.below HB4.out))).mono ?_)
                rintro r w5 ⟨rfl, hw5⟩
                have HB5 := Lib.hid (below_old HB4.out hw5)
                clear hw5
                cases sh with
                | true =>
                  have e0 : 0 = x := by have := HX.out; simpa using this
                  subst e0
                  go_wp2_with fail
                  go_ret
                  exact ⟨rfl, HB5.out⟩
                | false =>
                  have e0 : 19 = x := by have := HX.out; simpa using this
                  subst e0
                  go_wp2_with fail
                  go_ret
                  exact ⟨rfl, HB5.out⟩
          · rw [if_neg (fun g => hl2 g.2)] at HX
            have e4 := HX.out
            subst e4
            have z2 : (16384 : Int) < (e.tx.size : Int) := by omega
            clear hl hl2
            go_wp2_with fail
            go_ret
            exact ⟨rfl, HB4.out⟩
        · rw [if_neg (fun g => hl g.1)] at HX
          have e4 := HX.out
          subst e4
          have z1 : (600 : Int) < (e.nn.length : Int) := by omega
          clear hl
          go_wp2_with fail
          go_ret
          exact ⟨rfl, HB4.out⟩
  · rw [if_neg ht] at HX
    have e15 := HX.out
    subst e15
    by_cases t1 : 0 ≤ e.ti
    · have t2 : ¬ e.ti ≤ 10000000 := fun g => ht ⟨t1, g⟩
      clear ht
      go_wp2_with fail
      go_ret
      exact ⟨rfl, HB2.out⟩
    · clear ht
      go_wp2_with fail
      go_ret
      exact ⟨rfl, HB2.out⟩
set_option maxRecDepth 100000 in
theorem check_no (e : Ev) (A : Option Addr) (c : Nat) (hk : ¬ (1 ≤ e.ki ∧ e.ki ≤ 14)) (w : World) :
    Calls Tryd.prog 11 #[agE e A c] w fun r w' => r = .returned (.int .i64 10) ∧ Below w.heap.size w w' := by
  have HF : Hid (∀ w, Calls Tryd.prog 24 #[.int .i64 e.ki] w fun r w' => r = .returned (.tuple #[.agg #[.string ⟨#[]⟩, .int .u8 0, .int .u8 0, .nilIface], .bool false]) ∧ Below w.heap.size w w') := fun w => by
    have := form_any e.ki w
    rw [fm_no hk, show hasB e.ki = false from decide_eq_false hk] at this
    exact this
  have HAL := Lib.hid ((Below.refl w.heap.size w).alloc (Nat.le_refl _) (.cells #[.int .i64 e.ki, .int .i64 e.ti, .string e.it, .string e.of_, .slice A e.nn.length c, .string e.tx] 24))
  clear hk
  go_enter Tryd.func11, Tryd.ntmps11
  go_wp2_with fail
  (with_reducible refine (HF.out _).mono ?_)
  rintro r w1 ⟨rfl, hb⟩
  have HB2 := Lib.hid (below_old (below_old HAL.out hb) ((Below.refl w1.heap.size w1).alloc (Nat.le_refl _) (.cells #[.string ⟨#[]⟩, .int .u8 0, .int .u8 0, .nilIface] 45)))
  clear hb
  go_wp2_with fail
  go_ret
  exact ⟨rfl, HB2.out⟩
end Go.Proofs.YtcefmnkfkpoccaaDoor

namespace Go.Proofs.YtcefmnkfkpoccaaDoor
open Go.RowKit
set_option linter.unusedVariables false
open Wi Evn
theorem shp_1 (l : List Int) : decide ((l.length : Int) = 3) = shpB 1 l := by
  rw [shpB, if_pos rfl]
  congr 1; apply propext; omega
theorem shp_2 (l : List Int) : decide ((l.length : Int) = 0) = shpB 2 l := by
  rw [shpB, if_neg (by decide), if_neg (by decide), if_neg (by decide), if_neg (by decide), if_neg (by decide), if_neg (by decide), if_neg (by decide), if_neg (by decide), if_neg (by decide)]
  congr 1; apply propext; omega
theorem shp_3 (l : List Int) : decide ((l.length : Int) = 0) = shpB 3 l := by
  rw [shpB, if_neg (by decide), if_neg (by decide), if_neg (by decide), if_neg (by decide), if_neg (by decide), if_neg (by decide), if_neg (by decide), if_neg (by decide), if_neg (by decide)]
  congr 1; apply propext; omega
theorem shp_4 (l : List Int) : decide ((2 : Int) ≤ (l.length : Int)) = shpB 4 l := by
  rw [shpB, if_neg (by decide), if_pos rfl]
  congr 1; apply propext; omega
theorem shp_5 (l : List Int) : decide ((0 : Int) ≤ (l.length : Int)) = shpB 5 l := by
  rw [shpB, if_neg (by decide), if_neg (by decide), if_pos rfl]
  exact decide_eq_true (by omega)
theorem shp_6 (l : List Int) : dryB l = shpB 6 l := by
  rw [shpB, if_neg (by decide), if_neg (by decide), if_neg (by decide), if_pos rfl]
theorem shp_7 (l : List Int) : decide ((l.length : Int) = 1) = shpB 7 l := by
  rw [shpB, if_neg (by decide), if_neg (by decide), if_neg (by decide), if_neg (by decide), if_pos rfl]
  congr 1; apply propext; omega
theorem shp_8 (l : List Int) : decide ((l.length : Int) = 0) = shpB 8 l := by
  rw [shpB, if_neg (by decide), if_neg (by decide), if_neg (by decide), if_neg (by decide), if_neg (by decide), if_neg (by decide), if_neg (by decide), if_neg (by decide), if_neg (by decide)]
  congr 1; apply propext; omega
theorem shp_9 (l : List Int) : (decide (l.length % 2 = 1) == false) = shpB 9 l := by
  rw [shpB, if_neg (by decide), if_neg (by decide), if_neg (by decide), if_neg (by decide), if_neg (by decide), if_pos rfl]
  have h : l.length % 2 = 0 ∨ l.length % 2 = 1 := by omega
  rcases h with h | h <;> simp [h]
theorem shp_10 (l : List Int) : decide ((l.length : Int) = 0) = shpB 10 l := by
  rw [shpB, if_neg (by decide), if_neg (by decide), if_neg (by decide), if_neg (by decide), if_neg (by decide), if_neg (by decide), if_neg (by decide), if_neg (by decide), if_neg (by decide)]
  congr 1; apply propext; omega
theorem shp_11 (l : List Int) : decide ((l.length : Int) = 2) = shpB 11 l := by
  rw [shpB, if_neg (by decide), if_neg (by decide), if_neg (by decide), if_neg (by decide), if_neg (by decide), if_neg (by decide), if_pos rfl]
  congr 1; apply propext; omega
theorem shp_12 (l : List Int) : decide ((l.length : Int) = 0) = shpB 12 l := by
  rw [shpB, if_neg (by decide), if_neg (by decide), if_neg (by decide), if_neg (by decide), if_neg (by decide), if_neg (by decide), if_neg (by decide), if_neg (by decide), if_neg (by decide)]
  congr 1; apply propext; omega
theorem shp_13 (l : List Int) : (decide (l.length % 2 = 1) == true) = shpB 13 l := by
  rw [shpB, if_neg (by decide), if_neg (by decide), if_neg (by decide), if_neg (by decide), if_neg (by decide), if_neg (by decide), if_neg (by decide), if_pos rfl]
  have h : l.length % 2 = 0 ∨ l.length % 2 = 1 := by omega
  rcases h with h | h <;> simp [h]
theorem shp_14 (l : List Int) : decide ((1 : Int) ≤ (l.length : Int)) = shpB 14 l := by
  rw [shpB, if_neg (by decide), if_neg (by decide), if_neg (by decide), if_neg (by decide), if_neg (by decide), if_neg (by decide), if_neg (by decide), if_neg (by decide), if_pos rfl]
  congr 1; apply propext; omega
theorem check_any (e : Ev) (A : Option Addr) (c : Nat) (HO : Hid (EvOk e)) (x : Int) (hx : Hid (chk e = x)) (w : World) (HS : Hid (SlR w A (i64c e.nn))) :
    Calls Tryd.prog 11 #[agE e A c] w fun r w' => r = .returned (.int .i64 x) ∧ Below w.heap.size w w' := by
  by_cases hk : 1 ≤ e.ki ∧ e.ki ≤ 14
  · have h' := hx.out
    rw [chk_F hk] at h'
    have hh : hasB e.ki = true := decide_eq_true hk
    have h : e.ki = 1 ∨ e.ki = 2 ∨ e.ki = 3 ∨ e.ki = 4 ∨ e.ki = 5 ∨ e.ki = 6 ∨ e.ki = 7 ∨ e.ki = 8 ∨ e.ki = 9 ∨ e.ki = 10 ∨ e.ki = 11 ∨ e.ki = 12 ∨ e.ki = 13 ∨ e.ki = 14 := by omega
    rcases h with h | h | h | h | h | h | h | h | h | h | h | h | h | h
    · rw [h] at h'
      refine check_ex e A c HO ⟨#[112, 101, 114, 109, 105, 116]⟩ 80 0 3 (shpB 1 e.nn) (Lib.hid (shp_1 e.nn)) (Lib.hid fun W => ?_) x (Lib.hid h') w HS
      have := form_any e.ki W
      rw [hh, show fmV e.ki = .agg #[.string ⟨#[112, 101, 114, 109, 105, 116]⟩, .int .u8 80, .int .u8 0, .iface 75 (.int .i64 3)] from by rw [h]; exact fm_1] at this
      exact this
    · rw [h] at h'
      refine check_ex e A c HO ⟨#[102, 101, 108, 108]⟩ 76 80 0 (shpB 2 e.nn) (Lib.hid (shp_2 e.nn)) (Lib.hid fun W => ?_) x (Lib.hid h') w HS
      have := form_any e.ki W
      rw [hh, show fmV e.ki = .agg #[.string ⟨#[102, 101, 108, 108]⟩, .int .u8 76, .int .u8 80, .iface 75 (.int .i64 0)] from by rw [h]; exact fm_2] at this
      exact this
    · rw [h] at h'
      refine check_ex e A c HO ⟨#[115, 99, 97, 110]⟩ 76 0 0 (shpB 3 e.nn) (Lib.hid (shp_3 e.nn)) (Lib.hid fun W => ?_) x (Lib.hid h') w HS
      have := form_any e.ki W
      rw [hh, show fmV e.ki = .agg #[.string ⟨#[115, 99, 97, 110]⟩, .int .u8 76, .int .u8 0, .iface 75 (.int .i64 0)] from by rw [h]; exact fm_3] at this
      exact this
    · rw [h] at h'
      refine check_al e A c HO ⟨#[115, 97, 119]⟩ 76 0 2 (shpB 4 e.nn) (Lib.hid (shp_4 e.nn)) (Lib.hid fun W => ?_) x (Lib.hid h') w HS
      have := form_any e.ki W
      rw [hh, show fmV e.ki = .agg #[.string ⟨#[115, 97, 119]⟩, .int .u8 76, .int .u8 0, .iface 76 (.int .i64 2)] from by rw [h]; exact fm_4] at this
      exact this
    · rw [h] at h'
      refine check_al e A c HO ⟨#[112, 97, 99, 107]⟩ 75 0 0 (shpB 5 e.nn) (Lib.hid (shp_5 e.nn)) (Lib.hid fun W => ?_) x (Lib.hid h') w HS
      have := form_any e.ki W
      rw [hh, show fmV e.ki = .agg #[.string ⟨#[112, 97, 99, 107]⟩, .int .u8 75, .int .u8 0, .iface 76 (.int .i64 0)] from by rw [h]; exact fm_5] at this
      exact this
    · rw [h] at h'
      refine check_dr e A c HO ⟨#[100, 114, 121]⟩ 67 0 (shpB 6 e.nn) (Lib.hid (shp_6 e.nn)) (Lib.hid fun W => ?_) x (Lib.hid h') w HS
      have := form_any e.ki W
      rw [hh, show fmV e.ki = .agg #[.string ⟨#[100, 114, 121]⟩, .int .u8 67, .int .u8 0, .iface 78 (.agg #[])] from by rw [h]; exact fm_6] at this
      exact this
    · rw [h] at h'
      refine check_ex e A c HO ⟨#[103, 114, 97, 100, 101]⟩ 66 0 1 (shpB 7 e.nn) (Lib.hid (shp_7 e.nn)) (Lib.hid fun W => ?_) x (Lib.hid h') w HS
      have := form_any e.ki W
      rw [hh, show fmV e.ki = .agg #[.string ⟨#[103, 114, 97, 100, 101]⟩, .int .u8 66, .int .u8 0, .iface 75 (.int .i64 1)] from by rw [h]; exact fm_7] at this
      exact this
    · rw [h] at h'
      refine check_ex e A c HO ⟨#[111, 114, 100, 101, 114]⟩ 79 0 0 (shpB 8 e.nn) (Lib.hid (shp_8 e.nn)) (Lib.hid fun W => ?_) x (Lib.hid h') w HS
      have := form_any e.ki W
      rw [hh, show fmV e.ki = .agg #[.string ⟨#[111, 114, 100, 101, 114]⟩, .int .u8 79, .int .u8 0, .iface 75 (.int .i64 0)] from by rw [h]; exact fm_8] at this
      exact this
    · rw [h] at h'
      refine check_od e A c HO ⟨#[97, 115, 115, 105, 103, 110]⟩ 0 0 false (shpB 9 e.nn) (Lib.hid (shp_9 e.nn)) (Lib.hid fun W => ?_) x (Lib.hid h') w HS
      have := form_any e.ki W
      rw [hh, show fmV e.ki = .agg #[.string ⟨#[97, 115, 115, 105, 103, 110]⟩, .int .u8 0, .int .u8 0, .iface 79 (.bool false)] from by rw [h]; exact fm_9] at this
      exact this
    · rw [h] at h'
      refine check_ex e A c HO ⟨#[115, 104, 105, 112]⟩ 79 0 0 (shpB 10 e.nn) (Lib.hid (shp_10 e.nn)) (Lib.hid fun W => ?_) x (Lib.hid h') w HS
      have := form_any e.ki W
      rw [hh, show fmV e.ki = .agg #[.string ⟨#[115, 104, 105, 112]⟩, .int .u8 79, .int .u8 0, .iface 75 (.int .i64 0)] from by rw [h]; exact fm_10] at this
      exact this
    · rw [h] at h'
      refine check_ex e A c HO ⟨#[115, 101, 108, 108]⟩ 0 0 2 (shpB 11 e.nn) (Lib.hid (shp_11 e.nn)) (Lib.hid fun W => ?_) x (Lib.hid h') w HS
      have := form_any e.ki W
      rw [hh, show fmV e.ki = .agg #[.string ⟨#[115, 101, 108, 108]⟩, .int .u8 0, .int .u8 0, .iface 75 (.int .i64 2)] from by rw [h]; exact fm_11] at this
      exact this
    · rw [h] at h'
      refine check_ex e A c HO ⟨#[102, 97, 105, 108]⟩ 0 0 0 (shpB 12 e.nn) (Lib.hid (shp_12 e.nn)) (Lib.hid fun W => ?_) x (Lib.hid h') w HS
      have := form_any e.ki W
      rw [hh, show fmV e.ki = .agg #[.string ⟨#[102, 97, 105, 108]⟩, .int .u8 0, .int .u8 0, .iface 75 (.int .i64 0)] from by rw [h]; exact fm_12] at this
      exact this
    · rw [h] at h'
      refine check_od e A c HO ⟨#[116, 114, 105, 109]⟩ 66 0 true (shpB 13 e.nn) (Lib.hid (shp_13 e.nn)) (Lib.hid fun W => ?_) x (Lib.hid h') w HS
      have := form_any e.ki W
      rw [hh, show fmV e.ki = .agg #[.string ⟨#[116, 114, 105, 109]⟩, .int .u8 66, .int .u8 0, .iface 79 (.bool true)] from by rw [h]; exact fm_13] at this
      exact this
    · rw [h] at h'
      refine check_al e A c HO ⟨#[114, 101, 115, 97, 119]⟩ 66 0 1 (shpB 14 e.nn) (Lib.hid (shp_14 e.nn)) (Lib.hid fun W => ?_) x (Lib.hid h') w HS
      have := form_any e.ki W
      rw [hh, show fmV e.ki = .agg #[.string ⟨#[114, 101, 115, 97, 119]⟩, .int .u8 66, .int .u8 0, .iface 76 (.int .i64 1)] from by rw [h]; exact fm_14] at this
      exact this
  · have h' := hx.out
    rw [chk, if_neg hk] at h'
    rw [← h']
    exact check_no e A c hk w
end Go.Proofs.YtcefmnkfkpoccaaDoor
