/- The reference's Add; clock.New. -/
import Derived.Test.YtieafjbngealoaaDoorY6
import Derived.RegionTactic
import Derived.ChangeAlike
import Derived.Laws.Rows
import Derived.Deep.Draws
namespace Go.Proofs.YtieafjbngealoaaDoor
open Go.RowKit
set_option linter.unusedVariables false

theorem rwork_eq (A : Option Addr) (c : Nat) (S : Ck.Sh) (x y v : Int) (hv : Hid (wrV S x y = v)) (w : World) (HA : Hid (SlA w A S)) (HOK : Hid (Ck.Ok 0 S)) (hl : (S.length : Int) ≤ 1000) :
    Calls Tryd.prog 23 #[.slice A S.length c, .int .i64 x, .int .i64 y] w fun e w' => e = .returned (.int .i64 v) ∧ Below w.heap.size w w' := by
  have := rwork_any A c S x y w HA HOK hl
  rw [hv.out] at this
  exact this
theorem wr_val {S : Ck.Sh} {x y : Int} (hx : 0 ≤ x ∧ x ≤ 10000000) (hy : 0 ≤ y ∧ y ≤ 10000000) (h : x ≤ y) : wrV S x y = Ck.pas S y - Ck.pas S x := by
  unfold wrV tmB
  rw [if_pos ⟨decide_eq_true hx, decide_eq_true hy, h⟩]
/-- The time that Add looks for. -/
def adT (S : Ck.Sh) (t m : Int) : Int := if m = 0 then t else Ck.rch S (Ck.pas S t + m)
theorem adT_least {S : Ck.Sh} (hne : S ≠ []) (hok : Ck.Ok 0 S) {t m u : Int} (t0 : 0 ≤ t) (t1 : t ≤ 10000000) (hm : 0 ≤ m) (htu : t ≤ u) : m ≤ Ck.pas S u - Ck.pas S t ↔ adT S t m ≤ u := by
  unfold adT
  by_cases h0 : m = 0
  · rw [if_pos h0]
    have := Ck.pas_mono hok htu
    constructor <;> intro _ <;> omega
  · rw [if_neg h0]
    have hp := Ck.pas_range hok t0 t1
    have := Ck.rch_least hne hok (M := Ck.pas S t + m) (t := u) (by omega)
    constructor
    · intro g; exact this.1 (by omega)
    · intro g; have := this.2 g; omega
theorem adT_ge {S : Ck.Sh} (hne : S ≠ []) (hok : Ck.Ok 0 S) {t m : Int} (t0 : 0 ≤ t) (t1 : t ≤ 10000000) (hm : 0 ≤ m) : t ≤ adT S t m := by
  unfold adT
  by_cases h0 : m = 0
  · rw [if_pos h0]; omega
  · rw [if_neg h0]
    have hp := Ck.pas_range hok t0 t1
    have := (Ck.rch_least hne hok (M := Ck.pas S t + m) (t := t) (by omega)).2
    rcases Int.lt_or_le t (Ck.rch S (Ck.pas S t + m)) with g | g
    · omega
    · have := this g; omega
theorem ad_of {S : Ck.Sh} {t m : Int} (h : 0 ≤ t ∧ t ≤ 10000000) (hm : ¬ (m < 0 ∨ 10000000 < m)) : (adT S t m ≤ 10000000 → adV S t m = adT S t m ∧ adE S t m = 0) ∧ (¬ adT S t m ≤ 10000000 → adV S t m = 0 ∧ adE S t m = 15) := by
  unfold adT
  by_cases h0 : m = 0
  · subst h0
    simp only [if_true]
    exact ⟨fun _ => ad_zero h, fun g => absurd h.2 g⟩
  · rw [if_neg h0]
    exact ⟨fun g => ad_ok h hm h0 g, fun g => ad_late h hm h0 g⟩

set_option maxHeartbeats 4000000 in
theorem radd_any (A : Option Addr) (c : Nat) (S : Ck.Sh) (t m : Int) (w : World) (HA : Hid (SlA w A S)) (HOK : Hid (Ck.Ok 0 S)) (hl : (S.length : Int) ≤ 1000) (hne : S ≠ []) :
    Calls Tryd.prog 25 #[.slice A S.length c, .int .i64 t, .int .i64 m] w fun e w' => e = .returned (.tuple #[.int .i64 (adV S t m), .int .i64 (adE S t m)]) ∧ Below w.heap.size w w' := by
  by_cases ht : 0 ≤ t ∧ t ≤ 10000000
  · by_cases hm : m < 0 ∨ 10000000 < m
    · have hE := Lib.hid (ad_range (S := S) ht hm)
      by_cases hm1 : m < 0
      · clear hm
        go_enter Tryd.func25, Tryd.ntmps25
        go_wp2_with fail
        (with_reducible refine (rtm_yes _ ht _).mono ?_)
        rintro e w1 ⟨rfl, rfl⟩
        go_wp2_with fail
        go_ret2
        exact ⟨ret_ii hE.out.1.symm hE.out.2.symm, Below.refl _ _⟩
      · have hm2 : 10000000 < m := by omega
        clear hm
        go_enter Tryd.func25, Tryd.ntmps25
        go_wp2_with fail
        (with_reducible refine (rtm_yes _ ht _).mono ?_)
        rintro e w1 ⟨rfl, rfl⟩
        go_wp2_with fail
        go_ret2
        exact ⟨ret_ii hE.out.1.symm hE.out.2.symm, Below.refl _ _⟩
    · have hA := ad_of (S := S) ht hm
      have hle := fun u (htu : t ≤ u) => adT_least hne HOK.out (m := m) ht.1 ht.2 (by omega) htu (u := u)
      have hge := adT_ge hne HOK.out (m := m) ht.1 ht.2 (by omega)
      have hwv := wr_val (S := S) ht (y := 10000000) (by omega) ht.2
      have hm1 : 0 ≤ m := by omega
      have hm2 : m ≤ 10000000 := by omega
      generalize adT S t m = T at *
      have HLE := Lib.hid hle
      clear hle hm
      have t0 := ht.1
      have t1 := ht.2
      obtain ⟨v, hv⟩ : ∃ v, wrV S t 10000000 = v := ⟨_, rfl⟩
      have hv2 := HLE.out 10000000 ht.2
      rw [← hwv, hv] at hv2
      have HV := Lib.hid hv
      clear hv hwv
      by_cases hr : v < m
      · have hE := Lib.hid (hA.2 (by omega))
        clear hA hv2
        go_enter Tryd.func25, Tryd.ntmps25
        go_wp2_with fail
        (with_reducible refine (rtm_yes _ ht _).mono ?_)
        rintro e w1 ⟨rfl, rfl⟩
        go_wp2_with fail
        (with_reducible refine (rwork_eq _ _ _ _ _ _ HV _ HA HOK hl).mono ?_)
        rintro e w1 ⟨rfl, hb⟩
        have HB1 := Lib.hid hb
        clear hb
        go_wp2_with fail
        go_ret2
        exact ⟨ret_ii hE.out.1.symm hE.out.2.symm, HB1.out⟩
      · have hT : T ≤ 10000000 := by omega
        have hE := Lib.hid (hA.1 hT)
        clear hA hv2
        go_enter Tryd.func25, Tryd.ntmps25
        go_wp2_with fail
        (with_reducible refine (rtm_yes _ ht _).mono ?_)
        rintro e w1 ⟨rfl, rfl⟩
        go_wp2_with fail
        (with_reducible refine (rwork_eq _ _ _ _ _ _ HV _ HA HOK hl).mono ?_)
        rintro e w1 ⟨rfl, hb⟩
        have HB1 := Lib.hid hb
        clear hb
        go_wp2_with fail
        go_loopw [8, 9, 10] (fun a b _ wr => ∃ lo hi : Int, a = .int .i64 lo ∧ b = .int .i64 hi ∧ t ≤ lo ∧ lo ≤ T ∧ T ≤ hi ∧ hi ≤ 10000000 ∧ Below w.heap.size w wr) (fun a b _ _ => (intOf b - intOf a).toNat)
        case atStart => exact ⟨t, 10000000, rfl, rfl, by omega, hge, hT, by omega, HB1.out⟩
        case round =>
          obtain ⟨lo, hi, rfl, rfl, h1, h2, h3, h4, hB⟩ := hrel
          by_cases hlt : lo < hi
          · have hmid := HLE.out ((lo + hi) / 2) (by omega)
            have hwv := wr_val (S := S) ht (y := (lo + hi) / 2) (by omega) (by omega)
            obtain ⟨q, hq⟩ : ∃ q, (lo + hi) / 2 = q := ⟨_, rfl⟩
            rw [hq] at hmid hwv
            have hq1 : lo ≤ q ∧ q < hi := by omega
            obtain ⟨u, hu⟩ : ∃ u, wrV S t q = u := ⟨_, rfl⟩
            rw [← hwv, hu] at hmid
            have HU := Lib.hid hu
            have HA2 := Lib.hid (HA.out.below hB)
            clear hu hwv
            by_cases g : m ≤ u
            · have hq2 : T ≤ q := hmid.1 g
              clear hmid
              go_wp2_with fail
              (with_reducible refine (rwork_eq _ _ _ _ _ _ HU _ HA2 HOK hl).mono ?_)
              rintro e w3 ⟨rfl, hb⟩
              have hB3 := below_old hB hb
              clear hb
              go_wp2_with fail
              go_roundw
              case rel => exact ⟨lo, q, rfl, rfl, h1, h2, hq2, by omega, hB3⟩
              case measure => simp [intOf]; omega
            · have hq2 : ¬ T ≤ q := fun h => g (hmid.2 h)
              clear hmid
              go_wp2_with fail
              (with_reducible refine (rwork_eq _ _ _ _ _ _ HU _ HA2 HOK hl).mono ?_)
              rintro e w3 ⟨rfl, hb⟩
              have hB3 := below_old hB hb
              clear hb
              go_wp2_with fail
              go_roundw
              case rel => exact ⟨q + 1, hi, rfl, rfl, by omega, by omega, h3, h4, hB3⟩
              case measure => simp [intOf]; omega
          · have hlT : lo = T := by omega
            have hE2 := hE.out
            rw [← hlT] at hE2
            have hE := Lib.hid hE2
            clear hE2 hlT
            go_wp2_with fail
            go_ret2
            exact ⟨ret_ii hE.out.1.symm hE.out.2.symm, hB⟩
  · have hE := Lib.hid (ad_time (S := S) (m := m) ht)
    go_enter Tryd.func25, Tryd.ntmps25
    go_wp2_with fail
    (with_reducible refine (rtm_no _ ht _).mono ?_)
    rintro e w1 ⟨rfl, rfl⟩
    go_wp2_with fail
    go_ret2
    exact ⟨ret_ii hE.out.1.symm hE.out.2.symm, Below.refl _ _⟩

/-- A block that is known whole. -/
def Blk (w : World) (g : Nat) (t : TypeId) (cs : Array Value) : Prop := w.heap[g]? = some (.cells cs t (0, 0))
section
variable {w w' : World} {g : Nat} {t : TypeId} {cs : Array Value}
theorem Blk.lt (h : Blk w g t cs) : g < w.heap.size := by
  rcases Nat.lt_or_ge g w.heap.size with hlt | hge
  · exact hlt
  · unfold Blk at h; rw [Array.getElem?_eq_none hge] at h; cases h
theorem Blk.cell (h : Blk w g t cs) (i : Nat) : w.cell? ⟨g, i, none⟩ = cs[i]? := cell_of_row w g i cs t (0, 0) h
theorem Blk.frozen (h : Blk w g t cs) (i : Nat) : w.frozen? ⟨g, i, none⟩ = false := by
  unfold Blk at h
  simp [World.frozen?, h]
theorem Blk.new (w : World) (t : TypeId) (cs : Array Value) : Blk (w.alloc (.cells cs t)) w.heap.size t cs := heap_alloc_new w _
theorem Blk.drewN (h : Blk w g t cs) (n : Nat) : Blk (w.drewN n) g t cs := h
theorem Blk.alloc (h : Blk w g t cs) (o : Obj) : Blk (w.alloc o) g t cs := (Below.heap_alloc w o g h.lt).trans h
theorem Blk.set_ (h : Blk w g t cs) (i : Nat) (u : Value) : Blk (w.setCell ⟨g, i, none⟩ u) g t (cs.setIfInBounds i u) := by
  unfold Blk at h ⊢
  simp [World.setCell, Array.getElem?_modify, h]
end
/-- The calendar while it is filled: the first k shifts. -/
structure Fil (w : World) (b : Nat) (S : Ck.Sh) (k : Nat) (cs : Array Value) : Prop where
  blk : Blk w b 52 cs
  sz : cs.size = 43
  cnt : cs[42]? = some (.int .i64 (S.length : Int))
  sh : ∀ i (hi : i < S.length), i < k → cs[i * 2]? = some (.int .i64 S[i].1) ∧ cs[i * 2 + 1]? = some (.int .i64 S[i].2)
theorem Fil.cal {w : World} {b : Nat} {S : Ck.Sh} {cs : Array Value} (h : Fil w b S S.length cs) (hl : S.length ≤ 21) : Cal w b S :=
  ⟨h.blk.lt, hl, (h.blk.cell 42).trans h.cnt, fun i hi => by rw [Nat.zero_add, Nat.zero_add]; exact ⟨(h.blk.cell _).trans (h.sh i hi hi).1, (h.blk.cell _).trans (h.sh i hi hi).2⟩⟩
theorem Fil.next {w : World} {b : Nat} {S : Ck.Sh} {k : Nat} {cs : Array Value} (h : Fil w b S k cs) (hk : k < S.length) (hl : S.length ≤ 21) (o : Obj) (n : Nat) :
    ∃ cs', Fil ((((w.setCell ⟨b, k * 2, none⟩ (.int .i64 S[k].1)).setCell ⟨b, k * 2 + 1, none⟩ (.int .i64 S[k].2)).alloc o).drewN n) b S (k + 1) cs' := by
  refine ⟨_, (((h.blk.set_ _ _).set_ _ _).alloc o).drewN n, by simp [h.sz], ?_, fun i hi hik => ?_⟩
  · rw [Array.getElem?_setIfInBounds_ne (by omega), Array.getElem?_setIfInBounds_ne (by omega)]
    exact h.cnt
  · have hsz := h.sz
    rcases Nat.lt_or_ge i k with g | g
    · obtain ⟨a, b⟩ := h.sh i hi g
      rw [Array.getElem?_setIfInBounds_ne (by omega), Array.getElem?_setIfInBounds_ne (by omega), Array.getElem?_setIfInBounds_ne (by omega), Array.getElem?_setIfInBounds_ne (by omega)]
      exact ⟨a, b⟩
    · obtain rfl : i = k := by omega
      refine ⟨?_, ?_⟩
      · rw [Array.getElem?_setIfInBounds_ne (by omega), Array.getElem?_setIfInBounds_self_of_lt (by omega)]
      · rw [Array.getElem?_setIfInBounds_self_of_lt (by simp; omega)]
end Go.Proofs.YtieafjbngealoaaDoor
