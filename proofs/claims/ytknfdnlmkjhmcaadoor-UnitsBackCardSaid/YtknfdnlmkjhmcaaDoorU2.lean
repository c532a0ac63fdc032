/- math/bits.Div64: the quotient and the remainder of a number of 128 bits by one of 64 bits, where the quotient fits. -/
import Derived.Test.YtknfdnlmkjhmcaaDoorU1
import Derived.Test.YtknfdnlmkjhmcaaDoorM0
import Derived.Test.YtknfdnlmkjhmcaaDoorShelf
import Derived.Outline
namespace Go.Proofs.YtknfdnlmkjhmcaaDoor
open Go.RowKit
set_option linter.unusedVariables false

theorem ret_two {k l : IntKind} {a b c d : Int} (h : a = b) (h' : c = d) : Ending.returned (.tuple #[.int k a, .int l c]) = .returned (.tuple #[.int k b, .int l d]) := by rw [h, h']

set_option maxHeartbeats 1000000 in
theorem div64_zero (lo y : Nat) (hl : lo < 18446744073709551616) (hy : y < 18446744073709551616) (hy0 : 0 < y) (w : World) :
    Calls Tryd.prog 35 #[.int .u64 0, .int .u64 lo, .int .u64 y] w fun e w' => e = .returned (.tuple #[.int .u64 ((lo / y : Nat) : Int), .int .u64 ((lo % y : Nat) : Int)]) ∧ ∃ n, w' = w.drewN n := by
  have h1 : ((y : Int) == 0) = false := by simp; omega
  have h2 : ¬ (y : Int) ≤ 0 := by omega
  obtain ⟨q, hq⟩ : ∃ q : Nat, q = lo / y := ⟨_, rfl⟩
  have hq1 : q ≤ lo := by rw [hq]; exact Nat.div_le_self _ _
  have e1 : (lo : Int) / (y : Int) = (q : Int) := by rw [hq]; simp
  have HQ := Lib.hid hq
  clear hq
  go_enter Tryd.func35, Tryd.ntmps35
  go_wp2
  go_quiet (fail)
  go_wp2
  go_ret2
  exact ⟨ret_two (by rw [HQ.out]) (by simp), _, rfl⟩

/-- One half-step: all that its loop needs. v1, v0: the halves of the divisor; d: the next 32 bits; Q: the true digit. -/
structure Half (u d v1 v0 v Q R g r : Nat) : Prop where
  start : g * v1 + r = u
  gle : g ≤ 4294967297
  rlt : r < v1
  Qle : Q ≤ g
  Qlt : Q < 4294967296
  rest : IntKind.u64.wrap (IntKind.u64.wrap (IntKind.u64.wrap ((u : Int) * 4294967296) + (d : Int)) - IntKind.u64.wrap ((Q : Int) * (v : Int))) = (R : Int)
  quo : (u : Int) / (v1 : Int) = (g : Int)
  mul : (g : Int) * (v1 : Int) = ((u - r : Nat) : Int)
  step : ∀ a b, a * v1 + b = u → Q ≤ a → (4294967296 ≤ a ∨ 4294967296 * b + d < a * v0) → 1 ≤ a ∧ Q ≤ a - 1 ∧ (a - 1) * v1 + (b + v1) = u
  done : ∀ a b, a * v1 + b = u → Q ≤ a → a * v0 ≤ 4294967296 * b + d → a = Q
  brk : ∀ a b, a * v1 + b = u → Q ≤ a → a ≤ 4294967296 → 4294967296 ≤ b → a = Q

theorem half_of (u d v : Nat) (hd : d < 4294967296) (hu : u < v) (hv1 : 9223372036854775808 ≤ v) (hv2 : v < 18446744073709551616) :
    Half u d (v / 4294967296) (v % 4294967296) v ((u * 4294967296 + d) / v) ((u * 4294967296 + d) % v) (u / (v / 4294967296)) (u % (v / 4294967296)) := by
  have h1 : 0 < v / 4294967296 := by omega
  have gk : u / (v / 4294967296) * (v / 4294967296) + u % (v / 4294967296) = u := by rw [Nat.mul_comm]; exact Nat.div_add_mod _ _
  refine ⟨gk, Kn.guess_le u v hv1 hv2 hu, Nat.mod_lt _ h1, Kn.true_le u d v hv1 hd, Kn.true_lt u d v hd hu, Kn.rest u d v hv2 (by omega), by simp, ?_,
    fun a b => Kn.step u d v a b hd hu, fun a b => Kn.isDone u d v a b (by omega), fun a b => Kn.isDone' u d v a b (by omega)⟩
  rw [← Int.natCast_mul]
  congr 1
  exact Nat.eq_sub_of_add_eq gk

set_option maxRecDepth 100000 in
set_option maxHeartbeats 2000000 in
theorem div64_core (hi lo y s v h l u L Q R Q0 R0 v1 v0 d1 d0 g r g' r' : Nat) (hl : lo < 18446744073709551616) (hy : y < 18446744073709551616) (h0 : 0 < hi) (hh : hi < y) (hs63 : s ≤ 63)
    (HZ : Hid ((64 : Int) - (Lib.bitLen (y : Int).toNat : Int) = (s : Int)))
    (e1 : IntKind.u64.wrap ((y : Int) * 2 ^ s) = (v : Int)) (e4 : IntKind.u64.wrap ((hi : Int) * 2 ^ s) = (h : Int)) (e7 : IntKind.u64.wrap ((lo : Int) * 2 ^ s) = (L : Int))
    (e5 : (lo : Int) / 2 ^ (64 - s) = (l : Int)) (e6 : bits .or .u64 (h : Int) (l : Int) = (u : Int)) (hu : u < v) (hv2 : v < 18446744073709551616)
    (e3 : bits .and .u64 (v : Int) 4294967295 = (v0 : Int)) (e9 : bits .and .u64 (L : Int) 4294967295 = (d0 : Int)) (e2 : (v : Int) / 4294967296 = (v1 : Int)) (e8 : (L : Int) / 4294967296 = (d1 : Int))
    (hv1 : 2147483648 ≤ v1) (hv1' : v1 < 4294967296) (hv0 : v0 < 4294967296) (hd1 : d1 < 4294967296) (hd0 : d0 < 4294967296) (hR : R < v) (hR0 : R0 < v)
    (A : Half u d1 v1 v0 v Q R g r) (B : Half R d0 v1 v0 v Q0 R0 g' r') (w : World) :
    Calls Tryd.prog 35 #[.int .u64 hi, .int .u64 lo, .int .u64 y] w fun e w' => e = .returned (.tuple #[.int .u64 ((Q * 4294967296 + Q0 : Nat) : Int), .int .u64 ((R0 / 2 ^ s : Nat) : Int)]) ∧ w = w' := by
  have h1 : ((y : Int) == 0) = false := by simp; omega
  have h2 : ¬ (y : Int) ≤ (hi : Int) := by omega
  have h3 : ((hi : Int) == 0) = false := by simp; omega
  have f10 := A.quo; have f11 := A.mul; have a1 := A.gle; have a2 := A.rlt; have a3 := A.Qle; have a4 := A.Qlt; have a5 := A.rest
  have f20 := B.quo; have f21 := B.mul; have b1 := B.gle; have b2 := B.rlt; have b3 := B.Qle; have b4 := B.Qlt; have b5 := B.rest
  have a0 : r ≤ u := by have := A.start; omega
  have b0 : r' ≤ R := by have := B.start; omega
  go_enter Tryd.func35, Tryd.ntmps35
  go_wp2_with (go_at_call 45; refine (Tryd.bits_LeadingZeros64 _ _ (by omega) (by omega)).mono ?_; rintro e w' ⟨rfl, rfl⟩; rw [HZ.out])
  go_loop [15, 16] (fun q t => ∃ a b : Nat, q = .int .u64 a ∧ t = .int .u64 b ∧ Hid (a * v1 + b = u) ∧ Q ≤ a ∧ (a : Int) ≤ 4294967297 ∧ (b : Int) < 4294967296) (fun q _ => (intOf q).toNat)
  case atStart => exact ⟨g, r, rfl, by congr 1; omega, A.start, A.Qle, by omega, by omega⟩
  case round =>
    obtain ⟨a, b, rfl, rfl, he, ha, ha2, hb⟩ := hrel
    by_cases c1 : (4294967296 : Int) ≤ (a : Int)
    · have c1' : Hid (4294967296 ≤ a) := by show _ ≤ _; omega
      obtain ⟨s1, s2, s3⟩ := A.step a b he ha (.inl c1'.out)
      have S3 := Lib.hid s3
      clear s3 c1'
      by_cases c2 : (4294967296 : Int) ≤ (b : Int) + (v1 : Int)
      · have hz := A.brk (a - 1) (b + v1) S3.out s2 (by omega) (by omega)
        have hz' : ((a : Int) - 1) = (Q : Int) := by omega
        have a6 := a5
        rw [← hz'] at a6
        have HA := Lib.hid hz'
        clear hz hz' s2
        go_wp2
        go_loop [18, 16] (fun q t => ∃ a b : Nat, q = .int .u64 a ∧ t = .int .u64 b ∧ Hid (a * v1 + b = R) ∧ Q0 ≤ a ∧ (a : Int) ≤ 4294967297 ∧ (b : Int) < 4294967296) (fun q _ => (intOf q).toNat)
        case atStart => exact ⟨g', r', rfl, by congr 1; omega, B.start, B.Qle, by omega, by omega⟩
        case round =>
          obtain ⟨a, b, rfl, rfl, he, ha, ha2, hb⟩ := hrel
          by_cases c1 : (4294967296 : Int) ≤ (a : Int)
          · have c1' : Hid (4294967296 ≤ a) := by show _ ≤ _; omega
            obtain ⟨s1, s2, s3⟩ := B.step a b he ha (.inl c1'.out)
            have S3 := Lib.hid s3
            clear s3 c1'
            by_cases c2 : (4294967296 : Int) ≤ (b : Int) + (v1 : Int)
            · have hz := B.brk (a - 1) (b + v1) S3.out s2 (by omega) (by omega)
              have hz' : ((a : Int) - 1) = (Q0 : Int) := by omega
              have b6 := b5
              rw [← hz'] at b6
              have HB := Lib.hid hz'
              clear hz hz' s2
              go_wp2
              go_ret2
              exact ⟨ret_two (by have q1 := HA.out; have q2 := HB.out; first | omega | (simp only [IntKind.wrap_u64]; omega)) (by first | rfl | simp), rfl⟩
            · go_wp2
              go_round
              case rel => exact ⟨a - 1, b + v1, by go_num, by go_num, S3, s2, by omega, by omega⟩
              case measure => simp [intOf]; omega
          · obtain ⟨p, hp⟩ : ∃ p, p = a * v0 := ⟨_, rfl⟩
            have hp1 : (p : Int) ≤ 18446744065119617025 := by
              have : p ≤ 4294967295 * 4294967295 := by rw [hp]; exact Nat.mul_le_mul (by omega) (by omega)
              omega
            have hpI : (a : Int) * (v0 : Int) = (p : Int) := by rw [hp, Int.natCast_mul]
            have HP := Lib.hid hp
            clear hp
            by_cases c3 : (4294967296 : Int) * (b : Int) + (d0 : Int) < (p : Int)
            · have c3' : Hid (4294967296 * b + d0 < a * v0) := by show _ < _; rw [← HP.out]; omega
              obtain ⟨s1, s2, s3⟩ := B.step a b he ha (.inr c3'.out)
              have S3 := Lib.hid s3
              clear s3 c3'
              by_cases c2 : (4294967296 : Int) ≤ (b : Int) + (v1 : Int)
              · have hz := B.brk (a - 1) (b + v1) S3.out s2 (by omega) (by omega)
                have hz' : ((a : Int) - 1) = (Q0 : Int) := by omega
                have b6 := b5
                rw [← hz'] at b6
                have HB := Lib.hid hz'
                clear hz hz' s2
                go_wp2
                go_ret2
                exact ⟨ret_two (by have q1 := HA.out; have q2 := HB.out; first | omega | (simp only [IntKind.wrap_u64]; omega)) (by first | rfl | simp), rfl⟩
              · go_wp2
                go_round
                case rel => exact ⟨a - 1, b + v1, by go_num, by go_num, S3, s2, by omega, by omega⟩
                case measure => simp [intOf]; omega
            · have hz := B.done a b he ha (by rw [← HP.out]; omega)
              subst hz
              go_wp2
              go_ret2
              exact ⟨ret_two (by have q1 := HA.out; first | omega | (simp only [IntKind.wrap_u64]; omega)) (by first | rfl | simp), rfl⟩
      · go_wp2
        go_round
        case rel => exact ⟨a - 1, b + v1, by go_num, by go_num, S3, s2, by omega, by omega⟩
        case measure => simp [intOf]; omega
    · obtain ⟨p, hp⟩ : ∃ p, p = a * v0 := ⟨_, rfl⟩
      have hp1 : (p : Int) ≤ 18446744065119617025 := by
        have : p ≤ 4294967295 * 4294967295 := by rw [hp]; exact Nat.mul_le_mul (by omega) (by omega)
        omega
      have hpI : (a : Int) * (v0 : Int) = (p : Int) := by rw [hp, Int.natCast_mul]
      have HP := Lib.hid hp
      clear hp
      by_cases c3 : (4294967296 : Int) * (b : Int) + (d1 : Int) < (p : Int)
      · have c3' : Hid (4294967296 * b + d1 < a * v0) := by show _ < _; rw [← HP.out]; omega
        obtain ⟨s1, s2, s3⟩ := A.step a b he ha (.inr c3'.out)
        have S3 := Lib.hid s3
        clear s3 c3'
        by_cases c2 : (4294967296 : Int) ≤ (b : Int) + (v1 : Int)
        · have hz := A.brk (a - 1) (b + v1) S3.out s2 (by omega) (by omega)
          have hz' : ((a : Int) - 1) = (Q : Int) := by omega
          have a6 := a5
          rw [← hz'] at a6
          have HA := Lib.hid hz'
          clear hz hz' s2
          go_wp2
          go_loop [18, 16] (fun q t => ∃ a b : Nat, q = .int .u64 a ∧ t = .int .u64 b ∧ Hid (a * v1 + b = R) ∧ Q0 ≤ a ∧ (a : Int) ≤ 4294967297 ∧ (b : Int) < 4294967296) (fun q _ => (intOf q).toNat)
          case atStart => exact ⟨g', r', rfl, by congr 1; omega, B.start, B.Qle, by omega, by omega⟩
          case round =>
            obtain ⟨a, b, rfl, rfl, he, ha, ha2, hb⟩ := hrel
            by_cases c1 : (4294967296 : Int) ≤ (a : Int)
            · have c1' : Hid (4294967296 ≤ a) := by show _ ≤ _; omega
              obtain ⟨s1, s2, s3⟩ := B.step a b he ha (.inl c1'.out)
              have S3 := Lib.hid s3
              clear s3 c1'
              by_cases c2 : (4294967296 : Int) ≤ (b : Int) + (v1 : Int)
              · have hz := B.brk (a - 1) (b + v1) S3.out s2 (by omega) (by omega)
                have hz' : ((a : Int) - 1) = (Q0 : Int) := by omega
                have b6 := b5
                rw [← hz'] at b6
                have HB := Lib.hid hz'
                clear hz hz' s2
                go_wp2
                go_ret2
                exact ⟨ret_two (by have q1 := HA.out; have q2 := HB.out; first | omega | (simp only [IntKind.wrap_u64]; omega)) (by first | rfl | simp), rfl⟩
              · go_wp2
                go_round
                case rel => exact ⟨a - 1, b + v1, by go_num, by go_num, S3, s2, by omega, by omega⟩
                case measure => simp [intOf]; omega
            · obtain ⟨p, hp⟩ : ∃ p, p = a * v0 := ⟨_, rfl⟩
              have hp1 : (p : Int) ≤ 18446744065119617025 := by
                have : p ≤ 4294967295 * 4294967295 := by rw [hp]; exact Nat.mul_le_mul (by omega) (by omega)
                omega
              have hpI : (a : Int) * (v0 : Int) = (p : Int) := by rw [hp, Int.natCast_mul]
              have HP := Lib.hid hp
              clear hp
              by_cases c3 : (4294967296 : Int) * (b : Int) + (d0 : Int) < (p : Int)
              · have c3' : Hid (4294967296 * b + d0 < a * v0) := by show _ < _; rw [← HP.out]; omega
                obtain ⟨s1, s2, s3⟩ := B.step a b he ha (.inr c3'.out)
                have S3 := Lib.hid s3
                clear s3 c3'
                by_cases c2 : (4294967296 : Int) ≤ (b : Int) + (v1 : Int)
                · have hz := B.brk (a - 1) (b + v1) S3.out s2 (by omega) (by omega)
                  have hz' : ((a : Int) - 1) = (Q0 : Int) := by omega
                  have b6 := b5
                  rw [← hz'] at b6
                  have HB := Lib.hid hz'
                  clear hz hz' s2
                  go_wp2
                  go_ret2
                  exact ⟨ret_two (by have q1 := HA.out; have q2 := HB.out; first | omega | (simp only [IntKind.wrap_u64]; omega)) (by first | rfl | simp), rfl⟩
                · go_wp2
                  go_round
                  case rel => exact ⟨a - 1, b + v1, by go_num, by go_num, S3, s2, by omega, by omega⟩
                  case measure => simp [intOf]; omega
              · have hz := B.done a b he ha (by rw [← HP.out]; omega)
                subst hz
                go_wp2
                go_ret2
                exact ⟨ret_two (by have q1 := HA.out; first | omega | (simp only [IntKind.wrap_u64]; omega)) (by first | rfl | simp), rfl⟩
        · go_wp2
          go_round
          case rel => exact ⟨a - 1, b + v1, by go_num, by go_num, S3, s2, by omega, by omega⟩
          case measure => simp [intOf]; omega
      · have hz := A.done a b he ha (by rw [← HP.out]; omega)
        subst hz
        go_wp2
        go_loop [18, 16] (fun q t => ∃ a b : Nat, q = .int .u64 a ∧ t = .int .u64 b ∧ Hid (a * v1 + b = R) ∧ Q0 ≤ a ∧ (a : Int) ≤ 4294967297 ∧ (b : Int) < 4294967296) (fun q _ => (intOf q).toNat)
        case atStart => exact ⟨g', r', rfl, by congr 1; omega, B.start, B.Qle, by omega, by omega⟩
        case round =>
          obtain ⟨a, b, rfl, rfl, he, ha, ha2, hb⟩ := hrel
          by_cases c1 : (4294967296 : Int) ≤ (a : Int)
          · have c1' : Hid (4294967296 ≤ a) := by show _ ≤ _; omega
            obtain ⟨s1, s2, s3⟩ := B.step a b he ha (.inl c1'.out)
            have S3 := Lib.hid s3
            clear s3 c1'
            by_cases c2 : (4294967296 : Int) ≤ (b : Int) + (v1 : Int)
            · have hz := B.brk (a - 1) (b + v1) S3.out s2 (by omega) (by omega)
              have hz' : ((a : Int) - 1) = (Q0 : Int) := by omega
              have b6 := b5
              rw [← hz'] at b6
              have HB := Lib.hid hz'
              clear hz hz' s2
              go_wp2
              go_ret2
              exact ⟨ret_two (by have q2 := HB.out; first | omega | (simp only [IntKind.wrap_u64]; omega)) (by first | rfl | simp), rfl⟩
            · go_wp2
              go_round
              case rel => exact ⟨a - 1, b + v1, by go_num, by go_num, S3, s2, by omega, by omega⟩
              case measure => simp [intOf]; omega
          · obtain ⟨p, hp⟩ : ∃ p, p = a * v0 := ⟨_, rfl⟩
            have hp1 : (p : Int) ≤ 18446744065119617025 := by
              have : p ≤ 4294967295 * 4294967295 := by rw [hp]; exact Nat.mul_le_mul (by omega) (by omega)
              omega
            have hpI : (a : Int) * (v0 : Int) = (p : Int) := by rw [hp, Int.natCast_mul]
            have HP := Lib.hid hp
            clear hp
            by_cases c3 : (4294967296 : Int) * (b : Int) + (d0 : Int) < (p : Int)
            · have c3' : Hid (4294967296 * b + d0 < a * v0) := by show _ < _; rw [← HP.out]; omega
              obtain ⟨s1, s2, s3⟩ := B.step a b he ha (.inr c3'.out)
              have S3 := Lib.hid s3
              clear s3 c3'
              by_cases c2 : (4294967296 : Int) ≤ (b : Int) + (v1 : Int)
              · have hz := B.brk (a - 1) (b + v1) S3.out s2 (by omega) (by omega)
                have hz' : ((a : Int) - 1) = (Q0 : Int) := by omega
                have b6 := b5
                rw [← hz'] at b6
                have HB := Lib.hid hz'
                clear hz hz' s2
                go_wp2
                go_ret2
                exact ⟨ret_two (by have q2 := HB.out; first | omega | (simp only [IntKind.wrap_u64]; omega)) (by first | rfl | simp), rfl⟩
              · go_wp2
                go_round
                case rel => exact ⟨a - 1, b + v1, by go_num, by go_num, S3, s2, by omega, by omega⟩
                case measure => simp [intOf]; omega
            · have hz := B.done a b he ha (by rw [← HP.out]; omega)
              subst hz
              go_wp2
              go_ret2
              exact ⟨ret_two (by first | omega | (simp only [IntKind.wrap_u64]; omega)) (by first | rfl | simp), rfl⟩

theorem div64_great (hi lo y : Nat) (hl : lo < 18446744073709551616) (hy : y < 18446744073709551616) (h0 : 0 < hi) (hh : hi < y) (w : World) :
    Calls Tryd.prog 35 #[.int .u64 hi, .int .u64 lo, .int .u64 y] w fun e w' => e = .returned (.tuple #[.int .u64 (((hi * 18446744073709551616 + lo) / y : Nat) : Int), .int .u64 (((hi * 18446744073709551616 + lo) % y : Nat) : Int)]) ∧ w = w' := by
  obtain ⟨s, hs63, hbl, hv1, hv2⟩ := Kn.normed y hy (by omega)
  have HZ : Hid ((64 : Int) - (Lib.bitLen (y : Int).toNat : Int) = (s : Int)) := by show _ = _; rw [Int.toNat_natCast]; omega
  obtain ⟨hu, hlo, hsh⟩ := Kn.shifted hi lo y s hs63 hl hh
  obtain ⟨hq, hr⟩ := Kn.joined _ y s _ _ (by omega) hsh
  have hor := Kn.or_add hi _ s hlo
  have hhs : hi * 2 ^ s < 18446744073709551616 := Nat.lt_of_le_of_lt (Nat.le_add_right _ _) (Nat.lt_trans hu hv2)
  have hl2 : lo / 2 ^ (64 - s) < 18446744073709551616 := Nat.lt_of_le_of_lt (Nat.le_add_left _ _) (Nat.lt_trans hu hv2)
  have e5 : (lo : Int) / 2 ^ (64 - s) = ((lo / 2 ^ (64 - s) : Nat) : Int) := by simp
  have e1 : IntKind.u64.wrap ((y : Int) * 2 ^ s) = ((y * 2 ^ s : Nat) : Int) := by
    have c : ((y * 2 ^ s : Nat) : Int) = (y : Int) * 2 ^ s := by simp
    rw [← c]; exact M64.wrapN _ hv2
  have e4 : IntKind.u64.wrap ((hi : Int) * 2 ^ s) = ((hi * 2 ^ s : Nat) : Int) := by
    have c : ((hi * 2 ^ s : Nat) : Int) = (hi : Int) * 2 ^ s := by simp
    rw [← c]; exact M64.wrapN _ hhs
  have e7 : IntKind.u64.wrap ((lo : Int) * 2 ^ s) = ((lo * 2 ^ s % 18446744073709551616 : Nat) : Int) := by
    have c : ((lo * 2 ^ s : Nat) : Int) = (lo : Int) * 2 ^ s := by simp
    rw [← c]; exact M64.wrapM _
  have hL : lo * 2 ^ s % 18446744073709551616 < 18446744073709551616 := Nat.mod_lt _ (by omega)
  have hvpos : 0 < y * 2 ^ s := by omega
  have hR := Nat.mod_lt ((hi * 2 ^ s + lo / 2 ^ (64 - s)) * 4294967296 + lo * 2 ^ s % 18446744073709551616 / 4294967296) hvpos
  have H := div64_core hi lo y s (y * 2 ^ s) (hi * 2 ^ s) (lo / 2 ^ (64 - s)) (hi * 2 ^ s + lo / 2 ^ (64 - s)) (lo * 2 ^ s % 18446744073709551616) _ _ _ _
    (y * 2 ^ s / 4294967296) (y * 2 ^ s % 4294967296) (lo * 2 ^ s % 18446744073709551616 / 4294967296) (lo * 2 ^ s % 18446744073709551616 % 4294967296) _ _ _ _
    hl hy h0 hh hs63 HZ e1 e4 e7 e5 (by rw [bits_or_u64_nat _ _ hhs hl2, hor]) hu hv2 (M64.maskN _ hv2) (M64.maskN _ hL) (M64.divN _) (M64.divN _)
    (by omega) (by omega) (Nat.mod_lt _ (by omega)) (by omega) (Nat.mod_lt _ (by omega)) hR (Nat.mod_lt _ hvpos)
    (half_of _ _ _ (by omega) hu hv1 hv2) (half_of _ _ _ (Nat.mod_lt _ (by omega)) hR hv1 hv2) w
  refine H.mono fun e w' hh => ?_
  rw [hq, hr] at hh
  exact hh

/-- Div64, whatever the high word: the quotient and the remainder; the world as it was but for draws. -/
theorem div64_any (hi lo y : Nat) (hl : lo < 18446744073709551616) (hy : y < 18446744073709551616) (hh : hi < y) (w : World) :
    Calls Tryd.prog 35 #[.int .u64 hi, .int .u64 lo, .int .u64 y] w fun e w' => e = .returned (.tuple #[.int .u64 (((hi * 18446744073709551616 + lo) / y : Nat) : Int), .int .u64 (((hi * 18446744073709551616 + lo) % y : Nat) : Int)]) ∧ ∃ n, w' = w.drewN n := by
  rcases Nat.eq_zero_or_pos hi with h0 | h0
  · subst h0
    refine (div64_zero lo y hl hy hh w).mono fun e w' hh => ?_
    rw [Nat.zero_mul, Nat.zero_add]
    exact hh
  · exact (div64_great hi lo y hl hy h0 hh w).mono fun e w' hh => ⟨hh.1, 0, hh.2.symm⟩
end Go.Proofs.YtknfdnlmkjhmcaaDoor
